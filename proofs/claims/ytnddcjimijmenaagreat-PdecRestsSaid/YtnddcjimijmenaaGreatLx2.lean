/- What the functions of the law 'PdecRests' do: part 2 of 3. -/
import Derived.Test.YtnddcjimijmenaaGreatLx1
namespace Go.Proofs.YtnddcjimijmenaaGreat.IrR
open Go Go.CI
set_option maxRecDepth 100000
set_option maxHeartbeats 4000000
set_option linter.unusedVariables false
set_option linter.unusedSimpArgs false
attribute [local irreducible] W Wo Wc WoR

abbrev rsB : CCode := (.seq (.seq (.region [.v 0, .g (.len true (.loc 0)), .x .gtr 0 (.k 0)] [(2, 2)] [] []) (.cond (.var 2) .skip (.exit 0))) (.block 1 (.seq (.region [.v 0, .g (.call false 12 [(.loc 0)]), .m (.loc 0), .g (.extract 0 (.loc 0)), .g (.extract 1 (.loc 1)), .g (.extract 2 (.loc 2)), .m (.loc 2), .m (.loc 2), .m (.loc 2)] [(3, 8), (4, 6), (6, 7)] [] []) (.seq (.seq (.region [.v 3, .x .neq 0 (.k 0), .m (.loc 0), .q (.mv (.var 4)) 0 false, .q (.bin .quo (.loc 0) (.const (.int .u64 8))) 1 false, .q (.bin .lss (.loc 0) (.const (.int .u64 1))) 2 false, .g (.pick (.loc 3) (.b true) (.loc 0)), .m (.loc 0), .q (.mv (.var 4)) 0 false, .q (.bin .quo (.loc 0) (.const (.int .u64 8))) 1 false, .q (.bin .gtr (.loc 0) (.const (.int .u64 536870911))) 2 false, .g (.pick (.loc 3) (.b true) (.loc 0))] [(5, 11)] [] []) (.cond (.var 5) (.seq (.region [.m (.const .nils), .m (.k 2)] [(25, 0), (26, 1)] [] []) .ret) .skip)) (.seq (.region [.v 4, .g (.bin .quo (.loc 0) (.const (.int .u64 8))), .g (.conv .i64 (.loc 0)), .v 4, .g (.bin .rem (.loc 0) (.const (.int .u64 8))), .g (.conv .i64 (.loc 0)), .g (.build [(.int .i64 0), (.int .i64 0), (.int .u64 0), (.str []), (.str [])] [(0, 1, (.loc 3)), (1, 1, (.loc 0))]), .g (.lazy 31457285), .g (.init 5 (.loc 0) (.loc 1))] [(7, 7)] [] []) (.seq (.region [.v 6, .m (.loc 0)] [(23, 1)] [] []) (.seq (.seq (.region [.g (.fieldAddr 1 (.var 7)), .l 0] [(8, 1)] [] []) (.block 2 (.seq (.region [.g (.bin .eql (.var 8) (.k 0)), .m (.loc 0)] [(9, 1)] [] []) (.cond (.var 9) (.seq (.region [.v 0, .v 6, .g (.slc 0 (.loc 1) (some (.loc 0)) none), .g (.call false 12 [(.loc 0)]), .m (.loc 0), .g (.extract 0 (.loc 0)), .g (.extract 1 (.loc 1)), .g (.extract 2 (.loc 2)), .m (.loc 2), .m (.loc 2), .m (.loc 2)] [(10, 10), (12, 8), (13, 9)] [] []) (.seq (.seq (.region [.v 10, .x .neq 0 (.k 0)] [(11, 1)] [] []) (.cond (.var 11) (.seq (.region [.v 10, .m (.const .nils), .m (.loc 1)] [(25, 1), (26, 2)] [] []) .ret) .skip)) (.region [.v 12, .v 6, .v 13, .h .add 1 0, .g (.fieldAddr 2 (.var 7)), .g (.store 1 (.loc 0) (.loc 4)), .m (.loc 2)] [(23, 6)] [] []))) (.seq (.seq (.region [.g (.bin .eql (.var 8) (.k 1)), .m (.loc 0)] [(14, 1)] [] []) (.cond (.var 14) .skip (.region [.g (.bin .eql (.var 8) (.k 5)), .m (.loc 0)] [(14, 1)] [] []))) (.cond (.var 14) (.seq (.region [.m (.k 4)] [(16, 0)] [] []) (.seq (.seq (.region [.g (.fieldAddr 1 (.var 7)), .l 0, .x .eql 0 (.k 1)] [(15, 2)] [] []) (.cond (.var 15) (.region [.m (.k 8)] [(16, 0)] [] []) .skip)) (.seq (.seq (.region [.v 0, .g (.len true (.loc 0)), .v 6, .h .sub 1 0, .v 16, .h .lss 1 0] [(17, 5)] [] []) (.cond (.var 17) (.seq (.region [.m (.const .nils), .m (.k 2)] [(25, 0), (26, 1)] [] []) .ret) .skip)) (.region [.v 0, .v 6, .v 6, .v 16, .h .add 1 0, .g (.slc 0 (.loc 4) (some (.loc 3)) (some (.loc 0))), .g (.call false 13 [(.loc 0)]), .v 6, .v 16, .h .add 1 0, .g (.fieldAddr 2 (.var 7)), .g (.store 1 (.loc 0) (.loc 4)), .m (.loc 2)] [(23, 12)] [] [])))) (.seq (.region [.g (.bin .eql (.var 8) (.k 2)), .m (.loc 0)] [(18, 1)] [] []) (.cond (.var 18) (.seq (.region [.v 0, .v 6, .g (.slc 0 (.loc 1) (some (.loc 0)) none), .g (.call false 12 [(.loc 0)]), .m (.loc 0), .g (.extract 0 (.loc 0)), .g (.extract 1 (.loc 1)), .g (.extract 2 (.loc 2)), .m (.loc 2), .m (.loc 2), .m (.loc 2)] [(19, 10), (20, 8), (21, 9)] [] []) (.seq (.seq (.region [.v 19, .x .neq 0 (.k 0), .m (.loc 0), .q (.mv (.var 20)) 0 false, .q (.mv (.var 0)) 1 false, .q (.len true (.loc 0)) 2 false, .q (.mv (.var 6)) 3 false, .q (.bin .sub (.loc 1) (.loc 0)) 4 false, .q (.mv (.var 21)) 5 false, .q (.bin .sub (.loc 1) (.loc 0)) 6 false, .q (.conv .u64 (.loc 0)) 7 false, .q (.bin .gtr (.loc 7) (.loc 0)) 8 false, .g (.pick (.loc 9) (.b true) (.loc 0))] [(22, 12)] [] []) (.cond (.var 22) (.seq (.region [.m (.const .nils), .m (.k 2)] [(25, 0), (26, 1)] [] []) .ret) .skip)) (.seq (.region [.v 6, .v 21, .h .add 1 0, .v 20, .g (.conv .i64 (.loc 0)), .h .add 2 0, .m (.loc 0)] [(23, 6)] [] []) (.region [.v 0, .v 6, .v 21, .h .add 1 0, .v 23, .g (.slc 0 (.loc 4) (some (.loc 1)) (some (.loc 0))), .g (.fieldAddr 3 (.var 7)), .g (.store 1 (.loc 0) (.loc 1))] [] [] [])))) (.seq (.region [.m (.const .nils), .m (.k 2)] [(25, 0), (26, 1)] [] []) .ret))))))))) (.seq (.region [.v 0, .v 23, .g (.slc 0 (.loc 1) none (some (.loc 0))), .g (.fieldAddr 4 (.var 7)), .g (.store 1 (.loc 0) (.loc 1))] [] [] []) (.seq (.region [.v 0, .v 23, .g (.slc 0 (.loc 1) (some (.loc 0)) none), .m (.loc 0)] [(0, 3)] [] []) (.region [.v 24, .g (.load (some 5) (.var 7)), .g (.lit .imm true [(.int .i64 0), (.int .i64 0), (.int .u64 0), (.str []), (.str [])] 1 [(0, (.loc 0))]), .g (.append .imm 0 5 (.loc 2) (.loc 0)), .m (.loc 0)] [(24, 4)] [] []))))))))))
abbrev rsT : CCode := (.seq (.region [.v 0, .v 23, .g (.slc 0 (.loc 1) none (some (.loc 0))), .g (.fieldAddr 4 (.var 7)), .g (.store 1 (.loc 0) (.loc 1))] [] [] []) (.seq (.region [.v 0, .v 23, .g (.slc 0 (.loc 1) (some (.loc 0)) none), .m (.loc 0)] [(0, 3)] [] []) (.region [.v 24, .g (.load (some 5) (.var 7)), .g (.lit .imm true [(.int .i64 0), (.int .i64 0), (.int .u64 0), (.str []), (.str [])] 1 [(0, (.loc 0))]), .g (.append .imm 0 5 (.loc 2) (.loc 0)), .m (.loc 0)] [(24, 4)] [] [])))
theorem rs_go (base : List (Nat × CObj)) (ty : List (Nat × Nat)) (n0 : Nat) (hb : Under base n0) (hty : UnderT ty n0) (Q : CExit → CSt → Prop) : ∀ (f : Nat) (s : List UInt8) (A : List Rc) (i u nx : Nat) (w1 w2 w3 w4 w5 w6 w7 w8 w9 w10 w11 w12 w13 w14 w15 w16 w17 w18 w19 w20 w21 w22 w23 : CVal), s.length ≤ f → A.length + s.length ≤ 5000 → n0 ≤ i → i < nx →
    (∀ l, splitF s = some l → ∀ i u n' w1 w2 w3 w4 w5 w6 w7 w8 w9 w10 w11 w12 w13 w14 w15 w16 w17 w18 w19 w20 w21 w22 w23, n0 ≤ i → i < n' → Q (.exit 0) ⟨[.str [], w1, w2, w3, w4, w5, w6, w7, w8, w9, w10, w11, w12, w13, w14, w15, w16, w17, w18, w19, w20, w21, w22, w23, acV 5 i u ((A ++ l).map recV), .nils, .int .i64 0], ⟨acE i u ((A ++ l).map recV) base, n', ty⟩, []⟩) →
    (splitF s = none → ∀ E n' w0 w1 w2 w3 w4 w5 w6 w7 w8 w9 w10 w11 w12 w13 w14 w15 w16 w17 w18 w19 w20 w21 w22 w23 w24, dropEnts E n0 = base → n0 ≤ n' → Q .ret ⟨[w0, w1, w2, w3, w4, w5, w6, w7, w8, w9, w10, w11, w12, w13, w14, w15, w16, w17, w18, w19, w20, w21, w22, w23, w24, .nils, .int .i64 2], ⟨E, n', ty⟩, []⟩) →
    W tree.getF (.loop true rsB) ⟨[.str s, w1, w2, w3, w4, w5, w6, w7, w8, w9, w10, w11, w12, w13, w14, w15, w16, w17, w18, w19, w20, w21, w22, w23, acV 5 i u (A.map recV), .nils, .int .i64 0], ⟨acE i u (A.map recV) base, nx, ty⟩, []⟩ Q := by
  intro f
  induction f with
  | zero =>
    intro s A i u nx w1 w2 w3 w4 w5 w6 w7 w8 w9 w10 w11 w12 w13 w14 w15 w16 w17 w18 w19 w20 w21 w22 w23 hs hA hi hx h1 h2
    obtain rfl : s = [] := List.eq_nil_of_length_eq_zero (by omega)
    have h1' := h1 [] splitF_nil
    rw [List.append_nil] at h1'
    repeat (first
      | refine v0_ ?_
      | refine W.loop ?_
      | (refine d0_ ?_; refine W.loop ?_))
    refine h1' _ _ _ _ _ _ _ _ _ _ _ _ _ _ _ _ _ _ _ _ _ _ _ _ _ _ ?_ ?_ <;> exact om_
  | succ f ih =>
    intro s A i u nx w1 w2 w3 w4 w5 w6 w7 w8 w9 w10 w11 w12 w13 w14 w15 w16 w17 w18 w19 w20 w21 w22 w23 hs hA hi hx h1 h2
    by_cases hs0 : s = []
    · subst hs0
      have h1' := h1 [] splitF_nil
      rw [List.append_nil] at h1'
      repeat (first
        | refine v0_ ?_
        | refine W.loop ?_
        | (refine d0_ ?_; refine W.loop ?_))
      refine h1' _ _ _ _ _ _ _ _ _ _ _ _ _ _ _ _ _ _ _ _ _ _ _ _ _ _ ?_ ?_ <;> exact om_
    have hne : 0 < s.length := List.length_pos_iff.2 hs0
    have hf : Fit (⟨acE i u (A.map recV) base, nx, ty⟩ : CHeap) := ⟨acE_under (hb.le (by dsimp only; omega)) hx, hty.le (by dsimp only; omega)⟩
    have hdr : dropEnts (acE i u (A.map recV) base) n0 = base := by
      cases A with
      | nil => exact dropEnts_under hb
      | cons a A => simp [acE, dropEnts, hi, dropEnts_under hb]
    obtain ⟨hu, hut, hX⟩ := fx4 hf
    obtain ⟨hub, hutb, hXb⟩ := fx4 (h := ⟨base, n0, ty⟩) ⟨hb, hty⟩
    dsimp only at hu hut hX hub hutb hXb
    have hdl : s.length ≤ 5000 := by omega
    have hsl : ((s.length : Int) > 0) = True := by simp; omega
    have hb0 : oneF s = none → ∀ E n' w0 w1 w2 w3 w4 w5 w6 w7 w8 w9 w10 w11 w12 w13 w14 w15 w16 w17 w18 w19 w20 w21 w22 w23 w24, dropEnts E n0 = base → n0 ≤ n' → Q .ret ⟨[w0, w1, w2, w3, w4, w5, w6, w7, w8, w9, w10, w11, w12, w13, w14, w15, w16, w17, w18, w19, w20, w21, w22, w23, w24, .nils, .int .i64 2], ⟨E, n', ty⟩, []⟩ := fun e => h2 (splitF_bad hs0 e)
    have key : ∀ (r : Rc) (e : Nat), oneF s = some r → r.raw = s.take e → r.raw.length = e → ∀ (p nx' : Nat), nx ≤ p → p < nx' → ∀ (w1 w2 w3 w4 w5 w6 w8 w9 w10 w11 w12 w13 w14 w15 w16 w17 w18 w19 w20 w21 w22 : CVal), W tree.getF rsT ⟨[.str s, w1, w2, w3, w4, w5, w6, .ptr p 31457285 0, w8, w9, w10, w11, w12, w13, w14, w15, w16, w17, w18, w19, w20, w21, w22, .int .i64 (e : Int), acV 5 i u (A.map recV), .nils, .int .i64 0], ⟨(p, .cells [.int .i64 r.num, .int .i64 r.wire, .int .u64 r.n, .str r.s, .str []]) :: acE i u (A.map recV) base, nx', ty⟩, []⟩ (fun x st' => roundW tree.getF true rsB nx Q (outOf 1 x) st') := by
      intro r e e1 er el p nx' hp hpn w1 w2 w3 w4 w5 w6 w8 w9 w10 w11 w12 w13 w14 w15 w16 w17 w18 w19 w20 w21 w22
      obtain ⟨b1, b2, b3, b4⟩ := oneF_raw e1
      have hsp := splitF_cons hs0 e1
      rw [el] at b1 b3 hsp
      have hl : (s.drop e).length < s.length := by rw [List.length_drop]; omega
      have step : ∀ (i' u' nx' : Nat) (w1 w2 w3 w4 w5 w6 w7 w8 w9 w10 w11 w12 w13 w14 w15 w16 w17 w18 w19 w20 w21 w22 w23 : CVal), n0 ≤ i' → i' < nx' → W tree.getF (.loop true rsB) ⟨[.str (s.drop e), w1, w2, w3, w4, w5, w6, w7, w8, w9, w10, w11, w12, w13, w14, w15, w16, w17, w18, w19, w20, w21, w22, w23, acV 5 i' u' ((A ++ [r]).map recV), .nils, .int .i64 0], ⟨acE i' u' ((A ++ [r]).map recV) base, nx', ty⟩, []⟩ Q := by
        intro i' u' nx' w1 w2 w3 w4 w5 w6 w7 w8 w9 w10 w11 w12 w13 w14 w15 w16 w17 w18 w19 w20 w21 w22 w23 hi' hx'
        refine ih _ (A ++ [r]) i' u' nx' _ _ _ _ _ _ _ _ _ _ _ _ _ _ _ _ _ _ _ _ _ _ _ (by omega) (by simp; omega) hi' hx' ?_ ?_
        · intro l e
          rw [e] at hsp
          have := h1 _ hsp
          rw [List.append_assoc]; exact this
        · intro e
          rw [e] at hsp
          exact h2 hsp
      unfold recV at step
      obtain ⟨rn, rw', rN, rs, rr⟩ := r
      dsimp only at er el step ⊢
      subst er
      cases A with
      | nil =>
        dsimp only [List.map, List.nil_append, acV, acE] at step ⊢
        have hZ := j3_ hne hXb b3
        repeat ((fail_if_success (show W tree.getF _ (dropped true _ _) _)); first
          | refine st_ rfl ?_
          | ((first | refine W.regG ?_ | refine WoR.go ?_); generalize e : goR .. = r; simp (disch := omega) [hZ] at e; replace e : some _ = _ := e; subst e; (try dsimp only [goW]))
          | refine W.loop ?_
          | (refine dk_ ?_; refine W.loop ?_)
          | (simp only [outOf, thenW_ret, thenW_exit, thenW_normal, roundW, reduceIte]))
        refine dk_ ?_
        refine step _ _ _ _ _ _ _ _ _ _ _ _ _ _ _ _ _ _ _ _ _ _ _ _ _ _ ?_ ?_ <;> exact om_
      | cons a A =>
        have hAl : A.length < 5000 := by simp at hA; omega
        dsimp only [List.map, acV, acE] at step ⊢
        have hZ := j3_ hne hXb b3
        repeat ((fail_if_success (show W tree.getF _ (dropped true _ _) _)); first
          | refine st_ rfl ?_
          | ((first | refine W.regG ?_ | refine WoR.go ?_); generalize e : goR .. = r; simp (disch := omega) [hZ] at e; replace e : some _ = _ := e; subst e; (try dsimp only [goW]))
          | refine W.loop ?_
          | (refine dk_ ?_; refine W.loop ?_)
          | (simp only [outOf, thenW_ret, thenW_exit, thenW_normal, roundW, reduceIte]))
        refine dk_ ?_
        simp only [List.map_append, List.map_cons, List.map_nil, List.cons_append, acV, acE] at step
        refine step _ _ _ _ _ _ _ _ _ _ _ _ _ _ _ _ _ _ _ _ _ _ _ _ _ _ ?_ ?_ <;> exact om_
    have V1 := rvarint_F s (by omega)
    unfold oneF at hb0
    cases e1 : varF s with
    | none =>
      rw [e1] at V1 hb0
      dsimp only [varV] at V1 hb0
      have hZ := j2_ hX hsl
      repeat (first
        | refine vk_ ?_
        | refine W.loop ?_
        | (refine dk_ ?_; refine W.loop ?_)
        | (refine pe_ (V1) fun n1 hn1 => ⟨rfl, ?_⟩; (try dsimp only at hn1)))
      (try refine W.ret ?_)
      (try simp only [outOf, thenW_ret, thenW_exit, thenW_normal, roundW, reduceIte])
      refine hb0 rfl _ _ _ _ _ _ _ _ _ _ _ _ _ _ _ _ _ _ _ _ _ _ _ _ _ _ _ ?_ ?_
      · first | exact hdr | (simp (disch := omega) [hdr] <;> fail)
      · exact om_
    | some p =>
      obtain ⟨t, n⟩ := p
      obtain ⟨x, E3⟩ : ∃ x, x = oneF s := ⟨_, rfl⟩
      rw [← E3] at key
      unfold oneF at E3
      rw [e1] at V1 hb0 E3
      dsimp only [varV] at V1 hb0 E3
      have b1 := varF_le e1
      have b2 := varF_lt e1
      have eq : Int.tdiv (t : Int) 8 = ((t / 8 : Nat) : Int) := by rw [Int.tdiv_eq_ediv_of_nonneg (by omega)]; push_cast; rfl
      have ew : Int.tmod (t : Int) 8 = ((t % 8 : Nat) : Int) := by rw [Int.tmod_eq_emod_of_nonneg (by omega)]; push_cast; rfl
      have bw : t % 8 < 8 := by omega
      generalize hq : t / 8 = q at *
      generalize hw : t % 8 = w at *
      have ewr : IntKind.u64.wrap (q : Int) = (q : Int) := sy_wrapu64 (by omega) (by omega)
      by_cases hb1 : q < 1
      · rw [if_pos (.inl hb1)] at hb0
        have hZ := j5_ hX eq ew ewr hsl
        repeat (first
          | refine vk_ ?_
          | refine W.loop ?_
          | (refine dk_ ?_; refine W.loop ?_)
          | (refine pe_ (V1) fun n1 hn1 => ⟨rfl, ?_⟩; (try dsimp only at hn1)))
        (try refine W.ret ?_)
        (try simp only [outOf, thenW_ret, thenW_exit, thenW_normal, roundW, reduceIte])
        refine hb0 rfl _ _ _ _ _ _ _ _ _ _ _ _ _ _ _ _ _ _ _ _ _ _ _ _ _ _ _ ?_ ?_
        · first | exact hdr | (simp (disch := omega) [hdr] <;> fail)
        · exact om_
      by_cases hb2 : 536870911 < q
      · rw [if_pos (.inr hb2)] at hb0
        have hZ := j5_ hX eq ew ewr hsl
        repeat (first
          | refine vk_ ?_
          | refine W.loop ?_
          | (refine dk_ ?_; refine W.loop ?_)
          | (refine pe_ (V1) fun n1 hn1 => ⟨rfl, ?_⟩; (try dsimp only at hn1)))
        (try refine W.ret ?_)
        (try simp only [outOf, thenW_ret, thenW_exit, thenW_normal, roundW, reduceIte])
        refine hb0 rfl _ _ _ _ _ _ _ _ _ _ _ _ _ _ _ _ _ _ _ _ _ _ _ _ _ _ _ ?_ ?_
        · first | exact hdr | (simp (disch := omega) [hdr] <;> fail)
        · exact om_
      rw [if_neg (by omega)] at hb0 E3
      have V2 := rvarint_F (s.drop n) (by rw [List.length_drop]; omega)
      by_cases h0 : w = 0
      · subst h0
        rw [if_pos rfl] at hb0 E3
        cases e2 : varF (s.drop n) with
        | none =>
          rw [e2] at V2 hb0
          dsimp only [varV] at V2 hb0
          have hZ := j5_ hX eq ew ewr hsl
          repeat (first
            | refine vk_ ?_
            | refine W.loop ?_
            | (refine dk_ ?_; refine W.loop ?_)
            | (refine pe_ (V1) fun n1 hn1 => ⟨rfl, ?_⟩; (try dsimp only at hn1))
            | (refine pe_ (V2) fun n1 hn1 => ⟨rfl, ?_⟩; (try dsimp only at hn1)))
          (try refine W.ret ?_)
          (try simp only [outOf, thenW_ret, thenW_exit, thenW_normal, roundW, reduceIte])
          refine hb0 rfl _ _ _ _ _ _ _ _ _ _ _ _ _ _ _ _ _ _ _ _ _ _ _ _ _ _ _ ?_ ?_
          · first | exact hdr | (simp (disch := omega) [hdr] <;> fail)
          · exact om_
        | some p =>
          obtain ⟨v, k⟩ := p
          have b3 := varF_le e2
          rw [List.length_drop] at b3
          rw [e2] at V2 E3
          dsimp only [varV] at V2 E3
          have hZ := j5_ hX eq ew ewr hsl
          repeat ((fail_if_success (show W tree.getF rsT _ _)); first
            | refine st_ rfl ?_
            | ((first | refine W.regG ?_ | refine WoR.go ?_); generalize e : goR .. = r; simp (disch := omega) [hZ] at e; replace e : some _ = _ := e; subst e; (try dsimp only [goW]))
            | refine W.loop ?_
            | (refine dk_ ?_; refine W.loop ?_)
            | (simp only [outOf, thenW_ret, thenW_exit, thenW_normal, roundW, reduceIte])
            | (refine pe_ (V1) fun n1 hn1 => ⟨rfl, ?_⟩; (try dsimp only at hn1))
            | (refine pe_ (V2) fun n1 hn1 => ⟨rfl, ?_⟩; (try dsimp only at hn1)))
          refine key _ _ E3 ?_ ?_ _ _ ?_ ?_ _ _ _ _ _ _ _ _ _ _ _ _ _ _ _ _ _ _ _ _ _
          · rfl
          · dsimp only; rw [List.length_take]; omega
          · exact om_
          · exact om_
      rw [if_neg h0] at hb0 E3
      have h0' : ((w : Int) == 0) = false := by simp; omega
      by_cases h2 : w = 2
      · subst h2
        rw [if_pos rfl] at hb0 E3
        cases e2 : varF (s.drop n) with
        | none =>
          rw [e2] at V2 hb0
          dsimp only [varV] at V2 hb0
          have hZ := j5_ hX eq ew ewr hsl
          repeat (first
            | refine vk_ ?_
            | refine W.loop ?_
            | (refine dk_ ?_; refine W.loop ?_)
            | (refine pe_ (V1) fun n1 hn1 => ⟨rfl, ?_⟩; (try dsimp only at hn1))
            | (refine pe_ (V2) fun n1 hn1 => ⟨rfl, ?_⟩; (try dsimp only at hn1)))
          (try refine W.ret ?_)
          (try simp only [outOf, thenW_ret, thenW_exit, thenW_normal, roundW, reduceIte])
          refine hb0 rfl _ _ _ _ _ _ _ _ _ _ _ _ _ _ _ _ _ _ _ _ _ _ _ _ _ _ _ ?_ ?_
          · first | exact hdr | (simp (disch := omega) [hdr] <;> fail)
          · exact om_
        | some p =>
          obtain ⟨v, k⟩ := p
          have b3 := varF_le e2
          have b4 := varF_lt e2
          rw [List.length_drop] at b3
          rw [e2] at V2 E3 hb0
          dsimp only [varV] at V2 E3 hb0
          rw [List.length_drop] at hb0 E3
          have el : IntKind.u64.wrap ((s.length : Int) - (n : Int) - (k : Int)) = (s.length : Int) - (n : Int) - (k : Int) := sy_wrapu64 (by omega) (by omega)
          by_cases hv : s.length - (n + k) < v
          · rw [if_pos hv] at hb0
            have hZ := j6_ hX eq ew ewr el hsl
            repeat (first
              | refine vk_ ?_
              | refine W.loop ?_
              | (refine dk_ ?_; refine W.loop ?_)
              | (refine pe_ (V1) fun n1 hn1 => ⟨rfl, ?_⟩; (try dsimp only at hn1))
              | (refine pe_ (V2) fun n1 hn1 => ⟨rfl, ?_⟩; (try dsimp only at hn1)))
            (try refine W.ret ?_)
            (try simp only [outOf, thenW_ret, thenW_exit, thenW_normal, roundW, reduceIte])
            refine hb0 rfl _ _ _ _ _ _ _ _ _ _ _ _ _ _ _ _ _ _ _ _ _ _ _ _ _ _ _ ?_ ?_
            · first | exact hdr | (simp (disch := omega) [hdr] <;> fail)
            · exact om_
          · rw [if_neg hv] at E3
            have ed : List.drop (n + k) (List.take (n + k + v) s) = (s.drop (n + k)).take v := by rw [List.drop_take]; congr 1; omega
            have en : ((n : Int) + (k : Int)).toNat = n + k := by omega
            have en2 : ((n : Int) + (k : Int) + (v : Int)).toNat = n + k + v := by omega
            have hZ := j9_ hX eq ew ewr el ed en en2 hsl
            repeat ((fail_if_success (show W tree.getF rsT _ _)); first
              | refine st_ rfl ?_
              | ((first | refine W.regG ?_ | refine WoR.go ?_); generalize e : goR .. = r; simp (disch := omega) [hZ] at e; replace e : some _ = _ := e; subst e; (try dsimp only [goW]))
              | refine W.loop ?_
              | (refine dk_ ?_; refine W.loop ?_)
              | (simp only [outOf, thenW_ret, thenW_exit, thenW_normal, roundW, reduceIte])
              | (refine pe_ (V1) fun n1 hn1 => ⟨rfl, ?_⟩; (try dsimp only at hn1))
              | (refine pe_ (V2) fun n1 hn1 => ⟨rfl, ?_⟩; (try dsimp only at hn1)))
            refine key _ _ E3 ?_ ?_ _ _ ?_ ?_ _ _ _ _ _ _ _ _ _ _ _ _ _ _ _ _ _ _ _ _ _
            · rfl
            · dsimp only; rw [List.length_take]; omega
            · exact om_
            · exact om_
      rw [if_neg h2] at hb0 E3
      have h2' : ((w : Int) == 2) = false := by simp; omega
      by_cases h1 : w = 1
      · subst h1
        rw [if_pos rfl] at hb0 E3
        have FX := rlow_F ((s.drop n).take 8) (by rw [List.length_take]; omega)
        rw [List.length_drop] at hb0 E3
        by_cases hl : s.length - n < 8
        · rw [if_pos hl] at hb0
          have hZ := j5_ hX eq ew ewr hsl
          repeat (first
            | refine vk_ ?_
            | refine W.loop ?_
            | (refine dk_ ?_; refine W.loop ?_)
            | (refine pe_ (V1) fun n1 hn1 => ⟨rfl, ?_⟩; (try dsimp only at hn1))
            | (refine pe_ (FX) fun n1 hn1 => ⟨rfl, ?_⟩; (try dsimp only at hn1)))
          (try refine W.ret ?_)
          (try simp only [outOf, thenW_ret, thenW_exit, thenW_normal, roundW, reduceIte])
          refine hb0 rfl _ _ _ _ _ _ _ _ _ _ _ _ _ _ _ _ _ _ _ _ _ _ _ _ _ _ _ ?_ ?_
          · first | exact hdr | (simp (disch := omega) [hdr] <;> fail)
          · exact om_
        · rw [if_neg hl] at E3
          have ed : List.drop n (List.take (n + 8) s) = (s.drop n).take 8 := by rw [List.drop_take]; congr 1; omega
          have en : ((n : Int) + 8).toNat = n + 8 := by omega
          have hZ := j7_ hX eq ew ewr ed en hsl
          repeat ((fail_if_success (show W tree.getF rsT _ _)); first
            | refine st_ rfl ?_
            | ((first | refine W.regG ?_ | refine WoR.go ?_); generalize e : goR .. = r; simp (disch := omega) [hZ] at e; replace e : some _ = _ := e; subst e; (try dsimp only [goW]))
            | refine W.loop ?_
            | (refine dk_ ?_; refine W.loop ?_)
            | (simp only [outOf, thenW_ret, thenW_exit, thenW_normal, roundW, reduceIte])
            | (refine pe_ (V1) fun n1 hn1 => ⟨rfl, ?_⟩; (try dsimp only at hn1))
            | (refine pe_ (FX) fun n1 hn1 => ⟨rfl, ?_⟩; (try dsimp only at hn1)))
          refine key _ _ E3 ?_ ?_ _ _ ?_ ?_ _ _ _ _ _ _ _ _ _ _ _ _ _ _ _ _ _ _ _ _ _
          · rfl
          · dsimp only; rw [List.length_take]; omega
          · exact om_
          · exact om_
      rw [if_neg h1] at hb0 E3
      have h1' : ((w : Int) == 1) = false := by simp; omega
      by_cases h5 : w = 5
      · subst h5
        rw [if_pos rfl] at hb0 E3
        have FX := rlow_F ((s.drop n).take 4) (by rw [List.length_take]; omega)
        rw [List.length_drop] at hb0 E3
        by_cases hl : s.length - n < 4
        · rw [if_pos hl] at hb0
          have hZ := j5_ hX eq ew ewr hsl
          repeat (first
            | refine vk_ ?_
            | refine W.loop ?_
            | (refine dk_ ?_; refine W.loop ?_)
            | (refine pe_ (V1) fun n1 hn1 => ⟨rfl, ?_⟩; (try dsimp only at hn1))
            | (refine pe_ (FX) fun n1 hn1 => ⟨rfl, ?_⟩; (try dsimp only at hn1)))
          (try refine W.ret ?_)
          (try simp only [outOf, thenW_ret, thenW_exit, thenW_normal, roundW, reduceIte])
          refine hb0 rfl _ _ _ _ _ _ _ _ _ _ _ _ _ _ _ _ _ _ _ _ _ _ _ _ _ _ _ ?_ ?_
          · first | exact hdr | (simp (disch := omega) [hdr] <;> fail)
          · exact om_
        · rw [if_neg hl] at E3
          have ed : List.drop n (List.take (n + 4) s) = (s.drop n).take 4 := by rw [List.drop_take]; congr 1; omega
          have en : ((n : Int) + 4).toNat = n + 4 := by omega
          have hZ := j7_ hX eq ew ewr ed en hsl
          repeat ((fail_if_success (show W tree.getF rsT _ _)); first
            | refine st_ rfl ?_
            | ((first | refine W.regG ?_ | refine WoR.go ?_); generalize e : goR .. = r; simp (disch := omega) [hZ] at e; replace e : some _ = _ := e; subst e; (try dsimp only [goW]))
            | refine W.loop ?_
            | (refine dk_ ?_; refine W.loop ?_)
            | (simp only [outOf, thenW_ret, thenW_exit, thenW_normal, roundW, reduceIte])
            | (refine pe_ (V1) fun n1 hn1 => ⟨rfl, ?_⟩; (try dsimp only at hn1))
            | (refine pe_ (FX) fun n1 hn1 => ⟨rfl, ?_⟩; (try dsimp only at hn1)))
          refine key _ _ E3 ?_ ?_ _ _ ?_ ?_ _ _ _ _ _ _ _ _ _ _ _ _ _ _ _ _ _ _ _ _ _
          · rfl
          · dsimp only; rw [List.length_take]; omega
          · exact om_
          · exact om_
      rw [if_neg h5] at hb0 E3
      have h5' : ((w : Int) == 5) = false := by simp; omega
      have hZ := j9_ hX eq ew ewr h0' h2' h1' h5' hsl
      repeat (first
        | refine vk_ ?_
        | refine W.loop ?_
        | (refine dk_ ?_; refine W.loop ?_)
        | (refine pe_ (V1) fun n1 hn1 => ⟨rfl, ?_⟩; (try dsimp only at hn1)))
      (try refine W.ret ?_)
      (try simp only [outOf, thenW_ret, thenW_exit, thenW_normal, roundW, reduceIte])
      refine hb0 rfl _ _ _ _ _ _ _ _ _ _ _ _ _ _ _ _ _ _ _ _ _ _ _ _ _ _ _ ?_ ?_
      · first | exact hdr | (simp (disch := omega) [hdr] <;> fail)
      · exact om_
theorem rsplit_F (s : List UInt8) : Pe 7 [.str s] (splitV s) := by
  intro h hf K hk
  obtain ⟨hu, hut, hX⟩ := fx4 hf
  unfold splitV at hk
  by_cases hl : 5000 < s.length
  · rw [if_pos hl] at hk
    refine mk_ 7 c7 (s_ ?_)
    repeat (first
      | refine vx_ ?_)
    refine rx_ ?_
    refine hk _ ?_; exact om_
  rw [if_neg hl] at hk
  refine mk_ 7 c7 (s_ ?_)
  repeat ((fail_if_success (show W tree.getF (.loop true rsB) _ _)); first
    | refine st_ rfl ?_
    | ((first | refine W.regG ?_ | refine WoR.go ?_); generalize e : goR .. = r; simp (disch := omega) [hX] at e; replace e : some _ = _ := e; subst e; (try dsimp only [goW]))
    | (simp only [outOf, thenW_ret, thenW_exit, thenW_normal, roundW, reduceIte]))
  refine rs_go h.ents h.tys h.next hu hut _ s.length s [] h.next 0 _ _ _ _ _ _ _ _ _ _ _ _ _ _ _ _ _ _ _ _ _ _ _ _ (Nat.le_refl _) (by simp; omega) (Nat.le_refl _) ?_ ?_ ?_
  · exact om_
  · intro l e i u n' w1 w2 w3 w4 w5 w6 w7 w8 w9 w10 w11 w12 w13 w14 w15 w16 w17 w18 w19 w20 w21 w22 w23 hi hn
    rw [e] at hk
    simp only [outOf, thenW_ret, thenW_exit, thenW_normal, roundW, reduceIte]
    cases l with
    | nil =>
      dsimp only [List.nil_append, List.map, acV, acE, recsV] at hk ⊢
      repeat (first
        | refine vx_ ?_)
      refine rx_ ?_
      refine hk _ ?_; exact om_
    | cons a l =>
      dsimp only [List.nil_append, List.map, acV, acE, recsV] at hk ⊢
      repeat (first
        | refine vx_ ?_)
      refine rx_ ?_
      refine hk _ ?_; exact om_
  · intro e E n' w0 w1 w2 w3 w4 w5 w6 w7 w8 w9 w10 w11 w12 w13 w14 w15 w16 w17 w18 w19 w20 w21 w22 w23 w24 hE hnn
    rw [e] at hk
    simp only [outOf, thenW_ret, thenW_exit, thenW_normal, roundW, reduceIte]
    have hZ := j2_ hX hE
    repeat (first
      | refine vk_ ?_)
    refine rk_ ?_
    refine hk _ ?_; exact om_
end Go.Proofs.YtnddcjimijmenaaGreat.IrR
namespace Go.Proofs.YtnddcjimijmenaaGreat.IrR
open Go Go.CI
set_option maxRecDepth 100000
set_option maxHeartbeats 4000000
set_option linter.unusedVariables false
set_option linter.unusedSimpArgs false
attribute [local irreducible] W Wo Wc WoR

theorem pv_1 (v : Nat) (hv : v < 128) : Pe 16 [.int .u64 v] (.str (vb v)) := by
  intro h hf K hk
  obtain ⟨hu, hut, hX⟩ := fx4 hf
  rw [vb_small hv] at hk
  have e8 : IntKind.u8.wrap (v : Int) = (v : Int) := sy_wrapu8 (by omega) (by omega)
  refine mk_ 16 c16 (s_ ?_)
  have hZ := j2_ hX e8
  repeat (first
    | refine vk_ ?_)
  refine rk_ ?_
  refine hk _ ?_; exact om_
theorem pv_2 (v : Nat) (hv : v < 16384) : Pe 16 [.int .u64 v] (.str (vb v)) := by
  by_cases h1 : v < 128
  · exact pv_1 v h1
  intro h hf K hk
  obtain ⟨hu, hut, hX⟩ := fx4 hf
  rw [vb_great h1] at hk
  have V1 := pv_1 (v / 128) (by omega)
  have et : Int.tmod (v : Int) 128 = ((v % 128 : Nat) : Int) := by rw [Int.tmod_eq_emod_of_nonneg (by omega)]; push_cast; rfl
  have eq : Int.tdiv (v : Int) 128 = ((v / 128 : Nat) : Int) := by rw [Int.tdiv_eq_ediv_of_nonneg (by omega)]; push_cast; rfl
  have hm : v % 128 < 128 := by omega
  have e64 : IntKind.u64.wrap ((v / 128 : Nat) : Int) = ((v / 128 : Nat) : Int) := sy_wrapu64 (by omega) (by omega)
  have hvl := vb_len_lt (v / 128) (by omega)
  generalize v / 128 = q at *
  generalize v % 128 = m at *
  have e8 : IntKind.u8.wrap (m : Int) = (m : Int) := sy_wrapu8 (by omega) (by omega)
  have e9 : IntKind.u8.wrap ((m : Int) + 128) = (m : Int) + 128 := sy_wrapu8 (by omega) (by omega)
  have e10 : ((m : Int) + 128).toNat = m + 128 := by omega
  refine mk_ 16 c16 (s_ ?_)
  have hZ := j7_ hX e8 e9 et eq e64 e10
  repeat (first
    | refine vk_ ?_
    | (refine pe_ (V1) fun n1 hn1 => ⟨rfl, ?_⟩; (try dsimp only at hn1)))
  refine rk_ ?_
  rw [UInt8.ofNat_add] at hk
  refine hk _ ?_; exact om_
theorem put_F (b : List UInt8) (hb : b.length < 16384) : Pe 9 [.agg [.int .i64 1, .int .i64 2, .int .u64 0, .str b, .str []]] (.str (putC b)) := by
  intro h hf K hk
  obtain ⟨hu, hut, hX⟩ := fx4 hf
  have V1 := pv_1 10 (by omega)
  rw [vb_small (by omega)] at V1
  have V1 : Pe 16 [.int .u64 10] (.str [10]) := V1
  have V2 := pv_2 b.length hb
  have hvl := vb_len_lt b.length (by omega)
  have e64 : IntKind.u64.wrap (b.length : Int) = (b.length : Int) := sy_wrapu64 (by omega) (by omega)
  have e1 : IntKind.u64.wrap 10 = 10 := rfl
  have e2 : IntKind.u64.wrap 1 = 1 := rfl
  have e3 : IntKind.u64.wrap 8 = 8 := rfl
  have e4 : IntKind.u64.wrap 2 = 2 := rfl
  refine mk_ 9 c9 (s_ ?_)
  have hZ := j6_ hX e64 e1 e2 e3 e4
  repeat (first
    | refine vk_ ?_
    | (refine pe_ (V1) fun n1 hn1 => ⟨rfl, ?_⟩; (try dsimp only at hn1))
    | (refine pe_ (V2) fun n1 hn1 => ⟨rfl, ?_⟩; (try dsimp only at hn1)))
  refine rk_ ?_
  unfold putC at hk
  simp only [List.cons_append, List.nil_append] at hk ⊢
  refine hk _ ?_; exact om_
end Go.Proofs.YtnddcjimijmenaaGreat.IrR
namespace Go.Proofs.YtnddcjimijmenaaGreat.IrR
open Go Go.CI
set_option maxRecDepth 100000
set_option maxHeartbeats 4000000
set_option linter.unusedVariables false
set_option linter.unusedSimpArgs false
attribute [local irreducible] W Wo Wc WoR

abbrev fldA : CVal := .agg [.int .i64 1, .str [97], .int .i64 0, .int .i64 16, .str [65], .int .i64 0, .bool false, .int .i64 0]
abbrev fldZ : CVal := .agg [.int .i64 0, .str [], .int .i64 0, .int .i64 0, .str [], .int .i64 0, .bool false, .int .i64 0]
abbrev msgA : List CVal := [.str [65], .imm .none 8 [fldA], .nils]
abbrev schA : List CVal := [.imm .none 3 [.agg msgA], .nils]
theorem field_1 : Pe 33 [.agg msgA, .int .i64 1] (.tup [fldA, .bool true]) := by
  intro h hf K hk
  obtain ⟨hu, hut, hX⟩ := fx4 hf
  refine mk_ 33 c33 (s_ ?_)
  repeat (first
    | refine vx_ ?_
    | refine W.loop ?_
    | (refine dx_ ?_; refine W.loop ?_)
    | (refine mk_ 52 c52 (s_ ?_))
    | (refine mk_ 53 c53 (s_ ?_))
    | (refine rx_ ?_; refine ⟨rfl, ?_⟩))
  refine rx_ ?_
  refine hk _ ?_; exact om_
theorem field_n (q : Nat) (hq : q ≠ 1) : Pe 33 [.agg msgA, .int .i64 (q : Int)] (.tup [fldZ, .bool false]) := by
  intro h hf K hk
  obtain ⟨hu, hut, hX⟩ := fx4 hf
  have e1 : ((1 : Int) == (q : Int)) = false := by simp; omega
  refine mk_ 33 c33 (s_ ?_)
  have hZ := j2_ hX e1
  repeat (first
    | refine vk_ ?_
    | refine W.loop ?_
    | (refine dk_ ?_; refine W.loop ?_)
    | (refine mk_ 52 c52 (s_ ?_))
    | (refine mk_ 53 c53 (s_ ?_))
    | (refine rk_ ?_; refine ⟨rfl, ?_⟩))
  refine rk_ ?_
  refine hk _ ?_; exact om_
theorem wire_16 : Pe 54 [.int .i64 16] (.int .i64 2) := by
  intro h hf K hk
  obtain ⟨hu, hut, hX⟩ := fx4 hf
  refine mk_ 54 c54 (s_ ?_)
  repeat (first
    | refine vx_ ?_)
  refine rx_ ?_
  refine hk _ ?_; exact om_
theorem known_1 : Pe 34 [fldA, .int .i64 2] (.bool true) := by
  intro h hf K hk
  obtain ⟨hu, hut, hX⟩ := fx4 hf
  refine mk_ 34 c34 (s_ ?_)
  repeat (first
    | refine vx_ ?_
    | (refine pe_ (wire_16) fun n1 hn1 => ⟨rfl, ?_⟩; (try dsimp only at hn1))
    | (refine mk_ 55 c55 (s_ ?_))
    | (refine rx_ ?_; refine ⟨rfl, ?_⟩))
  refine rx_ ?_
  refine hk _ ?_; exact om_
theorem known_n (w : Nat) (hw : w ≠ 2) : Pe 34 [fldA, .int .i64 (w : Int)] (.bool false) := by
  intro h hf K hk
  obtain ⟨hu, hut, hX⟩ := fx4 hf
  have e1 : ((w : Int) == 2) = false := by simp; omega
  refine mk_ 34 c34 (s_ ?_)
  have hZ := j2_ hX e1
  repeat (first
    | refine vk_ ?_
    | (refine pe_ (wire_16) fun n1 hn1 => ⟨rfl, ?_⟩; (try dsimp only at hn1))
    | (refine mk_ 55 c55 (s_ ?_))
    | (refine rk_ ?_; refine ⟨rfl, ?_⟩))
  refine rk_ ?_
  refine hk _ ?_; exact om_
theorem message_A : Pe 18 [.agg schA, .str [65]] (.tup [.agg msgA, .bool true]) := by
  intro h hf K hk
  obtain ⟨hu, hut, hX⟩ := fx4 hf
  refine mk_ 18 c18 (s_ ?_)
  repeat (first
    | refine vx_ ?_
    | refine W.loop ?_
    | (refine dx_ ?_; refine W.loop ?_)
    | (refine mk_ 28 c28 (s_ ?_))
    | (refine mk_ 29 c29 (s_ ?_))
    | (refine mk_ 30 c30 (s_ ?_))
    | (refine mk_ 31 c31 (s_ ?_))
    | (refine rx_ ?_; refine ⟨rfl, ?_⟩))
  refine rx_ ?_
  refine hk _ ?_; exact om_
end Go.Proofs.YtnddcjimijmenaaGreat.IrR
namespace Go.Proofs.YtnddcjimijmenaaGreat.IrR
open Go Go.CI
set_option maxRecDepth 100000
set_option maxHeartbeats 4000000
set_option linter.unusedVariables false
set_option linter.unusedSimpArgs false
attribute [local irreducible] W Wo Wc WoR

abbrev SD : Nat := 119537671
abbrev DD : Nat := 79691780
abbrev bv (b : UInt8) : CVal := .int .u8 b.toNat
abbrev staO (a b : Nat) (b0 b1 : CVal) : CObj := .cells [.str [65], .imm .none 8 [fldA], .nils, .map a, .map b, b0, b1]
abbrev decO (n e : Nat) : CObj := .cells [.imm .none 3 [.agg msgA], .nils, .int .i64 n, .int .i64 e]
theorem in_under {l : List (Nat × CObj)} {n p : Nat} {o : CObj} (h : Under l n) (hg : getEnt l p = some o) : p < n := by
  rcases Nat.lt_or_ge p n with h1 | h1
  · exact h1
  · rw [getEnt_under h h1] at hg; cases hg
theorem bw_1 {q w v a b : Nat} {r raw : List UInt8} (hraw : raw ≠ []) (hrl : r.length < 100000) (hwl : raw.length < 100000) {h : CHeap} (hf : Fit h) (hg : getEnt h.ents q = some (staO a b (.ptr q SD 5) (.ref w v 1 0 r.length))) (hr : getEnt h.ents w = some (.row v (r.map bv))) (hty : lookupN h.tys w = some 5) (hpr : q ≠ w) {K : CVal → CHeap → Prop}
    (hk : ∀ n', h.next ≤ n' → K (.tup [.int .i64 raw.length, .nili]) ⟨setEnt (setEnt h.ents w (.row (v + 1) ((r ++ raw).map bv))) q (staO a b (.ptr q SD 5) (.ref w (v + 1) 1 0 (r ++ raw).length)), n', h.tys⟩) : Wc tree.getF 35 [.ptr q SD 5, .str raw] h K := by
  obtain ⟨hu, hut, hX⟩ := fx4 hf
  have hgp : ∀ x, getEnt (setEnt h.ents q x) q = some x := fun x => sy_getEnt_setEnt hg
  have hgr : ∀ x, getEnt (setEnt h.ents w x) w = some x := fun x => sy_getEnt_setEnt hr
  have hgrp : ∀ x, getEnt (setEnt h.ents w x) q = getEnt h.ents q := fun x => getEnt_setEnt_ne hpr
  have lp := in_under hu hg
  have lr := in_under hu hr
  have htk : List.take r.length (r.map bv) = r.map bv := List.take_of_length_le (by simp)
  have hdc : ∀ x y m, h.next ≤ m → dropEnts (setEnt (setEnt h.ents w x) q y) m = setEnt (setEnt h.ents w x) q y := fun x y m hm => dropEnts_under ((hu.set.set).le hm)
  have hdk : ∀ x y m, h.next ≤ m → dropCells (setEnt (setEnt h.ents w x) q y) m = setEnt (setEnt h.ents w x) q y := fun x y m hm => dropCells_under ((hu.set.set).le hm)
  have hse : setEnt h.ents q (staO a b (.ptr q SD 5) (.ref w v 1 0 r.length)) = h.ents := setEnt_same hg
  obtain ⟨y, ys, rfl⟩ : ∃ y ys, raw = y :: ys := by cases raw with | nil => exact absurd rfl hraw | cons y ys => exact ⟨y, ys, rfl⟩
  simp only [List.length_cons] at hwl
  simp only [List.map_append, List.map_cons, List.length_append, List.length_cons] at hk
  (try push_cast at hk)
  have hbb : ys.map (CVal.bare ∘ fun b : UInt8 => CVal.int .u8 (b.toNat : Int)) = ys.map bv := rfl
  refine mk_ 35 c35 (s_ ?_)
  have hZ := j13_ hX hg hr hgp hgr hgrp hty hpr htk hdc hdk hse hbb
  repeat (first
    | refine vk_ ?_
    | ((refine Wc.primM (f := 56) (p := (pCopyCheck [(119537671, 5)])) (by kernel_rfl) ?_; generalize e : ((pCopyCheck [(119537671, 5)])) _ _ = r; simp (disch := omega) [hZ, hasPair, setEnt_same] at e; subst e; (try dsimp only); refine ⟨rfl, ?_⟩)))
  refine rk_ ?_
  refine hk _ ?_; exact om_
theorem bw_0 {q a b : Nat} {raw : List UInt8} (hraw : raw ≠ []) (hwl : raw.length < 100000) {h : CHeap} (hf : Fit h) (hg : getEnt h.ents q = some (staO a b .nilp .nils)) {K : CVal → CHeap → Prop}
    (hk : ∀ w n', h.next ≤ w → w < n' → K (.tup [.int .i64 raw.length, .nili]) ⟨(w, .row 0 (raw.map bv)) :: setEnt h.ents q (staO a b (.ptr q SD 5) (.ref w 0 1 0 raw.length)), n', (w, 5) :: h.tys⟩) : Wc tree.getF 35 [.ptr q SD 5, .str raw] h K := by
  obtain ⟨hu, hut, hX⟩ := fx4 hf
  have hY := fx5 hf hg; have ⟨hG, hD, hC, hN⟩ := hY
  have lp := in_under hu hg
  obtain ⟨y, ys, rfl⟩ : ∃ y ys, raw = y :: ys := by cases raw with | nil => exact absurd rfl hraw | cons y ys => exact ⟨y, ys, rfl⟩
  simp only [List.length_cons] at hwl
  simp only [List.map_append, List.map_cons, List.length_append, List.length_cons] at hk
  (try push_cast at hk)
  have hbb : ys.map (CVal.bare ∘ fun b : UInt8 => CVal.int .u8 (b.toNat : Int)) = ys.map bv := rfl
  refine mk_ 35 c35 (s_ ?_)
  have hZ := j4_ hX hg hY hbb
  repeat (first
    | refine vk_ ?_
    | ((refine Wc.primM (f := 56) (p := (pCopyCheck [(119537671, 5)])) (by kernel_rfl) ?_; generalize e : ((pCopyCheck [(119537671, 5)])) _ _ = r; simp (disch := omega) [hZ, hasPair, setEnt_same] at e; subst e; (try dsimp only); refine ⟨rfl, ?_⟩)))
  refine rk_ ?_
  refine hk _ _ ?_ ?_ <;> exact om_
end Go.Proofs.YtnddcjimijmenaaGreat.IrR
namespace Go.Proofs.YtnddcjimijmenaaGreat.IrR
open Go Go.CI
set_option maxRecDepth 100000
set_option maxHeartbeats 4000000
set_option linter.unusedVariables false
set_option linter.unusedSimpArgs false
attribute [local irreducible] W Wo Wc WoR

/-- What a Builder holds. -/
def BR (r : List UInt8) (q : Nat) (b0 b1 : CVal) (E : List (Nat × CObj)) (ty : List (Nat × Nat)) (bi : List Nat) : Prop :=
  (r = [] ∧ b0 = .nilp ∧ b1 = .nils ∧ bi = []) ∨ (r ≠ [] ∧ ∃ w v, b0 = .ptr q SD 5 ∧ b1 = .ref w v 1 0 r.length ∧ bi = [w] ∧ getEnt E w = some (.row v (r.map bv)) ∧ lookupN ty w = some 5)
/-- How messages that are read lie, one within the other. -/
def SR : List (List UInt8) → Nat → List (Nat × CObj) → List (Nat × Nat) → List Nat → Prop
  | [], _, _, _, _ => False
  | r :: t, q, E, ty, ids => ∃ a b b0 b1 bi si, ids = q :: a :: b :: (bi ++ si) ∧ getEnt E q = some (staO a b b0 b1) ∧ getEnt E a = some (.map 0 []) ∧ BR r q b0 b1 E ty bi ∧
      ((t = [] ∧ getEnt E b = some (.map 0 []) ∧ si = []) ∨ (t ≠ [] ∧ ∃ q2, getEnt E b = some (.map 1 [(0, .int .i64 1, .ptr q2 SD 0)]) ∧ SR t q2 E ty si))
theorem BR.frame {r : List UInt8} {q : Nat} {b0 b1 : CVal} {E E' : List (Nat × CObj)} {ty ty' : List (Nat × Nat)} {bi : List Nat} (h : BR r q b0 b1 E ty bi) (he : ∀ m ∈ bi, getEnt E' m = getEnt E m) (ht : ∀ m ∈ bi, lookupN ty' m = lookupN ty m) : BR r q b0 b1 E' ty' bi := by
  rcases h with h | ⟨h0, w, v, h1, h2, h3, h4, h5⟩
  · exact .inl h
  · subst h3
    exact .inr ⟨h0, w, v, h1, h2, rfl, by rw [he w (by simp)]; exact h4, by rw [ht w (by simp)]; exact h5⟩
theorem SR.frame : ∀ {c : List (List UInt8)} {q : Nat} {E E' : List (Nat × CObj)} {ty ty' : List (Nat × Nat)} {ids : List Nat}, SR c q E ty ids → (∀ m ∈ ids, getEnt E' m = getEnt E m) → (∀ m ∈ ids, lookupN ty' m = lookupN ty m) → SR c q E' ty' ids
  | [], _, _, _, _, _, _, h, _, _ => h
  | r :: t, q, E, E', ty, ty', ids, h, he, ht => by
    obtain ⟨a, b, b0, b1, bi, si, rfl, h1, h2, h3, h4⟩ := h
    refine ⟨a, b, b0, b1, bi, si, rfl, by rw [he q (by simp)]; exact h1, by rw [he a (by simp)]; exact h2, h3.frame (fun m hm => he m (by simp [hm])) (fun m hm => ht m (by simp [hm])), ?_⟩
    rcases h4 with ⟨e, h4, h5⟩ | ⟨e, q2, h4, h5⟩
    · exact .inl ⟨e, by rw [he b (by simp)]; exact h4, h5⟩
    · exact .inr ⟨e, q2, by rw [he b (by simp)]; exact h4, h5.frame (fun m hm => he m (by simp [hm])) (fun m hm => ht m (by simp [hm]))⟩
theorem SR.has : ∀ {c : List (List UInt8)} {q : Nat} {E : List (Nat × CObj)} {ty : List (Nat × Nat)} {ids : List Nat}, SR c q E ty ids → ∀ m ∈ ids, ∃ o, getEnt E m = some o
  | [], _, _, _, _, h, _, _ => h.elim
  | r :: t, q, E, ty, ids, h, m, hm => by
    obtain ⟨a, b, b0, b1, bi, si, rfl, h1, h2, h3, h4⟩ := h
    simp only [List.mem_cons, List.mem_append] at hm
    rcases hm with rfl | rfl | rfl | hm | hm
    · exact ⟨_, h1⟩
    · exact ⟨_, h2⟩
    · rcases h4 with ⟨e, h4, h5⟩ | ⟨e, q2, h4, h5⟩
      · exact ⟨_, h4⟩
      · exact ⟨_, h4⟩
    · rcases h3 with ⟨_, _, _, rfl⟩ | ⟨h0, w, v, _, _, rfl, h8, _⟩
      · cases hm
      · simp at hm; subst hm; exact ⟨_, h8⟩
    · rcases h4 with ⟨e, h4, rfl⟩ | ⟨e, q2, h4, h5⟩
      · cases hm
      · exact h5.has m hm
theorem SR.lt {c : List (List UInt8)} {q : Nat} {E : List (Nat × CObj)} {ty : List (Nat × Nat)} {ids : List Nat} {n : Nat} (h : SR c q E ty ids) (hu : Under E n) (m : Nat) (hm : m ∈ ids) : m < n := by
  obtain ⟨o, ho⟩ := h.has m hm
  exact in_under hu ho

theorem bw_F {q a b : Nat} {r raw : List UInt8} {b0 b1 : CVal} {bi : List Nat} (hraw : raw ≠ []) (hrl : r.length < 100000) (hwl : raw.length < 100000) {h : CHeap} (hf : Fit h) (hg : getEnt h.ents q = some (staO a b b0 b1)) (hb : BR r q b0 b1 h.ents h.tys bi) (hq : q ∉ bi) {K : CVal → CHeap → Prop}
    (hk : ∀ (h' : CHeap) b0' b1' bi', Fit h' → h.next ≤ h'.next → getEnt h'.ents q = some (staO a b b0' b1') → BR (r ++ raw) q b0' b1' h'.ents h'.tys bi' → (∀ m, m < h.next → m ≠ q → m ∉ bi → getEnt h'.ents m = getEnt h.ents m) → (∀ m, m < h.next → lookupN h'.tys m = lookupN h.tys m) → (∀ m ∈ bi', m ∈ bi ∨ h.next ≤ m) → bi'.Nodup → K (.tup [.int .i64 raw.length, .nili]) h') :
    Wc tree.getF 35 [.ptr q SD 5, .str raw] h K := by
  have hne : r ++ raw ≠ [] := by simp [hraw]
  rcases hb with ⟨rfl, rfl, rfl, rfl⟩ | ⟨h0, w, v, rfl, rfl, rfl, h4, h5⟩
  · refine bw_0 hraw hwl hf hg fun w n' hw hn => ?_
    have lq := in_under hf.1 hg
    refine hk ⟨_, n', _⟩ _ _ [w] ⟨Under.cons hn (hf.1.set.le (by (try dsimp only); omega)), UnderT.cons hn (hf.2.le (by (try dsimp only); omega))⟩ (by (try dsimp only); omega) ?_ (.inr ⟨hne, w, 0, rfl, rfl, rfl, ?_, ?_⟩) ?_ ?_ ?_ (by simp)
    · have : (w == q) = false := by simp; omega
      dsimp only
      rw [getEnt, this]
      exact sy_getEnt_setEnt hg
    · simp [getEnt]
    · simp [lookupN]
    · intro m hm hmq _
      have : (w == m) = false := by simp; omega
      dsimp only
      rw [getEnt, this]
      exact getEnt_setEnt_ne hmq
    · intro m hm
      have : (w == m) = false := by simp; omega
      dsimp only
      rw [lookupN, this]; rfl
    · intro m hm; simp at hm; omega
  · have hqw : q ≠ w := fun e => hq (by simp [e])
    refine bw_1 hraw hrl hwl hf hg h4 h5 hqw fun n' hn => ?_
    have hs : ∀ x, getEnt (setEnt h.ents w x) q = some (staO a b (.ptr q SD 5) (.ref w v 1 0 r.length)) := fun x => by rw [getEnt_setEnt_ne hqw]; exact hg
    refine hk ⟨_, n', _⟩ _ _ [w] ⟨hf.1.set.set.le hn, hf.2.le hn⟩ hn (sy_getEnt_setEnt (hs _)) (.inr ⟨hne, w, v + 1, rfl, rfl, rfl, ?_, h5⟩) ?_ (fun _ _ => rfl) (fun m hm => .inl hm) (by simp)
    · dsimp only
      rw [getEnt_setEnt_ne (Ne.symm hqw)]
      exact sy_getEnt_setEnt h4
    · intro m hm hmq hmw
      dsimp only
      rw [getEnt_setEnt_ne hmq, getEnt_setEnt_ne (fun e => hmw (by simp [e]))]
end Go.Proofs.YtnddcjimijmenaaGreat.IrR
namespace Go.Proofs.YtnddcjimijmenaaGreat.IrR
open Go Go.CI
set_option maxRecDepth 100000
set_option maxHeartbeats 4000000
set_option linter.unusedVariables false
set_option linter.unusedSimpArgs false
attribute [local irreducible] W Wo Wc WoR

/-- What the decoder's split gives, and the error behind it. -/
def splE (deep : Nat) (b : List UInt8) (e : Nat) : CVal × Nat := if e ≠ 0 then (.nils, e) else if 20 < deep then (.nils, 3) else if 5000 < b.length then (.nils, 3) else match splitF b with
  | none => (.nils, 2)
  | some l => (recsV l, 0)
theorem spt_F {d n e deep : Nat} {b : List UInt8} (hdeep : deep < 1000) (he : e ≤ 3) {h : CHeap} (hf : Fit h) (hg : getEnt h.ents d = some (decO n e)) {K : CVal → CHeap → Prop}
    (hk : ∀ n', h.next ≤ n' → K (splE deep b e).1 ⟨setEnt h.ents d (decO n (splE deep b e).2), n', h.tys⟩) : Wc tree.getF 32 [.ptr d DD 0, .str b, .int .i64 deep] h K := by
  obtain ⟨hu, hut, hX⟩ := fx4 hf
  have hY := fx5 hf hg; have ⟨hG, hD, hC, hN⟩ := hY
  have lp := in_under hu hg
  have hse : setEnt h.ents d (decO n e) = h.ents := setEnt_same hg
  by_cases he0 : e = 0
  · subst he0
    by_cases hd : 20 < deep
    · have e1 : splE deep b 0 = (.nils, 3) := by simp [splE, hd]
      rw [e1] at hk
      refine mk_ 32 c32 (s_ ?_)
      have hZ := j4_ hX hg hY hse
      repeat (first
        | refine vk_ ?_
        | (refine mk_ 50 c50 (s_ ?_))
        | (refine rk_ ?_; refine ⟨rfl, ?_⟩))
      refine rk_ ?_
      refine hk _ ?_; exact om_
    · have V1 := split_F b
      have e1 : splE deep b 0 = if 5000 < b.length then (.nils, 3) else match splitF b with | none => (.nils, 2) | some l => (recsV l, 0) := by simp [splE, hd]
      rw [e1] at hk
      unfold splitV at V1
      by_cases hl : 5000 < b.length
      · rw [if_pos hl] at V1 hk
        refine mk_ 32 c32 (s_ ?_)
        have hZ := j4_ hX hg hY hse
        repeat (first
          | refine vk_ ?_
          | (refine pe_ (V1) fun n1 hn1 => ⟨rfl, ?_⟩; (try dsimp only at hn1))
          | (refine mk_ 50 c50 (s_ ?_))
          | (refine rk_ ?_; refine ⟨rfl, ?_⟩))
        refine rk_ ?_
        refine hk _ ?_; exact om_
      · rw [if_neg hl] at V1 hk
        cases e2 : splitF b with
        | none =>
          rw [e2] at V1 hk
          refine mk_ 32 c32 (s_ ?_)
          have hZ := j4_ hX hg hY hse
          repeat (first
            | refine vk_ ?_
            | (refine pe_ (V1) fun n1 hn1 => ⟨rfl, ?_⟩; (try dsimp only at hn1))
            | (refine mk_ 50 c50 (s_ ?_))
            | (refine rk_ ?_; refine ⟨rfl, ?_⟩))
          refine rk_ ?_
          refine hk _ ?_; exact om_
        | some l =>
          rw [e2] at V1 hk
          dsimp only at V1 hk
          rw [hse] at hk
          have hu1 : (recsV l).isUndef = false := by cases l <;> rfl
          have hu2 : (recsV l).bare = recsV l := by cases l <;> rfl
          have hu3 : (recsV l).whole = true := by cases l <;> rfl
          have hu4 : (recsV l).strip = recsV l := by cases l <;> rfl
          have hu5 : (recsV l).cells = [recsV l] := by cases l <;> rfl
          generalize recsV l = v at *
          simp only [CVal.isUndef, CVal.bare, CVal.whole, CVal.strip, CVal.cells] at hu1 hu2 hu3 hu4 hu5
          refine mk_ 32 c32 (s_ ?_)
          have hZ := j9_ hX hg hY hse hu1 hu2 hu3 hu4 hu5
          repeat (first
            | refine vk_ ?_
            | (refine pe_ (V1) fun n1 hn1 => ⟨rfl, ?_⟩; (try dsimp only at hn1))
            | (refine mk_ 50 c50 (s_ ?_))
            | (refine rk_ ?_; refine ⟨rfl, ?_⟩))
          refine rk_ ?_
          refine hk _ ?_; exact om_
  · have e1 : splE deep b e = (.nils, e) := by simp [splE, he0]
    rw [e1] at hk
    dsimp only at hk
    rw [hse] at hk
    have e2 : ((e : Int) == 0) = false := by simp; omega
    have e3 : ((e : Int) != 0) = true := by simp; omega
    by_cases hd : 20 < deep
    · skip
      refine mk_ 32 c32 (s_ ?_)
      have hZ := j6_ hX hg hY hse e2 e3
      repeat (first
        | refine vk_ ?_
        | (refine mk_ 50 c50 (s_ ?_))
        | (refine rk_ ?_; refine ⟨rfl, ?_⟩))
      refine rk_ ?_
      refine hk _ ?_; exact om_
    · skip
      refine mk_ 32 c32 (s_ ?_)
      have hZ := j6_ hX hg hY hse e2 e3
      repeat (first
        | refine vk_ ?_
        | (refine mk_ 50 c50 (s_ ?_))
        | (refine rk_ ?_; refine ⟨rfl, ?_⟩))
      refine rk_ ?_
      refine hk _ ?_; exact om_
theorem cnt_F {d n : Nat} (hn0 : n ≤ 2000) {h : CHeap} (hf : Fit h) (hg : getEnt h.ents d = some (decO n 0)) {K : CVal → CHeap → Prop}
    (hk : ∀ n', h.next ≤ n' → K (.tup []) ⟨setEnt h.ents d (decO (n + 1) (if 2000 < n + 1 then 3 else 0)), n', h.tys⟩) : Wc tree.getF 60 [.ptr d DD 0] h K := by
  obtain ⟨hu, hut, hX⟩ := fx4 hf
  have hY := fx5 hf hg; have ⟨hG, hD, hC, hN⟩ := hY
  have lp := in_under hu hg
  by_cases h1 : 2000 < n + 1
  · rw [if_pos h1] at hk
    have h2 : (2000 : Int) < (n : Int) + 1 := by omega
    push_cast at hk
    refine mk_ 60 c60 (s_ ?_)
    have hZ := j3_ hX hg hY
    repeat (first
      | refine vk_ ?_
      | (refine mk_ 50 c50 (s_ ?_))
      | (refine rk_ ?_; refine ⟨rfl, ?_⟩))
    refine rk_ ?_
    refine hk _ ?_; exact om_
  · rw [if_neg h1] at hk
    have h2 : ¬ (2000 : Int) < (n : Int) + 1 := by omega
    push_cast at hk
    refine mk_ 60 c60 (s_ ?_)
    have hZ := j3_ hX hg hY
    repeat (first
      | refine vk_ ?_
      | (refine mk_ 50 c50 (s_ ?_))
      | (refine rk_ ?_; refine ⟨rfl, ?_⟩))
    refine rk_ ?_
    refine hk _ ?_; exact om_
theorem fre_F {d n e : Nat} {h : CHeap} (hf : Fit h) (hg : getEnt h.ents d = some (decO n e)) {K : CVal → CHeap → Prop}
    (hk : ∀ z a b q n' cs, h.next ≤ z → z < a → a < b → b < q → q < n' → K (.ptr q SD 0) ⟨(q, staO a b .nilp .nils) :: (b, .map 0 []) :: (a, .map 0 []) :: (z, .cells cs) :: h.ents, n', h.tys⟩) : Wc tree.getF 19 [.ptr d DD 0, .str [65]] h K := by
  obtain ⟨hu, hut, hX⟩ := fx4 hf
  have lp := in_under hu hg
  refine mk_ 19 c19 (s_ ?_)
  have hZ := j2_ hX hg
  repeat (first
    | refine vk_ ?_
    | (refine pe_ (message_A) fun n1 hn1 => ⟨rfl, ?_⟩; (try dsimp only at hn1)))
  refine rk_ ?_
  refine hk _ _ _ _ _ _ ?_ ?_ ?_ ?_ ?_ <;> exact om_
end Go.Proofs.YtnddcjimijmenaaGreat.IrR
namespace Go.Proofs.YtnddcjimijmenaaGreat.IrR
open Go Go.CI
set_option maxRecDepth 100000
set_option maxHeartbeats 4000000
set_option linter.unusedVariables false
set_option linter.unusedSimpArgs false
attribute [local irreducible] W Wo Wc WoR

theorem oneF_s {s : List UInt8} {r : Rc} (h : oneF s = some r) : r.s.length ≤ r.raw.length := by
  unfold oneF at h
  split at h
  · cases h
  rename_i t n e
  have h1 := varF_le e
  split at h
  · cases h
  split at h
  · split at h
    · cases h
    · cases h; simp
  split at h
  · split at h
    · cases h
    · rename_i v k e2
      have h2 := varF_le e2
      rw [List.length_drop] at h2
      split at h
      · cases h
      · rename_i h3
        rw [List.length_drop] at h3
        cases h
        show ((s.drop (n + k)).take v).length ≤ (s.take (n + k + v)).length
        simp only [List.length_take, List.length_drop]; omega
  split at h
  · split at h
    · cases h
    · cases h; simp
  split at h
  · split at h
    · cases h
    · cases h; simp
  · cases h
/-- Of each record: its bytes, its text. -/
theorem splitF_each : ∀ (n : Nat) (a : List UInt8) (l : List Rc), a.length ≤ n → splitF a = some l → ∀ r ∈ l, r.raw ≠ [] ∧ r.s.length ≤ r.raw.length
  | n, [], l, _, h => by rw [splitF_nil] at h; cases h; intro r hr; cases hr
  | 0, c :: a, l, hn, _ => by simp at hn
  | n + 1, c :: a, l, hn, h => by
    cases e : oneF (c :: a) with
    | none => rw [splitF_bad (by simp) e] at h; cases h
    | some r =>
      have h1 := oneF_raw e
      rw [splitF_cons (by simp) e] at h
      cases e2 : splitF ((c :: a).drop r.raw.length) with
      | none => rw [e2] at h; cases h
      | some l' =>
        rw [e2] at h; cases h
        intro q hq
        rcases List.mem_cons.1 hq with rfl | hq
        · exact ⟨fun e => by rw [e] at h1; simp at h1, oneF_s e⟩
        · exact splitF_each n _ l' (by rw [List.length_drop]; omega) e2 q hq
theorem splitF_many : ∀ (n : Nat) (a : List UInt8) (l : List Rc), a.length ≤ n → splitF a = some l → l.length ≤ a.length
  | n, [], l, _, h => by rw [splitF_nil] at h; cases h; simp
  | 0, c :: a, l, hn, _ => by simp at hn
  | n + 1, c :: a, l, hn, h => by
    cases e : oneF (c :: a) with
    | none => rw [splitF_bad (by simp) e] at h; cases h
    | some r =>
      have h1 := oneF_raw e
      rw [splitF_cons (by simp) e] at h
      cases e2 : splitF ((c :: a).drop r.raw.length) with
      | none => rw [e2] at h; cases h
      | some l' =>
        rw [e2] at h; cases h
        have h3 : ((c :: a).drop r.raw.length).length = (c :: a).length - r.raw.length := List.length_drop
        have := splitF_many n _ l' (by omega) e2
        simp only [List.length_cons] at *; omega
abbrev flen (c : List (List UInt8)) : Nat := c.flatten.length
theorem flen_sub (c : List (List UInt8)) : flen (subC c) + (c.headD []).length ≤ flen c := by
  match c with
  | [] => simp [subC, flen]
  | [r] => simp [subC, flen]
  | r :: x :: t => simp [subC, flen]; omega
theorem recsC_len (F : List UInt8 → DS → DS) (hF : ∀ b x, flen (F b x).1 ≤ flen x.1 + b.length) : ∀ (l : List Rc) (x : DS), (∀ r ∈ l, r.s.length ≤ r.raw.length) → flen (recsC F l x).1 ≤ flen x.1 + (l.flatMap Rc.raw).length
  | [], x, _ => by simp [recsC]
  | r :: l, (c, n, e), h => by
    have hr := h r (by simp)
    have hl : ∀ q ∈ l, q.s.length ≤ q.raw.length := fun q hq => h q (by simp [hq])
    rw [recsC_cons]
    simp only [List.flatMap_cons, List.length_append]
    split
    · dsimp only; omega
    split
    · have h1 := recsC_len F hF l (c.headD [] :: (F r.s (subC c, n + 1, if 2000 < n + 1 then 3 else 0)).1, (F r.s (subC c, n + 1, if 2000 < n + 1 then 3 else 0)).2) hl
      have h2 := hF r.s (subC c, n + 1, if 2000 < n + 1 then 3 else 0)
      have h3 := flen_sub c
      dsimp only at h1 h2 ⊢
      simp only [flen, List.flatten_cons, List.length_append] at h1 h2 h3 ⊢
      omega
    · have h1 := recsC_len F hF l ((c.headD [] ++ r.raw) :: c.tail, n, 0) hl
      have h3 : (c.headD []).length + flen c.tail ≤ flen c := by cases c <;> simp [flen]
      dsimp only at h1 ⊢
      simp only [flen, List.flatten_cons, List.length_append] at h1 h3 ⊢
      omega
theorem feedC_len : ∀ (D : Nat) (b : List UInt8) (x : DS), flen (feedC D b x).1 ≤ flen x.1 + b.length
  | 0, b, (c, n, e) => by simp [feedC]
  | D + 1, b, (c, n, e) => by
    unfold feedC
    split
    · dsimp only; omega
    split
    · dsimp only; omega
    split
    · dsimp only; omega
    · rename_i l hl
      have h1 := recsC_len (feedC D) (feedC_len D) l (c, n, 0) (fun r hr => (splitF_each _ b l (Nat.le_refl _) hl r hr).2)
      rw [splitF_raw _ b l (Nat.le_refl _) hl] at h1
      exact h1

/-- What is read lies so in the memory; what stays when more is read. -/
structure Stt (x : DS) (d q : Nat) (h : CHeap) (ids : List Nat) : Prop where
  fit : Fit h
  dec : getEnt h.ents d = some (decO x.2.1 x.2.2)
  sr : SR x.1 q h.ents h.tys ids
  nd : ids.Nodup
  nm : d ∉ ids
structure Fr (d : Nat) (ids : List Nat) (h h' : CHeap) (ids' : List Nat) : Prop where
  nx : h.next ≤ h'.next
  en : ∀ m, m < h.next → m ∉ ids → m ≠ d → getEnt h'.ents m = getEnt h.ents m
  ty : ∀ m, m < h.next → lookupN h'.tys m = lookupN h.tys m
  id : ∀ m ∈ ids', m ∈ ids ∨ h.next ≤ m
theorem Fr.trans {d : Nat} {a b c : List Nat} {h h1 h2 : CHeap} (x : Fr d a h h1 b) (y : Fr d b h1 h2 c) : Fr d a h h2 c where
  nx := Nat.le_trans x.nx y.nx
  en := fun m hm ha hd => by
    rw [y.en m (Nat.lt_of_lt_of_le hm x.nx) (fun hb => by rcases x.id m hb with h | h; exact ha h; omega) hd]
    exact x.en m hm ha hd
  ty := fun m hm => by rw [y.ty m (Nat.lt_of_lt_of_le hm x.nx)]; exact x.ty m hm
  id := fun m hm => by
    rcases y.id m hm with h | h
    · exact x.id m h
    · exact .inr (Nat.le_trans x.nx h)
theorem SR.ne {c : List (List UInt8)} {q : Nat} {E : List (Nat × CObj)} {ty : List (Nat × Nat)} {ids : List Nat} (h : SR c q E ty ids) : c ≠ [] := by
  rintro rfl; exact h
/-- A message within was read on. -/
theorem kn_end {r0 : List UInt8} {d q a b n : Nat} {b0 b1 : CVal} {bi si sids sids' : List Nat} {h h1 h' : CHeap} {y : DS} {q2 : Nat} (hf : Fit h) (hd : getEnt h.ents d = some (decO n 0))
    (hq : getEnt h.ents q = some (staO a b b0 b1)) (ha : getEnt h.ents a = some (.map 0 [])) (hb : BR r0 q b0 b1 h.ents h.tys bi) (hbo : ∃ o, getEnt h.ents b = some o) (hbl : ∀ m ∈ bi ++ si, m < h.next) (hnd : (q :: a :: b :: (bi ++ si)).Nodup) (hnm : d ∉ q :: a :: b :: (bi ++ si))
    (g1 : h.next ≤ h1.next) (g2 : ∀ m, m < h.next → m ≠ b → getEnt h1.ents m = getEnt h.ents m) (g3 : ∀ m, m < h.next → lookupN h1.tys m = lookupN h.tys m) (g4 : getEnt h1.ents b = some (.map 1 [(0, .int .i64 1, .ptr q2 SD 0)])) (g5 : ∀ m ∈ sids, m ∈ si ∨ h.next ≤ m)
    (hs : Stt y d q2 h' sids') (hr : Fr d sids h1 h' sids') : Stt (r0 :: y.1, y.2) d q h' (q :: a :: b :: (bi ++ sids')) ∧ Fr d (q :: a :: b :: (bi ++ si)) h h' (q :: a :: b :: (bi ++ sids')) := by
  have lq := in_under hf.1 hq
  have la := in_under hf.1 ha
  obtain ⟨o, hbo⟩ := hbo
  have lb := in_under hf.1 hbo
  have ld := in_under hf.1 hd
  simp only [List.nodup_cons, List.mem_cons, List.mem_append, not_or] at hnd hnm
  obtain ⟨⟨qa, qb, qbi, qsi⟩, ⟨ab, abi, asi⟩, ⟨bbi, bsi⟩, hn2⟩ := hnd
  obtain ⟨dq, da, db, dbi, dsi⟩ := hnm
  rw [List.nodup_append] at hn2
  obtain ⟨nbi, nsi, hdis⟩ := hn2
  have keep : ∀ m, m < h.next → m ∉ si → m ≠ d → getEnt h'.ents m = getEnt h1.ents m := fun m hm hs hdm => hr.en m (Nat.lt_of_lt_of_le hm g1) (fun hh => by rcases g5 m hh with h | h; exact hs h; omega) hdm
  have keepT : ∀ m, m < h.next → lookupN h'.tys m = lookupN h.tys m := fun m hm => by rw [hr.ty m (Nat.lt_of_lt_of_le hm g1), g3 m hm]
  have sub : ∀ m ∈ sids', m ∈ si ∨ h.next ≤ m := fun m hm => by
    rcases hr.id m hm with h | h
    · exact g5 m h
    · exact .inr (Nat.le_trans g1 h)
  have hbil : ∀ m ∈ bi, m < h.next := fun m hm => hbl m (by simp [hm])
  refine ⟨⟨hs.fit, hs.dec, ?_, ?_, ?_⟩, ⟨Nat.le_trans g1 hr.nx, ?_, keepT, ?_⟩⟩
  · refine ⟨a, b, b0, b1, bi, sids', rfl, ?_, ?_, ?_, .inr ⟨hs.sr.ne, q2, ?_, hs.sr⟩⟩
    · rw [keep q lq qsi (Ne.symm dq), g2 q lq qb]; exact hq
    · rw [keep a la asi (Ne.symm da), g2 a la ab]; exact ha
    · exact hb.frame (fun m hm => by rw [keep m (hbil m hm) (fun hh => hdis m hm m hh rfl) (fun e => dbi (e ▸ hm)), g2 m (hbil m hm) (fun e => bbi (e ▸ hm))]) (fun m hm => keepT m (hbil m hm))
    · rw [keep b lb bsi (Ne.symm db)]; exact g4
  · simp only [List.nodup_cons, List.mem_cons, List.mem_append, not_or, List.nodup_append]
    have nin : ∀ m, m < h.next → m ∉ si → m ∉ sids' := fun m hm hs hh => by rcases sub m hh with h | h; exact hs h; omega
    refine ⟨⟨qa, qb, qbi, nin q lq qsi⟩, ⟨ab, abi, nin a la asi⟩, ⟨bbi, nin b lb bsi⟩, nbi, hs.nd, ?_⟩
    intro m hm m' hm' e
    subst e
    exact nin m (hbil m hm) (fun hh => hdis m hm m hh rfl) hm'
  · simp only [List.mem_cons, List.mem_append, not_or]
    exact ⟨dq, da, db, dbi, hs.nm⟩
  · intro m hm hni hmd
    simp only [List.mem_cons, List.mem_append, not_or] at hni
    rw [keep m hm hni.2.2.2.2 hmd, g2 m hm hni.2.2.1]
  · intro m hm
    simp only [List.mem_cons, List.mem_append] at hm ⊢
    rcases hm with h | h | h | h | h
    · exact .inl (.inl h)
    · exact .inl (.inr (.inl h))
    · exact .inl (.inr (.inr (.inl h)))
    · exact .inl (.inr (.inr (.inr (.inl h))))
    · rcases sub m h with h | h
      · exact .inl (.inr (.inr (.inr (.inr h))))
      · exact .inr h
end Go.Proofs.YtnddcjimijmenaaGreat.IrR
namespace Go.Proofs.YtnddcjimijmenaaGreat.IrR
open Go Go.CI
set_option maxRecDepth 100000
set_option maxHeartbeats 4000000
set_option linter.unusedVariables false
set_option linter.unusedSimpArgs false
attribute [local irreducible] W Wo Wc WoR

/-- The contract of feed. -/
def FC (D : Nat) : Prop := ∀ (x : DS) (deep : Nat) (di : Int) (q : Nat) (b : List UInt8) (d : Nat) (h : CHeap) (ids : List Nat) (K : CVal → CHeap → Prop), di = (deep : Int) → deep + D = 21 → Stt x d q h ids → x.2.1 ≤ 2001 → (x.2.2 = 0 → x.2.1 ≤ 2000) → x.2.2 ≤ 3 → flen x.1 + b.length < 90000 →
  (∀ h' ids', Stt (feedC D b x) d q h' ids' → Fr d ids h h' ids' → K (.tup []) h') → Wc tree.getF 20 [.ptr d DD 0, .ptr q SD 0, .str b, .int .i64 di] h K
theorem Stt.setd {c : List (List UInt8)} {n e n1 : Nat} {d q : Nat} {h : CHeap} {ids : List Nat} (hf : Fit h) (hd : ∃ o, getEnt h.ents d = some o) (hs : SR c q h.ents h.tys ids) (hn : ids.Nodup) (hm : d ∉ ids) (h1 : h.next ≤ n1) : Stt (c, n, e) d q ⟨setEnt h.ents d (decO n e), n1, h.tys⟩ ids where
  fit := ⟨hf.1.set.le h1, hf.2.le h1⟩
  dec := by obtain ⟨o, ho⟩ := hd; exact sy_getEnt_setEnt ho
  sr := hs.frame (fun m hm' => getEnt_setEnt_ne (fun e => hm (e ▸ hm'))) (fun _ _ => rfl)
  nd := hn
  nm := hm
theorem Fr.setd {d n1 : Nat} {o : CObj} {ids ids' : List Nat} {h h' : CHeap} (h1 : h.next ≤ n1) (x : Fr d ids ⟨setEnt h.ents d o, n1, h.tys⟩ h' ids') : Fr d ids h h' ids' where
  nx := Nat.le_trans h1 x.nx
  en := fun m hm hi hd => by rw [x.en m (Nat.lt_of_lt_of_le hm h1) hi hd]; exact getEnt_setEnt_ne hd
  ty := fun m hm => x.ty m (Nat.lt_of_lt_of_le hm h1)
  id := fun m hm => by rcases x.id m hm with h | h; exact .inl h; exact .inr (Nat.le_trans h1 h)
abbrev knT : CCode := (.seq (.region [.v 6, .g (.call false 60 [(.loc 0)])] [] [] []) (.region [.v 6, .v 2, .n 0, .f 4 0, .l 0, .g (.fieldAddr 0 (.var 3)), .l 0, .g (.extl (.mlook (.int .i64) false .nilp) [(.loc 2), (.loc 0)]), .g (.fieldAddr 3 (.var 7)), .l 0, .v 8, .x .add 0 (.k 1), .g (.call false 20 [(.loc 11), (.loc 4), (.loc 2), (.loc 0)])] [] [] []))
theorem kn_tail {D : Nat} (IH : FC D) {c : List (List UInt8)} {n d q q2 a b fb rb deep : Nat} {di N : Int} {S R : List UInt8} {b0 b1 : CVal} {sids : List Nat} {h : CHeap} (hf : Fit h) (hd : getEnt h.ents d = some (decO n 0)) (hq : getEnt h.ents q = some (staO a b b0 b1)) (hb : getEnt h.ents b = some (.map 1 [(0, .int .i64 1, .ptr q2 SD 0)])) (hfb : getEnt h.ents fb = some (.cells [.int .i64 1, .str [97], .int .i64 0, .int .i64 16, .str [65], .int .i64 0, .bool false, .int .i64 0])) (hrb : getEnt h.ents rb = some (.cells [.int .i64 1, .int .i64 2, .int .u64 N, .str S, .str R]))
    (hs : SR c q2 h.ents h.tys sids) (hnd : sids.Nodup) (hnm : d ∉ sids) (n1 : q ≠ d) (n2 : b ≠ d) (n3 : fb ≠ d) (n4 : rb ≠ d) (hn : n ≤ 2000) (hdi : di = (deep : Int)) (hD : deep + D = 20) (hl : flen c + S.length < 90000) (w4 w9 w10 w11 w12 w13 w14 : CVal) {Q : CExit → CSt → Prop}
    (hk : ∀ h' sids', Stt (feedC D S (c, n + 1, if 2000 < n + 1 then 3 else 0)) d q2 h' sids' → Fr d sids h h' sids' → Q .normal ⟨[fldA, .agg [.int .i64 1, .int .i64 2, .int .u64 N, .str S, .str R], .ptr q SD 0, .ptr fb 111149064 0, w4, .nils, .ptr d DD 0, .ptr rb 31457285 0, .int .i64 di, w9, w10, w11, w12, w13, w14], h', []⟩) :
    W tree.getF knT ⟨[fldA, .agg [.int .i64 1, .int .i64 2, .int .u64 N, .str S, .str R], .ptr q SD 0, .ptr fb 111149064 0, w4, .nils, .ptr d DD 0, .ptr rb 31457285 0, .int .i64 di, w9, w10, w11, w12, w13, w14], h, []⟩ Q := by
  obtain ⟨hu, hut, hX⟩ := fx4 hf
  have hq' : ∀ o, getEnt (setEnt h.ents d o) q = some (staO a b b0 b1) := fun o => by rw [getEnt_setEnt_ne n1]; exact hq
  have hb' : ∀ o, getEnt (setEnt h.ents d o) b = some (.map 1 [(0, .int .i64 1, .ptr q2 SD 0)]) := fun o => by rw [getEnt_setEnt_ne n2]; exact hb
  have hfb' : ∀ o, getEnt (setEnt h.ents d o) fb = some (.cells [.int .i64 1, .str [97], .int .i64 0, .int .i64 16, .str [65], .int .i64 0, .bool false, .int .i64 0]) := fun o => by rw [getEnt_setEnt_ne n3]; exact hfb
  have hrb' : ∀ o, getEnt (setEnt h.ents d o) rb = some (.cells [.int .i64 1, .int .i64 2, .int .u64 N, .str S, .str R]) := fun o => by rw [getEnt_setEnt_ne n4]; exact hrb
  have ld := in_under hu hd
  have hZ := j6_ hX hd hq' hb' hfb' hrb'
  repeat ((fail_if_success (show Wc tree.getF 20 _ _ _)); first
    | refine st_ rfl ?_
    | ((first | refine W.regG ?_ | refine WoR.go ?_); generalize e : goR .. = r; simp (disch := omega) [hZ] at e; replace e : some _ = _ := e; subst e; (try dsimp only [goW]))
    | refine W.loop ?_
    | (refine dk_ ?_; refine W.loop ?_)
    | (simp only [outOf, thenW_ret, thenW_exit, thenW_normal, roundW, reduceIte])
    | (refine cnt_F hn fit_ (by exact hd) fun n1 hn1 => ⟨rfl, ?_⟩; (try dsimp only at hn1)))
  refine IH (c, n + 1, if 2000 < n + 1 then 3 else 0) (deep + 1) _ q2 S d _ sids _ ?_ (by omega) (Stt.setd hf ⟨_, hd⟩ hs hnd hnm ?_) (by dsimp only; omega) (by dsimp only; split <;> omega) (by dsimp only; split <;> omega) hl ?_
  · push_cast; omega
  · exact om_
  intro h' sids' k1 k2
  refine ⟨rfl, ?_⟩
  repeat (first
    | refine vx_ ?_)
  refine hk h' sids' k1 (Fr.setd ?_ k2)
  exact om_
theorem known_F {D : Nat} (IH : FC D) {r0 : List UInt8} {t : List (List UInt8)} {n d q deep : Nat} {N : Int} {S R : List UInt8} {h : CHeap} {ids : List Nat} (hst : Stt (r0 :: t, n, 0) d q h ids) (hn : n ≤ 2000) (hD : deep + D = 20) (hl : flen (r0 :: t) + S.length < 90000) {K : CVal → CHeap → Prop}
    (hk : ∀ h' ids', Stt (r0 :: (feedC D S (subC (r0 :: t), n + 1, if 2000 < n + 1 then 3 else 0)).1, (feedC D S (subC (r0 :: t), n + 1, if 2000 < n + 1 then 3 else 0)).2) d q h' ids' → Fr d ids h h' ids' → K (.tup []) h') : Wc tree.getF 36 [.ptr d DD 0, .ptr q SD 0, fldA, .agg [.int .i64 1, .int .i64 2, .int .u64 N, .str S, .str R], .int .i64 deep] h K := by
  obtain ⟨hf, hd, hsr, hnd, hnm⟩ := hst
  dsimp only at hd hsr
  obtain ⟨a, b, b0, b1, bi, si, rfl, hq, ha, hbr, hsub⟩ := hsr
  obtain ⟨hu, hut, hX⟩ := fx4 hf
  have lq := in_under hu hq
  have la := in_under hu ha
  have ld := in_under hu hd
  have hbo : ∃ o, getEnt h.ents b = some o := by rcases hsub with ⟨_, h1, _⟩ | ⟨_, _, h1, _⟩ <;> exact ⟨_, h1⟩
  have lb : b < h.next := by obtain ⟨o, ho⟩ := hbo; exact in_under hu ho
  have hbl : ∀ m ∈ bi ++ si, m < h.next := fun m hm => by
    rcases List.mem_append.1 hm with hm | hm
    · rcases hbr with ⟨_, _, _, rfl⟩ | ⟨_, w, v, _, _, rfl, hw, _⟩
      · cases hm
      · simp at hm; subst hm; exact in_under hu hw
    · rcases hsub with ⟨_, _, rfl⟩ | ⟨_, q2, _, h2⟩
      · cases hm
      · exact h2.lt hu m hm
  have hne := hnd
  have hnn := hnm
  simp only [List.nodup_cons, List.mem_cons, List.mem_append, not_or] at hne hnn
  obtain ⟨⟨qa, qb, qbi, qsi⟩, ⟨ab, abi, asi⟩, ⟨bbi, bsi⟩, hn2⟩ := hne
  obtain ⟨dq, da, db, dbi, dsi⟩ := hnn
  have hsin : si.Nodup := (List.nodup_append.1 hn2).2.1
  rcases hsub with ⟨e1, hb, hsi⟩ | ⟨e1, q2, hb, hs⟩
  · subst e1
    subst hsi
    refine mk_ 36 c36 (s_ ?_)
    have hZ := j5_ hX hd hq ha hb
    repeat ((fail_if_success (show Wc tree.getF 19 _ _ _)); first
      | refine st_ rfl ?_
      | ((first | refine W.regG ?_ | refine WoR.go ?_); generalize e : goR .. = r; simp (disch := omega) [hZ] at e; replace e : some _ = _ := e; subst e; (try dsimp only [goW]))
      | refine W.loop ?_
      | (refine dk_ ?_; refine W.loop ?_)
      | (simp only [outOf, thenW_ret, thenW_exit, thenW_normal, roundW, reduceIte])
      | (refine mk_ 57 c57 (s_ ?_))
      | (refine rk_ ?_; refine ⟨rfl, ?_⟩))
    refine fre_F fit_ (n := n) (e := 0) (by simp (disch := omega) [getEnt, hd]) fun z a2 b2 q2 n1 cs p1 p2 p3 p4 p5 => ⟨rfl, ?_⟩
    dsimp only at p1 p5
    repeat ((fail_if_success (show W tree.getF knT _ _)); first
      | refine st_ rfl ?_
      | ((first | refine W.regG ?_ | refine WoR.go ?_); generalize e : goR .. = r; simp (disch := omega) [hZ] at e; replace e : some _ = _ := e; subst e; (try dsimp only [goW]))
      | refine W.loop ?_
      | (refine dk_ ?_; refine W.loop ?_)
      | (simp only [outOf, thenW_ret, thenW_exit, thenW_normal, roundW, reduceIte])
      | (refine mk_ 57 c57 (s_ ?_))
      | (refine rk_ ?_; refine ⟨rfl, ?_⟩))
    show W tree.getF knT _ _
    have hbs : ∀ x, getEnt (setEnt h.ents b x) b = some x := fun x => sy_getEnt_setEnt hb
    refine kn_tail IH (c := [[]]) (sids := [q2, a2, b2]) (n := n) (q2 := q2) (a := a) (b := b) (b0 := b0) (b1 := b1) (deep := deep) fit_ ?_ ?_ ?_ ?_ ?_ ?_ ?_ ?_ (Ne.symm dq) (Ne.symm db) ?_ ?_ hn rfl hD ?_ _ _ _ _ _ _ _ ?_
    · simp (disch := omega) [getEnt, setEnt, hd, getEnt_setEnt_ne]
    · simp (disch := omega) [getEnt, setEnt, hq, getEnt_setEnt_ne]
    · simp (disch := omega) [getEnt, setEnt, hbs]
    · simp (disch := omega) [getEnt, setEnt]
    · simp (disch := omega) [getEnt, setEnt]
    · refine ⟨a2, b2, .nilp, .nils, [], [], rfl, ?_, ?_, .inl ⟨rfl, rfl, rfl, rfl⟩, .inl ⟨rfl, ?_, rfl⟩⟩ <;> simp (disch := omega) [getEnt, setEnt]
    · simp; omega
    · simp; omega
    · omega
    · omega
    · simp [flen] at hl ⊢; omega
    · intro h' sids' k1 k2
      have key := fun g1 g2 g3 g4 g5 => kn_end (h := h) hf hd hq ha hbr ⟨_, hb⟩ hbl hnd hnm g1 g2 g3 g4 g5 k1 k2
      have ⟨r1, r2⟩ := key (by (try dsimp only); omega) (fun m hm hmb => by simp (disch := omega) [getEnt, setEnt, getEnt_setEnt_ne]) (fun _ _ => rfl) (by simp (disch := omega) [getEnt, setEnt, hbs]) (fun m hm => by simp at hm; right; omega)
      (try simp only [outOf])
      refine r0_ ?_
      exact hk h' _ r1 r2
  · skip
    refine mk_ 36 c36 (s_ ?_)
    have hZ := j5_ hX hd hq ha hb
    repeat ((fail_if_success (show W tree.getF knT _ _)); first
      | refine st_ rfl ?_
      | ((first | refine W.regG ?_ | refine WoR.go ?_); generalize e : goR .. = r; simp (disch := omega) [hZ] at e; replace e : some _ = _ := e; subst e; (try dsimp only [goW]))
      | refine W.loop ?_
      | (refine dk_ ?_; refine W.loop ?_)
      | (simp only [outOf, thenW_ret, thenW_exit, thenW_normal, roundW, reduceIte])
      | (refine mk_ 57 c57 (s_ ?_))
      | (refine rk_ ?_; refine ⟨rfl, ?_⟩))
    show W tree.getF knT _ _
    have hsc : subC (r0 :: t) = t := by cases t with | nil => exact absurd rfl e1 | cons x t => rfl
    rw [hsc] at hk
    have hlt := flen_sub (r0 :: t)
    rw [hsc] at hlt
    refine kn_tail IH (c := t) (sids := si) (n := n) (q2 := q2) (a := a) (b := b) (b0 := b0) (b1 := b1) (deep := deep) fit_ ?_ ?_ ?_ ?_ ?_ ?_ hsin dsi (Ne.symm dq) (Ne.symm db) ?_ ?_ hn rfl hD ?_ _ _ _ _ _ _ _ ?_
    · simp (disch := omega) [getEnt, setEnt, hd, getEnt_setEnt_ne]
    · simp (disch := omega) [getEnt, setEnt, hq, getEnt_setEnt_ne]
    · simp (disch := omega) [getEnt, setEnt, hb]
    · simp (disch := omega) [getEnt, setEnt]
    · simp (disch := omega) [getEnt, setEnt]
    · refine hs.frame (fun m hm => ?_) (fun _ _ => rfl)
      have := hbl m (by simp [hm])
      simp (disch := omega) [getEnt]
    · omega
    · omega
    · omega
    · intro h' sids' k1 k2
      have key := fun g1 g2 g3 g4 g5 => kn_end (h := h) hf hd hq ha hbr ⟨_, hb⟩ hbl hnd hnm g1 g2 g3 g4 g5 k1 k2
      have ⟨r1, r2⟩ := key (by (try dsimp only); omega) (fun m hm hmb => by simp (disch := omega) [getEnt, setEnt, getEnt_setEnt_ne]) (fun _ _ => rfl) (by simp (disch := omega) [getEnt, setEnt, hb]) (fun m hm => .inl hm)
      (try simp only [outOf])
      refine r0_ ?_
      exact hk h' _ r1 r2
end Go.Proofs.YtnddcjimijmenaaGreat.IrR
namespace Go.Proofs.YtnddcjimijmenaaGreat.IrR
open Go Go.CI
set_option maxRecDepth 100000
set_option maxHeartbeats 4000000
set_option linter.unusedVariables false
set_option linter.unusedSimpArgs false
attribute [local irreducible] W Wo Wc WoR

theorem Stt.ext {x : DS} {d q : Nat} {h h1 : CHeap} {ids : List Nat} (hs : Stt x d q h ids) (hf : Fit h1) (g1 : h.next ≤ h1.next) (g2 : ∀ m, m < h.next → getEnt h1.ents m = getEnt h.ents m) (g3 : ∀ m, m < h.next → lookupN h1.tys m = lookupN h.tys m) : Stt x d q h1 ids ∧ Fr d ids h h1 ids :=
  have ld := in_under hs.fit.1 hs.dec
  have ll := hs.sr.lt hs.fit.1
  ⟨⟨hf, by rw [g2 d ld]; exact hs.dec, hs.sr.frame (fun m hm => g2 m (ll m hm)) (fun m hm => g3 m (ll m hm)), hs.nd, hs.nm⟩, ⟨g1, fun m hm _ _ => g2 m hm, g3, fun m hm => .inl hm⟩⟩
theorem wr_end {r0 raw : List UInt8} {t : List (List UInt8)} {d q a b n : Nat} {b0 b1 b0' b1' : CVal} {bi bi' si : List Nat} {h h1 h' : CHeap} (hf : Fit h) (hd : getEnt h.ents d = some (decO n 0))
    (hq : getEnt h.ents q = some (staO a b b0 b1)) (ha : getEnt h.ents a = some (.map 0 []))
    (hsub : (t = [] ∧ getEnt h.ents b = some (.map 0 []) ∧ si = []) ∨ (t ≠ [] ∧ ∃ q2, getEnt h.ents b = some (.map 1 [(0, .int .i64 1, .ptr q2 SD 0)]) ∧ SR t q2 h.ents h.tys si)) (hbl : ∀ m ∈ bi ++ si, m < h.next) (hnd : (q :: a :: b :: (bi ++ si)).Nodup) (hnm : d ∉ q :: a :: b :: (bi ++ si))
    (g1 : h.next ≤ h1.next) (g2 : ∀ m, m < h.next → getEnt h1.ents m = getEnt h.ents m) (g3 : ∀ m, m < h.next → lookupN h1.tys m = lookupN h.tys m)
    (k1 : Fit h') (k2 : h1.next ≤ h'.next) (k3 : getEnt h'.ents q = some (staO a b b0' b1')) (k4 : BR (r0 ++ raw) q b0' b1' h'.ents h'.tys bi') (k5 : ∀ m, m < h1.next → m ≠ q → m ∉ bi → getEnt h'.ents m = getEnt h1.ents m) (k6 : ∀ m, m < h1.next → lookupN h'.tys m = lookupN h1.tys m) (k7 : ∀ m ∈ bi', m ∈ bi ∨ h1.next ≤ m) (k8 : bi'.Nodup) :
    Stt ((r0 ++ raw) :: t, n, 0) d q h' (q :: a :: b :: (bi' ++ si)) ∧ Fr d (q :: a :: b :: (bi ++ si)) h h' (q :: a :: b :: (bi' ++ si)) := by
  have lq := in_under hf.1 hq
  have la := in_under hf.1 ha
  have ld := in_under hf.1 hd
  have lb : b < h.next := by rcases hsub with ⟨_, h1, _⟩ | ⟨_, _, h1, _⟩ <;> exact in_under hf.1 h1
  simp only [List.nodup_cons, List.mem_cons, List.mem_append, not_or] at hnd hnm
  obtain ⟨⟨qa, qb, qbi, qsi⟩, ⟨ab, abi, asi⟩, ⟨bbi, bsi⟩, hn2⟩ := hnd
  obtain ⟨dq, da, db, dbi, dsi⟩ := hnm
  rw [List.nodup_append] at hn2
  obtain ⟨nbi, nsi, hdis⟩ := hn2
  have keep : ∀ m, m < h.next → m ≠ q → m ∉ bi → getEnt h'.ents m = getEnt h.ents m := fun m hm hmq hmb => by rw [k5 m (Nat.lt_of_lt_of_le hm g1) hmq hmb, g2 m hm]
  have keepT : ∀ m, m < h.next → lookupN h'.tys m = lookupN h.tys m := fun m hm => by rw [k6 m (Nat.lt_of_lt_of_le hm g1), g3 m hm]
  have hsl : ∀ m ∈ si, m < h.next := fun m hm => hbl m (by simp [hm])
  have sub : ∀ m ∈ bi', m ∈ bi ∨ h.next ≤ m := fun m hm => by
    rcases k7 m hm with h | h
    · exact .inl h
    · exact .inr (Nat.le_trans g1 h)
  have nin : ∀ m, m < h.next → m ∉ bi → m ∉ bi' := fun m hm hs hh => by rcases sub m hh with h | h; exact hs h; omega
  refine ⟨⟨k1, by rw [keep d ld dq dbi]; exact hd, ?_, ?_, ?_⟩, ⟨Nat.le_trans g1 k2, ?_, keepT, ?_⟩⟩
  · refine ⟨a, b, b0', b1', bi', si, rfl, k3, by rw [keep a la (Ne.symm qa) abi]; exact ha, k4, ?_⟩
    have kb : getEnt h'.ents b = getEnt h.ents b := keep b lb (Ne.symm qb) bbi
    rcases hsub with ⟨e, h1, h2⟩ | ⟨e, q2, h1, h2⟩
    · exact .inl ⟨e, by rw [kb]; exact h1, h2⟩
    · exact .inr ⟨e, q2, by rw [kb]; exact h1, h2.frame (fun m hm => keep m (hsl m hm) (fun e => qsi (e ▸ hm)) (fun hh => hdis m hh m hm rfl)) (fun m hm => keepT m (hsl m hm))⟩
  · simp only [List.nodup_cons, List.mem_cons, List.mem_append, not_or, List.nodup_append]
    refine ⟨⟨qa, qb, nin q lq qbi, qsi⟩, ⟨ab, nin a la abi, asi⟩, ⟨nin b lb bbi, bsi⟩, k8, nsi, ?_⟩
    intro m hm m' hm' e
    subst e
    exact nin m (hsl m hm') (fun hh => hdis m hh m hm' rfl) hm
  · simp only [List.mem_cons, List.mem_append, not_or]
    exact ⟨dq, da, db, nin d ld dbi, dsi⟩
  · intro m hm hni hmd
    simp only [List.mem_cons, List.mem_append, not_or] at hni
    exact keep m hm hni.1 hni.2.2.2.1
  · intro m hm
    simp only [List.mem_cons, List.mem_append] at hm ⊢
    rcases hm with h | h | h | h | h
    · exact .inl (.inl h)
    · exact .inl (.inr (.inl h))
    · exact .inl (.inr (.inr (.inl h)))
    · rcases sub m h with h | h
      · exact .inl (.inr (.inr (.inr (.inl h))))
      · exact .inr h
    · exact .inl (.inr (.inr (.inr (.inr h))))
abbrev fdL : CCode := (.loop false (.seq (.region [.g (.bin .lss (.var 3) (.var 4))] [(5, 0)] [] []) (.seq (.cond (.var 5) .skip (.exit 0)) (.seq (.block 1 (.seq (.region [.g (.idxAddr 5 (.var 6) (.var 3)), .g (.load (some 5) (.loc 0)), .g (.lazy 31457285), .g (.init 5 (.loc 0) (.loc 1))] [(9, 2)] [] []) (.seq (.seq (.region [.v 0, .n 0, .f 3 0, .l 0, .x .neq 0 (.k 0)] [(7, 4)] [] []) (.cond (.var 7) .ret .skip)) (.seq (.region [.v 8, .n 0, .f 0 0, .g (.load (some 3) (.loc 0)), .g (.fieldAddr 0 (.var 9)), .l 0, .g (.call false 33 [(.loc 2), (.loc 0)]), .m (.loc 0), .g (.extract 0 (.loc 0)), .g (.extract 1 (.loc 1)), .g (.lazy 111149064), .g (.init 8 (.loc 0) (.loc 2)), .m (.loc 2)] [(10, 12), (11, 10)] [] []) (.seq (.seq (.region [.v 10, .g (.not (.loc 0)), .m (.loc 0), .q (.load (some 8) (.var 11)) 0 false, .q (.fieldAddr 1 (.var 9)) 1 false, .q (.load none (.loc 0)) 2 false, .q (.call false 34 [(.loc 2), (.loc 0)]) 3 false, .q (.not (.loc 0)) 4 false, .g (.pick (.loc 5) (.b true) (.loc 0))] [(12, 8)] [] []) (.cond (.var 12) (.seq (.region [.v 8, .n 0, .f 5 0, .g (.fieldAddr 4 (.var 9)), .l 0, .g (.call false 35 [(.loc 2), (.loc 0)])] [] [] []) (.exit 1)) .skip)) (.region [.v 0, .v 8, .g (.load (some 8) (.var 11)), .g (.load (some 5) (.var 9)), .v 2, .g (.call false 36 [(.loc 4), (.loc 3), (.loc 2), (.loc 1), (.loc 0)])] [] [] [])))))) (.region [.g (.bin .add (.var 3) (.k 1)), .m (.loc 0)] [(3, 1)] [] [])))))
theorem fd_go {D : Nat} (IH : FC D) {deep : Nat} (hD : deep + D = 20) {l : List Rc} (hall : ∀ r ∈ l, r.raw ≠ [] ∧ r.s.length ≤ r.raw.length) (hlen : l.length ≤ 5000) (d q : Nat) (b : List UInt8) (Q : CExit → CSt → Prop) : ∀ (rest pre : List Rc) (x : DS) (h : CHeap) (ids : List Nat) (w5 w7 w9 w10 w11 w12 : CVal), l = pre ++ rest → Stt x d q h ids → x.2.1 ≤ 2001 → (x.2.2 = 0 → x.2.1 ≤ 2000) → x.2.2 ≤ 3 → flen x.1 + (rest.flatMap Rc.raw).length < 90000 →
    (∀ h' ids' i w5 w7 w9 w10 w11 w12, Stt (recsC (feedC D) rest x) d q h' ids' → Fr d ids h h' ids' → Q (.exit 0) ⟨[.ptr d DD 0, .str b, .int .i64 deep, .int .i64 i, .int .i64 l.length, w5, recsV l, w7, .ptr q SD 0, w9, w10, w11, w12], h', []⟩ ∧ Q .ret ⟨[.ptr d DD 0, .str b, .int .i64 deep, .int .i64 i, .int .i64 l.length, w5, recsV l, w7, .ptr q SD 0, w9, w10, w11, w12], h', []⟩) →
    W tree.getF fdL ⟨[.ptr d DD 0, .str b, .int .i64 deep, .int .i64 pre.length, .int .i64 l.length, w5, recsV l, w7, .ptr q SD 0, w9, w10, w11, w12], h, []⟩ Q := by
  intro rest
  induction rest with
  | nil =>
    intro pre x h ids w5 w7 w9 w10 w11 w12 hl hs hn1 hn2 he hfl hk
    have hpl : pre.length = l.length := by rw [hl]; simp
    have hf := hs.fit
    rw [hpl]
    obtain ⟨hu, hut, hX⟩ := fx4 hf
    repeat ((fail_if_success (show Q _ _)); first
      | refine st_ rfl ?_
      | ((first | refine W.regG ?_ | refine WoR.go ?_); generalize e : goR .. = r; simp (disch := omega) [hX] at e; replace e : some _ = _ := e; subst e; (try dsimp only [goW]))
      | refine W.loop ?_
      | (refine dx_ ?_; refine W.loop ?_)
      | (simp only [outOf, thenW_ret, thenW_exit, thenW_normal, roundW, reduceIte]))
    have e := Stt.ext (h1 := ⟨h.ents, h.next + 1, h.tys⟩) hs ⟨hu.le (by (try dsimp only); omega), hut.le (by (try dsimp only); omega)⟩ (by (try dsimp only); omega) (fun _ _ => rfl) (fun _ _ => rfl)
    exact (hk _ ids _ _ _ _ _ _ _ e.1 e.2).1
  | cons r rest ih =>
    intro pre x h ids w5 w7 w9 w10 w11 w12 hl hs hn1 hn2 he hfl hk
    obtain ⟨c, n, e⟩ := x
    dsimp only at hn1 hn2 he hfl
    obtain ⟨r0, t, rfl⟩ : ∃ r0 t, c = r0 :: t := by cases c with | nil => exact absurd rfl hs.sr.ne | cons r0 t => exact ⟨r0, t, rfl⟩
    have hs0 := hs
    obtain ⟨hf, hd, hsr, hnd, hnm⟩ := hs
    dsimp only at hd hsr
    obtain ⟨a, bb, b0, b1, bi, si, rfl, hq, ha, hbr, hsub⟩ := hsr
    obtain ⟨hu, hut, hX⟩ := fx4 hf
    have lq := in_under hu hq
    have ld := in_under hu hd
    have hrm := hall r (by rw [hl]; simp)
    have hpl : pre.length < l.length := by rw [hl]; simp
    have hrv : recsV l = .imm .none 5 (l.map recV) := by rw [hl]; cases pre <;> rfl
    have hnth : nth (l.map recV) pre.length = recV r := nth_mapG recV l pre.length r (by rw [hl]; simp)
    have hpt : (pre.length : Int).toNat = pre.length := by omega
    have hlm : (l.map recV).length = l.length := by simp
    have hpl2 : (pre ++ [r]).length = pre.length + 1 := by simp
    have hl2 : l = (pre ++ [r]) ++ rest := by rw [hl]; simp
    rw [hrv] at hk ⊢
    generalize l.map recV = LV at *
    obtain ⟨rn, rw, rN, rs, rr⟩ := r
    dsimp only [recV] at hnth hrm hfl
    by_cases he0 : e = 0
    · subst he0
      have hn2 := hn2 rfl
      have hne := hnd
      simp only [List.nodup_cons, List.mem_cons, List.mem_append, not_or] at hne
      have qbi := hne.1.2.2.1
      have hbl : ∀ m ∈ bi ++ si, m < h.next := fun m hm => hs0.sr.lt hu m (by simp only [List.mem_cons]; exact .inr (.inr (.inr hm)))
      by_cases hr1 : rn = 1
      · subst hr1
        by_cases hr2 : rw = 2
        · subst hr2
          rw [recsC_cons, if_neg (by simp), if_pos ⟨rfl, rfl⟩] at hk
          have inv := feedC_inv D rs (subC (r0 :: t), n + 1, if 2000 < n + 1 then 3 else 0) (by dsimp only; omega) (by dsimp only; split <;> omega) (by dsimp only; split <;> omega) (by dsimp only; unfold subC; split <;> simp)
          have len := feedC_len D rs (subC (r0 :: t), n + 1, if 2000 < n + 1 then 3 else 0)
          have fls := flen_sub (r0 :: t)
          dsimp only [List.headD] at fls hk len inv
          simp only [List.flatMap_cons, List.length_append] at hfl
          have hZ := j6_ hX hd hq hnth hpt hlm
          repeat ((fail_if_success (show Wc tree.getF 36 _ _ _)); first
            | refine st_ rfl ?_
            | ((first | refine W.regG ?_ | refine WoR.go ?_); generalize e : goR .. = r; simp (disch := omega) [hZ] at e; replace e : some _ = _ := e; subst e; (try dsimp only [goW]))
            | refine W.loop ?_
            | (refine dk_ ?_; refine W.loop ?_)
            | (simp only [outOf, thenW_ret, thenW_exit, thenW_normal, roundW, reduceIte])
            | (refine pe_ (field_1) fun n1 hn1 => ⟨rfl, ?_⟩; (try dsimp only at hn1))
            | (refine pe_ (known_1) fun n1 hn1 => ⟨rfl, ?_⟩; (try dsimp only at hn1)))
          have key := fun h1 g0 g1 g2 g3 => Stt.ext (h1 := h1) hs0 g0 g1 g2 g3
          have kk : ∀ h1 : CHeap, Fit h1 → h.next ≤ h1.next → (∀ m, m < h.next → getEnt h1.ents m = getEnt h.ents m) → (∀ m, m < h.next → lookupN h1.tys m = lookupN h.tys m) → ∀ K : CVal → CHeap → Prop, (∀ h' ids', Stt (r0 :: (feedC D rs (subC (r0 :: t), n + 1, if 2000 < n + 1 then 3 else 0)).1, (feedC D rs (subC (r0 :: t), n + 1, if 2000 < n + 1 then 3 else 0)).2) d q h' ids' → Fr d (q :: a :: bb :: (bi ++ si)) h h' ids' → K (.tup []) h') → Wc tree.getF 36 [.ptr d DD 0, .ptr q SD 0, fldA, .agg [.int .i64 1, .int .i64 2, .int .u64 rN, .str rs, .str rr], .int .i64 deep] h1 K := fun h1 g0 g1 g2 g3 K hK =>
            known_F IH (key h1 g0 g1 g2 g3).1 hn2 hD (by omega) fun h' ids' y1 y2 => hK h' ids' y1 ((key h1 g0 g1 g2 g3).2.trans y2)
          refine kk _ ?_ ?_ ?_ ?_ _ fun h' ids' y1 y2 => ⟨rfl, ?_⟩
          · exact fit_
          · exact om_
          · intro m hm; simp (disch := omega) [getEnt]
          · intro m hm; rfl
          repeat (first
            | refine v0_ ?_)
          simp only [dropped, Bool.false_eq_true, if_false]
          rw [show ((pre.length : Int) + 1) = ((pre ++ [⟨1, 2, rN, rs, rr⟩] : List Rc).length : Int) from by simp, ← hrv]
          have y0 := y1.fit
          have ⟨u1, u2⟩ := Stt.ext (h1 := ⟨h'.ents, h'.next + 2, h'.tys⟩) y1 ⟨y0.1.le (by (try dsimp only); omega), y0.2.le (by (try dsimp only); omega)⟩ (by (try dsimp only); omega) (fun _ _ => rfl) (fun _ _ => rfl)
          refine ih (pre ++ [⟨1, 2, rN, rs, rr⟩]) _ _ _ _ _ _ _ _ _ hl2 u1 inv.1 inv.2.1 inv.2.2.1 ?_ ?_
          · simp only [flen, List.flatten_cons, List.length_append] at hfl len fls ⊢; omega
          intro h2 ids2 i w5 w7 w9 w10 w11 w12 z1 z2
          have := hk h2 ids2 i w5 w7 w9 w10 w11 w12 z1 ((y2.trans u2).trans z2)
          rw [hrv]; exact this
        · rw [recsC_cons, if_neg (by simp), if_neg (fun q => hr2 q.2)] at hk
          dsimp only [List.headD, List.tail] at hk
          have hZ := j6_ hX hd hq hnth hpt hlm
          repeat ((fail_if_success (show Wc tree.getF 35 _ _ _)); first
            | refine st_ rfl ?_
            | ((first | refine W.regG ?_ | refine WoR.go ?_); generalize e : goR .. = r; simp (disch := omega) [hZ] at e; replace e : some _ = _ := e; subst e; (try dsimp only [goW]))
            | refine W.loop ?_
            | (refine dk_ ?_; refine W.loop ?_)
            | (simp only [outOf, thenW_ret, thenW_exit, thenW_normal, roundW, reduceIte])
            | (refine pe_ (field_1) fun n1 hn1 => ⟨rfl, ?_⟩; (try dsimp only at hn1))
            | (refine pe_ (known_n rw hr2) fun n1 hn1 => ⟨rfl, ?_⟩; (try dsimp only at hn1)))
          refine bw_F (q := q) (a := a) (b := bb) (b0 := b0) (b1 := b1) (bi := bi) (r := r0) hrm.1 ?_ ?_ ?_ ?_ ?_ qbi fun h' b0' b1' bi' k1 k2 k3 k4 k5 k6 k7 k8 => ⟨rfl, ?_⟩
          · simp [flen] at hfl; omega
          · simp [flen] at hfl; omega
          · exact fit_
          · simp (disch := omega) [getEnt, hq]
          · refine hbr.frame (fun m hm => ?_) (fun _ _ => rfl)
            have := hbl m (by simp [hm])
            simp (disch := omega) [getEnt]
          have key := fun g1 g2 g3 => wr_end (h := h) (t := t) hf hd hq ha hsub hbl hnd hnm g1 g2 g3 k1 k2 k3 k4 k5 k6 k7 k8
          have ⟨y1, y2⟩ := key (by (try dsimp only); omega) (fun m hm => by simp (disch := omega) [getEnt]) (fun _ _ => rfl)
          repeat (first
            | refine v0_ ?_)
          simp only [dropped, Bool.false_eq_true, if_false]
          rw [show ((pre.length : Int) + 1) = ((pre ++ [⟨1, rw, rN, rs, rr⟩] : List Rc).length : Int) from by simp, ← hrv]
          have y0 := y1.fit
          have ⟨u1, u2⟩ := Stt.ext (h1 := ⟨h'.ents, h'.next + 2, h'.tys⟩) y1 ⟨y0.1.le (by (try dsimp only); omega), y0.2.le (by (try dsimp only); omega)⟩ (by (try dsimp only); omega) (fun _ _ => rfl) (fun _ _ => rfl)
          refine ih (pre ++ [⟨1, rw, rN, rs, rr⟩]) _ _ _ _ _ _ _ _ _ hl2 u1 (by dsimp only; omega) (fun _ => hn2) (by dsimp only; omega) (by simp [flen] at hfl ⊢; omega) ?_
          intro h2 ids2 i w5 w7 w9 w10 w11 w12 z1 z2
          have := hk h2 ids2 i w5 w7 w9 w10 w11 w12 z1 ((y2.trans u2).trans z2)
          rw [hrv]; exact this
      · rw [recsC_cons, if_neg (by simp), if_neg (fun q => hr1 q.1)] at hk
        dsimp only [List.headD, List.tail] at hk
        have hZ := j6_ hX hd hq hnth hpt hlm
        repeat ((fail_if_success (show Wc tree.getF 35 _ _ _)); first
          | refine st_ rfl ?_
          | ((first | refine W.regG ?_ | refine WoR.go ?_); generalize e : goR .. = r; simp (disch := omega) [hZ] at e; replace e : some _ = _ := e; subst e; (try dsimp only [goW]))
          | refine W.loop ?_
          | (refine dk_ ?_; refine W.loop ?_)
          | (simp only [outOf, thenW_ret, thenW_exit, thenW_normal, roundW, reduceIte])
          | (refine pe_ (field_n rn hr1) fun n1 hn1 => ⟨rfl, ?_⟩; (try dsimp only at hn1)))
        refine bw_F (q := q) (a := a) (b := bb) (b0 := b0) (b1 := b1) (bi := bi) (r := r0) hrm.1 ?_ ?_ ?_ ?_ ?_ qbi fun h' b0' b1' bi' k1 k2 k3 k4 k5 k6 k7 k8 => ⟨rfl, ?_⟩
        · simp [flen] at hfl; omega
        · simp [flen] at hfl; omega
        · exact fit_
        · simp (disch := omega) [getEnt, hq]
        · refine hbr.frame (fun m hm => ?_) (fun _ _ => rfl)
          have := hbl m (by simp [hm])
          simp (disch := omega) [getEnt]
        have key := fun g1 g2 g3 => wr_end (h := h) (t := t) hf hd hq ha hsub hbl hnd hnm g1 g2 g3 k1 k2 k3 k4 k5 k6 k7 k8
        have ⟨y1, y2⟩ := key (by (try dsimp only); omega) (fun m hm => by simp (disch := omega) [getEnt]) (fun _ _ => rfl)
        repeat (first
          | refine v0_ ?_)
        simp only [dropped, Bool.false_eq_true, if_false]
        rw [show ((pre.length : Int) + 1) = ((pre ++ [⟨rn, rw, rN, rs, rr⟩] : List Rc).length : Int) from by simp, ← hrv]
        have y0 := y1.fit
        have ⟨u1, u2⟩ := Stt.ext (h1 := ⟨h'.ents, h'.next + 2, h'.tys⟩) y1 ⟨y0.1.le (by (try dsimp only); omega), y0.2.le (by (try dsimp only); omega)⟩ (by (try dsimp only); omega) (fun _ _ => rfl) (fun _ _ => rfl)
        refine ih (pre ++ [⟨rn, rw, rN, rs, rr⟩]) _ _ _ _ _ _ _ _ _ hl2 u1 (by dsimp only; omega) (fun _ => hn2) (by dsimp only; omega) (by simp [flen] at hfl ⊢; omega) ?_
        intro h2 ids2 i w5 w7 w9 w10 w11 w12 z1 z2
        have := hk h2 ids2 i w5 w7 w9 w10 w11 w12 z1 ((y2.trans u2).trans z2)
        rw [hrv]; exact this
    · have e3 : ((e : Int) != 0) = true := by simp; omega
      rw [recsC_stop _ _ _ _ _ he0] at hk
      have hZ := j6_ hX hd hnth hpt hlm e3
      repeat ((fail_if_success (show Q _ _)); first
        | refine st_ rfl ?_
        | ((first | refine W.regG ?_ | refine WoR.go ?_); generalize e : goR .. = r; simp (disch := omega) [hZ] at e; replace e : some _ = _ := e; subst e; (try dsimp only [goW]))
        | refine W.loop ?_
        | (refine dk_ ?_; refine W.loop ?_)
        | (simp only [outOf, thenW_ret, thenW_exit, thenW_normal, roundW, reduceIte]))
      refine W.ret ?_
      simp only [outOf, thenW_ret, thenW_exit, thenW_normal, roundW, reduceIte]
      have key := fun h1 g0 g1 g2 g3 => Stt.ext (h1 := h1) hs0 g0 g1 g2 g3
      have kk := fun h1 i w5 w7 w9 w10 w11 w12 g0 g1 g2 g3 => (hk h1 _ i w5 w7 w9 w10 w11 w12 (key h1 g0 g1 g2 g3).1 (key h1 g0 g1 g2 g3).2).2
      refine kk _ _ _ _ _ _ _ _ ?_ ?_ ?_ ?_
      · exact fit_
      · exact om_
      · intro m hm; simp (disch := omega) [getEnt]
      · intro m hm; rfl
end Go.Proofs.YtnddcjimijmenaaGreat.IrR
namespace Go.Proofs.YtnddcjimijmenaaGreat.IrR
open Go Go.CI
set_option maxRecDepth 100000
set_option maxHeartbeats 4000000
set_option linter.unusedVariables false
set_option linter.unusedSimpArgs false
attribute [local irreducible] W Wo Wc WoR

theorem spl_cases (D deep : Nat) (h : deep + D = 21) (b : List UInt8) (c : List (List UInt8)) (n e : Nat) : ((splE deep b e).1 = .nils ∧ feedC D b (c, n, e) = (c, n, (splE deep b e).2)) ∨ (∃ D' l, D = D' + 1 ∧ e = 0 ∧ b.length ≤ 5000 ∧ splitF b = some l ∧ splE deep b e = (recsV l, 0) ∧ feedC D b (c, n, e) = recsC (feedC D') l (c, n, 0)) := by
  cases D with
  | zero =>
    left
    unfold splE feedC
    by_cases he : e = 0
    · rw [if_neg (by simp [he]), if_pos (by omega)]; simp [he]
    · rw [if_pos he]; simp [he]
  | succ D =>
    have hdp : ¬ 20 < deep := by omega
    by_cases he : e = 0
    · subst he
      by_cases hl : 5000 < b.length
      · left; simp [splE, feedC, hl]
      · cases hs : splitF b with
        | none => left; simp [splE, feedC, hl, hs, hdp]
        | some l => exact .inr ⟨D, l, rfl, rfl, by omega, rfl, by simp [splE, hl, hs, hdp], by simp [feedC, hl, hs]⟩
    · left; simp [splE, feedC, he]
theorem splE_le (deep : Nat) (b : List UInt8) (e : Nat) (he : e ≤ 3) : (splE deep b e).2 ≤ 3 := by
  unfold splE
  split
  · exact he
  split
  · simp
  split
  · simp
  split <;> simp
theorem feed_nil {D : Nat} {c : List (List UInt8)} {n e deep : Nat} {q d : Nat} {b : List UInt8} {h : CHeap} {ids : List Nat} {K : CVal → CHeap → Prop} (hD : deep + D = 21) (hs : Stt (c, n, e) d q h ids) (h3 : e ≤ 3) (e1 : (splE deep b e).1 = .nils) (hk : ∀ h' ids', Stt (c, n, (splE deep b e).2) d q h' ids' → Fr d ids h h' ids' → K (.tup []) h') : Wc tree.getF 20 [.ptr d DD 0, .ptr q SD 0, .str b, .int .i64 deep] h K := by
  have hf := hs.fit
  have hd := hs.dec
  dsimp only at hd
  obtain ⟨hu, hut, hX⟩ := fx4 hf
  have ld := in_under hu hd
  have S1 : ∀ (h1 : CHeap) (K : CVal → CHeap → Prop), h1.ents = h.ents → h1.tys = h.tys → h.next ≤ h1.next → (∀ n', h1.next ≤ n' → K .nils ⟨setEnt h.ents d (decO n (splE deep b e).2), n', h.tys⟩) → Wc tree.getF 32 [.ptr d DD 0, .str b, .int .i64 deep] h1 K := by
    intro h1 K q1 q2 q3 hK
    obtain ⟨E1, N1, T1⟩ := h1
    dsimp only at q1 q2 q3
    subst q1 q2
    refine spt_F (d := d) (n := n) (e := e) (deep := deep) (b := b) (by omega) h3 ?_ ?_ fun n' hn => ?_
    · exact ⟨hu.le q3, hut.le q3⟩
    · exact hd
    rw [e1]; exact hK n' hn
  refine mk_ 20 c20 (s_ ?_)
  repeat ((fail_if_success (show Wc tree.getF 32 _ _ _)); first
    | refine st_ rfl ?_
    | ((first | refine W.regG ?_ | refine WoR.go ?_); generalize e : goR .. = r; simp (disch := omega) [hX] at e; replace e : some _ = _ := e; subst e; (try dsimp only [goW]))
    | (simp only [outOf, thenW_ret, thenW_exit, thenW_normal, roundW, reduceIte]))
  refine S1 _ _ rfl rfl ?_ fun n1 hn1 => ⟨rfl, ?_⟩
  · exact om_
  dsimp only at hn1
  repeat (first
    | refine v0_ ?_
    | refine W.loop ?_
    | (refine d0_ ?_; refine W.loop ?_))
  refine r0_ ?_
  have y1 := fun n' hn => Stt.setd (n := n) (e := (splE deep b e).2) (n1 := n') hf ⟨_, hd⟩ hs.sr hs.nd hs.nm hn
  refine hk _ ids (y1 _ ?_) (Fr.setd (n1 := _) (o := decO n (splE deep b e).2) ?_ ⟨?_, fun _ _ _ _ => rfl, fun _ _ => rfl, fun _ hm => .inl hm⟩)
  · exact om_
  · exact om_
  · exact Nat.le_refl _
theorem feed_F : ∀ D, FC D := by
  intro D
  induction D with
  | zero =>
    intro x deep di q b d h ids K hdi hD hs h1 h2 h3 h4 hk
    obtain ⟨c, n, e⟩ := x
    subst hdi
    rcases spl_cases 0 deep hD b c n e with ⟨e1, e2⟩ | ⟨D', l, e1, _⟩
    · rw [e2] at hk
      exact feed_nil hD hs h3 e1 hk
    · cases e1
  | succ D IH =>
    intro x deep di q b d h ids K hdi hD hs h1 h2 h3 h4 hk
    obtain ⟨c, n, e⟩ := x
    subst hdi
    rcases spl_cases (D + 1) deep hD b c n e with ⟨e1, e2⟩ | ⟨D', l, eD, e0, hbl, hsp, e1, e2⟩
    · rw [e2] at hk
      exact feed_nil hD hs h3 e1 hk
    · have eD : D' = D := by omega
      subst eD
      subst e0
      rw [e2] at hk
      have hf := hs.fit
      have hd := hs.dec
      dsimp only at hd h1 h2 h3 h4
      obtain ⟨hu, hut, hX⟩ := fx4 hf
      have ld := in_under hu hd
      have hll := splitF_many _ b l (Nat.le_refl _) hsp
      have S1 : ∀ (h1 : CHeap) (K : CVal → CHeap → Prop), h1.ents = h.ents → h1.tys = h.tys → h.next ≤ h1.next → (∀ n', h1.next ≤ n' → K (recsV l) ⟨h.ents, n', h.tys⟩) → Wc tree.getF 32 [.ptr d DD 0, .str b, .int .i64 deep] h1 K := by
        intro h1 K q1 q2 q3 hK
        obtain ⟨E1, N1, T1⟩ := h1
        dsimp only at q1 q2 q3
        subst q1 q2
        refine spt_F (d := d) (n := n) (e := 0) (deep := deep) (b := b) (by omega) h3 ?_ ?_ fun n' hn => ?_
        · exact ⟨hu.le q3, hut.le q3⟩
        · exact hd
        rw [e1]
        dsimp only
        rw [setEnt_same hd]; exact hK n' hn
      have hu1 : (recsV l).isUndef = false := by cases l <;> rfl
      have hlen : (recsV l).lenOf = some l.length := by cases l <;> simp [recsV, CVal.lenOf]
      refine mk_ 20 c20 (s_ ?_)
      repeat ((fail_if_success (show Wc tree.getF 32 _ _ _)); first
        | refine st_ rfl ?_
        | ((first | refine W.regG ?_ | refine WoR.go ?_); generalize e : goR .. = r; simp (disch := omega) [hX] at e; replace e : some _ = _ := e; subst e; (try dsimp only [goW]))
        | (simp only [outOf, thenW_ret, thenW_exit, thenW_normal, roundW, reduceIte]))
      refine S1 _ _ rfl rfl ?_ fun n1 hn1 => ⟨hu1, ?_⟩
      · exact om_
      dsimp only at hn1
      cases l with
      | nil =>
        dsimp only [recsV] at *
        repeat ((fail_if_success (show W tree.getF fdL _ _)); first
          | refine st_ rfl ?_
          | ((first | refine W.regG ?_ | refine WoR.go ?_); generalize e : goR .. = r; simp (disch := omega) [hX] at e; replace e : some _ = _ := e; subst e; (try dsimp only [goW]))
          | (simp only [outOf, thenW_ret, thenW_exit, thenW_normal, roundW, reduceIte]))
        refine fd_go IH (deep := deep) (by omega) (l := ([] : List Rc)) (splitF_each _ b _ (Nat.le_refl _) hsp) (by (try simp only [List.length_cons, List.length_nil]); omega) d q b _ ([] : List Rc) [] (c, n, 0) _ ids _ _ _ _ _ _ rfl ?_ h1 h2 h3 ?_ ?_
        · have key := fun h1 g0 g1 g2 g3 => (Stt.ext (h1 := h1) hs g0 g1 g2 g3).1
          refine key _ ?_ ?_ ?_ ?_
          · exact fit_
          · exact om_
          · intro m hm; rfl
          · intro m hm; rfl
        · rw [splitF_raw _ b _ (Nat.le_refl _) hsp]; exact h4
        intro h' ids' i w5 w7 w9 w10 w11 w12 y1 y2
        have y3 := hk h' ids' y1 ⟨by have := y2.nx; dsimp only at this; omega, fun m hm => y2.en m (by dsimp only; omega), fun m hm => y2.ty m (by dsimp only; omega), fun m hm => by rcases y2.id m hm with h | h; exact .inl h; dsimp only at h; right; omega⟩
        constructor
        · simp only [outOf, thenW_ret, thenW_exit, thenW_normal, roundW, reduceIte]
          refine r0_ ?_
          exact y3
        · simp only [outOf, thenW_ret, thenW_exit, thenW_normal, roundW, reduceIte]
          refine r0_ ?_
          exact y3
      | cons r l =>
        dsimp only [recsV] at *
        have hll2 : (l.map recV).length = l.length := by simp
        simp only [List.length_cons] at hll
        have hZ := j2_ hX hll2
        repeat ((fail_if_success (show W tree.getF fdL _ _)); first
          | refine st_ rfl ?_
          | ((first | refine W.regG ?_ | refine WoR.go ?_); generalize e : goR .. = r; simp (disch := omega) [hZ] at e; replace e : some _ = _ := e; subst e; (try dsimp only [goW]))
          | (simp only [outOf, thenW_ret, thenW_exit, thenW_normal, roundW, reduceIte]))
        refine fd_go IH (deep := deep) (by omega) (l := (r :: l)) (splitF_each _ b _ (Nat.le_refl _) hsp) (by (try simp only [List.length_cons, List.length_nil]); omega) d q b _ (r :: l) [] (c, n, 0) _ ids _ _ _ _ _ _ rfl ?_ h1 h2 h3 ?_ ?_
        · have key := fun h1 g0 g1 g2 g3 => (Stt.ext (h1 := h1) hs g0 g1 g2 g3).1
          refine key _ ?_ ?_ ?_ ?_
          · exact fit_
          · exact om_
          · intro m hm; rfl
          · intro m hm; rfl
        · rw [splitF_raw _ b _ (Nat.le_refl _) hsp]; exact h4
        intro h' ids' i w5 w7 w9 w10 w11 w12 y1 y2
        have y3 := hk h' ids' y1 ⟨by have := y2.nx; dsimp only at this; omega, fun m hm => y2.en m (by dsimp only; omega), fun m hm => y2.ty m (by dsimp only; omega), fun m hm => by rcases y2.id m hm with h | h; exact .inl h; dsimp only at h; right; omega⟩
        constructor
        · simp only [outOf, thenW_ret, thenW_exit, thenW_normal, roundW, reduceIte]
          refine r0_ ?_
          exact y3
        · simp only [outOf, thenW_ret, thenW_exit, thenW_normal, roundW, reduceIte]
          refine r0_ ?_
          exact y3
end Go.Proofs.YtnddcjimijmenaaGreat.IrR
namespace Go.Proofs.YtnddcjimijmenaaGreat.IrR
open Go Go.CI
set_option maxRecDepth 100000
set_option maxHeartbeats 4000000
set_option linter.unusedVariables false
set_option linter.unusedSimpArgs false
attribute [local irreducible] W Wo Wc WoR

theorem ge_drop : ∀ {l : List (Nat × CObj)} {n m : Nat}, m < n → getEnt (dropEnts l n) m = getEnt l m
  | [], n, m, h => rfl
  | (i, o) :: r, n, m, h => by
    unfold dropEnts
    split
    · rename_i h1
      rw [ge_drop h]
      have : (i == m) = false := by simp; omega
      simp [getEnt, this]
    · rfl
theorem ge_dropC : ∀ {l : List (Nat × CObj)} {n m : Nat}, m < n → getEnt (dropCells l n) m = getEnt l m
  | [], n, m, h => rfl
  | (i, o) :: r, n, m, h => by
    have e : n ≤ i → (i == m) = false := fun _ => by simp; omega
    cases o <;> simp only [dropCells] <;> split <;> rename_i h1 <;> simp [getEnt, e, h1, ge_dropC h]
theorem un_drop : ∀ {l : List (Nat × CObj)} {n k : Nat}, Under l k → Under (dropEnts l n) k
  | [], n, k, h => h
  | (i, o) :: r, n, k, h => by
    unfold dropEnts
    split
    · exact un_drop fun x hx => h x (by simp [hx])
    · exact h
theorem un_dropC : ∀ {l : List (Nat × CObj)} {n k : Nat}, Under l k → Under (dropCells l n) k
  | [], n, k, h => h
  | (i, o) :: r, n, k, h => by
    have h1 : Under r k := fun x hx => h x (by simp [hx])
    have h2 : i < k := h (i, o) (by simp)
    unfold dropCells
    split
    · split
      · exact un_dropC h1
      · exact Under.cons h2 (un_dropC h1)
    · exact h
abbrev dnT : CCode := (.seq (.seq (.region [.v 0, .n 0, .f 3 0, .l 0, .g (.call false 39 [(.loc 0)]), .g (.call false 38 [(.loc 0)]), .g (.len false (.loc 0)), .m (.k 0)] [(5, 7), (6, 6), (8, 5)] [] []) (.block 2 (.loop true (.seq (.region [.g (.bin .lss (.var 5) (.var 6))] [(7, 0)] [] []) (.seq (.cond (.var 7) .skip (.exit 2)) (.seq (.block 3 (.seq (.region [.g (.idxAddr 1 (.var 8) (.var 5)), .l 0, .m (.loc 0)] [(9, 2)] [] []) (.seq (.region [.v 0, .n 0, .f 0 0, .g (.load (some 3) (.loc 0)), .v 9, .g (.call false 33 [(.loc 1), (.loc 0)]), .m (.loc 0), .g (.extract 0 (.loc 0)), .g (.extract 1 (.loc 1)), .g (.lazy 111149064), .g (.init 8 (.loc 0) (.loc 2)), .m (.loc 2)] [(11, 9)] [] []) (.seq (.region [.v 0, .n 0, .f 3 0, .l 0, .v 9, .g (.extl (.mlook (.int .i64) false .nils) [(.loc 1), (.loc 0)]), .m (.loc 0)] [(10, 6)] [] []) (.seq (.seq (.region [.v 10, .g (.len false (.loc 0)), .x .eql 0 (.k 0), .m (.loc 0), .q (.fieldAddr 2 (.var 11)) 0 false, .q (.load none (.loc 0)) 1 false, .q (.bin .eql (.loc 0) (.k 0)) 2 false, .q (.mv (.loc 0)) 3 false, .q (.fieldAddr 7 (.var 11)) 0 true, .q (.load none (.loc 0)) 1 true, .q (.bin .eql (.loc 0) (.k 0)) 2 true, .q (.pick (.loc 3) (.loc 0) (.b false)) 7 false, .q (.mv (.loc 0)) 8 false, .q (.fieldAddr 3 (.var 11)) 0 true, .q (.load none (.loc 0)) 1 true, .q (.bin .neq (.loc 0) (.k 16)) 2 true, .q (.pick (.loc 3) (.loc 0) (.b false)) 12 false, .q (.mv (.loc 0)) 13 false, .q (.mv (.var 10)) 0 true, .q (.idxAddr 4 (.loc 0) (.k 0)) 1 true, .q (.load (some 4) (.loc 0)) 2 true, .q (.call false 40 [(.loc 0)]) 3 true, .q (.pick (.loc 4) (.loc 0) (.b false)) 18 false, .g (.pick (.loc 19) (.b true) (.loc 0))] [(12, 23)] [] []) (.cond (.var 12) (.exit 3) .skip)) (.region [.g (.fieldAddr 0 (.var 13)), .l 0, .v 9, .v 10, .g (.build [(.int .i64 0), .nils] [(0, 1, (.loc 1)), (1, 1, (.loc 0))]), .g (.lit .imm true [(.int .i64 0), .nils] 1 [(0, (.loc 0))]), .g (.append .imm 0 2 (.loc 4) (.loc 0)), .g (.fieldAddr 0 (.var 13)), .g (.store 1 (.loc 0) (.loc 1))] [] [] [])))))) (.region [.g (.bin .add (.var 5) (.k 1)), .m (.loc 0)] [(5, 1)] [] []))))))) (.seq (.region [.g (.load (some 2) (.var 13)), .g (.store 2 (.var 14) (.loc 0))] [] [] []) .ret))
theorem dn_t0 {q a b c13 c14 n0 : Nat} {b0 b1 : CVal} {r : List UInt8} {h : CHeap} (hf : Fit h) (hq : getEnt h.ents q = some (staO a b b0 b1)) (ha : getEnt h.ents a = some (.map 0 [])) (h13 : getEnt h.ents c13 = some (.cells [.nils, .str r])) (h14 : getEnt h.ents c14 = some (.cells [.nils, .str []])) (hne : c13 ≠ c14) (l13 : n0 ≤ c13) (l14 : n0 ≤ c14) (w1 w2 w3 w4 w5 w6 w7 w8 w9 w10 w11 w12 : CVal) {K : CVal → CHeap → Prop}
    (hk : ∀ h', Fit h' → h.next ≤ h'.next → (∀ m, m < n0 → getEnt h'.ents m = getEnt h.ents m) → (∀ m, m < n0 → lookupN h'.tys m = lookupN h.tys m) → K (.agg [.nils, .str r]) h') :
    W tree.getF dnT ⟨[.ptr q SD 0, w1, w2, w3, w4, w5, w6, w7, w8, w9, w10, w11, w12, .ptr c13 41943042 0, .ptr c14 41943042 0], h, []⟩ (endW c21 n0 K) := by
  obtain ⟨hu, hut, hX⟩ := fx4 hf
  have hY14 := fx5 hf h14; have ⟨hG14, hD14, hC14, hN14⟩ := hY14
  have p13 := in_under hu h13
  have p14 := in_under hu h14
  have pa := in_under hu ha
  have pq := in_under hu hq
  have hZ := j6_ hX hq ha h13 h14 hY14
  repeat (first
    | refine vk_ ?_
    | refine W.loop ?_
    | (refine dk_ ?_; refine W.loop ?_)
    | (refine pe_ (field_1) fun n1 hn1 => ⟨rfl, ?_⟩; (try dsimp only at hn1))
    | ((refine Wc.primM (f := 38) (p := (pSortedI 65)) (by kernel_rfl) ?_; generalize e : ((pSortedI 65)) _ _ = r; simp (disch := omega) [hZ, pSortedI, keysKI, risesTo, uniqI, sortI, insI] at e; subst e; (try dsimp only); refine ⟨rfl, ?_⟩))
    | (refine mk_ 39 c39 (s_ ?_))
    | (refine rk_ ?_; refine ⟨rfl, ?_⟩))
  refine rk_ ?_
  refine hk ⟨_, _, _⟩ ⟨(un_drop hu.set).le (by (try dsimp only); omega), hut.le (by (try dsimp only); omega)⟩ (by (try dsimp only); omega) (fun m hm => ?_) (fun _ _ => rfl)
  dsimp only
  rw [ge_drop hm, getEnt_setEnt_ne (by omega)]
theorem dn_t1 {q a b c13 c14 n0 : Nat} {b0 b1 : CVal} {r : List UInt8} {es : List CVal} (hes : es.length = 1) {h : CHeap} (hf : Fit h) (hq : getEnt h.ents q = some (staO a b b0 b1)) (ha : getEnt h.ents a = some (.map 1 [(0, .int .i64 1, .imm .full 4 es)])) (h13 : getEnt h.ents c13 = some (.cells [.nils, .str r])) (h14 : getEnt h.ents c14 = some (.cells [.nils, .str []])) (hne : c13 ≠ c14) (l13 : n0 ≤ c13) (l14 : n0 ≤ c14) (w1 w2 w3 w4 w5 w6 w7 w8 w9 w10 w11 w12 : CVal) {K : CVal → CHeap → Prop}
    (hk : ∀ h', Fit h' → h.next ≤ h'.next → (∀ m, m < n0 → getEnt h'.ents m = getEnt h.ents m) → (∀ m, m < n0 → lookupN h'.tys m = lookupN h.tys m) → K (.agg [.imm .none 2 [.agg [.int .i64 1, .imm .full 4 es]], .str r]) h') :
    W tree.getF dnT ⟨[.ptr q SD 0, w1, w2, w3, w4, w5, w6, w7, w8, w9, w10, w11, w12, .ptr c13 41943042 0, .ptr c14 41943042 0], h, []⟩ (endW c21 n0 K) := by
  obtain ⟨hu, hut, hX⟩ := fx4 hf
  have hY14 := fx5 hf h14; have ⟨hG14, hD14, hC14, hN14⟩ := hY14
  have hY13 := fx5 hf h13; have ⟨hG13, hD13, hC13, hN13⟩ := hY13
  have p13 := in_under hu h13
  have p14 := in_under hu h14
  have pa := in_under hu ha
  have pq := in_under hu hq
  have s1 : ∀ x y, getEnt (setEnt (setEnt h.ents c13 x) c14 y) c13 = some x := fun x y => by rw [getEnt_setEnt_ne hne]; exact sy_getEnt_setEnt h13
  have s2 : ∀ x, getEnt (setEnt h.ents c13 x) c14 = some (.cells [.nils, .str []]) := fun x => by rw [getEnt_setEnt_ne (Ne.symm hne)]; exact h14
  have s4 : ∀ x y, getEnt (setEnt (setEnt h.ents c13 x) c14 y) c14 = some y := fun x y => sy_getEnt_setEnt (s2 x)
  have s3 : ∀ x, getEnt (setEnt h.ents c13 x) q = some (staO a b b0 b1) ∨ q = c13 := fun x => by
    by_cases e : q = c13
    · exact .inr e
    · exact .inl (by rw [getEnt_setEnt_ne e]; exact hq)
  have hZ := j11_ hX hq ha h13 h14 hY14 hY13 hes s1 s2 s4
  repeat (first
    | refine vk_ ?_
    | refine W.loop ?_
    | (refine dk_ ?_; refine W.loop ?_)
    | (refine pe_ (field_1) fun n1 hn1 => ⟨rfl, ?_⟩; (try dsimp only at hn1))
    | ((refine Wc.primM (f := 38) (p := (pSortedI 65)) (by kernel_rfl) ?_; generalize e : ((pSortedI 65)) _ _ = r; simp (disch := omega) [hZ, pSortedI, keysKI, risesTo, uniqI, sortI, insI] at e; subst e; (try dsimp only); refine ⟨rfl, ?_⟩))
    | (refine mk_ 39 c39 (s_ ?_))
    | (refine rk_ ?_; refine ⟨rfl, ?_⟩))
  refine rk_ ?_
  refine hk ⟨_, _, _⟩ ⟨(un_drop hu.set.set).le (by (try dsimp only); omega), hut.le (by (try dsimp only); omega)⟩ (by (try dsimp only); omega) (fun m hm => ?_) (fun _ _ => rfl)
  dsimp only
  rw [ge_drop hm, getEnt_setEnt_ne (by omega), getEnt_setEnt_ne (by omega)]
end Go.Proofs.YtnddcjimijmenaaGreat.IrR
