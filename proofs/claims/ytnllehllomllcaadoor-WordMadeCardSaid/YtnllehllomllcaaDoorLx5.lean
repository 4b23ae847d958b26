/- What the functions of the law 'WordMade' do: part 5 of 8. -/
import Derived.Test.YtnllehllomllcaaDoorLx4
namespace Go.Proofs.YtnllehllomllcaaDoor.IrM
open Go Go.CI
open Go.LexF hiding spacesB lettersB
set_option maxRecDepth 100000
set_option linter.unusedVariables false
set_option linter.unusedSimpArgs false
attribute [local irreducible] W Wo Wc WoR
abbrev zLp : CCode := (.loop true (.seq (.seq (.region [.v 0, .n 0, .f 1 0, .l 0, .v 0, .n 0, .f 0 0, .l 0, .g (.len true (.loc 0)), .g (.bin .lss (.loc 5) (.loc 0)), .m (.loc 0), ⟨.mv (.var 0), (some (0, true))⟩, ⟨.nilck (.loc 0), (some (1, true))⟩, ⟨.fieldAddr 0 (.loc 0), (some (2, true))⟩, ⟨.load none (.loc 0), (some (3, true))⟩, ⟨.mv (.var 0), (some (4, true))⟩, ⟨.nilck (.loc 0), (some (5, true))⟩, ⟨.fieldAddr 1 (.loc 0), (some (6, true))⟩, ⟨.load none (.loc 0), (some (7, true))⟩, ⟨.idxStr (.loc 4) (.loc 0), (some (8, true))⟩, ⟨.bin .neq (.loc 0) (.const (.int .u8 10)), (some (9, true))⟩, .g (.pick (.loc 10) (.loc 0) (.const (.bool false)))] [(5, 21)] [] []) (.cond (.var 5) .skip (.exit 3))) (.block 4 (.region [.v 0, .n 0, .f 1 0, .l 0, .g (.bin .add (.loc 0) (.const (.int .i64 1))), .n 4, .f 1 0, .g (.store 1 (.loc 0) (.loc 2))] [] [] []))))
abbrev cmtLoop : CCode := (.loop true (.seq (.seq (.region [.v 0, .n 0, .f 1 0, .l 0, .v 0, .n 0, .f 0 0, .l 0, .g (.len true (.loc 0)), .g (.bin .lss (.loc 5) (.loc 0)), .m (.loc 0), ⟨.mv (.var 0), (some (0, true))⟩, ⟨.call false 29 [(.loc 0), (.const (.str [42, 47]))], (some (1, true))⟩, ⟨.not (.loc 0), (some (2, true))⟩, .g (.pick (.loc 3) (.loc 0) (.const (.bool false)))] [(7, 14)] [] []) (.cond (.var 7) .skip (.exit 5))) (.block 6 (.region [.v 0, .n 0, .f 1 0, .l 0, .g (.bin .add (.loc 0) (.const (.int .i64 1))), .n 4, .f 1 0, .g (.store 1 (.loc 0) (.loc 2))] [] [] []))))
theorem zB7 {s r : List UInt8} {c : UInt8} {i : Nat} (h : s.drop i = c :: r) : s[i]? = some c := by
  have := congrArg List.head? h
  simpa using this
theorem zBi {s r : List UInt8} {c : UInt8} {i : Nat} (h : s.drop i = c :: r) : s.drop (i + 1) = r := by
  have := congrArg (List.drop 1) h
  rw [List.drop_drop] at this
  simpa using this
theorem ref_line (s : List UInt8) (hs : s.length < 60000) (p d : Nat) (t : Int) (Q : CExit → CSt → Prop) (v1 v2 v3 v4 v6 v7 v8 v9 : CVal) : ∀ (r : List UInt8) (i : Nat), s.drop i = r → i + r.length = s.length → ∀ (h : CHeap) (v5 : CVal), zA3 h.ents p = some (lx s (i : Int) 0 t) → Fit h → p < h.next →
    (∀ n' ty w5, h.next ≤ n' → zA4 ty n' → Q (.exit 3) ⟨[.ptr p d 0, v1, v2, v3, v4, w5, v6, v7, v8, v9], ⟨zA0 h.ents p (lx s ((s.length - (zAq r).length : Nat) : Int) 0 t), n', ty⟩, []⟩) →
    W tree.getF zLp ⟨[.ptr p d 0, v1, v2, v3, v4, v5, v6, v7, v8, v9], h, []⟩ Q := by
  intro r
  induction r with
  | nil =>
    intro i hd hlen h v5 hg hf hp hk
    simp only [List.length_nil, Nat.add_zero] at hlen
    subst hlen
    have e0 : s.length - (zAq []).length = s.length := by simp [zAq]
    rw [e0, zAm hg] at hk
    obtain ⟨hu, hut, hX⟩ := fx4 hf
    have hY := fx5 hf hg; have ⟨hG, hD2, hC2, hN2⟩ := hY
    refine W.loop ?_
    repeat (first | refine sq_ ?_ | refine bl_ ?_ | ((first | refine rg_ ?_ | refine go_ ?_); generalize e : goR _ _ _ _ _ _ _ _ = r; simp (disch := omega) [hX, hg, hY] at e; replace e : some _ = _ := e; subst e; (try dsimp only [goW])) | refine ct_ rfl ?_ | refine cf_ rfl ?_ | refine sk_ ?_ | refine ex_ ?_)
    all_goals (refine hk _ _ _ ?_ ?_; omega; exact ut_)
  | cons c r ih =>
    intro i hd hlen h v5 hg hf hp hk
    simp only [List.length_cons] at hlen
    have hc0 := zB7 hd
    obtain ⟨hi, hce⟩ := List.getElem?_eq_some_iff.1 hc0
    obtain ⟨hu, hut, hX⟩ := fx4 hf
    have hY := fx5 hf hg; have ⟨hG, hD2, hC2, hN2⟩ := hY
    by_cases hc : c.toNat = 10
    · have hc1 : c = 10 := UInt8.toNat_inj.1 hc
      have e0 : s.length - (zAq (c :: r)).length = i := by unfold zAq; rw [if_pos hc1]; simp; omega
      rw [e0, zAm hg] at hk
      refine W.loop ?_
      repeat (first | refine sq_ ?_ | refine bl_ ?_ | ((first | refine rg_ ?_ | refine go_ ?_); generalize e : goR _ _ _ _ _ _ _ _ = r; simp (disch := omega) [hX, hg, hY, hce, hc0] at e; replace e : some _ = _ := e; subst e; (try dsimp only [goW])) | refine ct_ rfl ?_ | refine cf_ rfl ?_ | refine sk_ ?_ | refine ex_ ?_)
      all_goals (refine hk _ _ _ ?_ ?_; omega; exact ut_)
    · have hc1 : ¬ c = 10 := fun e => hc (by rw [e]; rfl)
      have e0 : zAq (c :: r) = zAq r := by
          conv => lhs; unfold zAq
          rw [if_neg hc1]
      rw [e0] at hk
      have hcont : ∀ (h' : CHeap) (w5 : CVal), h'.ents = zA0 h.ents p (lx s ((i : Int) + 1) 0 t) → h.next ≤ h'.next → zA4 h'.tys h'.next → W tree.getF zLp ⟨[.ptr p d 0, v1, v2, v3, v4, w5, v6, v7, v8, v9], h', []⟩ Q := by
        intro h' w5 e1 e2 e3
        have e4 : ((i : Int) + 1) = ((i + 1 : Nat) : Int) := by omega
        rw [e4] at e1
        refine ih (i + 1) (zBi hd) (by omega) h' w5 (by rw [e1]; exact hG _) ⟨by rw [e1]; exact hu.set.le e2, e3⟩ (by omega) ?_
        intro n' ty u5 g1 g2
        rw [e1, zA5]
        exact hk n' ty u5 (by omega) g2
      refine W.loop ?_
      repeat (first | refine sq_ ?_ | refine bl_ ?_ | ((first | refine rg_ ?_ | refine go_ ?_); generalize e : goR _ _ _ _ _ _ _ _ = r; simp (disch := omega) [hX, hg, hY, hce, hc0] at e; replace e : some _ = _ := e; subst e; (try dsimp only [goW])) | refine ct_ rfl ?_ | refine cf_ rfl ?_ | refine sk_ ?_ | refine ex_ ?_)
      show W tree.getF zLp (dropped true _ _) Q
      generalize e : dropped _ _ _ = r0
      simp (disch := omega) [hX, hg, hY] at e
      subst e
      try dsimp only
      refine hcont _ _ ?_ ?_ ?_
      · rfl
      · (try dsimp only); omega
      · exact zA4.le (by assumption) (by (try dsimp only); omega)

theorem ref_cmt (s : List UInt8) (hs : s.length < 60000) (p d : Nat) (t : Int) (Q : CExit → CSt → Prop) (v1 v2 v3 v4 v5 v6 v8 v9 : CVal) : ∀ (r : List UInt8) (i : Nat), s.drop i = r → i + r.length = s.length → ∀ (h : CHeap) (v7 : CVal), zA3 h.ents p = some (lx s (i : Int) 0 t) → Fit h → p < h.next →
    (∀ n' ty w7, h.next ≤ n' → zA4 ty n' → zBb r = none → Q (.exit 5) ⟨[.ptr p d 0, v1, v2, v3, v4, v5, v6, w7, v8, v9], ⟨zA0 h.ents p (lx s (s.length : Int) 0 t), n', ty⟩, []⟩) →
    (∀ n' ty w7 u, h.next ≤ n' → zA4 ty n' → zBb r = some u → Q (.exit 5) ⟨[.ptr p d 0, v1, v2, v3, v4, v5, v6, w7, v8, v9], ⟨zA0 h.ents p (lx s ((s.length - u.length - 2 : Nat) : Int) 0 t), n', ty⟩, []⟩) →
    W tree.getF cmtLoop ⟨[.ptr p d 0, v1, v2, v3, v4, v5, v6, v7, v8, v9], h, []⟩ Q := by
  intro r
  induction r with
  | nil =>
    intro i hd hlen h v7 hg hf hp hk1 hk2
    simp only [List.length_nil, Nat.add_zero] at hlen
    subst hlen
    rw [zAm hg] at hk1
    obtain ⟨hu, hut, hX⟩ := fx4 hf
    have hY := fx5 hf hg; have ⟨hG, hD2, hC2, hN2⟩ := hY
    refine W.loop ?_
    repeat (first | refine sq_ ?_ | refine bl_ ?_ | ((first | refine rg_ ?_ | refine go_ ?_); generalize e : goR _ _ _ _ _ _ _ _ = r; simp (disch := omega) [hX, hg, hY] at e; replace e : some _ = _ := e; subst e; (try dsimp only [goW])) | refine ct_ rfl ?_ | refine cf_ rfl ?_ | refine sk_ ?_ | refine ex_ ?_)
    all_goals (refine hk1 _ _ _ ?_ ?_ rfl; omega; exact ut_)
  | cons c r ih =>
    intro i hd hlen h v7 hg hf hp hk1 hk2
    have hlen0 := hlen
    simp only [List.length_cons] at hlen
    have hc0 := zB7 hd
    obtain ⟨hi, hce⟩ := List.getElem?_eq_some_iff.1 hc0
    obtain ⟨hu, hut, hX⟩ := fx4 hf
    have hY := fx5 hf hg; have ⟨hG, hD2, hC2, hN2⟩ := hY
    by_cases hq : (c :: r).take 2 = [42, 47]
    · obtain ⟨u, hu1⟩ : ∃ u, c :: r = 42 :: 47 :: u := ⟨(c :: r).drop 2, by have := List.take_append_drop 2 (c :: r); rw [hq] at this; exact this.symm⟩
      have e0 : zBb (c :: r) = some u := by rw [hu1]; unfold zBb; simp
      have hl2 : (c :: r).length = u.length + 2 := by rw [hu1]; rfl
      rw [List.length_cons] at hl2
      have e1 : s.length - u.length - 2 = i := by omega
      have hk2' : ∀ n' ty w7, h.next ≤ n' → zA4 ty n' → Q (.exit 5) ⟨[.ptr p d 0, v1, v2, v3, v4, v5, v6, w7, v8, v9], ⟨h.ents, n', ty⟩, []⟩ := fun n' ty w7 g1 g2 => by
        have := hk2 n' ty w7 u g1 g2 e0
        rw [e1, zAm hg] at this; exact this
      have S0 := zH6 s i 0 t [42, 47] hs (by rw [hd]; exact hq) (by simp; omega)
      refine W.loop ?_
      repeat (first | refine sq_ ?_ | refine bl_ ?_ | ((first | refine rg_ ?_ | refine go_ ?_); generalize e : goR _ _ _ _ _ _ _ _ = r; simp (disch := omega) [hX, hg, hY, hce, hc0] at e; replace e : some _ = _ := e; subst e; (try dsimp only [goW])) | refine ct_ rfl ?_ | refine cf_ rfl ?_ | refine sk_ ?_ | refine ex_ ?_ | (refine S0 _ p d ?_ ?_ ?_ _ fun n1 tyn1 hn1 hun1 => ⟨rfl, ?_⟩; exact fit_; exact ge_; (try dsimp only); omega; (try dsimp only at hn1)))
      all_goals (refine hk2' _ _ _ ?_ ?_; omega; exact ut_)
    · have e0 : zBb (c :: r) = zBb r := by
        conv => lhs; unfold zBb
        by_cases h42 : c = 42
        · subst h42
          rw [if_pos rfl]
          cases r with
          | nil => rfl
          | cons b r' =>
            dsimp only
            rw [if_neg (fun e => hq (by rw [e]; rfl))]
        · rw [if_neg h42]
      rw [e0] at hk1 hk2
      have hcont : ∀ (h' : CHeap) (w7 : CVal), h'.ents = zA0 h.ents p (lx s ((i : Int) + 1) 0 t) → h.next ≤ h'.next → zA4 h'.tys h'.next → W tree.getF cmtLoop ⟨[.ptr p d 0, v1, v2, v3, v4, v5, v6, w7, v8, v9], h', []⟩ Q := by
        intro h' w7 e1 e2 e3
        have e4 : ((i : Int) + 1) = ((i + 1 : Nat) : Int) := by omega
        rw [e4] at e1
        refine ih (i + 1) (zBi hd) (by omega) h' w7 (by rw [e1]; exact hG _) ⟨by rw [e1]; exact hu.set.le e2, e3⟩ (by omega) ?_ ?_
        · intro n' ty u7 g1 g2 g3
          rw [e1, zA5]
          exact hk1 n' ty u7 (by omega) g2 g3
        · intro n' ty u7 u g1 g2 g3
          rw [e1, zA5]
          exact hk2 n' ty u7 u (by omega) g2 g3
      have S0 : ∀ (h : CHeap) (hf : Fit h) (hg : zA3 h.ents p = some (lx s (i : Int) 0 t)) (hp : p < h.next) (K : CVal → CHeap → Prop) (hk : ∀ n' ty, h.next ≤ n' → zA4 ty n' → K (.bool false) ⟨h.ents, n', ty⟩), Wc tree.getF 29 [.ptr p d 0, .str [42, 47]] h K := fun h hf hg hp K hk => by
        by_cases hle : i + 2 ≤ s.length
        · exact zGv s i 0 t [42, 47] hs hle (by rw [hd]; simpa using hq) h p d hf hg hp K hk
        · exact zHg s i 0 t [42, 47] hs (by omega) (by simp) (by simp; omega) h p d hf hg hp K hk
      refine W.loop ?_
      repeat (first | refine sq_ ?_ | refine bl_ ?_ | ((first | refine rg_ ?_ | refine go_ ?_); generalize e : goR _ _ _ _ _ _ _ _ = r; simp (disch := omega) [hX, hg, hY, hce, hc0] at e; replace e : some _ = _ := e; subst e; (try dsimp only [goW])) | refine ct_ rfl ?_ | refine cf_ rfl ?_ | refine sk_ ?_ | refine ex_ ?_ | (refine S0 _ ?_ ?_ ?_ _ fun n1 tyn1 hn1 hun1 => ⟨rfl, ?_⟩; exact fit_; exact ge_; (try dsimp only); omega; (try dsimp only at hn1)))
      show W tree.getF cmtLoop (dropped true _ _) Q
      generalize e : dropped _ _ _ = r0
      simp (disch := omega) [hX, hg, hY] at e
      subst e
      try dsimp only
      refine hcont _ _ ?_ ?_ ?_
      · rfl
      · (try dsimp only); omega
      · exact zA4.le (by assumption) (by (try dsimp only); omega)
theorem zDe {p : UInt8 → Bool} (h : (List.range 256).all (fun k => p (UInt8.ofNat k)) = true) (c : UInt8) : p c = true := by
  have h1 := List.all_eq_true.1 h c.toNat (List.mem_range.2 c.toNat_lt)
  rwa [show UInt8.ofNat c.toNat = c by simp] at h1
theorem sp_eq (c : UInt8) : Go.LexF.spacesB.contains c = decide (9 ≤ c.toNat ∧ c.toNat ≤ 13 ∨ c.toNat = 32) := by
  have := zDe (p := fun c => Go.LexF.spacesB.contains c == decide (9 ≤ c.toNat ∧ c.toNat ≤ 13 ∨ c.toNat = 32)) (by decide +kernel) c
  simpa using this
abbrev zEt : CCode := (.loop true (.seq (.seq (.region [.v 0, .n 0, .f 1 0, .l 0, .v 0, .n 0, .f 0 0, .l 0, .g (.len true (.loc 0)), .g (.bin .lss (.loc 5) (.loc 0)), .m (.loc 0), ⟨.mv (.var 0), (some (0, true))⟩, ⟨.nilck (.loc 0), (some (1, true))⟩, ⟨.fieldAddr 2 (.loc 0), (some (2, true))⟩, ⟨.load none (.loc 0), (some (3, true))⟩, ⟨.bin .eql (.loc 0) (.const (.int .i64 0)), (some (4, true))⟩, .g (.pick (.loc 5) (.loc 0) (.const (.bool false)))] [(1, 16)] [] []) (.cond (.var 1) .skip (.exit 0))) (.block 1 (.seq (.region [.v 0, .n 0, .f 0 0, .l 0, .v 0, .n 0, .f 1 0, .l 0, .g (.idxStr (.loc 4) (.loc 0)), .m (.loc 0)] [(2, 9)] [] []) (.block 2 (.seq (.region [.v 2, .g (.bin .geq (.loc 0) (.const (.int .u8 9))), .m (.loc 0), ⟨.mv (.var 2), (some (0, true))⟩, ⟨.bin .leq (.loc 0) (.const (.int .u8 13)), (some (1, true))⟩, .g (.pick (.loc 2) (.loc 0) (.const (.bool false))), .m (.loc 0), ⟨.mv (.var 2), (some (0, false))⟩, ⟨.bin .eql (.loc 0) (.const (.int .u8 32)), (some (1, false))⟩, .g (.pick (.loc 2) (.const (.bool true)) (.loc 0)), .m (.loc 0)] [(3, 10)] [] []) (.cond (.var 3) (.region [.v 0, .n 0, .f 1 0, .l 0, .g (.bin .add (.loc 0) (.const (.int .i64 1))), .n 4, .f 1 0, .g (.store 1 (.loc 0) (.loc 2))] [] [] []) (.seq (.region [.v 0, .g (.call false 29 [(.loc 0), (.const (.str [47, 47]))]), .m (.loc 0)] [(4, 2)] [] []) (.cond (.var 4) (.block 3 (.loop true (.seq (.seq (.region [.v 0, .n 0, .f 1 0, .l 0, .v 0, .n 0, .f 0 0, .l 0, .g (.len true (.loc 0)), .g (.bin .lss (.loc 5) (.loc 0)), .m (.loc 0), ⟨.mv (.var 0), (some (0, true))⟩, ⟨.nilck (.loc 0), (some (1, true))⟩, ⟨.fieldAddr 0 (.loc 0), (some (2, true))⟩, ⟨.load none (.loc 0), (some (3, true))⟩, ⟨.mv (.var 0), (some (4, true))⟩, ⟨.nilck (.loc 0), (some (5, true))⟩, ⟨.fieldAddr 1 (.loc 0), (some (6, true))⟩, ⟨.load none (.loc 0), (some (7, true))⟩, ⟨.idxStr (.loc 4) (.loc 0), (some (8, true))⟩, ⟨.bin .neq (.loc 0) (.const (.int .u8 10)), (some (9, true))⟩, .g (.pick (.loc 10) (.loc 0) (.const (.bool false)))] [(5, 21)] [] []) (.cond (.var 5) .skip (.exit 3))) (.block 4 (.region [.v 0, .n 0, .f 1 0, .l 0, .g (.bin .add (.loc 0) (.const (.int .i64 1))), .n 4, .f 1 0, .g (.store 1 (.loc 0) (.loc 2))] [] [] []))))) (.seq (.region [.v 0, .g (.call false 29 [(.loc 0), (.const (.str [47, 42]))]), .m (.loc 0)] [(6, 2)] [] []) (.cond (.var 6) (.seq (.region [.v 0, .n 0, .f 1 0, .l 0, .m (.loc 0)] [(9, 4)] [] []) (.seq (.region [.v 0, .v 0, .n 0, .f 1 0, .l 0, .g (.bin .add (.loc 0) (.const (.int .i64 2))), .n 5, .f 1 0, .g (.store 1 (.loc 0) (.loc 2))] [] [] []) (.seq (.block 5 (.loop true (.seq (.seq (.region [.v 0, .n 0, .f 1 0, .l 0, .v 0, .n 0, .f 0 0, .l 0, .g (.len true (.loc 0)), .g (.bin .lss (.loc 5) (.loc 0)), .m (.loc 0), ⟨.mv (.var 0), (some (0, true))⟩, ⟨.call false 29 [(.loc 0), (.const (.str [42, 47]))], (some (1, true))⟩, ⟨.not (.loc 0), (some (2, true))⟩, .g (.pick (.loc 3) (.loc 0) (.const (.bool false)))] [(7, 14)] [] []) (.cond (.var 7) .skip (.exit 5))) (.block 6 (.region [.v 0, .n 0, .f 1 0, .l 0, .g (.bin .add (.loc 0) (.const (.int .i64 1))), .n 4, .f 1 0, .g (.store 1 (.loc 0) (.loc 2))] [] [] []))))) (.seq (.seq (.region [.v 0, .n 0, .f 1 0, .l 0, .v 0, .n 0, .f 0 0, .l 0, .g (.len true (.loc 0)), .g (.bin .geq (.loc 5) (.loc 0))] [(8, 9)] [] []) (.cond (.var 8) (.seq (.region [.v 0, .v 9, .g (.call false 30 [(.loc 1), (.const (.int .i64 2)), (.loc 0)])] [] [] []) .ret) .skip)) (.region [.v 0, .v 0, .n 0, .f 1 0, .l 0, .g (.bin .add (.loc 0) (.const (.int .i64 2))), .n 5, .f 1 0, .g (.store 1 (.loc 0) (.loc 2))] [] [] []))))) .ret)))))))))))
theorem ref_space (s : List UInt8) (hs : s.length < 60000) (p d : Nat) (t : Int) (Q : CExit → CSt → Prop) : ∀ (m : Nat) (r : List UInt8) (i : Nat), r.length ≤ m → s.drop i = r → i + r.length = s.length → ∀ (h : CHeap) (v1 v2 v3 v4 v5 v6 v7 v8 v9 : CVal), zA3 h.ents p = some (lx s (i : Int) 0 t) → Fit h → p < h.next →
    (∀ x n' ty v1 v2 v3 v4 v5 v6 v7 v8 v9, (x = .ret ∨ x = .exit 0) → h.next ≤ n' → zA4 ty n' → (zBd r).2 = true → Q x ⟨[.ptr p d 0, v1, v2, v3, v4, v5, v6, v7, v8, v9], ⟨zA0 h.ents p (lx s ((s.length - (zBd r).1.length : Nat) : Int) 0 t), n', ty⟩, []⟩) →
    (∀ n' ty v1 v2 v3 v4 v5 v6 v7 v8 v9, h.next ≤ n' → zA4 ty n' → (zBd r).2 = false → Q .ret ⟨[.ptr p d 0, v1, v2, v3, v4, v5, v6, v7, v8, v9], ⟨zA0 h.ents p (lx s (s.length : Int) 2 ((s.length - (zBd r).1.length : Nat) : Int)), n', ty⟩, []⟩) →
    W tree.getF zEt ⟨[.ptr p d 0, v1, v2, v3, v4, v5, v6, v7, v8, v9], h, []⟩ Q := by
  intro m
  induction m with
  | zero =>
    intro r i hm hd hlen h v1 v2 v3 v4 v5 v6 v7 v8 v9 hg hf hp hk1 hk2
    obtain rfl : r = [] := List.length_eq_zero_iff.1 (by omega)
    rw [zEu] at hk1
    simp only [List.length_nil, Nat.add_zero] at hlen
    subst hlen
    simp only [List.length_nil, Nat.sub_zero, zAm hg] at hk1
    obtain ⟨hu, hut, hX⟩ := fx4 hf
    have hY := fx5 hf hg; have ⟨hG, hD2, hC2, hN2⟩ := hY
    refine W.loop ?_
    repeat (first | refine sq_ ?_ | refine bl_ ?_ | ((first | refine rg_ ?_ | refine go_ ?_); generalize e : goR _ _ _ _ _ _ _ _ = r; simp (disch := omega) [hX, hg, hY] at e; replace e : some _ = _ := e; subst e; (try dsimp only [goW])) | refine ct_ rfl ?_ | refine cf_ rfl ?_ | refine sk_ ?_ | refine ex_ ?_)
    all_goals ((try refine W.ret ?_); (try simp only [zAg, zA1, zA7]); (first | refine hk1 _ _ _ _ _ _ _ _ _ _ _ _ (.inl rfl) ?_ ?_ (by first | rfl | trivial) | refine hk1 _ _ _ _ _ _ _ _ _ _ _ _ (.inr rfl) ?_ ?_ (by first | rfl | trivial)); omega; exact ut_)
  | succ m ih =>
    intro r i hm hd hlen h v1 v2 v3 v4 v5 v6 v7 v8 v9 hg hf hp hk1 hk2
    have hnext : ∀ (j : Nat) (r' : List UInt8), r'.length ≤ m → s.drop j = r' → j + r'.length = s.length → zBd r = zBd r' → ∀ (h' : CHeap) (w1 w2 w3 w4 w5 w6 w7 w8 w9 : CVal), h'.ents = zA0 h.ents p (lx s (j : Int) 0 t) → h.next ≤ h'.next → zA4 h'.tys h'.next → W tree.getF zEt ⟨[.ptr p d 0, w1, w2, w3, w4, w5, w6, w7, w8, w9], h', []⟩ Q := by
      intro j r' hm' hd' hl' hsk h' w1 w2 w3 w4 w5 w6 w7 w8 w9 e1 e2 e3
      rw [hsk] at hk1 hk2
      have hG : ∀ x, zA3 (zA0 h.ents p x) p = some x := fun x => zAb hg
      refine ih r' j hm' hd' hl' h' _ _ _ _ _ _ _ _ _ (by rw [e1]; exact hG _) ⟨by rw [e1]; exact hf.1.set.le e2, e3⟩ (by omega) ?_ ?_
      · intro x n' ty u1 u2 u3 u4 u5 u6 u7 u8 u9 g0 g1 g2 g3
        rw [e1, zA5]
        exact hk1 x n' ty u1 u2 u3 u4 u5 u6 u7 u8 u9 g0 (by omega) g2 g3
      · intro n' ty u1 u2 u3 u4 u5 u6 u7 u8 u9 g1 g2 g3
        rw [e1, zA5]
        exact hk2 n' ty u1 u2 u3 u4 u5 u6 u7 u8 u9 (by omega) g2 g3
    cases r with
    | nil =>
      rw [zEu] at hk1
      simp only [List.length_nil, Nat.add_zero] at hlen
      subst hlen
      simp only [List.length_nil, Nat.sub_zero, zAm hg] at hk1
      obtain ⟨hu, hut, hX⟩ := fx4 hf
      have hY := fx5 hf hg; have ⟨hG, hD2, hC2, hN2⟩ := hY
      refine W.loop ?_
      repeat (first | refine sq_ ?_ | refine bl_ ?_ | ((first | refine rg_ ?_ | refine go_ ?_); generalize e : goR _ _ _ _ _ _ _ _ = r; simp (disch := omega) [hX, hg, hY] at e; replace e : some _ = _ := e; subst e; (try dsimp only [goW])) | refine ct_ rfl ?_ | refine cf_ rfl ?_ | refine sk_ ?_ | refine ex_ ?_)
      all_goals ((try refine W.ret ?_); (try simp only [zAg, zA1, zA7]); (first | refine hk1 _ _ _ _ _ _ _ _ _ _ _ _ (.inl rfl) ?_ ?_ (by first | rfl | trivial) | refine hk1 _ _ _ _ _ _ _ _ _ _ _ _ (.inr rfl) ?_ ?_ (by first | rfl | trivial)); omega; exact ut_)
    | cons c r =>
      simp only [List.length_cons] at hlen hm
      have hc0 := zB7 hd
      obtain ⟨hi, hce⟩ := List.getElem?_eq_some_iff.1 hc0
      obtain ⟨hu, hut, hX⟩ := fx4 hf
      have hY := fx5 hf hg; have ⟨hG, hD2, hC2, hN2⟩ := hY
      by_cases hsp : 9 ≤ c.toNat ∧ c.toNat ≤ 13 ∨ c.toNat = 32
      · have hsk : zBd (c :: r) = zBd r := by rw [zD0, sp_eq, if_pos (by simpa using hsp)]
        rcases hsp with ⟨hs1, hs2⟩ | hs1
        · refine W.loop ?_
          repeat (first | refine sq_ ?_ | refine bl_ ?_ | ((first | refine rg_ ?_ | refine go_ ?_); generalize e : goR _ _ _ _ _ _ _ _ = r; simp (disch := omega) [hX, hg, hY, hce, hc0, hs1, hs2] at e; replace e : some _ = _ := e; subst e; (try dsimp only [goW])) | refine ct_ rfl ?_ | refine cf_ rfl ?_ | refine sk_ ?_ | refine ex_ ?_)
          show W tree.getF zEt (dropped true _ _) Q
          generalize e : dropped _ _ _ = r0
          simp (disch := omega) [hX, hg, hY] at e
          subst e
          try dsimp only
          refine hnext (i + 1) r ?_ ?_ ?_ ?_ _ _ _ _ _ _ _ _ _ _ ?_ ?_ ?_
          · omega
          · exact zBi hd
          · omega
          · exact hsk
          · rfl
          · (try dsimp only); omega
          · exact zA4.le (by assumption) (by (try dsimp only); omega)
        · refine W.loop ?_
          repeat (first | refine sq_ ?_ | refine bl_ ?_ | ((first | refine rg_ ?_ | refine go_ ?_); generalize e : goR _ _ _ _ _ _ _ _ = r; simp (disch := omega) [hX, hg, hY, hce, hc0, hs1] at e; replace e : some _ = _ := e; subst e; (try dsimp only [goW])) | refine ct_ rfl ?_ | refine cf_ rfl ?_ | refine sk_ ?_ | refine ex_ ?_)
          show W tree.getF zEt (dropped true _ _) Q
          generalize e : dropped _ _ _ = r0
          simp (disch := omega) [hX, hg, hY] at e
          subst e
          try dsimp only
          refine hnext (i + 1) r ?_ ?_ ?_ ?_ _ _ _ _ _ _ _ _ _ _ ?_ ?_ ?_
          · omega
          · exact zBi hd
          · omega
          · exact hsk
          · rfl
          · (try dsimp only); omega
          · exact zA4.le (by assumption) (by (try dsimp only); omega)
      · have hnsp : Go.LexF.spacesB.contains c = false := by rw [sp_eq]; simpa using hsp
        have hlen' : i + (c :: r).length = s.length := by simp; omega
        by_cases hT1 : (c :: r).take 2 = [47, 47]
        · obtain ⟨u, hu1⟩ : ∃ u, c :: r = 47 :: 47 :: u := ⟨(c :: r).drop 2, by have := List.take_append_drop 2 (c :: r); rw [hT1] at this; exact this.symm⟩
          have hl2 : (c :: r).length = u.length + 2 := by rw [hu1]; rfl
          have edl : zAq (c :: r) = zAq u := by rw [hu1]; rfl
          have hsk : zBd (c :: r) = zBd (zAq (c :: r)) := by
            rw [edl, hu1, zD0, if_neg (by decide), if_pos rfl]
            rfl
          have hdle := zC7 u
          rw [List.length_cons] at hl2
          have hc47 : c.toNat = 47 := by injection hu1 with a _; rw [a]; rfl
          have hdd : s.drop (s.length - (zAq (c :: r)).length) = zAq (c :: r) := by
            have := zH3 (c :: r)
            rw [← hd, List.drop_drop] at this
            rw [hd] at this
            rw [← this]; congr 1; rw [this, edl, List.length_cons]; omega
          have hrel := ref_line s hs p d t
          have S1 := zH6 s i 0 t [47, 47] hs (by rw [hd]; exact hT1) (by simp; omega)
          refine W.loop ?_
          repeat (first | refine sq_ ?_ | refine bl_ ?_ | ((first | refine rg_ ?_ | refine go_ ?_); generalize e : goR _ _ _ _ _ _ _ _ = r; simp (disch := omega) [hX, hg, hY, hce, hc0, hc47] at e; replace e : some _ = _ := e; subst e; (try dsimp only [goW])) | refine ct_ rfl ?_ | refine cf_ rfl ?_ | refine sk_ ?_ | refine ex_ ?_ | (refine S1 _ p d ?_ ?_ ?_ _ fun n1 tyn1 hn1 hun1 => ⟨rfl, ?_⟩; exact fit_; exact ge_; (try dsimp only); omega; (try dsimp only at hn1)))
          refine ref_line s hs p d t _ _ _ _ _ _ _ _ _ (c :: r) i hd hlen' _ _ ?_ ?_ ?_ ?_
          · exact hg
          · exact fit_
          · (try dsimp only); omega
          intro n2 ty2 w5 g1 g2
          try dsimp only at g1
          try simp only [zAg, zA1, zA7]
          repeat (first | refine sq_ ?_ | refine bl_ ?_ | ((first | refine rg_ ?_ | refine go_ ?_); generalize e : goR _ _ _ _ _ _ _ _ = r; simp (disch := omega) [hX, hg, hY, hce, hc0, hc47] at e; replace e : some _ = _ := e; subst e; (try dsimp only [goW])) | refine ct_ rfl ?_ | refine cf_ rfl ?_ | refine sk_ ?_ | refine ex_ ?_)
          show W tree.getF zEt (dropped true _ _) Q
          generalize e : dropped _ _ _ = r0
          simp (disch := omega) [hX, hg, hY] at e
          subst e
          try dsimp only
          refine hnext (s.length - (zAq (c :: r)).length) (zAq (c :: r)) ?_ ?_ ?_ ?_ _ _ _ _ _ _ _ _ _ _ ?_ ?_ ?_
          · rw [edl]; omega
          · exact hdd
          · rw [edl]; omega
          · exact hsk
          · rfl
          · (try dsimp only); omega
          · exact zA4.le (by assumption) (by (try dsimp only); omega)
        · have S1 : ∀ (h : CHeap) (hf : Fit h) (hg : zA3 h.ents p = some (lx s (i : Int) 0 t)) (hp : p < h.next) (K : CVal → CHeap → Prop) (hk : ∀ n' ty, h.next ≤ n' → zA4 ty n' → K (.bool false) ⟨h.ents, n', ty⟩), Wc tree.getF 29 [.ptr p d 0, .str [47, 47]] h K := fun h hf hg hp K hk => by
            by_cases hle : i + 2 ≤ s.length
            · exact zGv s i 0 t [47, 47] hs hle (by rw [hd]; simpa using hT1) h p d hf hg hp K hk
            · exact zHg s i 0 t [47, 47] hs (by omega) (by simp) (by simp; omega) h p d hf hg hp K hk
          by_cases hT2 : (c :: r).take 2 = [47, 42]
          · obtain ⟨u, hu1⟩ : ∃ u, c :: r = 47 :: 42 :: u := ⟨(c :: r).drop 2, by have := List.take_append_drop 2 (c :: r); rw [hT2] at this; exact this.symm⟩
            have hl2 : (c :: r).length = u.length + 2 := by rw [hu1]; rfl
            rw [List.length_cons] at hl2
            have hc47 : c.toNat = 47 := by injection hu1 with a _; rw [a]; rfl
            have hdu : s.drop (i + 2) = u := by rw [← List.drop_drop, hd, hu1]; rfl
            have S2 := zH6 s i 0 t [47, 42] hs (by rw [hd]; exact hT2) (by simp; omega)
            have hskn : zBb u = none → zBd (c :: r) = (c :: r, false) := fun e => by
              rw [hu1, zD0, if_neg (by decide), if_pos rfl]; simp [e]
            have hsks : ∀ u2, zBb u = some u2 → zBd (c :: r) = zBd u2 := fun u2 e => by
              rw [hu1, zD0, if_neg (by decide), if_pos rfl]; simp [e]
            have hk2f : ∀ n' ty v1 v2 v3 v4 v5 v6 v7 v8 v9, h.next ≤ n' → zA4 ty n' → zBd (c :: r) = (c :: r, false) → Q .ret ⟨[.ptr p d 0, v1, v2, v3, v4, v5, v6, v7, v8, v9], ⟨zA0 h.ents p (lx s (s.length : Int) 2 (i : Int)), n', ty⟩, []⟩ := fun n' ty u1 u2 u3 u4 u5 u6 u7 u8 u9 g1 g2 g3 => by
              have := hk2 n' ty u1 u2 u3 u4 u5 u6 u7 u8 u9 g1 g2 (by rw [g3])
              rw [g3, show s.length - (c :: r, false).1.length = i by simp only [List.length_cons]; omega] at this
              exact this
            refine W.loop ?_
            repeat (first | refine sq_ ?_ | refine bl_ ?_ | ((first | refine rg_ ?_ | refine go_ ?_); generalize e : goR _ _ _ _ _ _ _ _ = r; simp (disch := omega) [hX, hg, hY, hce, hc0, hc47] at e; replace e : some _ = _ := e; subst e; (try dsimp only [goW])) | refine ct_ rfl ?_ | refine cf_ rfl ?_ | refine sk_ ?_ | refine ex_ ?_ | (refine S1 _ ?_ ?_ ?_ _ fun n1 tyn1 hn1 hun1 => ⟨rfl, ?_⟩; exact fit_; exact ge_; (try dsimp only); omega; (try dsimp only at hn1)) | (refine S2 _ p d ?_ ?_ ?_ _ fun n1 tyn1 hn1 hun1 => ⟨rfl, ?_⟩; exact fit_; exact ge_; (try dsimp only); omega; (try dsimp only at hn1)))
            have ec : ((i + 2 : Nat) : Int) = (i : Int) + 2 := by omega
            refine ref_cmt s hs p d t _ _ _ _ _ _ _ _ _ u (i + 2) hdu (by omega) _ _ ?_ ?_ ?_ ?_ ?_
            · rw [ec]; exact hG _
            · exact fit_
            · (try dsimp only); omega
            · intro n2 ty2 w7 g1 g2 g3
              try dsimp only at g1
              try simp only [zAg, zA1, zA7, zA5]
              repeat (first | refine sq_ ?_ | refine bl_ ?_ | ((first | refine rg_ ?_ | refine go_ ?_); generalize e : goR _ _ _ _ _ _ _ _ = r; simp (disch := omega) [hX, hg, hY, hce, hc0, hc47] at e; replace e : some _ = _ := e; subst e; (try dsimp only [goW])) | refine ct_ rfl ?_ | refine cf_ rfl ?_ | refine sk_ ?_ | refine ex_ ?_ | (refine zE1 s (s.length : Int) 0 t _ _ _ p d ?_ ?_ ?_ _ fun n3 tyn3 hn3 hun3 => ⟨rfl, ?_⟩; exact fit_; (focus (((first | exact hG _ | (try dsimp only); exact hG _)); done)); (try dsimp only); omega; (try dsimp only at hn3)))
              all_goals ((try refine W.ret ?_); (try simp only [zAg, zA1, zA7, zA5]))
              all_goals (refine hk2f _ _ _ _ _ _ _ _ _ _ _ ?_ ?_ (hskn g3); omega; exact ut_)
            · intro n2 ty2 w7 u2 g1 g2 g3
              try dsimp only at g1
              have hcl := zCj g3
              have hdc : s.drop (s.length - u2.length - 2 + 2) = u2 := by
                have hh := zL0 u 0
                rw [g3] at hh
                have h2 := hh.2
                rw [← hdu, List.drop_drop, hdu] at h2
                rw [show s.length - u2.length - 2 + 2 = i + 2 + (u.length - u2.length) by omega]; exact h2
              try simp only [zAg, zA1, zA7, zA5]
              repeat (first | refine sq_ ?_ | refine bl_ ?_ | ((first | refine rg_ ?_ | refine go_ ?_); generalize e : goR _ _ _ _ _ _ _ _ = r; simp (disch := omega) [hX, hg, hY, hce, hc0, hc47] at e; replace e : some _ = _ := e; subst e; (try dsimp only [goW])) | refine ct_ rfl ?_ | refine cf_ rfl ?_ | refine sk_ ?_ | refine ex_ ?_)
              show W tree.getF zEt (dropped true _ _) Q
              generalize e : dropped _ _ _ = r0
              simp (disch := omega) [hX, hg, hY] at e
              subst e
              try dsimp only
              refine hnext (s.length - u2.length - 2 + 2) u2 ?_ ?_ ?_ ?_ _ _ _ _ _ _ _ _ _ _ ?_ ?_ ?_
              · omega
              · exact hdc
              · omega
              · exact hsks u2 g3
              · rfl
              · (try dsimp only); omega
              · exact zA4.le (by assumption) (by (try dsimp only); omega)
          · have S2 : ∀ (h : CHeap) (hf : Fit h) (hg : zA3 h.ents p = some (lx s (i : Int) 0 t)) (hp : p < h.next) (K : CVal → CHeap → Prop) (hk : ∀ n' ty, h.next ≤ n' → zA4 ty n' → K (.bool false) ⟨h.ents, n', ty⟩), Wc tree.getF 29 [.ptr p d 0, .str [47, 42]] h K := fun h hf hg hp K hk => by
              by_cases hle : i + 2 ≤ s.length
              · exact zGv s i 0 t [47, 42] hs hle (by rw [hd]; simpa using hT2) h p d hf hg hp K hk
              · exact zHg s i 0 t [47, 42] hs (by omega) (by simp) (by simp; omega) h p d hf hg hp K hk
            have hsk : zBd (c :: r) = (c :: r, true) := by
              rw [zD0, if_neg (by rw [hnsp]; decide)]
              split
              · rename_i hc
                cases r with
                | nil => rfl
                | cons b r' =>
                  dsimp only
                  rw [if_neg (fun e => hT1 (by rw [e, hc]; rfl)), if_neg (fun e => hT2 (by rw [e, hc]; rfl))]
              · rfl
            have hpos : s.length - (c :: r).length = i := by omega
            rw [hsk] at hk1
            simp only [hpos, zAm hg] at hk1
            have h32 : ¬ c.toNat = 32 := fun e => hsp (.inr e)
            by_cases h9 : 9 ≤ c.toNat
            · have h13 : ¬ c.toNat ≤ 13 := fun e => hsp (.inl ⟨h9, e⟩)
              refine W.loop ?_
              repeat (first | refine sq_ ?_ | refine bl_ ?_ | ((first | refine rg_ ?_ | refine go_ ?_); generalize e : goR _ _ _ _ _ _ _ _ = r; simp (disch := omega) [hX, hg, hY, hce, hc0, h9, h32, h13] at e; replace e : some _ = _ := e; subst e; (try dsimp only [goW])) | refine ct_ rfl ?_ | refine cf_ rfl ?_ | refine sk_ ?_ | refine ex_ ?_ | (refine S1 _ ?_ ?_ ?_ _ fun n1 tyn1 hn1 hun1 => ⟨rfl, ?_⟩; exact fit_; exact ge_; (try dsimp only); omega; (try dsimp only at hn1)) | (refine S2 _ ?_ ?_ ?_ _ fun n1 tyn1 hn1 hun1 => ⟨rfl, ?_⟩; exact fit_; exact ge_; (try dsimp only); omega; (try dsimp only at hn1)))
              all_goals ((try refine W.ret ?_); (try simp only [zAg, zA1, zA7]); (first | refine hk1 _ _ _ _ _ _ _ _ _ _ _ _ (.inl rfl) ?_ ?_ (by first | rfl | trivial) | refine hk1 _ _ _ _ _ _ _ _ _ _ _ _ (.inr rfl) ?_ ?_ (by first | rfl | trivial)); omega; exact ut_)
            · refine W.loop ?_
              repeat (first | refine sq_ ?_ | refine bl_ ?_ | ((first | refine rg_ ?_ | refine go_ ?_); generalize e : goR _ _ _ _ _ _ _ _ = r; simp (disch := omega) [hX, hg, hY, hce, hc0, h9, h32] at e; replace e : some _ = _ := e; subst e; (try dsimp only [goW])) | refine ct_ rfl ?_ | refine cf_ rfl ?_ | refine sk_ ?_ | refine ex_ ?_ | (refine S1 _ ?_ ?_ ?_ _ fun n1 tyn1 hn1 hun1 => ⟨rfl, ?_⟩; exact fit_; exact ge_; (try dsimp only); omega; (try dsimp only at hn1)) | (refine S2 _ ?_ ?_ ?_ _ fun n1 tyn1 hn1 hun1 => ⟨rfl, ?_⟩; exact fit_; exact ge_; (try dsimp only); omega; (try dsimp only at hn1)))
              all_goals ((try refine W.ret ?_); (try simp only [zAg, zA1, zA7]); (first | refine hk1 _ _ _ _ _ _ _ _ _ _ _ _ (.inl rfl) ?_ ?_ (by first | rfl | trivial) | refine hk1 _ _ _ _ _ _ _ _ _ _ _ _ (.inr rfl) ?_ ?_ (by first | rfl | trivial)); omega; exact ut_)
theorem space_L (s : List UInt8) (hs : s.length < 60000) (i : Nat) (r : List UInt8) (hd : s.drop i = r) (hlen : i + r.length = s.length) (t : Int) (h : CHeap) (p d : Nat) (hf : Fit h) (hg : zA3 h.ents p = some (lx s (i : Int) 0 t)) (hp : p < h.next) (K : CVal → CHeap → Prop)
    (hk1 : ∀ n' ty, h.next ≤ n' → zA4 ty n' → (zBd r).2 = true → K (.tup []) ⟨zA0 h.ents p (lx s ((s.length - (zBd r).1.length : Nat) : Int) 0 t), n', ty⟩)
    (hk2 : ∀ n' ty, h.next ≤ n' → zA4 ty n' → (zBd r).2 = false → K (.tup []) ⟨zA0 h.ents p (lx s (s.length : Int) 2 ((s.length - (zBd r).1.length : Nat) : Int)), n', ty⟩) : Wc tree.getF 13 [.ptr p d 0] h K := by
  obtain ⟨hu, hut, hX⟩ := fx4 hf
  have hY := fx5 hf hg

  refine Wc.mkG 13 c13 (by kernel_rfl) rfl ?_
  generalize e : zA9 _ _ _ = r
  simp (disch := omega) [hX, hg, hY, c13] at e
  subst e
  refine bl_ ?_
  refine ref_space s hs p d t _ r.length r i (Nat.le_refl _) hd hlen _ _ _ _ _ _ _ _ _ _ hg ?_ ?_ ?_ ?_
  · exact ⟨hu.le (by (try dsimp only); omega), zA4.le hut (by (try dsimp only); omega)⟩
  · (try dsimp only); omega
  · intro x n' ty w1 w2 w3 w4 w5 w6 w7 w8 w9 g0 g1 g2 g3
    try dsimp only at g1
    rcases g0 with rfl | rfl
    all_goals ((try simp only [zAg, zA1, zA7]); (first | refine endW.of (.inl rfl) rfl ?_ | refine endW.of (.inr rfl) rfl ?_); generalize e : zAj _ _ _ = r; simp (disch := omega) [hX, hg, hY] at e; subst e)
    all_goals (refine hk1 _ _ ?_ ?_ g3; omega; exact ut_)
  · intro n' ty w1 w2 w3 w4 w5 w6 w7 w8 w9 g1 g2 g3
    try dsimp only at g1
    all_goals ((try simp only [zAg, zA1, zA7]); (first | refine endW.of (.inl rfl) rfl ?_ | refine endW.of (.inr rfl) rfl ?_); generalize e : zAj _ _ _ = r; simp (disch := omega) [hX, hg, hY] at e; subst e)
    all_goals (refine hk2 _ _ ?_ ?_ g3; omega; exact ut_)
/-- How far a name goes on, as the reference reads it. -/
def nmR : List UInt8 → Nat
  | [] => 0
  | c :: r => if letB c = true ∨ digB c = true ∨ c.toNat = 46 ∧ letB (r.headD 0) = true then 1 + nmR r else 0
theorem zIe : Pu tree.getF 31 [.int .u8 0] (.bool false) := zBc 0
theorem digit_0 : Pu tree.getF 33 [.int .u8 0] (.bool false) := zBv 0
abbrev nmLoop : CCode := (.loop true (.seq (.seq (.region [.v 0, .g (.call false 32 [(.loc 0), (.const (.int .i64 0))]), .g (.call false 31 [(.loc 0)]), .m (.loc 0), ⟨.mv (.var 0), (some (0, false))⟩, ⟨.call false 32 [(.loc 0), (.const (.int .i64 0))], (some (1, false))⟩, ⟨.call false 33 [(.loc 0)], (some (2, false))⟩, .g (.pick (.loc 3) (.const (.bool true)) (.loc 0)), .m (.loc 0), ⟨.mv (.var 0), (some (0, false))⟩, ⟨.call false 32 [(.loc 0), (.const (.int .i64 0))], (some (1, false))⟩, ⟨.bin .eql (.loc 0) (.const (.int .u8 46)), (some (2, false))⟩, ⟨.mv (.loc 0), (some (3, false))⟩, ⟨.mv (.var 0), (some (0, true))⟩, ⟨.call false 32 [(.loc 0), (.const (.int .i64 1))], (some (1, true))⟩, ⟨.call false 31 [(.loc 0)], (some (2, true))⟩, ⟨.pick (.loc 3) (.loc 0) (.const (.bool false)), (some (7, false))⟩, .g (.pick (.loc 8) (.const (.bool true)) (.loc 0))] [(6, 17)] [] []) (.cond (.var 6) .skip (.exit 1))) (.block 2 (.region [.v 0, .n 0, .f 1 0, .l 0, .g (.bin .add (.loc 0) (.const (.int .i64 1))), .n 4, .f 1 0, .g (.store 1 (.loc 0) (.loc 2))] [] [] []))))
theorem ref_name (s : List UInt8) (hs : s.length < 60000) (p d : Nat) (t : Int) (Q : CExit → CSt → Prop) (v1 v2 v3 v4 v5 v7 v8 v9 v10 v11 : CVal) : ∀ (r : List UInt8) (i : Nat), s.drop i = r → i + r.length = s.length → ∀ (h : CHeap) (v6 : CVal), zA3 h.ents p = some (lx s (i : Int) 0 t) → Fit h → p < h.next →
    (∀ n' ty w6, h.next ≤ n' → zA4 ty n' → Q (.exit 1) ⟨[.ptr p d 0, v1, v2, v3, v4, v5, w6, v7, v8, v9, v10, v11], ⟨zA0 h.ents p (lx s ((i + nmR r : Nat) : Int) 0 t), n', ty⟩, []⟩) →
    W tree.getF nmLoop ⟨[.ptr p d 0, v1, v2, v3, v4, v5, v6, v7, v8, v9, v10, v11], h, []⟩ Q := by
  intro r
  induction r with
  | nil =>
    intro i hd hlen h v6 hg hf hp hk
    simp only [List.length_nil, Nat.add_zero] at hlen
    have e0 : i + nmR [] = i := rfl
    rw [e0, zAm hg] at hk
    have B0 : ∀ (h : CHeap) (hf : Fit h) (hg : zA3 h.ents p = some (lx s (i : Int) 0 t)) (hp : p < h.next) (K : CVal → CHeap → Prop) (hk : ∀ n' ty, h.next ≤ n' → zA4 ty n' → K (.int .u8 0) ⟨h.ents, n', ty⟩), Wc tree.getF 32 [.ptr p d 0, .int .i64 0] h K := fun h hf hg hp K hk => zJ1 s i 0 0 t hs (by omega) (by omega) (by omega) h p d hf hg hp K hk
    obtain ⟨hu, hut, hX⟩ := fx4 hf
    have hY := fx5 hf hg; have ⟨hG, hD2, hC2, hN2⟩ := hY
    refine W.loop ?_
    repeat (first | refine sq_ ?_ | refine bl_ ?_ | ((first | refine rg_ ?_ | refine go_ ?_); generalize e : goR _ _ _ _ _ _ _ _ = r; simp (disch := omega) [hX, hg, hY] at e; replace e : some _ = _ := e; subst e; (try dsimp only [goW])) | refine ct_ rfl ?_ | refine cf_ rfl ?_ | refine sk_ ?_ | refine ex_ ?_ | (refine B0 _ ?_ ?_ ?_ _ fun n1 tyn1 hn1 hun1 => ⟨rfl, ?_⟩; exact fit_; exact ge_; (try dsimp only); omega; (try dsimp only at hn1)) | (refine zIe _ ?_ _ fun n1 tyn1 hn1 hun1 => ⟨rfl, ?_⟩; exact fit_; (try dsimp only at hn1)) | (refine digit_0 _ ?_ _ fun n1 tyn1 hn1 hun1 => ⟨rfl, ?_⟩; exact fit_; (try dsimp only at hn1)))
    all_goals ((try simp only [zAg, zA1, zA7]); refine hk _ _ _ ?_ ?_; omega; exact ut_)
  | cons c r ih =>
    intro i hd hlen h v6 hg hf hp hk
    simp only [List.length_cons] at hlen
    have hc0 := zB7 hd
    obtain ⟨hi, hce⟩ := List.getElem?_eq_some_iff.1 hc0
    have B0 : ∀ (h : CHeap) (hf : Fit h) (hg : zA3 h.ents p = some (lx s (i : Int) 0 t)) (hp : p < h.next) (K : CVal → CHeap → Prop) (hk : ∀ n' ty, h.next ≤ n' → zA4 ty n' → K (.int .u8 (c.toNat : Int)) ⟨h.ents, n', ty⟩), Wc tree.getF 32 [.ptr p d 0, .int .i64 0] h K := fun h hf hg hp K hk => zIa s i 0 0 t c hs (by omega) hc0 h p d hf hg hp K hk
    obtain ⟨hu, hut, hX⟩ := fx4 hf
    have hY := fx5 hf hg; have ⟨hG, hD2, hC2, hN2⟩ := hY
    have hcont : (letB c = true ∨ digB c = true ∨ c.toNat = 46 ∧ letB (r.headD 0) = true) → ∀ (h' : CHeap) (w6 : CVal), h'.ents = zA0 h.ents p (lx s ((i : Int) + 1) 0 t) → h.next ≤ h'.next → zA4 h'.tys h'.next → W tree.getF nmLoop ⟨[.ptr p d 0, v1, v2, v3, v4, v5, w6, v7, v8, v9, v10, v11], h', []⟩ Q := by
      intro hyes h' w6 e1 e2 e3
      have e4 : ((i : Int) + 1) = ((i + 1 : Nat) : Int) := by omega
      rw [e4] at e1
      have e5 : i + nmR (c :: r) = i + 1 + nmR r := by
          conv => lhs; unfold nmR
          rw [if_pos hyes]; omega
      rw [e5] at hk
      refine ih (i + 1) (zBi hd) (by omega) h' w6 (by rw [e1]; exact hG _) ⟨by rw [e1]; exact hu.set.le e2, e3⟩ (by omega) ?_
      intro n' ty u6 g1 g2
      rw [e1, zA5]
      exact hk n' ty u6 (by omega) g2
    have hno : ¬ (letB c = true ∨ digB c = true ∨ c.toNat = 46 ∧ letB (r.headD 0) = true) → ∀ n' ty w6, h.next ≤ n' → zA4 ty n' → Q (.exit 1) ⟨[.ptr p d 0, v1, v2, v3, v4, v5, w6, v7, v8, v9, v10, v11], ⟨h.ents, n', ty⟩, []⟩ := by
      intro hn n' ty w6 g1 g2
      have := hk n' ty w6 g1 g2
      have e5 : i + nmR (c :: r) = i := by
          conv => lhs; unfold nmR
          rw [if_neg hn]; omega
      rw [e5, zAm hg] at this
      exact this
    have LF := zBc c
    have DF := zBv c
    by_cases hl : letB c = true
    · rw [hl] at LF
      refine W.loop ?_
      repeat (first | refine sq_ ?_ | refine bl_ ?_ | ((first | refine rg_ ?_ | refine go_ ?_); generalize e : goR _ _ _ _ _ _ _ _ = r; simp (disch := omega) [hX, hg, hY, hce, hc0] at e; replace e : some _ = _ := e; subst e; (try dsimp only [goW])) | refine ct_ rfl ?_ | refine cf_ rfl ?_ | refine sk_ ?_ | refine ex_ ?_ | (refine B0 _ ?_ ?_ ?_ _ fun n1 tyn1 hn1 hun1 => ⟨rfl, ?_⟩; exact fit_; exact ge_; (try dsimp only); omega; (try dsimp only at hn1)) | (refine LF _ ?_ _ fun n1 tyn1 hn1 hun1 => ⟨rfl, ?_⟩; exact fit_; (try dsimp only at hn1)))
      show W tree.getF nmLoop (dropped true _ _) Q
      generalize e : dropped _ _ _ = r0
      simp (disch := omega) [hX, hg, hY] at e
      subst e
      try dsimp only
      refine hcont (.inl hl) _ _ ?_ ?_ ?_
      · rfl
      · (try dsimp only); omega
      · exact zA4.le (by assumption) (by (try dsimp only); omega)
    · rw [Bool.not_eq_true] at hl
      rw [hl] at LF
      by_cases hdg : digB c = true
      · rw [hdg] at DF
        refine W.loop ?_
        repeat (first | refine sq_ ?_ | refine bl_ ?_ | ((first | refine rg_ ?_ | refine go_ ?_); generalize e : goR _ _ _ _ _ _ _ _ = r; simp (disch := omega) [hX, hg, hY, hce, hc0] at e; replace e : some _ = _ := e; subst e; (try dsimp only [goW])) | refine ct_ rfl ?_ | refine cf_ rfl ?_ | refine sk_ ?_ | refine ex_ ?_ | (refine B0 _ ?_ ?_ ?_ _ fun n1 tyn1 hn1 hun1 => ⟨rfl, ?_⟩; exact fit_; exact ge_; (try dsimp only); omega; (try dsimp only at hn1)) | (refine LF _ ?_ _ fun n1 tyn1 hn1 hun1 => ⟨rfl, ?_⟩; exact fit_; (try dsimp only at hn1)) | (refine DF _ ?_ _ fun n1 tyn1 hn1 hun1 => ⟨rfl, ?_⟩; exact fit_; (try dsimp only at hn1)))
        show W tree.getF nmLoop (dropped true _ _) Q
        generalize e : dropped _ _ _ = r0
        simp (disch := omega) [hX, hg, hY] at e
        subst e
        try dsimp only
        refine hcont (.inr (.inl hdg)) _ _ ?_ ?_ ?_
        · rfl
        · (try dsimp only); omega
        · exact zA4.le (by assumption) (by (try dsimp only); omega)
      · rw [Bool.not_eq_true] at hdg
        rw [hdg] at DF
        by_cases h46 : c.toNat = 46
        · cases r with
          | nil =>
            have B1 : ∀ (h : CHeap) (hf : Fit h) (hg : zA3 h.ents p = some (lx s (i : Int) 0 t)) (hp : p < h.next) (K : CVal → CHeap → Prop) (hk : ∀ n' ty, h.next ≤ n' → zA4 ty n' → K (.int .u8 0) ⟨h.ents, n', ty⟩), Wc tree.getF 32 [.ptr p d 0, .int .i64 1] h K := fun h hf hg hp K hk => zJ1 s i 1 0 t hs (by omega) (by omega) (by simp at hlen; omega) h p d hf hg hp K hk
            have hn : ¬ (letB c = true ∨ digB c = true ∨ c.toNat = 46 ∧ letB (([] : List UInt8).headD 0) = true) := by rw [hl, hdg]; rintro (h | h | ⟨_, h⟩) <;> cases h
            refine W.loop ?_
            repeat (first | refine sq_ ?_ | refine bl_ ?_ | ((first | refine rg_ ?_ | refine go_ ?_); generalize e : goR _ _ _ _ _ _ _ _ = r; simp (disch := omega) [hX, hg, hY, hce, hc0] at e; replace e : some _ = _ := e; subst e; (try dsimp only [goW])) | refine ct_ rfl ?_ | refine cf_ rfl ?_ | refine sk_ ?_ | refine ex_ ?_ | (refine B0 _ ?_ ?_ ?_ _ fun n1 tyn1 hn1 hun1 => ⟨rfl, ?_⟩; exact fit_; exact ge_; (try dsimp only); omega; (try dsimp only at hn1)) | (refine B1 _ ?_ ?_ ?_ _ fun n1 tyn1 hn1 hun1 => ⟨rfl, ?_⟩; exact fit_; exact ge_; (try dsimp only); omega; (try dsimp only at hn1)) | (refine LF _ ?_ _ fun n1 tyn1 hn1 hun1 => ⟨rfl, ?_⟩; exact fit_; (try dsimp only at hn1)) | (refine DF _ ?_ _ fun n1 tyn1 hn1 hun1 => ⟨rfl, ?_⟩; exact fit_; (try dsimp only at hn1)) | (refine zIe _ ?_ _ fun n1 tyn1 hn1 hun1 => ⟨rfl, ?_⟩; exact fit_; (try dsimp only at hn1)))
            all_goals ((try simp only [zAg, zA1, zA7]); refine hno hn _ _ _ ?_ ?_; omega; exact ut_)
          | cons b r' =>
            have B1 : ∀ (h : CHeap) (hf : Fit h) (hg : zA3 h.ents p = some (lx s (i : Int) 0 t)) (hp : p < h.next) (K : CVal → CHeap → Prop) (hk : ∀ n' ty, h.next ≤ n' → zA4 ty n' → K (.int .u8 (b.toNat : Int)) ⟨h.ents, n', ty⟩), Wc tree.getF 32 [.ptr p d 0, .int .i64 1] h K := fun h hf hg hp K hk => zIa s i 1 0 t b hs (by omega) (zB7 (zBi hd)) h p d hf hg hp K hk
            have LF1 := zBc b
            by_cases hb : letB b = true
            · rw [hb] at LF1
              refine W.loop ?_
              repeat (first | refine sq_ ?_ | refine bl_ ?_ | ((first | refine rg_ ?_ | refine go_ ?_); generalize e : goR _ _ _ _ _ _ _ _ = r; simp (disch := omega) [hX, hg, hY, hce, hc0] at e; replace e : some _ = _ := e; subst e; (try dsimp only [goW])) | refine ct_ rfl ?_ | refine cf_ rfl ?_ | refine sk_ ?_ | refine ex_ ?_ | (refine B0 _ ?_ ?_ ?_ _ fun n1 tyn1 hn1 hun1 => ⟨rfl, ?_⟩; exact fit_; exact ge_; (try dsimp only); omega; (try dsimp only at hn1)) | (refine B1 _ ?_ ?_ ?_ _ fun n1 tyn1 hn1 hun1 => ⟨rfl, ?_⟩; exact fit_; exact ge_; (try dsimp only); omega; (try dsimp only at hn1)) | (refine LF1 _ ?_ _ fun n1 tyn1 hn1 hun1 => ⟨rfl, ?_⟩; exact fit_; (try dsimp only at hn1)) | (refine LF _ ?_ _ fun n1 tyn1 hn1 hun1 => ⟨rfl, ?_⟩; exact fit_; (try dsimp only at hn1)) | (refine DF _ ?_ _ fun n1 tyn1 hn1 hun1 => ⟨rfl, ?_⟩; exact fit_; (try dsimp only at hn1)))
              show W tree.getF nmLoop (dropped true _ _) Q
              generalize e : dropped _ _ _ = r0
              simp (disch := omega) [hX, hg, hY] at e
              subst e
              try dsimp only
              refine hcont (.inr (.inr ⟨h46, hb⟩)) _ _ ?_ ?_ ?_
              · rfl
              · (try dsimp only); omega
              · exact zA4.le (by assumption) (by (try dsimp only); omega)
            · rw [Bool.not_eq_true] at hb
              rw [hb] at LF1
              have hn : ¬ (letB c = true ∨ digB c = true ∨ c.toNat = 46 ∧ letB ((b :: r').headD 0) = true) := by rw [hl, hdg]; rintro (h | h | ⟨_, h⟩); cases h; cases h; rw [List.headD_cons, hb] at h; cases h
              refine W.loop ?_
              repeat (first | refine sq_ ?_ | refine bl_ ?_ | ((first | refine rg_ ?_ | refine go_ ?_); generalize e : goR _ _ _ _ _ _ _ _ = r; simp (disch := omega) [hX, hg, hY, hce, hc0] at e; replace e : some _ = _ := e; subst e; (try dsimp only [goW])) | refine ct_ rfl ?_ | refine cf_ rfl ?_ | refine sk_ ?_ | refine ex_ ?_ | (refine B0 _ ?_ ?_ ?_ _ fun n1 tyn1 hn1 hun1 => ⟨rfl, ?_⟩; exact fit_; exact ge_; (try dsimp only); omega; (try dsimp only at hn1)) | (refine B1 _ ?_ ?_ ?_ _ fun n1 tyn1 hn1 hun1 => ⟨rfl, ?_⟩; exact fit_; exact ge_; (try dsimp only); omega; (try dsimp only at hn1)) | (refine LF1 _ ?_ _ fun n1 tyn1 hn1 hun1 => ⟨rfl, ?_⟩; exact fit_; (try dsimp only at hn1)) | (refine LF _ ?_ _ fun n1 tyn1 hn1 hun1 => ⟨rfl, ?_⟩; exact fit_; (try dsimp only at hn1)) | (refine DF _ ?_ _ fun n1 tyn1 hn1 hun1 => ⟨rfl, ?_⟩; exact fit_; (try dsimp only at hn1)))
              all_goals ((try simp only [zAg, zA1, zA7]); refine hno hn _ _ _ ?_ ?_; omega; exact ut_)
        · have hn : ¬ (letB c = true ∨ digB c = true ∨ c.toNat = 46 ∧ letB (r.headD 0) = true) := by rw [hl, hdg]; rintro (h | h | ⟨h, _⟩); cases h; cases h; exact h46 h
          refine W.loop ?_
          repeat (first | refine sq_ ?_ | refine bl_ ?_ | ((first | refine rg_ ?_ | refine go_ ?_); generalize e : goR _ _ _ _ _ _ _ _ = r; simp (disch := omega) [hX, hg, hY, hce, hc0] at e; replace e : some _ = _ := e; subst e; (try dsimp only [goW])) | refine ct_ rfl ?_ | refine cf_ rfl ?_ | refine sk_ ?_ | refine ex_ ?_ | (refine B0 _ ?_ ?_ ?_ _ fun n1 tyn1 hn1 hun1 => ⟨rfl, ?_⟩; exact fit_; exact ge_; (try dsimp only); omega; (try dsimp only at hn1)) | (refine LF _ ?_ _ fun n1 tyn1 hn1 hun1 => ⟨rfl, ?_⟩; exact fit_; (try dsimp only at hn1)) | (refine DF _ ?_ _ fun n1 tyn1 hn1 hun1 => ⟨rfl, ?_⟩; exact fit_; (try dsimp only at hn1)))
          all_goals ((try simp only [zAg, zA1, zA7]); refine hno hn _ _ _ ?_ ?_; omega; exact ut_)
abbrev Z4 : CObj := .cells [.int .i64 0, .str [], .int .u64 0, .int .i64 0]
abbrev zDp : CCode := (.loop true (.seq (.seq (.region [.v 0, .n 0, .f 1 0, .l 0, .v 0, .n 0, .f 0 0, .l 0, .g (.len true (.loc 0)), .g (.bin .lss (.loc 5) (.loc 0))] [(4, 9)] [] []) (.cond (.var 4) .skip (.exit 0))) (.block 1 (.seq (.region [.v 0, .n 0, .f 0 0, .l 0, .v 0, .n 0, .f 1 0, .l 0, .g (.idxStr (.loc 4) (.loc 0)), .g (.call false 46 [(.loc 0)]), .m (.loc 0)] [(5, 10)] [] []) (.seq (.seq (.region [.v 5, .g (.bin .lss (.loc 0) (.const (.int .i64 0))), .m (.loc 0), ⟨.mv (.var 5), (some (0, false))⟩, ⟨.conv .u64 (.loc 0), (some (1, false))⟩, ⟨.mv (.var 6), (some (2, false))⟩, ⟨.bin .geq (.loc 1) (.loc 0), (some (3, false))⟩, .g (.pick (.loc 4) (.const (.bool true)) (.loc 0))] [(7, 7)] [] []) (.cond (.var 7) (.exit 0) .skip)) (.seq (.seq (.region [.v 8, .v 5, .g (.conv .u64 (.loc 0)), .g (.bin .sub (.const (.int .u64 18446744073709551615)) (.loc 0)), .v 6, .g (.bin .quo (.loc 1) (.loc 0)), .g (.bin .gtr (.loc 5) (.loc 0))] [(9, 6)] [] []) (.cond (.var 9) (.seq (.region [.v 0, .v 2, .g (.call false 30 [(.loc 1), (.const (.int .i64 3)), (.loc 0)]), .g (.store 4 (.var 10) (.loc 0))] [] [] []) .ret) .skip)) (.seq (.region [.v 8, .v 6, .g (.bin .mul (.loc 1) (.loc 0)), .v 5, .g (.conv .u64 (.loc 0)), .g (.bin .add (.loc 2) (.loc 0)), .m (.loc 0)] [(8, 6)] [] []) (.region [.v 0, .n 0, .f 1 0, .l 0, .g (.bin .add (.loc 0) (.const (.int .i64 1))), .n 4, .f 1 0, .g (.store 1 (.loc 0) (.loc 2))] [] [] []))))))))
theorem zIp {cs r : List UInt8} {c : UInt8} (h : cs.contains c = true) : fr cs (c :: r) = c :: fr cs r := by unfold fr; rw [List.takeWhile_cons, if_pos h]
theorem fr_no {cs r : List UInt8} {c : UInt8} (h : cs.contains c = false) : fr cs (c :: r) = [] := by unfold fr; rw [List.takeWhile_cons, if_neg (by rw [h]; decide)]

theorem dig_in8 (c : UInt8) : D8.contains c = decide (0 ≤ dgI c ∧ dgI c < 8) := by
  have := zDe (p := fun c => D8.contains c == decide (0 ≤ dgI c ∧ dgI c < 8)) (by decide +kernel) c
  simpa using this

theorem dig_in10 (c : UInt8) : D10.contains c = decide (0 ≤ dgI c ∧ dgI c < 10) := by
  have := zDe (p := fun c => D10.contains c == decide (0 ≤ dgI c ∧ dgI c < 10)) (by decide +kernel) c
  simpa using this

theorem dig_in16 (c : UInt8) : zAv.contains c = decide (0 ≤ dgI c ∧ dgI c < 16) := by
  have := zDe (p := fun c => zAv.contains c == decide (0 ≤ dgI c ∧ dgI c < 16)) (by decide +kernel) c
  simpa using this

theorem zLf (c : UInt8) (h : 0 ≤ dgI c) : dgI c = (digF c : Int) := by
  have := zDe (p := fun c => !(decide (0 ≤ dgI c)) || decide (dgI c = (digF c : Int))) (by decide +kernel) c
  simpa [h] using this
theorem ref_dig8 (s : List UInt8) (hs : s.length < 60000) (p d m dm : Nat) (t at' : Int) (hmp : m ≠ p) (Q : CExit → CSt → Prop) (v1 v3 v11 v12 : CVal) : ∀ (r : List UInt8) (i v : Nat), s.drop i = r → i + r.length = s.length → v < 18446744073709551616 → ∀ (h : CHeap) (v4 v5 v7 v9 : CVal), zA3 h.ents p = some (lx s (i : Int) 0 t) → zA3 h.ents m = some Z4 → Fit h → p < h.next → m < h.next →
    (∀ n' ty w4 w5 w7 w9, h.next ≤ n' → zA4 ty n' → valF 8 v (fr D8 r) < 18446744073709551616 → Q (.exit 0) ⟨[.ptr p d 0, v1, .int .i64 at', v3, w4, w5, .int .u64 8, w7, .int .u64 (valF 8 v (fr D8 r) : Nat), w9, .ptr m dm 0, v11, v12], ⟨zA0 h.ents p (lx s ((i + (fr D8 r).length : Nat) : Int) 0 t), n', ty⟩, []⟩) →
    (∀ n' ty w4 w5 w7 w8 w9 (j : Int), h.next ≤ n' → zA4 ty n' → 18446744073709551616 ≤ valF 8 v (fr D8 r) → Q .ret ⟨[.ptr p d 0, v1, .int .i64 at', v3, w4, w5, .int .u64 8, w7, w8, w9, .ptr m dm 0, v11, v12], ⟨zA0 h.ents p (lx s j 3 at'), n', ty⟩, []⟩) →
    W tree.getF zDp ⟨[.ptr p d 0, v1, .int .i64 at', v3, v4, v5, .int .u64 8, v7, .int .u64 (v : Int), v9, .ptr m dm 0, v11, v12], h, []⟩ Q := by
  intro r
  induction r with
  | nil =>
    intro i v hd hlen hv h v4 v5 v7 v9 hg hm hf hp hpm hk1 hk2
    simp only [List.length_nil, Nat.add_zero] at hlen
    have e0 : i + (fr D8 []).length = i := rfl
    rw [e0, zAm hg] at hk1
    obtain ⟨hu, hut, hX⟩ := fx4 hf
    have hY := fx5 hf hg; have ⟨hG, hD2, hC2, hN2⟩ := hY
    have hM2 : ∀ x, zA3 (zA0 h.ents p x) m = some Z4 := fun x => by rw [zA2 hmp]; exact hm
    have hMS : ∀ x, zA0 (zA0 h.ents p x) m Z4 = zA0 h.ents p x := fun x => zAm (hM2 x)
    refine W.loop ?_
    repeat (first | refine sq_ ?_ | refine bl_ ?_ | ((first | refine rg_ ?_ | refine go_ ?_); generalize e : goR _ _ _ _ _ _ _ _ = r; simp (disch := omega) [hX, hg, hY, hm, hM2, hMS, hmp, zAa] at e; replace e : some _ = _ := e; subst e; (try dsimp only [goW])) | refine ct_ rfl ?_ | refine cf_ rfl ?_ | refine sk_ ?_ | refine ex_ ?_)
    all_goals ((try simp only [zAg, zA1, zA7]); refine hk1 _ _ _ _ _ _ ?_ ?_ ?_; omega; exact ut_; exact hv)
  | cons c r ih =>
    intro i v hd hlen hv h v4 v5 v7 v9 hg hm hf hp hpm hk1 hk2
    simp only [List.length_cons] at hlen
    have hc0 := zB7 hd
    obtain ⟨hi, hce⟩ := List.getElem?_eq_some_iff.1 hc0
    obtain ⟨hu, hut, hX⟩ := fx4 hf
    have hY := fx5 hf hg; have ⟨hG, hD2, hC2, hN2⟩ := hY
    have hM2 : ∀ x, zA3 (zA0 h.ents p x) m = some Z4 := fun x => by rw [zA2 hmp]; exact hm
    have hMS : ∀ x, zA0 (zA0 h.ents p x) m Z4 = zA0 h.ents p x := fun x => zAm (hM2 x)
    have DG := zHk c
    obtain ⟨x, hx⟩ : ∃ x, dgI c = x := ⟨_, rfl⟩
    rw [hx] at DG
    by_cases hin : 0 ≤ x ∧ x < 8
    · obtain ⟨hx0, hx1⟩ := hin
      have hfr : fr D8 (c :: r) = c :: fr D8 r := zIp (by rw [dig_in8]; simp [hx, hx0, hx1])
      have hdx := zLf c (by omega)
      rw [hx] at hdx
      obtain ⟨y, hy⟩ : ∃ y, digF c = y := ⟨_, rfl⟩
      rw [hy] at hdx
      subst hdx
      have htd : ((18446744073709551615 : Int) - (y : Int)).tdiv 8 = (18446744073709551615 - (y : Int)) / 8 := Int.tdiv_eq_ediv_of_nonneg (by omega)
      rw [hfr] at hk1 hk2
      have hvl : valF 8 v (c :: fr D8 r) = valF 8 (v * 8 + y) (fr D8 r) := by show valF 8 (v * 8 + digF c) _ = _; rw [hy]
      rw [hvl] at hk1 hk2
      by_cases hov : 18446744073709551616 ≤ v * 8 + y
      · have hbig := zJh 8 (by omega) (fr D8 r) (v * 8 + y)
        refine W.loop ?_
        repeat (first | refine sq_ ?_ | refine bl_ ?_ | ((first | refine rg_ ?_ | refine go_ ?_); generalize e : goR _ _ _ _ _ _ _ _ = r; simp (disch := omega) [hX, hg, hY, hce, hc0, hm, hM2, hMS, hmp, zAa, htd] at e; replace e : some _ = _ := e; subst e; (try dsimp only [goW])) | refine ct_ rfl ?_ | refine cf_ rfl ?_ | refine sk_ ?_ | refine ex_ ?_ | (refine DG _ ?_ _ fun n2 tyn2 hn2 hun2 => ⟨rfl, ?_⟩; exact fit_; (try dsimp only at hn2)) | (refine zE1 s (i : Int) 0 t _ _ _ p d ?_ ?_ ?_ _ fun n3 tyn3 hn3 hun3 => ⟨rfl, ?_⟩; exact fit_; (focus (((first | exact hg | exact hG _ | (try dsimp only); exact hg)); done)); (try dsimp only); omega; (try dsimp only at hn3)))
        all_goals ((try refine W.ret ?_); (try simp only [zAg, zA1, zA7, hMS]); refine hk2 _ _ _ _ _ _ _ _ ?_ ?_ ?_; omega; exact ut_; omega)
      · have hnext : ∀ (h' : CHeap) (w4 w5 w7 w9 : CVal) (z : Int), h'.ents = zA0 h.ents p (lx s ((i : Int) + 1) 0 t) → z = ((v * 8 + y : Nat) : Int) → h.next ≤ h'.next → zA4 h'.tys h'.next → W tree.getF zDp ⟨[.ptr p d 0, v1, .int .i64 at', v3, w4, w5, .int .u64 8, w7, .int .u64 z, w9, .ptr m dm 0, v11, v12], h', []⟩ Q := by
          intro h' w4 w5 w7 w9 z e1 e0 e2 e3
          subst e0
          have e4 : ((i : Int) + 1) = ((i + 1 : Nat) : Int) := by omega
          rw [e4] at e1
          refine ih (i + 1) (v * 8 + y) (zBi hd) (by omega) (by omega) h' w4 w5 w7 w9 (by rw [e1]; exact hG _) (by rw [e1]; exact hM2 _) ⟨by rw [e1]; exact hu.set.le e2, e3⟩ (by omega) (by omega) ?_ ?_
          · intro n' ty u4 u5 u7 u9 g1 g2 g3
            rw [e1, zA5]
            have := hk1 n' ty u4 u5 u7 u9 (by omega) g2 g3
            rw [show i + (c :: fr D8 r).length = i + 1 + (fr D8 r).length by simp; omega] at this
            exact this
          · intro n' ty u4 u5 u7 u8 u9 j g1 g2 g3
            rw [e1, zA5]
            exact hk2 n' ty u4 u5 u7 u8 u9 j (by omega) g2 g3
        refine W.loop ?_
        repeat (first | refine sq_ ?_ | refine bl_ ?_ | ((first | refine rg_ ?_ | refine go_ ?_); generalize e : goR _ _ _ _ _ _ _ _ = r; simp (disch := omega) [hX, hg, hY, hce, hc0, hm, hM2, hMS, hmp, zAa, htd] at e; replace e : some _ = _ := e; subst e; (try dsimp only [goW])) | refine ct_ rfl ?_ | refine cf_ rfl ?_ | refine sk_ ?_ | refine ex_ ?_ | (refine DG _ ?_ _ fun n2 tyn2 hn2 hun2 => ⟨rfl, ?_⟩; exact fit_; (try dsimp only at hn2)))
        show W tree.getF zDp (dropped true _ _) Q
        generalize e : dropped _ _ _ = r0
        simp (disch := omega) [hX, hg, hY, hce, hc0, hm, hM2, hMS, hmp, zAa] at e
        subst e
        try dsimp only
        refine hnext _ _ _ _ _ _ ?_ ?_ ?_ ?_
        · rfl
        · (try dsimp only); omega
        · (try dsimp only); omega
        · exact zA4.le (by assumption) (by (try dsimp only); omega)
    · have hfr : fr D8 (c :: r) = [] := fr_no (by rw [dig_in8, hx]; simpa using hin)
      have hl0 : (fr D8 (c :: r)).length = 0 := by rw [hfr]; rfl
      have e0 : i + (fr D8 (c :: r)).length = i := by omega
      rw [e0, zAm hg] at hk1
      rw [hfr] at hk1
      have hmx : -1 ≤ x ∧ x < 16 := by
        have := zDe (p := fun c => decide (-1 ≤ dgI c ∧ dgI c < 16)) (by decide +kernel) c
        rw [← hx]; simpa using this
      by_cases hx0 : x < 0
      · refine W.loop ?_
        repeat (first | refine sq_ ?_ | refine bl_ ?_ | ((first | refine rg_ ?_ | refine go_ ?_); generalize e : goR _ _ _ _ _ _ _ _ = r; simp (disch := omega) [hX, hg, hY, hce, hc0, hm, hM2, hMS, hmp, zAa] at e; replace e : some _ = _ := e; subst e; (try dsimp only [goW])) | refine ct_ rfl ?_ | refine cf_ rfl ?_ | refine sk_ ?_ | refine ex_ ?_ | (refine DG _ ?_ _ fun n2 tyn2 hn2 hun2 => ⟨rfl, ?_⟩; exact fit_; (try dsimp only at hn2)))
        all_goals ((try simp only [zAg, zA1, zA7]); refine hk1 _ _ _ _ _ _ ?_ ?_ ?_; omega; exact ut_; exact hv)
      · refine W.loop ?_
        repeat (first | refine sq_ ?_ | refine bl_ ?_ | ((first | refine rg_ ?_ | refine go_ ?_); generalize e : goR _ _ _ _ _ _ _ _ = r; simp (disch := omega) [hX, hg, hY, hce, hc0, hm, hM2, hMS, hmp, zAa] at e; replace e : some _ = _ := e; subst e; (try dsimp only [goW])) | refine ct_ rfl ?_ | refine cf_ rfl ?_ | refine sk_ ?_ | refine ex_ ?_ | (refine DG _ ?_ _ fun n2 tyn2 hn2 hun2 => ⟨rfl, ?_⟩; exact fit_; (try dsimp only at hn2)))
        all_goals ((try simp only [zAg, zA1, zA7]); refine hk1 _ _ _ _ _ _ ?_ ?_ ?_; omega; exact ut_; exact hv)

theorem ref_dig10 (s : List UInt8) (hs : s.length < 60000) (p d m dm : Nat) (t at' : Int) (hmp : m ≠ p) (Q : CExit → CSt → Prop) (v1 v3 v11 v12 : CVal) : ∀ (r : List UInt8) (i v : Nat), s.drop i = r → i + r.length = s.length → v < 18446744073709551616 → ∀ (h : CHeap) (v4 v5 v7 v9 : CVal), zA3 h.ents p = some (lx s (i : Int) 0 t) → zA3 h.ents m = some Z4 → Fit h → p < h.next → m < h.next →
    (∀ n' ty w4 w5 w7 w9, h.next ≤ n' → zA4 ty n' → valF 10 v (fr D10 r) < 18446744073709551616 → Q (.exit 0) ⟨[.ptr p d 0, v1, .int .i64 at', v3, w4, w5, .int .u64 10, w7, .int .u64 (valF 10 v (fr D10 r) : Nat), w9, .ptr m dm 0, v11, v12], ⟨zA0 h.ents p (lx s ((i + (fr D10 r).length : Nat) : Int) 0 t), n', ty⟩, []⟩) →
    (∀ n' ty w4 w5 w7 w8 w9 (j : Int), h.next ≤ n' → zA4 ty n' → 18446744073709551616 ≤ valF 10 v (fr D10 r) → Q .ret ⟨[.ptr p d 0, v1, .int .i64 at', v3, w4, w5, .int .u64 10, w7, w8, w9, .ptr m dm 0, v11, v12], ⟨zA0 h.ents p (lx s j 3 at'), n', ty⟩, []⟩) →
    W tree.getF zDp ⟨[.ptr p d 0, v1, .int .i64 at', v3, v4, v5, .int .u64 10, v7, .int .u64 (v : Int), v9, .ptr m dm 0, v11, v12], h, []⟩ Q := by
  intro r
  induction r with
  | nil =>
    intro i v hd hlen hv h v4 v5 v7 v9 hg hm hf hp hpm hk1 hk2
    simp only [List.length_nil, Nat.add_zero] at hlen
    have e0 : i + (fr D10 []).length = i := rfl
    rw [e0, zAm hg] at hk1
    obtain ⟨hu, hut, hX⟩ := fx4 hf
    have hY := fx5 hf hg; have ⟨hG, hD2, hC2, hN2⟩ := hY
    have hM2 : ∀ x, zA3 (zA0 h.ents p x) m = some Z4 := fun x => by rw [zA2 hmp]; exact hm
    have hMS : ∀ x, zA0 (zA0 h.ents p x) m Z4 = zA0 h.ents p x := fun x => zAm (hM2 x)
    refine W.loop ?_
    repeat (first | refine sq_ ?_ | refine bl_ ?_ | ((first | refine rg_ ?_ | refine go_ ?_); generalize e : goR _ _ _ _ _ _ _ _ = r; simp (disch := omega) [hX, hg, hY, hm, hM2, hMS, hmp, zAa] at e; replace e : some _ = _ := e; subst e; (try dsimp only [goW])) | refine ct_ rfl ?_ | refine cf_ rfl ?_ | refine sk_ ?_ | refine ex_ ?_)
    all_goals ((try simp only [zAg, zA1, zA7]); refine hk1 _ _ _ _ _ _ ?_ ?_ ?_; omega; exact ut_; exact hv)
  | cons c r ih =>
    intro i v hd hlen hv h v4 v5 v7 v9 hg hm hf hp hpm hk1 hk2
    simp only [List.length_cons] at hlen
    have hc0 := zB7 hd
    obtain ⟨hi, hce⟩ := List.getElem?_eq_some_iff.1 hc0
    obtain ⟨hu, hut, hX⟩ := fx4 hf
    have hY := fx5 hf hg; have ⟨hG, hD2, hC2, hN2⟩ := hY
    have hM2 : ∀ x, zA3 (zA0 h.ents p x) m = some Z4 := fun x => by rw [zA2 hmp]; exact hm
    have hMS : ∀ x, zA0 (zA0 h.ents p x) m Z4 = zA0 h.ents p x := fun x => zAm (hM2 x)
    have DG := zHk c
    obtain ⟨x, hx⟩ : ∃ x, dgI c = x := ⟨_, rfl⟩
    rw [hx] at DG
    by_cases hin : 0 ≤ x ∧ x < 10
    · obtain ⟨hx0, hx1⟩ := hin
      have hfr : fr D10 (c :: r) = c :: fr D10 r := zIp (by rw [dig_in10]; simp [hx, hx0, hx1])
      have hdx := zLf c (by omega)
      rw [hx] at hdx
      obtain ⟨y, hy⟩ : ∃ y, digF c = y := ⟨_, rfl⟩
      rw [hy] at hdx
      subst hdx
      have htd : ((18446744073709551615 : Int) - (y : Int)).tdiv 10 = (18446744073709551615 - (y : Int)) / 10 := Int.tdiv_eq_ediv_of_nonneg (by omega)
      rw [hfr] at hk1 hk2
      have hvl : valF 10 v (c :: fr D10 r) = valF 10 (v * 10 + y) (fr D10 r) := by show valF 10 (v * 10 + digF c) _ = _; rw [hy]
      rw [hvl] at hk1 hk2
      by_cases hov : 18446744073709551616 ≤ v * 10 + y
      · have hbig := zJh 10 (by omega) (fr D10 r) (v * 10 + y)
        refine W.loop ?_
        repeat (first | refine sq_ ?_ | refine bl_ ?_ | ((first | refine rg_ ?_ | refine go_ ?_); generalize e : goR _ _ _ _ _ _ _ _ = r; simp (disch := omega) [hX, hg, hY, hce, hc0, hm, hM2, hMS, hmp, zAa, htd] at e; replace e : some _ = _ := e; subst e; (try dsimp only [goW])) | refine ct_ rfl ?_ | refine cf_ rfl ?_ | refine sk_ ?_ | refine ex_ ?_ | (refine DG _ ?_ _ fun n2 tyn2 hn2 hun2 => ⟨rfl, ?_⟩; exact fit_; (try dsimp only at hn2)) | (refine zE1 s (i : Int) 0 t _ _ _ p d ?_ ?_ ?_ _ fun n3 tyn3 hn3 hun3 => ⟨rfl, ?_⟩; exact fit_; (focus (((first | exact hg | exact hG _ | (try dsimp only); exact hg)); done)); (try dsimp only); omega; (try dsimp only at hn3)))
        all_goals ((try refine W.ret ?_); (try simp only [zAg, zA1, zA7, hMS]); refine hk2 _ _ _ _ _ _ _ _ ?_ ?_ ?_; omega; exact ut_; omega)
      · have hnext : ∀ (h' : CHeap) (w4 w5 w7 w9 : CVal) (z : Int), h'.ents = zA0 h.ents p (lx s ((i : Int) + 1) 0 t) → z = ((v * 10 + y : Nat) : Int) → h.next ≤ h'.next → zA4 h'.tys h'.next → W tree.getF zDp ⟨[.ptr p d 0, v1, .int .i64 at', v3, w4, w5, .int .u64 10, w7, .int .u64 z, w9, .ptr m dm 0, v11, v12], h', []⟩ Q := by
          intro h' w4 w5 w7 w9 z e1 e0 e2 e3
          subst e0
          have e4 : ((i : Int) + 1) = ((i + 1 : Nat) : Int) := by omega
          rw [e4] at e1
          refine ih (i + 1) (v * 10 + y) (zBi hd) (by omega) (by omega) h' w4 w5 w7 w9 (by rw [e1]; exact hG _) (by rw [e1]; exact hM2 _) ⟨by rw [e1]; exact hu.set.le e2, e3⟩ (by omega) (by omega) ?_ ?_
          · intro n' ty u4 u5 u7 u9 g1 g2 g3
            rw [e1, zA5]
            have := hk1 n' ty u4 u5 u7 u9 (by omega) g2 g3
            rw [show i + (c :: fr D10 r).length = i + 1 + (fr D10 r).length by simp; omega] at this
            exact this
          · intro n' ty u4 u5 u7 u8 u9 j g1 g2 g3
            rw [e1, zA5]
            exact hk2 n' ty u4 u5 u7 u8 u9 j (by omega) g2 g3
        refine W.loop ?_
        repeat (first | refine sq_ ?_ | refine bl_ ?_ | ((first | refine rg_ ?_ | refine go_ ?_); generalize e : goR _ _ _ _ _ _ _ _ = r; simp (disch := omega) [hX, hg, hY, hce, hc0, hm, hM2, hMS, hmp, zAa, htd] at e; replace e : some _ = _ := e; subst e; (try dsimp only [goW])) | refine ct_ rfl ?_ | refine cf_ rfl ?_ | refine sk_ ?_ | refine ex_ ?_ | (refine DG _ ?_ _ fun n2 tyn2 hn2 hun2 => ⟨rfl, ?_⟩; exact fit_; (try dsimp only at hn2)))
        show W tree.getF zDp (dropped true _ _) Q
        generalize e : dropped _ _ _ = r0
        simp (disch := omega) [hX, hg, hY, hce, hc0, hm, hM2, hMS, hmp, zAa] at e
        subst e
        try dsimp only
        refine hnext _ _ _ _ _ _ ?_ ?_ ?_ ?_
        · rfl
        · (try dsimp only); omega
        · (try dsimp only); omega
        · exact zA4.le (by assumption) (by (try dsimp only); omega)
    · have hfr : fr D10 (c :: r) = [] := fr_no (by rw [dig_in10, hx]; simpa using hin)
      have hl0 : (fr D10 (c :: r)).length = 0 := by rw [hfr]; rfl
      have e0 : i + (fr D10 (c :: r)).length = i := by omega
      rw [e0, zAm hg] at hk1
      rw [hfr] at hk1
      have hmx : -1 ≤ x ∧ x < 16 := by
        have := zDe (p := fun c => decide (-1 ≤ dgI c ∧ dgI c < 16)) (by decide +kernel) c
        rw [← hx]; simpa using this
      by_cases hx0 : x < 0
      · refine W.loop ?_
        repeat (first | refine sq_ ?_ | refine bl_ ?_ | ((first | refine rg_ ?_ | refine go_ ?_); generalize e : goR _ _ _ _ _ _ _ _ = r; simp (disch := omega) [hX, hg, hY, hce, hc0, hm, hM2, hMS, hmp, zAa] at e; replace e : some _ = _ := e; subst e; (try dsimp only [goW])) | refine ct_ rfl ?_ | refine cf_ rfl ?_ | refine sk_ ?_ | refine ex_ ?_ | (refine DG _ ?_ _ fun n2 tyn2 hn2 hun2 => ⟨rfl, ?_⟩; exact fit_; (try dsimp only at hn2)))
        all_goals ((try simp only [zAg, zA1, zA7]); refine hk1 _ _ _ _ _ _ ?_ ?_ ?_; omega; exact ut_; exact hv)
      · refine W.loop ?_
        repeat (first | refine sq_ ?_ | refine bl_ ?_ | ((first | refine rg_ ?_ | refine go_ ?_); generalize e : goR _ _ _ _ _ _ _ _ = r; simp (disch := omega) [hX, hg, hY, hce, hc0, hm, hM2, hMS, hmp, zAa] at e; replace e : some _ = _ := e; subst e; (try dsimp only [goW])) | refine ct_ rfl ?_ | refine cf_ rfl ?_ | refine sk_ ?_ | refine ex_ ?_ | (refine DG _ ?_ _ fun n2 tyn2 hn2 hun2 => ⟨rfl, ?_⟩; exact fit_; (try dsimp only at hn2)))
        all_goals ((try simp only [zAg, zA1, zA7]); refine hk1 _ _ _ _ _ _ ?_ ?_ ?_; omega; exact ut_; exact hv)

theorem ref_dig16 (s : List UInt8) (hs : s.length < 60000) (p d m dm : Nat) (t at' : Int) (hmp : m ≠ p) (Q : CExit → CSt → Prop) (v1 v3 v11 v12 : CVal) : ∀ (r : List UInt8) (i v : Nat), s.drop i = r → i + r.length = s.length → v < 18446744073709551616 → ∀ (h : CHeap) (v4 v5 v7 v9 : CVal), zA3 h.ents p = some (lx s (i : Int) 0 t) → zA3 h.ents m = some Z4 → Fit h → p < h.next → m < h.next →
    (∀ n' ty w4 w5 w7 w9, h.next ≤ n' → zA4 ty n' → valF 16 v (fr zAv r) < 18446744073709551616 → Q (.exit 0) ⟨[.ptr p d 0, v1, .int .i64 at', v3, w4, w5, .int .u64 16, w7, .int .u64 (valF 16 v (fr zAv r) : Nat), w9, .ptr m dm 0, v11, v12], ⟨zA0 h.ents p (lx s ((i + (fr zAv r).length : Nat) : Int) 0 t), n', ty⟩, []⟩) →
    (∀ n' ty w4 w5 w7 w8 w9 (j : Int), h.next ≤ n' → zA4 ty n' → 18446744073709551616 ≤ valF 16 v (fr zAv r) → Q .ret ⟨[.ptr p d 0, v1, .int .i64 at', v3, w4, w5, .int .u64 16, w7, w8, w9, .ptr m dm 0, v11, v12], ⟨zA0 h.ents p (lx s j 3 at'), n', ty⟩, []⟩) →
    W tree.getF zDp ⟨[.ptr p d 0, v1, .int .i64 at', v3, v4, v5, .int .u64 16, v7, .int .u64 (v : Int), v9, .ptr m dm 0, v11, v12], h, []⟩ Q := by
  intro r
  induction r with
  | nil =>
    intro i v hd hlen hv h v4 v5 v7 v9 hg hm hf hp hpm hk1 hk2
    simp only [List.length_nil, Nat.add_zero] at hlen
    have e0 : i + (fr zAv []).length = i := rfl
    rw [e0, zAm hg] at hk1
    obtain ⟨hu, hut, hX⟩ := fx4 hf
    have hY := fx5 hf hg; have ⟨hG, hD2, hC2, hN2⟩ := hY
    have hM2 : ∀ x, zA3 (zA0 h.ents p x) m = some Z4 := fun x => by rw [zA2 hmp]; exact hm
    have hMS : ∀ x, zA0 (zA0 h.ents p x) m Z4 = zA0 h.ents p x := fun x => zAm (hM2 x)
    refine W.loop ?_
    repeat (first | refine sq_ ?_ | refine bl_ ?_ | ((first | refine rg_ ?_ | refine go_ ?_); generalize e : goR _ _ _ _ _ _ _ _ = r; simp (disch := omega) [hX, hg, hY, hm, hM2, hMS, hmp, zAa] at e; replace e : some _ = _ := e; subst e; (try dsimp only [goW])) | refine ct_ rfl ?_ | refine cf_ rfl ?_ | refine sk_ ?_ | refine ex_ ?_)
    all_goals ((try simp only [zAg, zA1, zA7]); refine hk1 _ _ _ _ _ _ ?_ ?_ ?_; omega; exact ut_; exact hv)
  | cons c r ih =>
    intro i v hd hlen hv h v4 v5 v7 v9 hg hm hf hp hpm hk1 hk2
    simp only [List.length_cons] at hlen
    have hc0 := zB7 hd
    obtain ⟨hi, hce⟩ := List.getElem?_eq_some_iff.1 hc0
    obtain ⟨hu, hut, hX⟩ := fx4 hf
    have hY := fx5 hf hg; have ⟨hG, hD2, hC2, hN2⟩ := hY
    have hM2 : ∀ x, zA3 (zA0 h.ents p x) m = some Z4 := fun x => by rw [zA2 hmp]; exact hm
    have hMS : ∀ x, zA0 (zA0 h.ents p x) m Z4 = zA0 h.ents p x := fun x => zAm (hM2 x)
    have DG := zHk c
    obtain ⟨x, hx⟩ : ∃ x, dgI c = x := ⟨_, rfl⟩
    rw [hx] at DG
    by_cases hin : 0 ≤ x ∧ x < 16
    · obtain ⟨hx0, hx1⟩ := hin
      have hfr : fr zAv (c :: r) = c :: fr zAv r := zIp (by rw [dig_in16]; simp [hx, hx0, hx1])
      have hdx := zLf c (by omega)
      rw [hx] at hdx
      obtain ⟨y, hy⟩ : ∃ y, digF c = y := ⟨_, rfl⟩
      rw [hy] at hdx
      subst hdx
      have htd : ((18446744073709551615 : Int) - (y : Int)).tdiv 16 = (18446744073709551615 - (y : Int)) / 16 := Int.tdiv_eq_ediv_of_nonneg (by omega)
      rw [hfr] at hk1 hk2
      have hvl : valF 16 v (c :: fr zAv r) = valF 16 (v * 16 + y) (fr zAv r) := by show valF 16 (v * 16 + digF c) _ = _; rw [hy]
      rw [hvl] at hk1 hk2
      by_cases hov : 18446744073709551616 ≤ v * 16 + y
      · have hbig := zJh 16 (by omega) (fr zAv r) (v * 16 + y)
        refine W.loop ?_
        repeat (first | refine sq_ ?_ | refine bl_ ?_ | ((first | refine rg_ ?_ | refine go_ ?_); generalize e : goR _ _ _ _ _ _ _ _ = r; simp (disch := omega) [hX, hg, hY, hce, hc0, hm, hM2, hMS, hmp, zAa, htd] at e; replace e : some _ = _ := e; subst e; (try dsimp only [goW])) | refine ct_ rfl ?_ | refine cf_ rfl ?_ | refine sk_ ?_ | refine ex_ ?_ | (refine DG _ ?_ _ fun n2 tyn2 hn2 hun2 => ⟨rfl, ?_⟩; exact fit_; (try dsimp only at hn2)) | (refine zE1 s (i : Int) 0 t _ _ _ p d ?_ ?_ ?_ _ fun n3 tyn3 hn3 hun3 => ⟨rfl, ?_⟩; exact fit_; (focus (((first | exact hg | exact hG _ | (try dsimp only); exact hg)); done)); (try dsimp only); omega; (try dsimp only at hn3)))
        all_goals ((try refine W.ret ?_); (try simp only [zAg, zA1, zA7, hMS]); refine hk2 _ _ _ _ _ _ _ _ ?_ ?_ ?_; omega; exact ut_; omega)
      · have hnext : ∀ (h' : CHeap) (w4 w5 w7 w9 : CVal) (z : Int), h'.ents = zA0 h.ents p (lx s ((i : Int) + 1) 0 t) → z = ((v * 16 + y : Nat) : Int) → h.next ≤ h'.next → zA4 h'.tys h'.next → W tree.getF zDp ⟨[.ptr p d 0, v1, .int .i64 at', v3, w4, w5, .int .u64 16, w7, .int .u64 z, w9, .ptr m dm 0, v11, v12], h', []⟩ Q := by
          intro h' w4 w5 w7 w9 z e1 e0 e2 e3
          subst e0
          have e4 : ((i : Int) + 1) = ((i + 1 : Nat) : Int) := by omega
          rw [e4] at e1
          refine ih (i + 1) (v * 16 + y) (zBi hd) (by omega) (by omega) h' w4 w5 w7 w9 (by rw [e1]; exact hG _) (by rw [e1]; exact hM2 _) ⟨by rw [e1]; exact hu.set.le e2, e3⟩ (by omega) (by omega) ?_ ?_
          · intro n' ty u4 u5 u7 u9 g1 g2 g3
            rw [e1, zA5]
            have := hk1 n' ty u4 u5 u7 u9 (by omega) g2 g3
            rw [show i + (c :: fr zAv r).length = i + 1 + (fr zAv r).length by simp; omega] at this
            exact this
          · intro n' ty u4 u5 u7 u8 u9 j g1 g2 g3
            rw [e1, zA5]
            exact hk2 n' ty u4 u5 u7 u8 u9 j (by omega) g2 g3
        refine W.loop ?_
        repeat (first | refine sq_ ?_ | refine bl_ ?_ | ((first | refine rg_ ?_ | refine go_ ?_); generalize e : goR _ _ _ _ _ _ _ _ = r; simp (disch := omega) [hX, hg, hY, hce, hc0, hm, hM2, hMS, hmp, zAa, htd] at e; replace e : some _ = _ := e; subst e; (try dsimp only [goW])) | refine ct_ rfl ?_ | refine cf_ rfl ?_ | refine sk_ ?_ | refine ex_ ?_ | (refine DG _ ?_ _ fun n2 tyn2 hn2 hun2 => ⟨rfl, ?_⟩; exact fit_; (try dsimp only at hn2)))
        show W tree.getF zDp (dropped true _ _) Q
        generalize e : dropped _ _ _ = r0
        simp (disch := omega) [hX, hg, hY, hce, hc0, hm, hM2, hMS, hmp, zAa] at e
        subst e
        try dsimp only
        refine hnext _ _ _ _ _ _ ?_ ?_ ?_ ?_
        · rfl
        · (try dsimp only); omega
        · (try dsimp only); omega
        · exact zA4.le (by assumption) (by (try dsimp only); omega)
    · have hfr : fr zAv (c :: r) = [] := fr_no (by rw [dig_in16, hx]; simpa using hin)
      have hl0 : (fr zAv (c :: r)).length = 0 := by rw [hfr]; rfl
      have e0 : i + (fr zAv (c :: r)).length = i := by omega
      rw [e0, zAm hg] at hk1
      rw [hfr] at hk1
      have hmx : -1 ≤ x ∧ x < 16 := by
        have := zDe (p := fun c => decide (-1 ≤ dgI c ∧ dgI c < 16)) (by decide +kernel) c
        rw [← hx]; simpa using this
      by_cases hx0 : x < 0
      · refine W.loop ?_
        repeat (first | refine sq_ ?_ | refine bl_ ?_ | ((first | refine rg_ ?_ | refine go_ ?_); generalize e : goR _ _ _ _ _ _ _ _ = r; simp (disch := omega) [hX, hg, hY, hce, hc0, hm, hM2, hMS, hmp, zAa] at e; replace e : some _ = _ := e; subst e; (try dsimp only [goW])) | refine ct_ rfl ?_ | refine cf_ rfl ?_ | refine sk_ ?_ | refine ex_ ?_ | (refine DG _ ?_ _ fun n2 tyn2 hn2 hun2 => ⟨rfl, ?_⟩; exact fit_; (try dsimp only at hn2)))
        all_goals ((try simp only [zAg, zA1, zA7]); refine hk1 _ _ _ _ _ _ ?_ ?_ ?_; omega; exact ut_; exact hv)
      · exfalso; omega
abbrev zIh : CCode := (.seq (.region [.v 0, .g (.call false 32 [(.loc 0), (.const (.int .i64 0))]), .m (.loc 0)] [(11, 2)] [] []) (.seq (.seq (.region [.v 11, .g (.call false 31 [(.loc 0)]), .m (.loc 0), ⟨.mv (.var 11), (some (0, false))⟩, ⟨.call false 33 [(.loc 0)], (some (1, false))⟩, .g (.pick (.loc 2) (.const (.bool true)) (.loc 0)), .m (.loc 0), ⟨.mv (.var 11), (some (0, false))⟩, ⟨.bin .eql (.loc 0) (.const (.int .u8 46)), (some (1, false))⟩, .g (.pick (.loc 2) (.const (.bool true)) (.loc 0))] [(12, 9)] [] []) (.cond (.var 12) (.seq (.region [.v 0, .v 2, .g (.call false 30 [(.loc 1), (.const (.int .i64 2)), (.loc 0)]), .g (.store 4 (.var 10) (.loc 0))] [] [] []) .ret) .skip)) (.seq (.region [.v 8, .v 2, .g (.build [(.int .i64 0), (.str []), (.int .u64 0), (.int .i64 0)] [(0, 1, (.const (.int .i64 2))), (2, 1, (.loc 1)), (3, 1, (.loc 0))]), .g (.store 4 (.var 10) (.loc 0))] [] [] []) .ret)))
theorem zKz (c : UInt8) : (zB1 ++ [46]).contains c = (letB c || digB c || decide (c.toNat = 46)) := by
  have := zDe (p := fun c => (zB1 ++ [46]).contains c == (letB c || digB c || decide (c.toNat = 46))) (by decide +kernel) c
  simpa using this
theorem zLn (s : List UInt8) (hs : s.length < 60000) (p d m dm : Nat) (t at' v : Int) (hmp : m ≠ p) (Q : CExit → CSt → Prop) (u : List UInt8) (i : Nat) (hd : s.drop i = u) (hlen : i + u.length = s.length) (h : CHeap) (v1 v3 v4 v5 v6 v7 v9 v11 v12 : CVal) (hg : zA3 h.ents p = some (lx s (i : Int) 0 t)) (hm : zA3 h.ents m = some Z4) (hf : Fit h) (hp : p < h.next) (hpm : m < h.next)
    (hk1 : ∀ n' ty w11 w12, h.next ≤ n' → zA4 ty n' → (∀ c u', u = c :: u' → (zB1 ++ [46]).contains c = false) → Q .ret ⟨[.ptr p d 0, v1, .int .i64 at', v3, v4, v5, v6, v7, .int .u64 v, v9, .ptr m dm 0, w11, w12], ⟨zA0 h.ents m (.cells [.int .i64 2, .str [], .int .u64 v, .int .i64 at']), n', ty⟩, []⟩)
    (hk2 : ∀ n' ty w11 w12, h.next ≤ n' → zA4 ty n' → (∃ c u', u = c :: u' ∧ (zB1 ++ [46]).contains c = true) → Q .ret ⟨[.ptr p d 0, v1, .int .i64 at', v3, v4, v5, v6, v7, .int .u64 v, v9, .ptr m dm 0, w11, w12], ⟨zA0 h.ents p (lx s (i : Int) 2 at'), n', ty⟩, []⟩) :
    W tree.getF zIh ⟨[.ptr p d 0, v1, .int .i64 at', v3, v4, v5, v6, v7, .int .u64 v, v9, .ptr m dm 0, v11, v12], h, []⟩ Q := by
  obtain ⟨hu, hut, hX⟩ := fx4 hf
  have hY := fx5 hf hg; have ⟨hG, hD2, hC2, hN2⟩ := hY
  have hM2 : ∀ x, zA3 (zA0 h.ents p x) m = some Z4 := fun x => by rw [zA2 hmp]; exact hm
  have hMS : ∀ x, zA0 (zA0 h.ents p x) m Z4 = zA0 h.ents p x := fun x => zAm (hM2 x)

  cases u with
  | nil =>
    simp only [List.length_nil, Nat.add_zero] at hlen
    have B0 : ∀ (h : CHeap) (hf : Fit h) (hg : zA3 h.ents p = some (lx s (i : Int) 0 t)) (hp : p < h.next) (K : CVal → CHeap → Prop) (hk : ∀ n' ty, h.next ≤ n' → zA4 ty n' → K (.int .u8 0) ⟨h.ents, n', ty⟩), Wc tree.getF 32 [.ptr p d 0, .int .i64 0] h K := fun h hf hg hp K hk => zJ1 s i 0 0 t hs (by omega) (by omega) (by omega) h p d hf hg hp K hk
    repeat (first | refine sq_ ?_ | refine bl_ ?_ | ((first | refine rg_ ?_ | refine go_ ?_); generalize e : goR _ _ _ _ _ _ _ _ = r; simp (disch := omega) [hX, hg, hY, hm, hM2, hMS, hmp] at e; replace e : some _ = _ := e; subst e; (try dsimp only [goW])) | refine ct_ rfl ?_ | refine cf_ rfl ?_ | refine sk_ ?_ | refine ex_ ?_ | (refine B0 _ ?_ ?_ ?_ _ fun n1 tyn1 hn1 hun1 => ⟨rfl, ?_⟩; exact fit_; exact ge_; (try dsimp only); omega; (try dsimp only at hn1)) | (refine zIe _ ?_ _ fun n1 tyn1 hn1 hun1 => ⟨rfl, ?_⟩; exact fit_; (try dsimp only at hn1)) | (refine digit_0 _ ?_ _ fun n1 tyn1 hn1 hun1 => ⟨rfl, ?_⟩; exact fit_; (try dsimp only at hn1)))
    all_goals ((try refine W.ret ?_); (try simp only [zAg, zA1, zA7, hMS]); refine hk1 _ _ _ _ ?_ ?_ (by intro c u' e; cases e); omega; exact ut_)
  | cons c u =>
    simp only [List.length_cons] at hlen
    have hc0 := zB7 hd
    have B0 : ∀ (h : CHeap) (hf : Fit h) (hg : zA3 h.ents p = some (lx s (i : Int) 0 t)) (hp : p < h.next) (K : CVal → CHeap → Prop) (hk : ∀ n' ty, h.next ≤ n' → zA4 ty n' → K (.int .u8 (c.toNat : Int)) ⟨h.ents, n', ty⟩), Wc tree.getF 32 [.ptr p d 0, .int .i64 0] h K := fun h hf hg hp K hk => zIa s i 0 0 t c hs (by omega) hc0 h p d hf hg hp K hk
    have LF := zBc c
    have DF := zBv c
    by_cases hl : letB c = true
    · have hin : (zB1 ++ [46]).contains c = true := by rw [zKz, hl]; rfl
      rw [hl] at LF
      repeat (first | refine sq_ ?_ | refine bl_ ?_ | ((first | refine rg_ ?_ | refine go_ ?_); generalize e : goR _ _ _ _ _ _ _ _ = r; simp (disch := omega) [hX, hg, hY, hm, hM2, hMS, hmp] at e; replace e : some _ = _ := e; subst e; (try dsimp only [goW])) | refine ct_ rfl ?_ | refine cf_ rfl ?_ | refine sk_ ?_ | refine ex_ ?_ | (refine B0 _ ?_ ?_ ?_ _ fun n1 tyn1 hn1 hun1 => ⟨rfl, ?_⟩; exact fit_; exact ge_; (try dsimp only); omega; (try dsimp only at hn1)) | (refine zE1 s (i : Int) 0 t _ _ _ p d ?_ ?_ ?_ _ fun n3 tyn3 hn3 hun3 => ⟨rfl, ?_⟩; exact fit_; (focus (((first | exact hg | exact hG _ | (try dsimp only); exact hg)); done)); (try dsimp only); omega; (try dsimp only at hn3)) | (refine LF _ ?_ _ fun n1 tyn1 hn1 hun1 => ⟨rfl, ?_⟩; exact fit_; (try dsimp only at hn1)) | (refine DF _ ?_ _ fun n1 tyn1 hn1 hun1 => ⟨rfl, ?_⟩; exact fit_; (try dsimp only at hn1)))
      all_goals ((try refine W.ret ?_); (try simp only [zAg, zA1, zA7, hMS]); refine hk2 _ _ _ _ ?_ ?_ ⟨c, u, rfl, hin⟩; omega; exact ut_)
    · rw [Bool.not_eq_true] at hl
      rw [hl] at LF
      by_cases hdg : digB c = true
      · have hin : (zB1 ++ [46]).contains c = true := by rw [zKz, hl, hdg]; rfl
        rw [hdg] at DF
        repeat (first | refine sq_ ?_ | refine bl_ ?_ | ((first | refine rg_ ?_ | refine go_ ?_); generalize e : goR _ _ _ _ _ _ _ _ = r; simp (disch := omega) [hX, hg, hY, hm, hM2, hMS, hmp] at e; replace e : some _ = _ := e; subst e; (try dsimp only [goW])) | refine ct_ rfl ?_ | refine cf_ rfl ?_ | refine sk_ ?_ | refine ex_ ?_ | (refine B0 _ ?_ ?_ ?_ _ fun n1 tyn1 hn1 hun1 => ⟨rfl, ?_⟩; exact fit_; exact ge_; (try dsimp only); omega; (try dsimp only at hn1)) | (refine zE1 s (i : Int) 0 t _ _ _ p d ?_ ?_ ?_ _ fun n3 tyn3 hn3 hun3 => ⟨rfl, ?_⟩; exact fit_; (focus (((first | exact hg | exact hG _ | (try dsimp only); exact hg)); done)); (try dsimp only); omega; (try dsimp only at hn3)) | (refine LF _ ?_ _ fun n1 tyn1 hn1 hun1 => ⟨rfl, ?_⟩; exact fit_; (try dsimp only at hn1)) | (refine DF _ ?_ _ fun n1 tyn1 hn1 hun1 => ⟨rfl, ?_⟩; exact fit_; (try dsimp only at hn1)))
        all_goals ((try refine W.ret ?_); (try simp only [zAg, zA1, zA7, hMS]); refine hk2 _ _ _ _ ?_ ?_ ⟨c, u, rfl, hin⟩; omega; exact ut_)
      · rw [Bool.not_eq_true] at hdg
        rw [hdg] at DF
        by_cases h46 : c.toNat = 46
        · have hin : (zB1 ++ [46]).contains c = true := by rw [zKz, hl, hdg]; simp [h46]
          repeat (first | refine sq_ ?_ | refine bl_ ?_ | ((first | refine rg_ ?_ | refine go_ ?_); generalize e : goR _ _ _ _ _ _ _ _ = r; simp (disch := omega) [hX, hg, hY, hm, hM2, hMS, hmp] at e; replace e : some _ = _ := e; subst e; (try dsimp only [goW])) | refine ct_ rfl ?_ | refine cf_ rfl ?_ | refine sk_ ?_ | refine ex_ ?_ | (refine B0 _ ?_ ?_ ?_ _ fun n1 tyn1 hn1 hun1 => ⟨rfl, ?_⟩; exact fit_; exact ge_; (try dsimp only); omega; (try dsimp only at hn1)) | (refine zE1 s (i : Int) 0 t _ _ _ p d ?_ ?_ ?_ _ fun n3 tyn3 hn3 hun3 => ⟨rfl, ?_⟩; exact fit_; (focus (((first | exact hg | exact hG _ | (try dsimp only); exact hg)); done)); (try dsimp only); omega; (try dsimp only at hn3)) | (refine LF _ ?_ _ fun n1 tyn1 hn1 hun1 => ⟨rfl, ?_⟩; exact fit_; (try dsimp only at hn1)) | (refine DF _ ?_ _ fun n1 tyn1 hn1 hun1 => ⟨rfl, ?_⟩; exact fit_; (try dsimp only at hn1)))
          all_goals ((try refine W.ret ?_); (try simp only [zAg, zA1, zA7, hMS]); refine hk2 _ _ _ _ ?_ ?_ ⟨c, u, rfl, hin⟩; omega; exact ut_)
        · have hnin : (zB1 ++ [46]).contains c = false := by rw [zKz, hl, hdg]; simp [h46]
          repeat (first | refine sq_ ?_ | refine bl_ ?_ | ((first | refine rg_ ?_ | refine go_ ?_); generalize e : goR _ _ _ _ _ _ _ _ = r; simp (disch := omega) [hX, hg, hY, hm, hM2, hMS, hmp] at e; replace e : some _ = _ := e; subst e; (try dsimp only [goW])) | refine ct_ rfl ?_ | refine cf_ rfl ?_ | refine sk_ ?_ | refine ex_ ?_ | (refine B0 _ ?_ ?_ ?_ _ fun n1 tyn1 hn1 hun1 => ⟨rfl, ?_⟩; exact fit_; exact ge_; (try dsimp only); omega; (try dsimp only at hn1)) | (refine zE1 s (i : Int) 0 t _ _ _ p d ?_ ?_ ?_ _ fun n3 tyn3 hn3 hun3 => ⟨rfl, ?_⟩; exact fit_; (focus (((first | exact hg | exact hG _ | (try dsimp only); exact hg)); done)); (try dsimp only); omega; (try dsimp only at hn3)) | (refine LF _ ?_ _ fun n1 tyn1 hn1 hun1 => ⟨rfl, ?_⟩; exact fit_; (try dsimp only at hn1)) | (refine DF _ ?_ _ fun n1 tyn1 hn1 hun1 => ⟨rfl, ?_⟩; exact fit_; (try dsimp only at hn1)))
          all_goals ((try refine W.ret ?_); (try simp only [zAg, zA1, zA7, hMS]); refine hk1 _ _ _ _ ?_ ?_ (by intro c' u' e; cases e; exact hnin); omega; exact ut_)
/-- What a number is, once its base and its digits are known. -/
def zEx (B : Nat) (ds u : List UInt8) : Nat ⊕ Nat := if 18446744073709551616 ≤ valF B 0 ds then .inl 3 else match u with
  | [] => .inr (valF B 0 ds)
  | c :: _ => if (zB1 ++ [46]).contains c then .inl 2 else .inr (valF B 0 ds)

theorem zFp (s : List UInt8) (hs : s.length < 60000) (p d m dm : Nat) (t at' : Int) (hmp : m ≠ p) (Q : CExit → CSt → Prop) (r : List UInt8) (i : Nat) (hd : s.drop i = r) (hlen : i + r.length = s.length) (h : CHeap) (v1 v3 v4 v5 v7 v9 v11 v12 : CVal) (hg : zA3 h.ents p = some (lx s (i : Int) 0 t)) (hm : zA3 h.ents m = some Z4) (hf : Fit h) (hp : p < h.next) (hpm : m < h.next)
    (hk1 : ∀ n' ty w4 w5 w7 w8 w9 w11 w12 v, h.next ≤ n' → zA4 ty n' → zEx 8 (fr D8 r) (bk D8 r) = .inr v → Q .ret ⟨[.ptr p d 0, v1, .int .i64 at', v3, w4, w5, .int .u64 8, w7, w8, w9, .ptr m dm 0, w11, w12], ⟨zA0 (zA0 h.ents p (lx s ((i + (fr D8 r).length : Nat) : Int) 0 t)) m (.cells [.int .i64 2, .str [], .int .u64 (v : Nat), .int .i64 at']), n', ty⟩, []⟩)
    (hk2 : ∀ n' ty w4 w5 w7 w8 w9 w11 w12 (e : Nat) (j : Int), h.next ≤ n' → zA4 ty n' → zEx 8 (fr D8 r) (bk D8 r) = .inl e → Q .ret ⟨[.ptr p d 0, v1, .int .i64 at', v3, w4, w5, .int .u64 8, w7, w8, w9, .ptr m dm 0, w11, w12], ⟨zA0 h.ents p (lx s j (e : Int) at'), n', ty⟩, []⟩) :
    W tree.getF zDp ⟨[.ptr p d 0, v1, .int .i64 at', v3, v4, v5, .int .u64 8, v7, .int .u64 0, v9, .ptr m dm 0, v11, v12], h, []⟩ (fun x st' => thenW tree.getF zIh Q (zAg 0 x) st') := by
  obtain ⟨hu, hut, hX⟩ := fx4 hf
  have hY := fx5 hf hg; have ⟨hG, hD2, hC2, hN2⟩ := hY
  have hM2 : ∀ x, zA3 (zA0 h.ents p x) m = some Z4 := fun x => by rw [zA2 hmp]; exact hm
  have hMS : ∀ x, zA0 (zA0 h.ents p x) m Z4 = zA0 h.ents p x := fun x => zAm (hM2 x)
  refine ref_dig8 s hs p d m dm t at' hmp _ _ _ _ _ r i 0 hd hlen (by omega) h _ _ _ _ hg hm ⟨hu, hut⟩ hp hpm ?_ ?_
  · intro n' ty w4 w5 w7 w9 g1 g2 g3
    try simp only [zAg, zA1, zA7]
    have hfl := zEq D8 r
    have hdr := zC2 D8 r
    refine zLn s hs p d m dm t at' _ hmp _ (bk D8 r) (i + (fr D8 r).length) (by rw [← List.drop_drop, hd, hdr]) (by omega) _ _ _ _ _ _ _ _ _ _ (hG _) (hM2 _) ⟨hu.set.le g1, g2⟩ (by (try dsimp only); omega) (by (try dsimp only); omega) ?_ ?_
    · intro n2 ty2 w11 w12 g4 g5 g6
      refine hk1 n2 ty2 _ _ _ _ _ _ _ (valF 8 0 (fr D8 r)) (by (try dsimp only at g4); omega) g5 ?_
      unfold zEx
      rw [if_neg (by omega)]
      split
      · rfl
      · rename_i c u hu2
        rw [g6 _ _ hu2]; rfl
    · intro n2 ty2 w11 w12 g4 g5 g6
      rw [zA5]
      refine hk2 n2 ty2 _ _ _ _ _ _ _ 2 _ (by (try dsimp only at g4); omega) g5 ?_
      obtain ⟨c, u, g7, g8⟩ := g6
      unfold zEx
      rw [if_neg (by omega), g7]
      dsimp only
      rw [g8]; rfl
  · intro n' ty w4 w5 w7 w8 w9 j g1 g2 g3
    try simp only [zAg, zA1, zA7]
    refine hk2 n' ty _ _ _ _ _ _ _ 3 _ g1 g2 ?_
    unfold zEx
    rw [if_pos g3]

theorem num_rest10 (s : List UInt8) (hs : s.length < 60000) (p d m dm : Nat) (t at' : Int) (hmp : m ≠ p) (Q : CExit → CSt → Prop) (r : List UInt8) (i : Nat) (hd : s.drop i = r) (hlen : i + r.length = s.length) (h : CHeap) (v1 v3 v4 v5 v7 v9 v11 v12 : CVal) (hg : zA3 h.ents p = some (lx s (i : Int) 0 t)) (hm : zA3 h.ents m = some Z4) (hf : Fit h) (hp : p < h.next) (hpm : m < h.next)
    (hk1 : ∀ n' ty w4 w5 w7 w8 w9 w11 w12 v, h.next ≤ n' → zA4 ty n' → zEx 10 (fr D10 r) (bk D10 r) = .inr v → Q .ret ⟨[.ptr p d 0, v1, .int .i64 at', v3, w4, w5, .int .u64 10, w7, w8, w9, .ptr m dm 0, w11, w12], ⟨zA0 (zA0 h.ents p (lx s ((i + (fr D10 r).length : Nat) : Int) 0 t)) m (.cells [.int .i64 2, .str [], .int .u64 (v : Nat), .int .i64 at']), n', ty⟩, []⟩)
    (hk2 : ∀ n' ty w4 w5 w7 w8 w9 w11 w12 (e : Nat) (j : Int), h.next ≤ n' → zA4 ty n' → zEx 10 (fr D10 r) (bk D10 r) = .inl e → Q .ret ⟨[.ptr p d 0, v1, .int .i64 at', v3, w4, w5, .int .u64 10, w7, w8, w9, .ptr m dm 0, w11, w12], ⟨zA0 h.ents p (lx s j (e : Int) at'), n', ty⟩, []⟩) :
    W tree.getF zDp ⟨[.ptr p d 0, v1, .int .i64 at', v3, v4, v5, .int .u64 10, v7, .int .u64 0, v9, .ptr m dm 0, v11, v12], h, []⟩ (fun x st' => thenW tree.getF zIh Q (zAg 0 x) st') := by
  obtain ⟨hu, hut, hX⟩ := fx4 hf
  have hY := fx5 hf hg; have ⟨hG, hD2, hC2, hN2⟩ := hY
  have hM2 : ∀ x, zA3 (zA0 h.ents p x) m = some Z4 := fun x => by rw [zA2 hmp]; exact hm
  have hMS : ∀ x, zA0 (zA0 h.ents p x) m Z4 = zA0 h.ents p x := fun x => zAm (hM2 x)
  refine ref_dig10 s hs p d m dm t at' hmp _ _ _ _ _ r i 0 hd hlen (by omega) h _ _ _ _ hg hm ⟨hu, hut⟩ hp hpm ?_ ?_
  · intro n' ty w4 w5 w7 w9 g1 g2 g3
    try simp only [zAg, zA1, zA7]
    have hfl := zEq D10 r
    have hdr := zC2 D10 r
    refine zLn s hs p d m dm t at' _ hmp _ (bk D10 r) (i + (fr D10 r).length) (by rw [← List.drop_drop, hd, hdr]) (by omega) _ _ _ _ _ _ _ _ _ _ (hG _) (hM2 _) ⟨hu.set.le g1, g2⟩ (by (try dsimp only); omega) (by (try dsimp only); omega) ?_ ?_
    · intro n2 ty2 w11 w12 g4 g5 g6
      refine hk1 n2 ty2 _ _ _ _ _ _ _ (valF 10 0 (fr D10 r)) (by (try dsimp only at g4); omega) g5 ?_
      unfold zEx
      rw [if_neg (by omega)]
      split
      · rfl
      · rename_i c u hu2
        rw [g6 _ _ hu2]; rfl
    · intro n2 ty2 w11 w12 g4 g5 g6
      rw [zA5]
      refine hk2 n2 ty2 _ _ _ _ _ _ _ 2 _ (by (try dsimp only at g4); omega) g5 ?_
      obtain ⟨c, u, g7, g8⟩ := g6
      unfold zEx
      rw [if_neg (by omega), g7]
      dsimp only
      rw [g8]; rfl
  · intro n' ty w4 w5 w7 w8 w9 j g1 g2 g3
    try simp only [zAg, zA1, zA7]
    refine hk2 n' ty _ _ _ _ _ _ _ 3 _ g1 g2 ?_
    unfold zEx
    rw [if_pos g3]

theorem zKj (s : List UInt8) (hs : s.length < 60000) (p d m dm : Nat) (t at' : Int) (hmp : m ≠ p) (Q : CExit → CSt → Prop) (r : List UInt8) (i : Nat) (hd : s.drop i = r) (hlen : i + r.length = s.length) (h : CHeap) (v1 v3 v4 v5 v7 v9 v11 v12 : CVal) (hg : zA3 h.ents p = some (lx s (i : Int) 0 t)) (hm : zA3 h.ents m = some Z4) (hf : Fit h) (hp : p < h.next) (hpm : m < h.next)
    (hk1 : ∀ n' ty w4 w5 w7 w8 w9 w11 w12 v, h.next ≤ n' → zA4 ty n' → zEx 16 (fr zAv r) (bk zAv r) = .inr v → Q .ret ⟨[.ptr p d 0, v1, .int .i64 at', v3, w4, w5, .int .u64 16, w7, w8, w9, .ptr m dm 0, w11, w12], ⟨zA0 (zA0 h.ents p (lx s ((i + (fr zAv r).length : Nat) : Int) 0 t)) m (.cells [.int .i64 2, .str [], .int .u64 (v : Nat), .int .i64 at']), n', ty⟩, []⟩)
    (hk2 : ∀ n' ty w4 w5 w7 w8 w9 w11 w12 (e : Nat) (j : Int), h.next ≤ n' → zA4 ty n' → zEx 16 (fr zAv r) (bk zAv r) = .inl e → Q .ret ⟨[.ptr p d 0, v1, .int .i64 at', v3, w4, w5, .int .u64 16, w7, w8, w9, .ptr m dm 0, w11, w12], ⟨zA0 h.ents p (lx s j (e : Int) at'), n', ty⟩, []⟩) :
    W tree.getF zDp ⟨[.ptr p d 0, v1, .int .i64 at', v3, v4, v5, .int .u64 16, v7, .int .u64 0, v9, .ptr m dm 0, v11, v12], h, []⟩ (fun x st' => thenW tree.getF zIh Q (zAg 0 x) st') := by
  obtain ⟨hu, hut, hX⟩ := fx4 hf
  have hY := fx5 hf hg; have ⟨hG, hD2, hC2, hN2⟩ := hY
  have hM2 : ∀ x, zA3 (zA0 h.ents p x) m = some Z4 := fun x => by rw [zA2 hmp]; exact hm
  have hMS : ∀ x, zA0 (zA0 h.ents p x) m Z4 = zA0 h.ents p x := fun x => zAm (hM2 x)
  refine ref_dig16 s hs p d m dm t at' hmp _ _ _ _ _ r i 0 hd hlen (by omega) h _ _ _ _ hg hm ⟨hu, hut⟩ hp hpm ?_ ?_
  · intro n' ty w4 w5 w7 w9 g1 g2 g3
    try simp only [zAg, zA1, zA7]
    have hfl := zEq zAv r
    have hdr := zC2 zAv r
    refine zLn s hs p d m dm t at' _ hmp _ (bk zAv r) (i + (fr zAv r).length) (by rw [← List.drop_drop, hd, hdr]) (by omega) _ _ _ _ _ _ _ _ _ _ (hG _) (hM2 _) ⟨hu.set.le g1, g2⟩ (by (try dsimp only); omega) (by (try dsimp only); omega) ?_ ?_
    · intro n2 ty2 w11 w12 g4 g5 g6
      refine hk1 n2 ty2 _ _ _ _ _ _ _ (valF 16 0 (fr zAv r)) (by (try dsimp only at g4); omega) g5 ?_
      unfold zEx
      rw [if_neg (by omega)]
      split
      · rfl
      · rename_i c u hu2
        rw [g6 _ _ hu2]; rfl
    · intro n2 ty2 w11 w12 g4 g5 g6
      rw [zA5]
      refine hk2 n2 ty2 _ _ _ _ _ _ _ 2 _ (by (try dsimp only at g4); omega) g5 ?_
      obtain ⟨c, u, g7, g8⟩ := g6
      unfold zEx
      rw [if_neg (by omega), g7]
      dsimp only
      rw [g8]; rfl
  · intro n' ty w4 w5 w7 w8 w9 j g1 g2 g3
    try simp only [zAg, zA1, zA7]
    refine hk2 n' ty _ _ _ _ _ _ _ 3 _ g1 g2 ?_
    unfold zEx
    rw [if_pos g3]

end Go.Proofs.YtnllehllomllcaaDoor.IrM
