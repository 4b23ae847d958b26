/- What the functions of the law 'WordAll' do: part 2 of 7. -/
import Derived.Test.YthblmflngjofjaaDoorLx1
namespace Go.Proofs.YthblmflngjofjaaDoor.IrW
open Go Go.CI
open Go.LexF hiding spacesB lettersB
set_option maxRecDepth 100000
set_option linter.unusedVariables false
set_option linter.unusedSimpArgs false
attribute [local irreducible] W Wo Wc WoR
theorem indexb_F (s : List UInt8) (hl : s.length < 100000) : Pu tree.getF 15 [.str s, .int .u8 10] (.int .i64 (idxFrom 10 s 0)) := by
  intro h hf K hk
  obtain ⟨hu, hut, hX⟩ := fx4 hf

  refine Wc.mkG 15 c15 (by kernel_rfl) rfl ?_
  generalize e : entryC _ _ _ = r
  simp (disch := omega) [hX, c15] at e
  subst e
  repeat (first | refine sq_ ?_ | refine bl_ ?_ | ((first | refine rg_ ?_ | refine go_ ?_); generalize e : goR _ _ _ _ _ _ _ _ = r; simp (disch := omega) [hX, c31, c15] at e; replace e : some _ = _ := e; subst e; (try dsimp only [goW])) | refine ct_ rfl ?_ | refine cf_ rfl ?_ | refine sk_ ?_ | refine ex_ ?_ | (refine W.loop ?_; try (generalize e : dropped _ _ _ = r; simp (disch := omega) [hX, c31, c15] at e; subst e; try dsimp only)) | (refine Wc.mkG 31 c31 (by kernel_rfl) rfl ?_; generalize e : entryC _ _ _ = r; simp (disch := omega) [hX, c31, c15] at e; subst e) | (refine Wc.primM (f := 44) (p := pIndexByte) (by kernel_rfl) ?_; generalize e : pIndexByte _ _ = r; simp (disch := omega) [hX, c31, c15] at e; subst e; (try dsimp only); refine ⟨rfl, ?_⟩) | ((first | (refine W.ret ?_; (try simp only [outOf, thenW_ret, roundW]); refine endW.of (.inl rfl) rfl ?_) | refine endW.of (.inr rfl) rfl ?_); generalize e : endsC _ _ _ = r; simp (disch := omega) [hX, c31, c15] at e; subst e; (try dsimp only [goW]); (first | refine ⟨rfl, ?_⟩ | (refine hk _ _ ?_ ?_; omega; exact ut_))))

theorem index_F (s p : List UInt8) (hl : s.length < 100000) : Pu tree.getF 16 [.str s, .str p] (.int .i64 (idxSub p s 0)) :=
  pu_of fun h hu K hk => index_spec s p (by omega) h hu K hk
abbrev skipLoop : CCode := (.loop true (.seq (.seq (.region [⟨.mv (.var 0), none⟩, ⟨.nilck (.loc 0), none⟩, ⟨.fieldAddr 3 (.loc 0), none⟩, ⟨.load none (.loc 0), none⟩, ⟨.bin .eql (.loc 0) (.const (.int .i64 0)), none⟩] [(1, 4)] [] []) (.cond (.var 1) .skip (.exit 0))) (.block 1 (.seq (.region [⟨.mv (.var 0), none⟩, ⟨.nilck (.loc 0), none⟩, ⟨.fieldAddr 1 (.loc 0), none⟩, ⟨.load none (.loc 0), none⟩, ⟨.mv (.var 0), none⟩, ⟨.nilck (.loc 0), none⟩, ⟨.fieldAddr 0 (.loc 0), none⟩, ⟨.load none (.loc 0), none⟩, ⟨.mv (.var 0), none⟩, ⟨.nilck (.loc 0), none⟩, ⟨.fieldAddr 1 (.loc 0), none⟩, ⟨.load none (.loc 0), none⟩, ⟨.slc 0 (.loc 4) (some (.loc 0)) none, none⟩, ⟨.call false 13 [(.loc 0), (.const (.str [9, 10, 11, 12, 13, 32]))], none⟩, ⟨.bin .add (.loc 10) (.loc 0), none⟩, ⟨.nilck (.loc 14), none⟩, ⟨.fieldAddr 1 (.loc 0), none⟩, ⟨.store 1 (.loc 0) (.loc 2), none⟩] [] [(3, 0, 1)] []) (.seq (.region [⟨.mv (.var 0), none⟩, ⟨.nilck (.loc 0), none⟩, ⟨.fieldAddr 0 (.loc 0), none⟩, ⟨.load none (.loc 0), none⟩, ⟨.mv (.var 0), none⟩, ⟨.nilck (.loc 0), none⟩, ⟨.fieldAddr 1 (.loc 0), none⟩, ⟨.load none (.loc 0), none⟩, ⟨.slc 0 (.loc 4) (some (.loc 0)) none, none⟩, ⟨.mv (.loc 0), none⟩] [(2, 9)] [] []) (.block 2 (.seq (.region [⟨.mv (.var 2), none⟩, ⟨.call false 14 [(.loc 0), (.const (.str [47, 47]))], none⟩, ⟨.mv (.loc 0), none⟩] [(3, 2)] [] []) (.cond (.var 3) (.seq (.region [⟨.mv (.var 2), none⟩, ⟨.call false 15 [(.loc 0), (.const (.int .u8 10))], none⟩, ⟨.mv (.loc 0), none⟩] [(4, 2)] [] []) (.seq (.seq (.region [⟨.mv (.var 4), none⟩, ⟨.bin .lss (.loc 0) (.const (.int .i64 0)), none⟩] [(5, 1)] [] []) (.cond (.var 5) (.region [⟨.mv (.var 2), none⟩, ⟨.len true (.loc 0), none⟩, ⟨.mv (.loc 0), none⟩] [(4, 2)] [] []) .skip)) (.region [⟨.mv (.var 0), none⟩, ⟨.nilck (.loc 0), none⟩, ⟨.fieldAddr 1 (.loc 0), none⟩, ⟨.load none (.loc 0), none⟩, ⟨.mv (.var 4), none⟩, ⟨.bin .add (.loc 1) (.loc 0), none⟩, ⟨.nilck (.loc 5), none⟩, ⟨.fieldAddr 1 (.loc 0), none⟩, ⟨.store 1 (.loc 0) (.loc 2), none⟩] [] [] []))) (.seq (.region [⟨.mv (.var 2), none⟩, ⟨.call false 14 [(.loc 0), (.const (.str [47, 42]))], none⟩, ⟨.mv (.loc 0), none⟩] [(6, 2)] [] []) (.cond (.var 6) (.seq (.region [⟨.mv (.var 2), none⟩, ⟨.slc 0 (.loc 0) (some (.const (.int .i64 2))) none, none⟩, ⟨.call false 16 [(.loc 0), (.const (.str [42, 47]))], none⟩, ⟨.mv (.loc 0), none⟩] [(7, 3)] [] []) (.seq (.region [⟨.mv (.var 0), none⟩, ⟨.mv (.var 7), none⟩, ⟨.bin .lss (.loc 0) (.const (.int .i64 0)), none⟩, ⟨.mv (.var 0), none⟩, ⟨.nilck (.loc 0), none⟩, ⟨.fieldAddr 1 (.loc 0), none⟩, ⟨.load none (.loc 0), none⟩, ⟨.call false 17 [(.loc 6), (.loc 4), (.const (.int .i64 2)), (.loc 0)], none⟩] [] [] []) (.region [⟨.mv (.var 0), none⟩, ⟨.nilck (.loc 0), none⟩, ⟨.fieldAddr 1 (.loc 0), none⟩, ⟨.load none (.loc 0), none⟩, ⟨.mv (.var 7), none⟩, ⟨.bin .add (.loc 0) (.const (.int .i64 4)), none⟩, ⟨.bin .add (.loc 2) (.loc 0), none⟩, ⟨.nilck (.loc 6), none⟩, ⟨.fieldAddr 1 (.loc 0), none⟩, ⟨.store 1 (.loc 0) (.loc 2), none⟩] [] [] []))) .ret))))))))))
theorem skip_loop (s : List UInt8) (hs : s.length < 60000) (p d : Nat) (L : CVal) (hL : L.whole = true) (hLc : L.cells.length = 1) (to : Int) (Q : CExit → CSt → Prop) : ∀ (m : Nat) (r : List UInt8) (a : Nat), r.length ≤ m → s.drop a = r → a + r.length = s.length → ∀ (h : CHeap) (v1 v2 v3 v4 v5 v6 v7 : CVal), getEnt h.ents p = some (rdr s a L 0 to) → Fit h → p < h.next →
    (∀ n' ty v1 v2 v3 v4 v5 v6 v7, h.next ≤ n' → UnderT ty n' → (skipF r).2 = true → Q .ret ⟨[.ptr p d 0, v1, v2, v3, v4, v5, v6, v7], ⟨setEnt h.ents p (rdr s ((s.length - (skipF r).1.length : Nat) : Int) L 0 to), n', ty⟩, []⟩) →
    (∀ n' ty v1 v2 v3 v4 v5 v6 v7, h.next ≤ n' → UnderT ty n' → (skipF r).2 = false → Q (.exit 0) ⟨[.ptr p d 0, v1, v2, v3, v4, v5, v6, v7], ⟨setEnt h.ents p (rdr s (((s.length - (skipF r).1.length : Nat) : Int) + 3) L 2 ((s.length - (skipF r).1.length : Nat) : Int)), n', ty⟩, []⟩) →
    W tree.getF skipLoop ⟨[.ptr p d 0, v1, v2, v3, v4, v5, v6, v7], h, []⟩ Q := by
  intro m
  induction m with
  | zero =>
    intro r a hm hda hlen h v1 v2 v3 v4 v5 v6 v7 hg hf hp hk1 hk2
    obtain rfl : r = [] := List.length_eq_zero_iff.1 (by omega)
    rw [skipF_nil] at hk1
    have hpos : s.length - ([] : List UInt8).length = a := by simp at hlen ⊢; omega
    dsimp only at hk1
    rw [hpos] at hk1
    have htk : s.take s.length = s := List.take_length
    have hto : (a : Int).toNat = a := by omega
    have F0 := front_spaces [] (by simp)
    rw [show (fr Go.LexF.spacesB []).length = 0 by rfl] at F0
    obtain ⟨hu, hut, hX⟩ := fx4 hf; have ⟨hD, hC, hN, hT⟩ := hX
    have hY := fx5 hf hg; have ⟨hG, hD2, hC2, hN2⟩ := hY

    refine W.loop ?_
    repeat (first | refine sq_ ?_ | refine bl_ ?_ | ((first | refine rg_ ?_ | refine go_ ?_); generalize e : goR _ _ _ _ _ _ _ _ = r; simp (disch := omega) [hX, hg, hY, htk, hda, hto, hL, hLc, c17] at e; replace e : some _ = _ := e; subst e; (try dsimp only [goW])) | refine ct_ rfl ?_ | refine cf_ rfl ?_ | refine sk_ ?_ | refine ex_ ?_ | (refine F0 _ ?_ _ fun n1 tyn1 hn1 hun1 => ⟨rfl, ?_⟩; exact fit_; (try dsimp only at hn1)) | (refine prefix_F [] [47, 47] false ?_ _ ?_ _ fun n2 tyn2 hn2 hun2 => ⟨rfl, ?_⟩; (focus ((simp); done)); exact fit_; (try dsimp only at hn2)) | (refine prefix_F [] [47, 42] false ?_ _ ?_ _ fun n3 tyn3 hn3 hun3 => ⟨rfl, ?_⟩; (focus ((simp); done)); exact fit_; (try dsimp only at hn3)) | (refine W.ret ?_; (try simp only [outOf, thenW_ret, roundW]); refine hk1 _ _ _ _ _ _ _ _ _ ?_ ?_ ?_; omega; exact ut_; rfl) | (refine Wc.mkG 17 c17 (by kernel_rfl) rfl ?_; generalize e : entryC _ _ _ = r; simp (disch := omega) [hX, hg, hY, htk, hda, hto, hL, hLc, c17] at e; subst e) | ((first | (refine W.ret ?_; (try simp only [outOf, thenW_ret, roundW]); refine endW.of (.inl rfl) rfl ?_) | refine endW.of (.inr rfl) rfl ?_); generalize e : endsC _ _ _ = r; simp (disch := omega) [hX, hg, hY, htk, hda, hto, hL, hLc, c17] at e; subst e; (try dsimp only [goW]); refine ⟨rfl, ?_⟩))
  | succ m ih =>
    intro r a hm hda hlen h v1 v2 v3 v4 v5 v6 v7 hg hf hp hk1 hk2
    have htk : s.take s.length = s := List.take_length
    have hle := fr_len Go.LexF.spacesB r
    have hdr := drop_fr Go.LexF.spacesB r
    obtain ⟨k, hk0⟩ : ∃ k, (fr Go.LexF.spacesB r).length = k := ⟨_, rfl⟩
    obtain ⟨q, hq⟩ : ∃ q, bk Go.LexF.spacesB r = q := ⟨_, rfl⟩
    have F0 := front_spaces r (by omega)
    rw [hk0] at F0 hle hdr
    rw [hq] at hle hdr
    rw [skipF_sp, hq] at hk1 hk2
    have hdk : s.drop (a + k) = q := by rw [← hdr, ← hda, List.drop_drop]
    have hto : ((a : Int) + (k : Int)).toNat = a + k := by omega
    have hpos : s.length - q.length = a + k := by omega
    have htq : q.take q.length = q := List.take_length
    obtain ⟨hu, hut, hX⟩ := fx4 hf; have ⟨hD, hC, hN, hT⟩ := hX
    have hY := fx5 hf hg; have ⟨hG, hD2, hC2, hN2⟩ := hY

    by_cases hS : (decide (2 ≤ q.length) && (q.take 2 == [47, 47])) = true
    · obtain ⟨t, hqq⟩ : ∃ t, q = 47 :: 47 :: t := by
        simp only [Bool.and_eq_true, decide_eq_true_eq, beq_iff_eq] at hS
        exact ⟨q.drop 2, by have := List.take_append_drop 2 q; rw [hS.2] at this; exact this.symm⟩
      have hsk : skipF q = skipF (dropLine q) := by
        rw [hqq]
        have e1 : dropLine (47 :: 47 :: t) = dropLine t := rfl
        rw [e1]
        conv => lhs; rw [skipF_eq]
        rw [if_neg (by decide), if_pos rfl]
        rfl
      rw [hsk] at hk1 hk2
      have hdl := drop_line q
      have hdle := dropLine_le q
      have I0 := indexb_F q (by omega)
      obtain ⟨n, hn⟩ : ∃ n, q.length - (dropLine q).length = n := ⟨_, rfl⟩
      have hdn : s.drop (a + (k + n)) = dropLine q := by
        rw [hn] at hdl
        rw [← hdl, ← hdk, List.drop_drop]; congr 1; omega
      have hcont : ∀ (h' : CHeap) (w1 w2 w3 w4 w5 w6 w7 : CVal), h'.ents = setEnt h.ents p (rdr s ((a : Int) + ((k : Int) + (n : Int))) L 0 to) → h.next ≤ h'.next → UnderT h'.tys h'.next → W tree.getF skipLoop ⟨[.ptr p d 0, w1, w2, w3, w4, w5, w6, w7], h', []⟩ Q := by
        intro h' w1 w2 w3 w4 w5 w6 w7 e1 e2 e3
        have e4 : ((a : Int) + ((k : Int) + (n : Int))) = ((a + (k + n) : Nat) : Int) := by omega
        rw [e4] at e1
        have hlt2 : (dropLine q).length < r.length := by
          have h1 := dropLine_le t
          have h2 : dropLine q = dropLine t := by rw [hqq]; rfl
          have h3 : q.length = t.length + 2 := by rw [hqq]; rfl
          rw [h2]; omega
        refine ih (dropLine q) (a + (k + n)) (by omega) hdn (by omega) h' _ _ _ _ _ _ _ (by rw [e1]; exact hG _) ⟨by rw [e1]; exact hu.set.le e2, e3⟩ (by omega) ?_ ?_
        · intro n' ty u1 u2 u3 u4 u5 u6 u7 g1 g2 g3
          rw [e1, sy_setEnt_setEnt]
          exact hk1 n' ty u1 u2 u3 u4 u5 u6 u7 (by omega) g2 g3
        · intro n' ty u1 u2 u3 u4 u5 u6 u7 g1 g2 g3
          rw [e1, sy_setEnt_setEnt]
          exact hk2 n' ty u1 u2 u3 u4 u5 u6 u7 (by omega) g2 g3
      rcases idx_line q 0 with ⟨h1, h2⟩ | ⟨h1, h2, h3⟩
      · rw [h2] at I0
        have hnq : q.length = n := by rw [← hn, h1]; simp
        refine W.loop ?_
        repeat (first | refine sq_ ?_ | refine bl_ ?_ | ((first | refine rg_ ?_ | refine go_ ?_); generalize e : goR _ _ _ _ _ _ _ _ = r; simp (disch := omega) [hX, hg, hY, htk, hda, hto, hL, hLc, hdk, htq, hnq, c17] at e; replace e : some _ = _ := e; subst e; (try dsimp only [goW])) | refine ct_ rfl ?_ | refine cf_ rfl ?_ | refine sk_ ?_ | refine ex_ ?_ | (refine F0 _ ?_ _ fun n1 tyn1 hn1 hun1 => ⟨rfl, ?_⟩; exact fit_; (try dsimp only at hn1)) | (refine prefix_F q [47, 47] true ?_ _ ?_ _ fun n2 tyn2 hn2 hun2 => ⟨rfl, ?_⟩; (focus ((exact hS); done)); exact fit_; (try dsimp only at hn2)) | (refine I0 _ ?_ _ fun n3 tyn3 hn3 hun3 => ⟨rfl, ?_⟩; exact fit_; (try dsimp only at hn3)) | (refine Wc.mkG 17 c17 (by kernel_rfl) rfl ?_; generalize e : entryC _ _ _ = r; simp (disch := omega) [hX, hg, hY, htk, hda, hto, hL, hLc, hdk, htq, hnq, c17] at e; subst e) | ((first | (refine W.ret ?_; (try simp only [outOf, thenW_ret, roundW]); refine endW.of (.inl rfl) rfl ?_) | refine endW.of (.inr rfl) rfl ?_); generalize e : endsC _ _ _ = r; simp (disch := omega) [hX, hg, hY, htk, hda, hto, hL, hLc, hdk, htq, hnq, c17] at e; subst e; (try dsimp only [goW]); refine ⟨rfl, ?_⟩))
        show W tree.getF skipLoop (dropped true _ _) Q
        generalize e : dropped _ _ _ = r
        simp (disch := omega) [hX, hg, hY, htk, hda, hto, hL, hLc, hdk, htq] at e
        subst e
        refine hcont _ _ _ _ _ _ _ _ ?_ ?_ ?_
        · (try dsimp only); simp [Int.add_assoc]
        · (try dsimp only); omega
        · exact UnderT.le (by assumption) (by (try dsimp only); omega)
      · rw [h1, show 0 + (q.length - (dropLine q).length) = n by omega] at I0
        refine W.loop ?_
        repeat (first | refine sq_ ?_ | refine bl_ ?_ | ((first | refine rg_ ?_ | refine go_ ?_); generalize e : goR _ _ _ _ _ _ _ _ = r; simp (disch := omega) [hX, hg, hY, htk, hda, hto, hL, hLc, hdk, htq, c17] at e; replace e : some _ = _ := e; subst e; (try dsimp only [goW])) | refine ct_ rfl ?_ | refine cf_ rfl ?_ | refine sk_ ?_ | refine ex_ ?_ | (refine F0 _ ?_ _ fun n1 tyn1 hn1 hun1 => ⟨rfl, ?_⟩; exact fit_; (try dsimp only at hn1)) | (refine prefix_F q [47, 47] true ?_ _ ?_ _ fun n2 tyn2 hn2 hun2 => ⟨rfl, ?_⟩; (focus ((exact hS); done)); exact fit_; (try dsimp only at hn2)) | (refine I0 _ ?_ _ fun n3 tyn3 hn3 hun3 => ⟨rfl, ?_⟩; exact fit_; (try dsimp only at hn3)) | (refine Wc.mkG 17 c17 (by kernel_rfl) rfl ?_; generalize e : entryC _ _ _ = r; simp (disch := omega) [hX, hg, hY, htk, hda, hto, hL, hLc, hdk, htq, c17] at e; subst e) | ((first | (refine W.ret ?_; (try simp only [outOf, thenW_ret, roundW]); refine endW.of (.inl rfl) rfl ?_) | refine endW.of (.inr rfl) rfl ?_); generalize e : endsC _ _ _ = r; simp (disch := omega) [hX, hg, hY, htk, hda, hto, hL, hLc, hdk, htq, c17] at e; subst e; (try dsimp only [goW]); refine ⟨rfl, ?_⟩))
        show W tree.getF skipLoop (dropped true _ _) Q
        generalize e : dropped _ _ _ = r
        simp (disch := omega) [hX, hg, hY, htk, hda, hto, hL, hLc, hdk, htq] at e
        subst e
        refine hcont _ _ _ _ _ _ _ _ ?_ ?_ ?_
        · (try dsimp only); simp [Int.add_assoc]
        · (try dsimp only); omega
        · exact UnderT.le (by assumption) (by (try dsimp only); omega)
    · have hS1 : (decide (2 ≤ q.length) && (q.take 2 == [47, 47])) = false := by simpa using hS
      by_cases hC : (decide (2 ≤ q.length) && (q.take 2 == [47, 42])) = true
      · obtain ⟨t, hqq⟩ : ∃ t, q = 47 :: 42 :: t := by
          simp only [Bool.and_eq_true, decide_eq_true_eq, beq_iff_eq] at hC
          exact ⟨q.drop 2, by have := List.take_append_drop 2 q; rw [hC.2] at this; exact this.symm⟩
        have hq2 : q.drop 2 = t := by rw [hqq]; rfl
        have hlq : q.length = t.length + 2 := by rw [hqq]; rfl
        have hsk : skipF q = match dropCmt t with | none => (q, false) | some u => skipF u := by
          rw [hqq, skipF_eq, if_neg (by decide), if_pos rfl]; rfl
        rw [hsk] at hk1 hk2
        have I0 := index_F t [42, 47] (by omega)
        have hI := idx_cmt t 0
        cases hd : dropCmt t with
        | none =>
          rw [hd] at hI hk2
          dsimp only at hI hk2
          rw [hI] at I0
          rw [hpos] at hk2
          push_cast at hk2
          refine W.loop ?_
          repeat (first | refine sq_ ?_ | refine bl_ ?_ | ((first | refine rg_ ?_ | refine go_ ?_); generalize e : goR _ _ _ _ _ _ _ _ = r; simp (disch := omega) [hX, hg, hY, htk, hda, hto, hL, hLc, hdk, htq, hq2, c17] at e; replace e : some _ = _ := e; subst e; (try dsimp only [goW])) | refine ct_ rfl ?_ | refine cf_ rfl ?_ | refine sk_ ?_ | refine ex_ ?_ | (refine W.loop ?_; try (generalize e : dropped _ _ _ = r; simp (disch := omega) [hX, hg, hY, htk, hda, hto, hL, hLc, hdk, htq, hq2, c17] at e; subst e; try dsimp only)) | (refine F0 _ ?_ _ fun n1 tyn1 hn1 hun1 => ⟨rfl, ?_⟩; exact fit_; (try dsimp only at hn1)) | (refine prefix_F q [47, 47] false ?_ _ ?_ _ fun n2 tyn2 hn2 hun2 => ⟨rfl, ?_⟩; (focus ((exact hS1); done)); exact fit_; (try dsimp only at hn2)) | (refine prefix_F q [47, 42] true ?_ _ ?_ _ fun n3 tyn3 hn3 hun3 => ⟨rfl, ?_⟩; (focus ((exact hC); done)); exact fit_; (try dsimp only at hn3)) | (refine I0 _ ?_ _ fun n4 tyn4 hn4 hun4 => ⟨rfl, ?_⟩; exact fit_; (try dsimp only at hn4)) | (refine hk2 _ _ _ _ _ _ _ _ _ ?_ ?_ ?_; omega; exact ut_; rfl) | (refine Wc.mkG 17 c17 (by kernel_rfl) rfl ?_; generalize e : entryC _ _ _ = r; simp (disch := omega) [hX, hg, hY, htk, hda, hto, hL, hLc, hdk, htq, hq2, c17] at e; subst e) | ((first | (refine W.ret ?_; (try simp only [outOf, thenW_ret, roundW]); refine endW.of (.inl rfl) rfl ?_) | refine endW.of (.inr rfl) rfl ?_); generalize e : endsC _ _ _ = r; simp (disch := omega) [hX, hg, hY, htk, hda, hto, hL, hLc, hdk, htq, hq2, c17] at e; subst e; (try dsimp only [goW]); refine ⟨rfl, ?_⟩))
        | some u =>
          rw [hd] at hI hk1 hk2
          dsimp only at hI hk1 hk2
          have hul := dropCmt_lt hd
          obtain ⟨n, hn⟩ : ∃ n, 0 + (t.length - u.length - 2) = n := ⟨_, rfl⟩
          rw [hI.1, hn] at I0
          have hnn : ¬ (n : Int) < 0 := by omega
          have hdn : s.drop (a + (k + (n + 4))) = u := by
            have h1 := hI.2
            have h2 : s.drop (a + (k + 2)) = t := by rw [← hq2, ← hdk, List.drop_drop]; congr 1
            rw [← h1, ← h2, List.drop_drop]; congr 1
            rw [List.length_drop]; omega
          have hcont : ∀ (h' : CHeap) (w1 w2 w3 w4 w5 w6 w7 : CVal), h'.ents = setEnt h.ents p (rdr s ((a : Int) + ((k : Int) + ((n : Int) + 4))) L 0 to) → h.next ≤ h'.next → UnderT h'.tys h'.next → W tree.getF skipLoop ⟨[.ptr p d 0, w1, w2, w3, w4, w5, w6, w7], h', []⟩ Q := by
            intro h' w1 w2 w3 w4 w5 w6 w7 e1 e2 e3
            have e4 : ((a : Int) + ((k : Int) + ((n : Int) + 4))) = ((a + (k + (n + 4)) : Nat) : Int) := by omega
            rw [e4] at e1
            refine ih u (a + (k + (n + 4))) (by omega) hdn (by omega) h' _ _ _ _ _ _ _ (by rw [e1]; exact hG _) ⟨by rw [e1]; exact hu.set.le e2, e3⟩ (by omega) ?_ ?_
            · intro n' ty u1 u2 u3 u4 u5 u6 u7 g1 g2 g3
              rw [e1, sy_setEnt_setEnt]
              exact hk1 n' ty u1 u2 u3 u4 u5 u6 u7 (by omega) g2 g3
            · intro n' ty u1 u2 u3 u4 u5 u6 u7 g1 g2 g3
              rw [e1, sy_setEnt_setEnt]
              exact hk2 n' ty u1 u2 u3 u4 u5 u6 u7 (by omega) g2 g3
          refine W.loop ?_
          repeat (first | refine sq_ ?_ | refine bl_ ?_ | ((first | refine rg_ ?_ | refine go_ ?_); generalize e : goR _ _ _ _ _ _ _ _ = r; simp (disch := omega) [hX, hg, hY, htk, hda, hto, hL, hLc, hdk, htq, hq2, hnn, c17] at e; replace e : some _ = _ := e; subst e; (try dsimp only [goW])) | refine ct_ rfl ?_ | refine cf_ rfl ?_ | refine sk_ ?_ | refine ex_ ?_ | (refine F0 _ ?_ _ fun n1 tyn1 hn1 hun1 => ⟨rfl, ?_⟩; exact fit_; (try dsimp only at hn1)) | (refine prefix_F q [47, 47] false ?_ _ ?_ _ fun n2 tyn2 hn2 hun2 => ⟨rfl, ?_⟩; (focus ((exact hS1); done)); exact fit_; (try dsimp only at hn2)) | (refine prefix_F q [47, 42] true ?_ _ ?_ _ fun n3 tyn3 hn3 hun3 => ⟨rfl, ?_⟩; (focus ((exact hC); done)); exact fit_; (try dsimp only at hn3)) | (refine I0 _ ?_ _ fun n4 tyn4 hn4 hun4 => ⟨rfl, ?_⟩; exact fit_; (try dsimp only at hn4)) | (refine Wc.mkG 17 c17 (by kernel_rfl) rfl ?_; generalize e : entryC _ _ _ = r; simp (disch := omega) [hX, hg, hY, htk, hda, hto, hL, hLc, hdk, htq, hq2, hnn, c17] at e; subst e) | ((first | (refine W.ret ?_; (try simp only [outOf, thenW_ret, roundW]); refine endW.of (.inl rfl) rfl ?_) | refine endW.of (.inr rfl) rfl ?_); generalize e : endsC _ _ _ = r; simp (disch := omega) [hX, hg, hY, htk, hda, hto, hL, hLc, hdk, htq, hq2, hnn, c17] at e; subst e; (try dsimp only [goW]); refine ⟨rfl, ?_⟩))
          show W tree.getF skipLoop (dropped true _ _) Q
          generalize e : dropped _ _ _ = r
          simp (disch := omega) [hX, hg, hY, htk, hda, hto, hL, hLc, hdk, htq] at e
          subst e
          refine hcont _ _ _ _ _ _ _ _ ?_ ?_ ?_
          · (try dsimp only); simp [Int.add_assoc]
          · (try dsimp only); omega
          · exact UnderT.le (by assumption) (by (try dsimp only); omega)
      · have hC1 : (decide (2 ≤ q.length) && (q.take 2 == [47, 42])) = false := by simpa using hC
        have hsk : skipF q = (q, true) := by
          cases hqc : q with
          | nil => exact skipF_nil
          | cons c t =>
            rw [skipF_eq, if_neg (by have := bk_head (hq.trans hqc); rw [this]; decide)]
            split
            · rename_i hc
              cases t with
              | nil => rfl
              | cons d t' =>
                dsimp only
                rw [hqc, hc] at hS hC
                rw [if_neg (fun e => hS (by rw [e]; simp)), if_neg (fun e => hC (by rw [e]; simp))]
            · rfl
        rw [hsk] at hk1
        dsimp only at hk1
        rw [hpos] at hk1
        push_cast at hk1
        refine W.loop ?_
        repeat (first | refine sq_ ?_ | refine bl_ ?_ | ((first | refine rg_ ?_ | refine go_ ?_); generalize e : goR _ _ _ _ _ _ _ _ = r; simp (disch := omega) [hX, hg, hY, htk, hda, hto, hL, hLc, hdk, htq, c17] at e; replace e : some _ = _ := e; subst e; (try dsimp only [goW])) | refine ct_ rfl ?_ | refine cf_ rfl ?_ | refine sk_ ?_ | refine ex_ ?_ | (refine F0 _ ?_ _ fun n1 tyn1 hn1 hun1 => ⟨rfl, ?_⟩; exact fit_; (try dsimp only at hn1)) | (refine prefix_F q [47, 47] false ?_ _ ?_ _ fun n2 tyn2 hn2 hun2 => ⟨rfl, ?_⟩; (focus ((exact hS1); done)); exact fit_; (try dsimp only at hn2)) | (refine prefix_F q [47, 42] false ?_ _ ?_ _ fun n3 tyn3 hn3 hun3 => ⟨rfl, ?_⟩; (focus ((exact hC1); done)); exact fit_; (try dsimp only at hn3)) | (refine W.ret ?_; (try simp only [outOf, thenW_ret, roundW]); refine hk1 _ _ _ _ _ _ _ _ _ ?_ ?_ ?_; omega; exact ut_; rfl) | (refine Wc.mkG 17 c17 (by kernel_rfl) rfl ?_; generalize e : entryC _ _ _ = r; simp (disch := omega) [hX, hg, hY, htk, hda, hto, hL, hLc, hdk, htq, c17] at e; subst e) | ((first | (refine W.ret ?_; (try simp only [outOf, thenW_ret, roundW]); refine endW.of (.inl rfl) rfl ?_) | refine endW.of (.inr rfl) rfl ?_); generalize e : endsC _ _ _ = r; simp (disch := omega) [hX, hg, hY, htk, hda, hto, hL, hLc, hdk, htq, c17] at e; subst e; (try dsimp only [goW]); refine ⟨rfl, ?_⟩))
def okF (B : Nat) (c : UInt8) : Prop := (48 ≤ c.toNat ∧ c.toNat ≤ 57 ∨ 65 ≤ c.toNat ∧ c.toNat ≤ 70 ∨ 97 ≤ c.toNat ∧ c.toNat ≤ 102) ∧ digF c < B
theorem valF_le (B : Nat) (hB : 1 ≤ B) : ∀ (r : List UInt8) (n : Nat), n ≤ valF B n r
  | [], n => Nat.le_refl _
  | c :: r, n => by
    have h1 := valF_le B hB r (n * B + digF c)
    have h2 : n * 1 ≤ n * B := Nat.mul_le_mul_left _ hB
    show n ≤ valF B (n * B + digF c) r
    omega
def lowF (c : UInt8) : Nat := if c.toNat ≤ 70 then c.toNat + 32 else c.toNat
theorem lower_or (c : UInt8) (hc : 65 ≤ c.toNat ∧ c.toNat ≤ 70 ∨ 97 ≤ c.toNat ∧ c.toNat ≤ 102) : evalBits .or .u8 (c.toNat : Int) 32 = some (.int .u8 (lowF c : Int)) := by
  unfold lowF
  have hx : c.toNat = 65 ∨ c.toNat = 66 ∨ c.toNat = 67 ∨ c.toNat = 68 ∨ c.toNat = 69 ∨ c.toNat = 70 ∨ c.toNat = 97 ∨ c.toNat = 98 ∨ c.toNat = 99 ∨ c.toNat = 100 ∨ c.toNat = 101 ∨ c.toNat = 102 := by omega
  rcases hx with h | h | h | h | h | h | h | h | h | h | h | h <;> rw [h] <;> rfl

theorem lower_F (c : UInt8) (hc : 65 ≤ c.toNat ∧ c.toNat ≤ 70 ∨ 97 ≤ c.toNat ∧ c.toNat ≤ 102) : Pu tree.getF 57 [.int .u8 (c.toNat : Int)] (.int .u8 (lowF c : Int)) := by
  intro h hf K hk
  obtain ⟨hu, hut, hX⟩ := fx4 hf
  have ho := lower_or c hc

  refine Wc.mkG 57 c57 (by kernel_rfl) rfl ?_
  generalize e : entryC _ _ _ = r
  simp (disch := omega) [hX, ho, c57] at e
  subst e
  repeat (first | refine sq_ ?_ | refine bl_ ?_ | ((first | refine rg_ ?_ | refine go_ ?_); generalize e : goR _ _ _ _ _ _ _ _ = r; simp (disch := omega) [hX, ho, c57] at e; replace e : some _ = _ := e; subst e; (try dsimp only [goW])) | refine ct_ rfl ?_ | refine cf_ rfl ?_ | refine sk_ ?_ | refine ex_ ?_ | (refine W.loop ?_; try (generalize e : dropped _ _ _ = r; simp (disch := omega) [hX, ho, c57] at e; subst e; try dsimp only)) | ((first | (refine W.ret ?_; (try simp only [outOf, thenW_ret, roundW]); refine endW.of (.inl rfl) rfl ?_) | refine endW.of (.inr rfl) rfl ?_); generalize e : endsC _ _ _ = r; simp (disch := omega) [hX, ho, c57] at e; subst e; (try dsimp only [goW]); (refine hk _ _ ?_ ?_; omega; exact ut_)))

abbrev parseLoop : CCode := (.loop true (.seq (.region [⟨.bin .lss (.var 15) (.var 16), none⟩] [(17, 0)] [] []) (.seq (.cond (.var 17) .skip (.exit 3)) (.seq (.block 4 (.seq (.region [⟨.idxAddr 1 (.var 18) (.var 15), none⟩, ⟨.load none (.loc 0), none⟩, ⟨.mv (.loc 0), none⟩] [(19, 2)] [] []) (.seq (.region [⟨.mv (.const (.int .u8 0)), none⟩] [(24, 0)] [] []) (.seq (.block 5 (.seq (.region [⟨.mv (.var 19), none⟩, ⟨.bin .eql (.loc 0) (.const (.int .u8 95)), none⟩, ⟨.mv (.loc 0), none⟩, ⟨.mv (.var 20), (some (0, true))⟩, ⟨.pick (.loc 1) (.loc 0) (.const (.bool false)), none⟩, ⟨.mv (.loc 0), none⟩] [(21, 5)] [] []) (.cond (.var 21) (.seq (.region [⟨.mv (.const (.bool true)), none⟩] [(32, 0)] [] []) (.exit 4)) (.seq (.region [⟨.mv (.var 19), none⟩, ⟨.bin .leq (.const (.int .u8 48)) (.loc 0), none⟩, ⟨.mv (.loc 0), none⟩, ⟨.mv (.var 19), (some (0, true))⟩, ⟨.bin .leq (.loc 0) (.const (.int .u8 57)), (some (1, true))⟩, ⟨.pick (.loc 2) (.loc 0) (.const (.bool false)), none⟩, ⟨.mv (.loc 0), none⟩] [(22, 6)] [] []) (.cond (.var 22) (.region [⟨.mv (.var 19), none⟩, ⟨.bin .sub (.loc 0) (.const (.int .u8 48)), none⟩, ⟨.mv (.loc 0), none⟩] [(24, 2)] [] []) (.seq (.region [⟨.mv (.var 19), none⟩, ⟨.call false 57 [(.loc 0)], none⟩, ⟨.bin .leq (.const (.int .u8 97)) (.loc 0), none⟩, ⟨.mv (.loc 0), none⟩, ⟨.mv (.var 19), (some (0, true))⟩, ⟨.call false 57 [(.loc 0)], (some (1, true))⟩, ⟨.bin .leq (.loc 0) (.const (.int .u8 122)), (some (2, true))⟩, ⟨.pick (.loc 3) (.loc 0) (.const (.bool false)), none⟩, ⟨.mv (.loc 0), none⟩] [(23, 8)] [] []) (.cond (.var 23) (.region [⟨.mv (.var 19), none⟩, ⟨.call false 57 [(.loc 0)], none⟩, ⟨.bin .sub (.loc 0) (.const (.int .u8 97)), none⟩, ⟨.bin .add (.loc 0) (.const (.int .u8 10)), none⟩, ⟨.mv (.loc 0), none⟩] [(24, 4)] [] []) (.seq (.region [⟨.ifc 78 (.const (.int .i64 2)), none⟩, ⟨.mv (.const (.int .u64 0)), none⟩, ⟨.mv (.loc 1), none⟩] [(35, 1), (36, 2)] [] []) .ret)))))))) (.seq (.seq (.region [⟨.mv (.var 24), none⟩, ⟨.mv (.var 2), none⟩, ⟨.conv .u8 (.loc 0), none⟩, ⟨.bin .geq (.loc 2) (.loc 0), none⟩] [(25, 3)] [] []) (.cond (.var 25) (.seq (.region [⟨.ifc 78 (.const (.int .i64 2)), none⟩, ⟨.mv (.const (.int .u64 0)), none⟩, ⟨.mv (.loc 1), none⟩] [(35, 1), (36, 2)] [] []) .ret) .skip)) (.seq (.seq (.region [⟨.mv (.var 26), none⟩, ⟨.mv (.var 27), none⟩, ⟨.bin .geq (.loc 1) (.loc 0), none⟩] [(28, 2)] [] []) (.cond (.var 28) (.seq (.region [⟨.mv (.var 29), none⟩, ⟨.ifc 78 (.const (.int .i64 1)), none⟩, ⟨.mv (.loc 1), none⟩, ⟨.mv (.loc 1), none⟩] [(35, 2), (36, 3)] [] []) .ret) .skip)) (.seq (.region [⟨.mv (.var 26), none⟩, ⟨.mv (.var 2), none⟩, ⟨.conv .u64 (.loc 0), none⟩, ⟨.bin .mul (.loc 2) (.loc 0), none⟩, ⟨.mv (.loc 0), none⟩] [(26, 4)] [] []) (.seq (.region [⟨.mv (.var 26), none⟩, ⟨.mv (.var 24), none⟩, ⟨.conv .u64 (.loc 0), none⟩, ⟨.bin .add (.loc 2) (.loc 0), none⟩, ⟨.mv (.loc 0), none⟩] [(30, 4)] [] []) (.seq (.seq (.region [⟨.mv (.var 30), none⟩, ⟨.mv (.var 26), none⟩, ⟨.bin .lss (.loc 1) (.loc 0), none⟩, ⟨.mv (.loc 0), none⟩, ⟨.mv (.var 30), (some (0, false))⟩, ⟨.mv (.var 29), (some (1, false))⟩, ⟨.bin .gtr (.loc 1) (.loc 0), (some (2, false))⟩, ⟨.pick (.loc 3) (.const (.bool true)) (.loc 0), none⟩] [(31, 7)] [] []) (.cond (.var 31) (.seq (.region [⟨.mv (.var 29), none⟩, ⟨.ifc 78 (.const (.int .i64 1)), none⟩, ⟨.mv (.loc 1), none⟩, ⟨.mv (.loc 1), none⟩] [(35, 2), (36, 3)] [] []) .ret) .skip)) (.region [⟨.mv (.var 30), none⟩, ⟨.mv (.loc 0), none⟩] [(26, 1)] [] [])))))))))) (.region [⟨.bin .add (.var 15) (.const (.int .i64 1)), none⟩, ⟨.mv (.loc 0), none⟩] [(15, 1)] [] [])))))
set_option maxHeartbeats 4000000 in
theorem parse_loop (s : List UInt8) (hs : s.length < 100000) (B : Nat) (hB : 8 ≤ B) (hB2 : B ≤ 16) (cutv : Int) (hcut : ∀ n : Nat, (n : Int) < cutv ↔ n * B < 18446744073709551616) (v1 v3 v4 v5 v6 v7 v8 v9 v10 v11 v12 v13 v14 v33 v34 v35 v36 : CVal) (Q : CExit → CSt → Prop) :
    ∀ (r : List UInt8) (i n : Nat), s.drop i = r → i ≤ s.length → (∀ c ∈ r, okF B c) → n < 18446744073709551616 → ∀ (h : CHeap) (v17 v19 v21 v22 v23 v24 v25 v28 v30 v31 : CVal), Fit h →
    (∀ n' ty (w15 w17 w19 w21 w22 w23 w24 w25 w26 w28 w30 w31 : CVal), h.next ≤ n' → UnderT ty n' → valF B n r < 18446744073709551616 → Q (.exit 3) ⟨[.str s, v1, .int .i64 B, v3, v4, v5, v6, v7, v8, v9, v10, v11, v12, v13, v14, w15, .int .i64 s.length, w17, .imm .none 1 (s.map fun b => .int .u8 b.toNat), w19, .bool false, w21, w22, w23, w24, w25, .int .u64 (valF B n r : Nat), .int .u64 cutv, w28, .int .u64 18446744073709551615, w30, w31, .bool false, v33, v34, v35, v36], ⟨h.ents, n', ty⟩, []⟩) →
    (∀ n' ty (w15 w17 w19 w21 w22 w23 w24 w25 w26 w28 w30 w31 : CVal), h.next ≤ n' → UnderT ty n' → 18446744073709551616 ≤ valF B n r → Q .ret ⟨[.str s, v1, .int .i64 B, v3, v4, v5, v6, v7, v8, v9, v10, v11, v12, v13, v14, w15, .int .i64 s.length, w17, .imm .none 1 (s.map fun b => .int .u8 b.toNat), w19, .bool false, w21, w22, w23, w24, w25, w26, .int .u64 cutv, w28, .int .u64 18446744073709551615, w30, w31, .bool false, v33, v34, .int .u64 18446744073709551615, .ifc 78 (.int .i64 1)], ⟨h.ents, n', ty⟩, []⟩) →
    W tree.getF parseLoop ⟨[.str s, v1, .int .i64 B, v3, v4, v5, v6, v7, v8, v9, v10, v11, v12, v13, v14, .int .i64 i, .int .i64 s.length, v17, .imm .none 1 (s.map fun b => .int .u8 b.toNat), v19, .bool false, v21, v22, v23, v24, v25, .int .u64 n, .int .u64 cutv, v28, .int .u64 18446744073709551615, v30, v31, .bool false, v33, v34, v35, v36], h, []⟩ Q := by
  intro r
  induction r with
  | nil =>
    intro i n hd hi _ hn h v17 v19 v21 v22 v23 v24 v25 v28 v30 v31 hf hq1 hq2
    have hle : s.length ≤ i := List.drop_eq_nil_iff.1 hd
    obtain ⟨hu, hut, hX⟩ := fx4 hf

    refine W.loop ?_
    repeat (first | refine sq_ ?_ | refine bl_ ?_ | ((first | refine rg_ ?_ | refine go_ ?_); generalize e : goR _ _ _ _ _ _ _ _ = r; simp (disch := omega) [hX, hle] at e; replace e : some _ = _ := e; subst e; (try dsimp only [goW])) | refine ct_ rfl ?_ | refine cf_ rfl ?_ | refine sk_ ?_ | refine ex_ ?_)
    refine hq1 _ _ _ _ _ _ _ _ _ _ CVal.undef _ _ _ ?_ ?_ hn
    · omega
    · exact UnderT.le hut (by omega)
  | cons c r ih =>
    intro i n hd hi hr hn h v17 v19 v21 v22 v23 v24 v25 v28 v30 v31 hf hq1 hq2
    obtain ⟨hlt, hget, hd2⟩ := get_of_dropG hd
    obtain ⟨hc, hdg⟩ := hr c (List.mem_cons_self ..)
    have hnt := nth_mapG (fun b : UInt8 => CVal.int .u8 b.toNat) s i c hget
    have hv1 := valF_le B (by omega) r (n * B + digF c)
    have hvv : valF B n (c :: r) = valF B (n * B + digF c) r := rfl
    rw [hvv] at hq1 hq2
    obtain ⟨hu, hut, hX⟩ := fx4 hf

    have hm0 : (0 : Int) ≤ (n : Int) * (B : Int) := Int.mul_nonneg (by omega) (by omega)
    have hct := hcut n
    have hsum : (n : Int) * (B : Int) + (digF c : Int) = ((n * B + digF c : Nat) : Int) := by push_cast; rfl
    have hmn : ((n * B : Nat) : Int) = (n : Int) * (B : Int) := by push_cast; rfl
    have hcl : c.toNat < 256 := c.toNat_lt
    have hwB : IntKind.u8.wrap (B : Int) = B := sy_wrapu8 (by omega) (by omega)
    have hd0 : (digF c : Int) < B := by omega
    by_cases h57 : c.toNat ≤ 57
    · have ed : (c.toNat : Int) - 48 = (digF c : Int) := by unfold digF; rw [if_pos h57]; omega
      by_cases hge : (n : Int) < cutv
      · have hlt2 := hct.1 hge
        have hm1 : (n : Int) * (B : Int) < 18446744073709551616 := by omega
        by_cases hov : n * B + digF c < 18446744073709551616
        · have hm2 : (n : Int) * (B : Int) + (digF c : Int) < 18446744073709551616 := by rw [hsum]; omega
          refine W.loop ?_
          repeat (first | refine sq_ ?_ | refine bl_ ?_ | ((first | refine rg_ ?_ | refine go_ ?_); generalize e : goR _ _ _ _ _ _ _ _ = r; simp (disch := omega) [hX, hnt, ed, hwB, sy_wrapu8, sy_wrapu64] at e; replace e : some _ = _ := e; subst e; (try dsimp only [goW])) | refine ct_ rfl ?_ | refine cf_ rfl ?_ | refine sk_ ?_ | refine ex_ ?_)
          show W tree.getF parseLoop (dropped true _ _) Q
          generalize e : dropped _ _ _ = r
          simp (disch := omega) [hX, hnt, ed, hwB, sy_wrapu8, sy_wrapu64] at e
          subst e
          rw [hsum]
          refine ih (i + 1) (n * B + digF c) hd2 (by omega) (fun c hc => hr c (List.mem_cons_of_mem _ hc)) hov _ _ _ _ _ _ _ _ _ _ _ ?_ ?_ ?_
          · exact ⟨hu.le (by (try dsimp only); omega), UnderT.le (by assumption) (by (try dsimp only); omega)⟩
          · intro n' ty w15 w17 w19 w21 w22 w23 w24 w25 w26 w28 w30 w31 g1 g2 g3; exact hq1 n' ty _ _ _ _ _ _ _ _ w26 _ _ _ (by dsimp only at g1; omega) g2 g3
          · intro n' ty w15 w17 w19 w21 w22 w23 w24 w25 w26 w28 w30 w31 g1 g2 g3; exact hq2 n' ty _ _ _ _ _ _ _ _ _ _ _ _ (by dsimp only at g1; omega) g2 g3
        · have hwr : IntKind.u64.wrap ((n : Int) * (B : Int) + (digF c : Int)) = (n : Int) * (B : Int) + (digF c : Int) - 18446744073709551616 := by
            have : (18446744073709551616 : Int) ≤ (n : Int) * (B : Int) + (digF c : Int) := by rw [hsum]; omega
            simp [IntKind.wrap, IntKind.bits, IntKind.signed]; omega
          refine W.loop ?_
          repeat (first | refine sq_ ?_ | refine bl_ ?_ | ((first | refine rg_ ?_ | refine go_ ?_); generalize e : goR _ _ _ _ _ _ _ _ = r; simp (disch := omega) [hX, hnt, ed, hwB, sy_wrapu8, sy_wrapu64, hwr] at e; replace e : some _ = _ := e; subst e; (try dsimp only [goW])) | refine ct_ rfl ?_ | refine cf_ rfl ?_ | refine sk_ ?_ | refine ex_ ?_ | (refine W.ret ?_; (try simp only [outOf, thenW_ret, roundW]); refine hq2 _ _ _ _ _ _ _ _ _ _ _ _ _ _ ?_ ?_ ?_; omega; exact ut_; omega))
      · have hge2 : 18446744073709551616 ≤ n * B := by omega
        refine W.loop ?_
        repeat (first | refine sq_ ?_ | refine bl_ ?_ | ((first | refine rg_ ?_ | refine go_ ?_); generalize e : goR _ _ _ _ _ _ _ _ = r; simp (disch := omega) [hX, hnt, ed, hwB, sy_wrapu8, sy_wrapu64] at e; replace e : some _ = _ := e; subst e; (try dsimp only [goW])) | refine ct_ rfl ?_ | refine cf_ rfl ?_ | refine sk_ ?_ | refine ex_ ?_ | (refine W.ret ?_; (try simp only [outOf, thenW_ret, roundW]); refine hq2 _ _ _ _ _ _ _ _ _ _ _ _ _ _ ?_ ?_ ?_; omega; exact ut_; omega))
    · have hc97 : 65 ≤ c.toNat ∧ c.toNat ≤ 70 ∨ 97 ≤ c.toNat ∧ c.toNat ≤ 102 := by omega
      have ed : (lowF c : Int) - 97 + 10 = (digF c : Int) := by unfold digF lowF; rw [if_neg h57]; split <;> omega
      have hl1 : (97 : Int) ≤ (lowF c : Int) := by unfold lowF; split <;> omega
      have hl2 : (lowF c : Int) ≤ 122 := by unfold lowF; split <;> omega
      by_cases hge : (n : Int) < cutv
      · have hlt2 := hct.1 hge
        have hm1 : (n : Int) * (B : Int) < 18446744073709551616 := by omega
        by_cases hov : n * B + digF c < 18446744073709551616
        · have hm2 : (n : Int) * (B : Int) + (digF c : Int) < 18446744073709551616 := by rw [hsum]; omega
          refine W.loop ?_
          repeat (first | refine sq_ ?_ | refine bl_ ?_ | ((first | refine rg_ ?_ | refine go_ ?_); generalize e : goR _ _ _ _ _ _ _ _ = r; simp (disch := omega) [hX, hnt, ed, hwB, sy_wrapu8, sy_wrapu64] at e; replace e : some _ = _ := e; subst e; (try dsimp only [goW])) | refine ct_ rfl ?_ | refine cf_ rfl ?_ | refine sk_ ?_ | refine ex_ ?_ | (refine (lower_F c hc97) _ ?_ _ fun n3 tyn3 hn3 hun3 => ⟨rfl, ?_⟩; exact fit_; (try dsimp only at hn3)))
          show W tree.getF parseLoop (dropped true _ _) Q
          generalize e : dropped _ _ _ = r
          simp (disch := omega) [hX, hnt, ed, hwB, sy_wrapu8, sy_wrapu64] at e
          subst e
          rw [hsum]
          refine ih (i + 1) (n * B + digF c) hd2 (by omega) (fun c hc => hr c (List.mem_cons_of_mem _ hc)) hov _ _ _ _ _ _ _ _ _ _ _ ?_ ?_ ?_
          · exact ⟨hu.le (by (try dsimp only); omega), UnderT.le (by assumption) (by (try dsimp only); omega)⟩
          · intro n' ty w15 w17 w19 w21 w22 w23 w24 w25 w26 w28 w30 w31 g1 g2 g3; exact hq1 n' ty _ _ _ _ _ _ _ _ w26 _ _ _ (by dsimp only at g1; omega) g2 g3
          · intro n' ty w15 w17 w19 w21 w22 w23 w24 w25 w26 w28 w30 w31 g1 g2 g3; exact hq2 n' ty _ _ _ _ _ _ _ _ _ _ _ _ (by dsimp only at g1; omega) g2 g3
        · have hwr : IntKind.u64.wrap ((n : Int) * (B : Int) + (digF c : Int)) = (n : Int) * (B : Int) + (digF c : Int) - 18446744073709551616 := by
            have : (18446744073709551616 : Int) ≤ (n : Int) * (B : Int) + (digF c : Int) := by rw [hsum]; omega
            simp [IntKind.wrap, IntKind.bits, IntKind.signed]; omega
          refine W.loop ?_
          repeat (first | refine sq_ ?_ | refine bl_ ?_ | ((first | refine rg_ ?_ | refine go_ ?_); generalize e : goR _ _ _ _ _ _ _ _ = r; simp (disch := omega) [hX, hnt, ed, hwB, sy_wrapu8, sy_wrapu64, hwr] at e; replace e : some _ = _ := e; subst e; (try dsimp only [goW])) | refine ct_ rfl ?_ | refine cf_ rfl ?_ | refine sk_ ?_ | refine ex_ ?_ | (refine (lower_F c hc97) _ ?_ _ fun n3 tyn3 hn3 hun3 => ⟨rfl, ?_⟩; exact fit_; (try dsimp only at hn3)) | (refine W.ret ?_; (try simp only [outOf, thenW_ret, roundW]); refine hq2 _ _ _ _ _ _ _ _ _ _ _ _ _ _ ?_ ?_ ?_; omega; exact ut_; omega))
      · have hge2 : 18446744073709551616 ≤ n * B := by omega
        refine W.loop ?_
        repeat (first | refine sq_ ?_ | refine bl_ ?_ | ((first | refine rg_ ?_ | refine go_ ?_); generalize e : goR _ _ _ _ _ _ _ _ = r; simp (disch := omega) [hX, hnt, ed, hwB, sy_wrapu8, sy_wrapu64] at e; replace e : some _ = _ := e; subst e; (try dsimp only [goW])) | refine ct_ rfl ?_ | refine cf_ rfl ?_ | refine sk_ ?_ | refine ex_ ?_ | (refine (lower_F c hc97) _ ?_ _ fun n3 tyn3 hn3 hun3 => ⟨rfl, ?_⟩; exact fit_; (try dsimp only at hn3)) | (refine W.ret ?_; (try simp only [outOf, thenW_ret, roundW]); refine hq2 _ _ _ _ _ _ _ _ _ _ _ _ _ _ ?_ ?_ ?_; omega; exact ut_; omega))
theorem wPH1 {P : Prop} (h : P := by repeat (first | refine sq_ ?_ | refine bl_ ?_ | ((first | refine rg_ ?_ | refine go_ ?_); generalize e : goR _ _ _ _ _ _ _ _ = r; simp (disch := omega) [hX, hne, hneb, sy_wrapu64, sy_wrapu8, c48] at e; replace e : some _ = _ := e; subst e; (try dsimp only [goW])) | refine ct_ rfl ?_ | refine cf_ rfl ?_ | refine sk_ ?_ | refine ex_ ?_ | ((first | (refine W.ret ?_; (try simp only [outOf, thenW_ret, roundW]); refine endW.of (.inl rfl) rfl ?_) | refine endW.of (.inr rfl) rfl ?_); generalize e : endsC _ _ _ = r; simp (disch := omega) [hX, hne, hneb, sy_wrapu64, sy_wrapu8, c48] at e; subst e; (try dsimp only [goW]); (refine hk _ _ ?_ ?_; omega; exact ut_)))) : P := h

theorem p0_ok8 (ds : List UInt8) (hne : ds ≠ []) (hl : ds.length < 90000) (hds : ∀ c ∈ ds, okF 8 c) (hv : valF 8 0 ds < 18446744073709551616) : Pu tree.getF 48 [.str ds, .int .i64 8, .int .i64 64] (.tup [.int .u64 (valF 8 0 ds : Nat), .nili]) := by
  intro h hf K hk
  obtain ⟨hu, hut, hX⟩ := fx4 hf
  have hneb : (ds == []) = false := by simp [hne]
  refine Wc.mkG 48 c48 (by kernel_rfl) rfl ?_
  generalize e : entryC _ _ _ = r
  simp (disch := omega) [hX, hne, hneb, sy_wrapu64, sy_wrapu8, c48] at e
  subst e
  repeat (first | refine sq_ ?_ | refine bl_ ?_ | ((first | refine rg_ ?_ | refine go_ ?_); generalize e : goR _ _ _ _ _ _ _ _ = r; simp (disch := omega) [hX, hne, hneb, sy_wrapu64, sy_wrapu8, c48] at e; replace e : some _ = _ := e; subst e; (try dsimp only [goW])) | refine ct_ rfl ?_ | refine cf_ rfl ?_ | refine sk_ ?_ | refine ex_ ?_)
  refine parse_loop ds (by omega) 8 (by omega) (by omega) 2305843009213693952 (fun n => by omega) _ _ _ _ _ _ _ _ _ _ _ _ _ _ _ _ _ _ ds 0 0 rfl (by omega) hds (by omega) _ _ _ _ _ _ _ _ _ _ _ ?_ ?_ ?_
  · exact ⟨by (try dsimp only); first | exact hu.le (by omega) | exact hu.set.le (by omega), UnderT.le (by assumption) (by (try dsimp only); omega)⟩
  · intro n' ty w15 w17 w19 w21 w22 w23 w24 w25 w26 w28 w30 w31 g1 g2 g3
    try dsimp only at g1
    exact wPH1
  · intro n' ty w15 w17 w19 w21 w22 w23 w24 w25 w26 w28 w30 w31 g1 g2 g3
    try dsimp only at g1
    exfalso; omega

theorem p_ok8 (ds : List UInt8) (hne : ds ≠ []) (hl : ds.length < 90000) (hds : ∀ c ∈ ds, okF 8 c) (hv : valF 8 0 ds < 18446744073709551616) : Pu tree.getF 34 [.str ds, .int .i64 8, .int .i64 64] (.tup [.int .u64 (valF 8 0 ds : Nat), .nili]) := by
  intro h hf K hk
  obtain ⟨hu, hut, hX⟩ := fx4 hf

  refine Wc.mkG 34 c34 (by kernel_rfl) rfl ?_
  generalize e : entryC _ _ _ = r
  simp (disch := omega) [hX, c34] at e
  subst e
  repeat (first | refine sq_ ?_ | refine bl_ ?_ | ((first | refine rg_ ?_ | refine go_ ?_); generalize e : goR _ _ _ _ _ _ _ _ = r; simp (disch := omega) [hX, c34] at e; replace e : some _ = _ := e; subst e; (try dsimp only [goW])) | refine ct_ rfl ?_ | refine cf_ rfl ?_ | refine sk_ ?_ | refine ex_ ?_ | (refine W.loop ?_; try (generalize e : dropped _ _ _ = r; simp (disch := omega) [hX, c34] at e; subst e; try dsimp only)) | (refine (p0_ok8 ds hne hl hds hv) _ ?_ _ fun n1 tyn1 hn1 hun1 => ⟨rfl, ?_⟩; exact fit_; (try dsimp only at hn1)) | ((first | (refine W.ret ?_; (try simp only [outOf, thenW_ret, roundW]); refine endW.of (.inl rfl) rfl ?_) | refine endW.of (.inr rfl) rfl ?_); generalize e : endsC _ _ _ = r; simp (disch := omega) [hX, c34] at e; subst e; (try dsimp only [goW]); (refine hk _ _ ?_ ?_; omega; exact ut_)))

theorem p0_bad8 (ds : List UInt8) (hne : ds ≠ []) (hl : ds.length < 90000) (hds : ∀ c ∈ ds, okF 8 c) (hv : 18446744073709551616 ≤ valF 8 0 ds) : Pu tree.getF 48 [.str ds, .int .i64 8, .int .i64 64] (.tup [.int .u64 18446744073709551615, .ifc 78 (.int .i64 1)]) := by
  intro h hf K hk
  obtain ⟨hu, hut, hX⟩ := fx4 hf
  have hneb : (ds == []) = false := by simp [hne]
  refine Wc.mkG 48 c48 (by kernel_rfl) rfl ?_
  generalize e : entryC _ _ _ = r
  simp (disch := omega) [hX, hne, hneb, sy_wrapu64, sy_wrapu8, c48] at e
  subst e
  repeat (first | refine sq_ ?_ | refine bl_ ?_ | ((first | refine rg_ ?_ | refine go_ ?_); generalize e : goR _ _ _ _ _ _ _ _ = r; simp (disch := omega) [hX, hne, hneb, sy_wrapu64, sy_wrapu8, c48] at e; replace e : some _ = _ := e; subst e; (try dsimp only [goW])) | refine ct_ rfl ?_ | refine cf_ rfl ?_ | refine sk_ ?_ | refine ex_ ?_)
  refine parse_loop ds (by omega) 8 (by omega) (by omega) 2305843009213693952 (fun n => by omega) _ _ _ _ _ _ _ _ _ _ _ _ _ _ _ _ _ _ ds 0 0 rfl (by omega) hds (by omega) _ _ _ _ _ _ _ _ _ _ _ ?_ ?_ ?_
  · exact ⟨by (try dsimp only); first | exact hu.le (by omega) | exact hu.set.le (by omega), UnderT.le (by assumption) (by (try dsimp only); omega)⟩
  · intro n' ty w15 w17 w19 w21 w22 w23 w24 w25 w26 w28 w30 w31 g1 g2 g3
    try dsimp only at g1
    exfalso; omega
  · intro n' ty w15 w17 w19 w21 w22 w23 w24 w25 w26 w28 w30 w31 g1 g2 g3
    try dsimp only at g1
    try simp only [outOf, thenW_ret, roundW]
    refine endW.of (.inl rfl) rfl ?_
    generalize e : endsC _ _ _ = r
    simp (disch := omega) [hX, hne, hneb, sy_wrapu64, sy_wrapu8, c48] at e
    subst e
    (try dsimp only)
    refine hk _ _ ?_ ?_
    · omega
    · exact ut_

theorem p_bad8 (ds : List UInt8) (hne : ds ≠ []) (hl : ds.length < 90000) (hds : ∀ c ∈ ds, okF 8 c) (hv : 18446744073709551616 ≤ valF 8 0 ds) (h : CHeap) (hf : Fit h) (K : CVal → CHeap → Prop) (hk : ∀ n' ty m d, h.next ≤ n' → UnderT ty n' → K (.tup [.int .u64 18446744073709551615, .ifc 80 (.ptr m d 0)]) ⟨h.ents, n', ty⟩) : Wc tree.getF 34 [.str ds, .int .i64 8, .int .i64 64] h K := by
  obtain ⟨hu, hut, hX⟩ := fx4 hf
  refine Wc.mkG 34 c34 (by kernel_rfl) rfl ?_
  generalize e : entryC _ _ _ = r
  simp (disch := omega) [hX, c34] at e
  subst e
  repeat (first | refine sq_ ?_ | refine bl_ ?_ | ((first | refine rg_ ?_ | refine go_ ?_); generalize e : goR _ _ _ _ _ _ _ _ = r; simp (disch := omega) [hX, show (ds.length ≤ 281474976710656) from by omega, c49, c60, c34] at e; replace e : some _ = _ := e; subst e; (try dsimp only [goW])) | refine ct_ rfl ?_ | refine cf_ rfl ?_ | refine sk_ ?_ | refine ex_ ?_ | (refine W.loop ?_; try (generalize e : dropped _ _ _ = r; simp (disch := omega) [hX, show (ds.length ≤ 281474976710656) from by omega, c49, c60, c34] at e; subst e; try dsimp only)) | (refine (p0_bad8 ds hne hl hds hv) _ ?_ _ fun n1 tyn1 hn1 hun1 => ⟨rfl, ?_⟩; exact fit_; (try dsimp only at hn1)) | (refine Wc.mkG 49 c49 (by kernel_rfl) rfl ?_; generalize e : entryC _ _ _ = r; simp (disch := omega) [hX, show (ds.length ≤ 281474976710656) from by omega, c49, c60, c34] at e; subst e) | (refine Wc.mkG 60 c60 (by kernel_rfl) rfl ?_; generalize e : entryC _ _ _ = r; simp (disch := omega) [hX, show (ds.length ≤ 281474976710656) from by omega, c49, c60, c34] at e; subst e) | (refine Wc.primM (f := 67) (p := pClone) (by kernel_rfl) ?_; generalize e : pClone _ _ = r; simp (disch := omega) [hX, show (ds.length ≤ 281474976710656) from by omega, c49, c60, c34] at e; subst e; (try dsimp only); refine ⟨rfl, ?_⟩) | ((first | (refine W.ret ?_; (try simp only [outOf, thenW_ret, roundW]); refine endW.of (.inl rfl) rfl ?_) | refine endW.of (.inr rfl) rfl ?_); generalize e : endsC _ _ _ = r; simp (disch := omega) [hX, show (ds.length ≤ 281474976710656) from by omega, c49, c60, c34] at e; subst e; (try dsimp only [goW]); (first | refine ⟨rfl, ?_⟩ | (refine hk _ _ _ _ ?_ ?_; omega; exact ut_))))

theorem p0_ok10 (ds : List UInt8) (hne : ds ≠ []) (hl : ds.length < 90000) (hds : ∀ c ∈ ds, okF 10 c) (hv : valF 10 0 ds < 18446744073709551616) : Pu tree.getF 48 [.str ds, .int .i64 10, .int .i64 64] (.tup [.int .u64 (valF 10 0 ds : Nat), .nili]) := by
  intro h hf K hk
  obtain ⟨hu, hut, hX⟩ := fx4 hf
  have hneb : (ds == []) = false := by simp [hne]
  refine Wc.mkG 48 c48 (by kernel_rfl) rfl ?_
  generalize e : entryC _ _ _ = r
  simp (disch := omega) [hX, hne, hneb, sy_wrapu64, sy_wrapu8, c48] at e
  subst e
  repeat (first | refine sq_ ?_ | refine bl_ ?_ | ((first | refine rg_ ?_ | refine go_ ?_); generalize e : goR _ _ _ _ _ _ _ _ = r; simp (disch := omega) [hX, hne, hneb, sy_wrapu64, sy_wrapu8, c48] at e; replace e : some _ = _ := e; subst e; (try dsimp only [goW])) | refine ct_ rfl ?_ | refine cf_ rfl ?_ | refine sk_ ?_ | refine ex_ ?_)
  refine parse_loop ds (by omega) 10 (by omega) (by omega) 1844674407370955162 (fun n => by omega) _ _ _ _ _ _ _ _ _ _ _ _ _ _ _ _ _ _ ds 0 0 rfl (by omega) hds (by omega) _ _ _ _ _ _ _ _ _ _ _ ?_ ?_ ?_
  · exact ⟨by (try dsimp only); first | exact hu.le (by omega) | exact hu.set.le (by omega), UnderT.le (by assumption) (by (try dsimp only); omega)⟩
  · intro n' ty w15 w17 w19 w21 w22 w23 w24 w25 w26 w28 w30 w31 g1 g2 g3
    try dsimp only at g1
    exact wPH1
  · intro n' ty w15 w17 w19 w21 w22 w23 w24 w25 w26 w28 w30 w31 g1 g2 g3
    try dsimp only at g1
    exfalso; omega

theorem p_ok10 (ds : List UInt8) (hne : ds ≠ []) (hl : ds.length < 90000) (hds : ∀ c ∈ ds, okF 10 c) (hv : valF 10 0 ds < 18446744073709551616) : Pu tree.getF 34 [.str ds, .int .i64 10, .int .i64 64] (.tup [.int .u64 (valF 10 0 ds : Nat), .nili]) := by
  intro h hf K hk
  obtain ⟨hu, hut, hX⟩ := fx4 hf

  refine Wc.mkG 34 c34 (by kernel_rfl) rfl ?_
  generalize e : entryC _ _ _ = r
  simp (disch := omega) [hX, c34] at e
  subst e
  repeat (first | refine sq_ ?_ | refine bl_ ?_ | ((first | refine rg_ ?_ | refine go_ ?_); generalize e : goR _ _ _ _ _ _ _ _ = r; simp (disch := omega) [hX, c34] at e; replace e : some _ = _ := e; subst e; (try dsimp only [goW])) | refine ct_ rfl ?_ | refine cf_ rfl ?_ | refine sk_ ?_ | refine ex_ ?_ | (refine W.loop ?_; try (generalize e : dropped _ _ _ = r; simp (disch := omega) [hX, c34] at e; subst e; try dsimp only)) | (refine (p0_ok10 ds hne hl hds hv) _ ?_ _ fun n1 tyn1 hn1 hun1 => ⟨rfl, ?_⟩; exact fit_; (try dsimp only at hn1)) | ((first | (refine W.ret ?_; (try simp only [outOf, thenW_ret, roundW]); refine endW.of (.inl rfl) rfl ?_) | refine endW.of (.inr rfl) rfl ?_); generalize e : endsC _ _ _ = r; simp (disch := omega) [hX, c34] at e; subst e; (try dsimp only [goW]); (refine hk _ _ ?_ ?_; omega; exact ut_)))

theorem p0_bad10 (ds : List UInt8) (hne : ds ≠ []) (hl : ds.length < 90000) (hds : ∀ c ∈ ds, okF 10 c) (hv : 18446744073709551616 ≤ valF 10 0 ds) : Pu tree.getF 48 [.str ds, .int .i64 10, .int .i64 64] (.tup [.int .u64 18446744073709551615, .ifc 78 (.int .i64 1)]) := by
  intro h hf K hk
  obtain ⟨hu, hut, hX⟩ := fx4 hf
  have hneb : (ds == []) = false := by simp [hne]
  refine Wc.mkG 48 c48 (by kernel_rfl) rfl ?_
  generalize e : entryC _ _ _ = r
  simp (disch := omega) [hX, hne, hneb, sy_wrapu64, sy_wrapu8, c48] at e
  subst e
  repeat (first | refine sq_ ?_ | refine bl_ ?_ | ((first | refine rg_ ?_ | refine go_ ?_); generalize e : goR _ _ _ _ _ _ _ _ = r; simp (disch := omega) [hX, hne, hneb, sy_wrapu64, sy_wrapu8, c48] at e; replace e : some _ = _ := e; subst e; (try dsimp only [goW])) | refine ct_ rfl ?_ | refine cf_ rfl ?_ | refine sk_ ?_ | refine ex_ ?_)
  refine parse_loop ds (by omega) 10 (by omega) (by omega) 1844674407370955162 (fun n => by omega) _ _ _ _ _ _ _ _ _ _ _ _ _ _ _ _ _ _ ds 0 0 rfl (by omega) hds (by omega) _ _ _ _ _ _ _ _ _ _ _ ?_ ?_ ?_
  · exact ⟨by (try dsimp only); first | exact hu.le (by omega) | exact hu.set.le (by omega), UnderT.le (by assumption) (by (try dsimp only); omega)⟩
  · intro n' ty w15 w17 w19 w21 w22 w23 w24 w25 w26 w28 w30 w31 g1 g2 g3
    try dsimp only at g1
    exfalso; omega
  · intro n' ty w15 w17 w19 w21 w22 w23 w24 w25 w26 w28 w30 w31 g1 g2 g3
    try dsimp only at g1
    try simp only [outOf, thenW_ret, roundW]
    refine endW.of (.inl rfl) rfl ?_
    generalize e : endsC _ _ _ = r
    simp (disch := omega) [hX, hne, hneb, sy_wrapu64, sy_wrapu8, c48] at e
    subst e
    (try dsimp only)
    refine hk _ _ ?_ ?_
    · omega
    · exact ut_

theorem p_bad10 (ds : List UInt8) (hne : ds ≠ []) (hl : ds.length < 90000) (hds : ∀ c ∈ ds, okF 10 c) (hv : 18446744073709551616 ≤ valF 10 0 ds) (h : CHeap) (hf : Fit h) (K : CVal → CHeap → Prop) (hk : ∀ n' ty m d, h.next ≤ n' → UnderT ty n' → K (.tup [.int .u64 18446744073709551615, .ifc 80 (.ptr m d 0)]) ⟨h.ents, n', ty⟩) : Wc tree.getF 34 [.str ds, .int .i64 10, .int .i64 64] h K := by
  obtain ⟨hu, hut, hX⟩ := fx4 hf
  refine Wc.mkG 34 c34 (by kernel_rfl) rfl ?_
  generalize e : entryC _ _ _ = r
  simp (disch := omega) [hX, c34] at e
  subst e
  repeat (first | refine sq_ ?_ | refine bl_ ?_ | ((first | refine rg_ ?_ | refine go_ ?_); generalize e : goR _ _ _ _ _ _ _ _ = r; simp (disch := omega) [hX, show (ds.length ≤ 281474976710656) from by omega, c49, c60, c34] at e; replace e : some _ = _ := e; subst e; (try dsimp only [goW])) | refine ct_ rfl ?_ | refine cf_ rfl ?_ | refine sk_ ?_ | refine ex_ ?_ | (refine W.loop ?_; try (generalize e : dropped _ _ _ = r; simp (disch := omega) [hX, show (ds.length ≤ 281474976710656) from by omega, c49, c60, c34] at e; subst e; try dsimp only)) | (refine (p0_bad10 ds hne hl hds hv) _ ?_ _ fun n1 tyn1 hn1 hun1 => ⟨rfl, ?_⟩; exact fit_; (try dsimp only at hn1)) | (refine Wc.mkG 49 c49 (by kernel_rfl) rfl ?_; generalize e : entryC _ _ _ = r; simp (disch := omega) [hX, show (ds.length ≤ 281474976710656) from by omega, c49, c60, c34] at e; subst e) | (refine Wc.mkG 60 c60 (by kernel_rfl) rfl ?_; generalize e : entryC _ _ _ = r; simp (disch := omega) [hX, show (ds.length ≤ 281474976710656) from by omega, c49, c60, c34] at e; subst e) | (refine Wc.primM (f := 67) (p := pClone) (by kernel_rfl) ?_; generalize e : pClone _ _ = r; simp (disch := omega) [hX, show (ds.length ≤ 281474976710656) from by omega, c49, c60, c34] at e; subst e; (try dsimp only); refine ⟨rfl, ?_⟩) | ((first | (refine W.ret ?_; (try simp only [outOf, thenW_ret, roundW]); refine endW.of (.inl rfl) rfl ?_) | refine endW.of (.inr rfl) rfl ?_); generalize e : endsC _ _ _ = r; simp (disch := omega) [hX, show (ds.length ≤ 281474976710656) from by omega, c49, c60, c34] at e; subst e; (try dsimp only [goW]); (first | refine ⟨rfl, ?_⟩ | (refine hk _ _ _ _ ?_ ?_; omega; exact ut_))))

theorem p0_ok16 (ds : List UInt8) (hne : ds ≠ []) (hl : ds.length < 90000) (hds : ∀ c ∈ ds, okF 16 c) (hv : valF 16 0 ds < 18446744073709551616) : Pu tree.getF 48 [.str ds, .int .i64 16, .int .i64 64] (.tup [.int .u64 (valF 16 0 ds : Nat), .nili]) := by
  intro h hf K hk
  obtain ⟨hu, hut, hX⟩ := fx4 hf
  have hneb : (ds == []) = false := by simp [hne]
  refine Wc.mkG 48 c48 (by kernel_rfl) rfl ?_
  generalize e : entryC _ _ _ = r
  simp (disch := omega) [hX, hne, hneb, sy_wrapu64, sy_wrapu8, c48] at e
  subst e
  repeat (first | refine sq_ ?_ | refine bl_ ?_ | ((first | refine rg_ ?_ | refine go_ ?_); generalize e : goR _ _ _ _ _ _ _ _ = r; simp (disch := omega) [hX, hne, hneb, sy_wrapu64, sy_wrapu8, c48] at e; replace e : some _ = _ := e; subst e; (try dsimp only [goW])) | refine ct_ rfl ?_ | refine cf_ rfl ?_ | refine sk_ ?_ | refine ex_ ?_)
  refine parse_loop ds (by omega) 16 (by omega) (by omega) 1152921504606846976 (fun n => by omega) _ _ _ _ _ _ _ _ _ _ _ _ _ _ _ _ _ _ ds 0 0 rfl (by omega) hds (by omega) _ _ _ _ _ _ _ _ _ _ _ ?_ ?_ ?_
  · exact ⟨by (try dsimp only); first | exact hu.le (by omega) | exact hu.set.le (by omega), UnderT.le (by assumption) (by (try dsimp only); omega)⟩
  · intro n' ty w15 w17 w19 w21 w22 w23 w24 w25 w26 w28 w30 w31 g1 g2 g3
    try dsimp only at g1
    exact wPH1
  · intro n' ty w15 w17 w19 w21 w22 w23 w24 w25 w26 w28 w30 w31 g1 g2 g3
    try dsimp only at g1
    exfalso; omega

theorem p_ok16 (ds : List UInt8) (hne : ds ≠ []) (hl : ds.length < 90000) (hds : ∀ c ∈ ds, okF 16 c) (hv : valF 16 0 ds < 18446744073709551616) : Pu tree.getF 34 [.str ds, .int .i64 16, .int .i64 64] (.tup [.int .u64 (valF 16 0 ds : Nat), .nili]) := by
  intro h hf K hk
  obtain ⟨hu, hut, hX⟩ := fx4 hf

  refine Wc.mkG 34 c34 (by kernel_rfl) rfl ?_
  generalize e : entryC _ _ _ = r
  simp (disch := omega) [hX, c34] at e
  subst e
  repeat (first | refine sq_ ?_ | refine bl_ ?_ | ((first | refine rg_ ?_ | refine go_ ?_); generalize e : goR _ _ _ _ _ _ _ _ = r; simp (disch := omega) [hX, c34] at e; replace e : some _ = _ := e; subst e; (try dsimp only [goW])) | refine ct_ rfl ?_ | refine cf_ rfl ?_ | refine sk_ ?_ | refine ex_ ?_ | (refine W.loop ?_; try (generalize e : dropped _ _ _ = r; simp (disch := omega) [hX, c34] at e; subst e; try dsimp only)) | (refine (p0_ok16 ds hne hl hds hv) _ ?_ _ fun n1 tyn1 hn1 hun1 => ⟨rfl, ?_⟩; exact fit_; (try dsimp only at hn1)) | ((first | (refine W.ret ?_; (try simp only [outOf, thenW_ret, roundW]); refine endW.of (.inl rfl) rfl ?_) | refine endW.of (.inr rfl) rfl ?_); generalize e : endsC _ _ _ = r; simp (disch := omega) [hX, c34] at e; subst e; (try dsimp only [goW]); (refine hk _ _ ?_ ?_; omega; exact ut_)))

theorem p0_bad16 (ds : List UInt8) (hne : ds ≠ []) (hl : ds.length < 90000) (hds : ∀ c ∈ ds, okF 16 c) (hv : 18446744073709551616 ≤ valF 16 0 ds) : Pu tree.getF 48 [.str ds, .int .i64 16, .int .i64 64] (.tup [.int .u64 18446744073709551615, .ifc 78 (.int .i64 1)]) := by
  intro h hf K hk
  obtain ⟨hu, hut, hX⟩ := fx4 hf
  have hneb : (ds == []) = false := by simp [hne]
  refine Wc.mkG 48 c48 (by kernel_rfl) rfl ?_
  generalize e : entryC _ _ _ = r
  simp (disch := omega) [hX, hne, hneb, sy_wrapu64, sy_wrapu8, c48] at e
  subst e
  repeat (first | refine sq_ ?_ | refine bl_ ?_ | ((first | refine rg_ ?_ | refine go_ ?_); generalize e : goR _ _ _ _ _ _ _ _ = r; simp (disch := omega) [hX, hne, hneb, sy_wrapu64, sy_wrapu8, c48] at e; replace e : some _ = _ := e; subst e; (try dsimp only [goW])) | refine ct_ rfl ?_ | refine cf_ rfl ?_ | refine sk_ ?_ | refine ex_ ?_)
  refine parse_loop ds (by omega) 16 (by omega) (by omega) 1152921504606846976 (fun n => by omega) _ _ _ _ _ _ _ _ _ _ _ _ _ _ _ _ _ _ ds 0 0 rfl (by omega) hds (by omega) _ _ _ _ _ _ _ _ _ _ _ ?_ ?_ ?_
  · exact ⟨by (try dsimp only); first | exact hu.le (by omega) | exact hu.set.le (by omega), UnderT.le (by assumption) (by (try dsimp only); omega)⟩
  · intro n' ty w15 w17 w19 w21 w22 w23 w24 w25 w26 w28 w30 w31 g1 g2 g3
    try dsimp only at g1
    exfalso; omega
  · intro n' ty w15 w17 w19 w21 w22 w23 w24 w25 w26 w28 w30 w31 g1 g2 g3
    try dsimp only at g1
    try simp only [outOf, thenW_ret, roundW]
    refine endW.of (.inl rfl) rfl ?_
    generalize e : endsC _ _ _ = r
    simp (disch := omega) [hX, hne, hneb, sy_wrapu64, sy_wrapu8, c48] at e
    subst e
    (try dsimp only)
    refine hk _ _ ?_ ?_
    · omega
    · exact ut_

theorem p_bad16 (ds : List UInt8) (hne : ds ≠ []) (hl : ds.length < 90000) (hds : ∀ c ∈ ds, okF 16 c) (hv : 18446744073709551616 ≤ valF 16 0 ds) (h : CHeap) (hf : Fit h) (K : CVal → CHeap → Prop) (hk : ∀ n' ty m d, h.next ≤ n' → UnderT ty n' → K (.tup [.int .u64 18446744073709551615, .ifc 80 (.ptr m d 0)]) ⟨h.ents, n', ty⟩) : Wc tree.getF 34 [.str ds, .int .i64 16, .int .i64 64] h K := by
  obtain ⟨hu, hut, hX⟩ := fx4 hf
  refine Wc.mkG 34 c34 (by kernel_rfl) rfl ?_
  generalize e : entryC _ _ _ = r
  simp (disch := omega) [hX, c34] at e
  subst e
  repeat (first | refine sq_ ?_ | refine bl_ ?_ | ((first | refine rg_ ?_ | refine go_ ?_); generalize e : goR _ _ _ _ _ _ _ _ = r; simp (disch := omega) [hX, show (ds.length ≤ 281474976710656) from by omega, c49, c60, c34] at e; replace e : some _ = _ := e; subst e; (try dsimp only [goW])) | refine ct_ rfl ?_ | refine cf_ rfl ?_ | refine sk_ ?_ | refine ex_ ?_ | (refine W.loop ?_; try (generalize e : dropped _ _ _ = r; simp (disch := omega) [hX, show (ds.length ≤ 281474976710656) from by omega, c49, c60, c34] at e; subst e; try dsimp only)) | (refine (p0_bad16 ds hne hl hds hv) _ ?_ _ fun n1 tyn1 hn1 hun1 => ⟨rfl, ?_⟩; exact fit_; (try dsimp only at hn1)) | (refine Wc.mkG 49 c49 (by kernel_rfl) rfl ?_; generalize e : entryC _ _ _ = r; simp (disch := omega) [hX, show (ds.length ≤ 281474976710656) from by omega, c49, c60, c34] at e; subst e) | (refine Wc.mkG 60 c60 (by kernel_rfl) rfl ?_; generalize e : entryC _ _ _ = r; simp (disch := omega) [hX, show (ds.length ≤ 281474976710656) from by omega, c49, c60, c34] at e; subst e) | (refine Wc.primM (f := 67) (p := pClone) (by kernel_rfl) ?_; generalize e : pClone _ _ = r; simp (disch := omega) [hX, show (ds.length ≤ 281474976710656) from by omega, c49, c60, c34] at e; subst e; (try dsimp only); refine ⟨rfl, ?_⟩) | ((first | (refine W.ret ?_; (try simp only [outOf, thenW_ret, roundW]); refine endW.of (.inl rfl) rfl ?_) | refine endW.of (.inr rfl) rfl ?_); generalize e : endsC _ _ _ = r; simp (disch := omega) [hX, show (ds.length ≤ 281474976710656) from by omega, c49, c60, c34] at e; subst e; (try dsimp only [goW]); (first | refine ⟨rfl, ?_⟩ | (refine hk _ _ _ _ ?_ ?_; omega; exact ut_))))
theorem setEnt_none : ∀ {l : List (Nat × CObj)} {p : Nat} {x : CObj}, getEnt l p = none → setEnt l p x = l
  | [], _, _, _ => rfl
  | (i, o) :: r, p, x, h => by
    by_cases hi : i = p
    · subst hi; simp [getEnt] at h
    · simp [getEnt, hi] at h; simp [setEnt, hi, setEnt_none h]
/-- What lies ahead of some entries. -/
def Over (n0 : Nat) (E0 l : List (Nat × CObj)) : Prop := ∃ pre, l = pre ++ E0 ∧ (∀ x ∈ pre, n0 ≤ x.1) ∧ Under E0 n0
theorem Over.cons {n0 : Nat} {E0 l : List (Nat × CObj)} {i : Nat} {o : CObj} (h : Over n0 E0 l) (hi : n0 ≤ i) : Over n0 E0 ((i, o) :: l) := by
  obtain ⟨pre, rfl, h1, h2⟩ := h
  exact ⟨(i, o) :: pre, rfl, fun x hx => by rcases List.mem_cons.1 hx with rfl | hx; exact hi; exact h1 x hx, h2⟩
theorem Over.drop {n0 : Nat} {E0 l : List (Nat × CObj)} (h : Over n0 E0 l) : dropEnts l n0 = E0 := by
  obtain ⟨pre, rfl, h1, h2⟩ := h
  induction pre with
  | nil => exact dropEnts_under h2
  | cons a pre ih =>
    have := h1 a (by simp)
    show (if n0 ≤ a.1 then dropEnts (pre ++ E0) n0 else _) = _
    rw [if_pos this]
    exact ih fun x hx => h1 x (by simp [hx])
theorem set_ids : ∀ {l : List (Nat × CObj)} {p n0 : Nat} {x : CObj}, (∀ y ∈ l, n0 ≤ y.1) → ∀ y ∈ setEnt l p x, n0 ≤ y.1
  | [], _, _, _, _, y, hy => by cases hy
  | (i, o) :: r, p, n0, x, h, y, hy => by
    have h1 := h (i, o) (by simp)
    unfold setEnt at hy
    split at hy
    · rcases List.mem_cons.1 hy with rfl | hy
      · exact h1
      · exact h y (by simp [hy])
    · rcases List.mem_cons.1 hy with rfl | hy
      · exact h1
      · exact set_ids (fun z hz => h z (by simp [hz])) y hy
theorem set_append : ∀ {pre E0 : List (Nat × CObj)} {p : Nat} {x : CObj}, getEnt E0 p = none → setEnt (pre ++ E0) p x = setEnt pre p x ++ E0
  | [], _, _, _, h => setEnt_none h
  | (i, o) :: r, E0, p, x, h => by
    have := set_append (pre := r) (x := x) h
    simp only [List.cons_append, setEnt]
    split
    · rfl
    · rw [this]; rfl
theorem Over.set {n0 : Nat} {E0 l : List (Nat × CObj)} {p : Nat} {x : CObj} (h : Over n0 E0 l) (hp : n0 ≤ p) : Over n0 E0 (setEnt l p x) := by
  obtain ⟨pre, rfl, h1, h2⟩ := h
  exact ⟨setEnt pre p x, set_append (getEnt_under h2 hp), set_ids h1, h2⟩
/-- Where a reader stands. -/
structure St (n0 : Nat) (E0 : List (Nat × CObj)) (p : Nat) (s : List UInt8) (a : Int) (L : CVal) (ts : List CVal) (e to : Int) (h : CHeap) : Prop where
  g : getEnt h.ents p = some (rdr s a L e to)
  l : L = .nils ∧ ts = [] ∨ ∃ i v, L = .imm (.own i v) 4 ts ∧ getEnt h.ents i = some (.tok v) ∧ i ≠ p ∧ n0 ≤ i ∧ i < h.next
  d : Over n0 E0 h.ents
  n : n0 ≤ p
  lt : p < h.next
  f : Fit h
theorem St.whole {n0 : Nat} {E0 : List (Nat × CObj)} {p : Nat} {s : List UInt8} {a : Int} {L : CVal} {ts : List CVal} {e to : Int} {h : CHeap} (S : St n0 E0 p s a L ts e to h) : L.whole = true ∧ L.cells.length = 1 := by
  rcases S.l with ⟨rfl, _⟩ | ⟨i, v, rfl, _⟩ <;> exact ⟨rfl, rfl⟩
theorem St.upd {n0 : Nat} {E0 : List (Nat × CObj)} {p : Nat} {s : List UInt8} {a a' : Int} {L : CVal} {ts : List CVal} {e to e' to' : Int} {h : CHeap} {n' : Nat} {ty : List (Nat × Nat)} (S : St n0 E0 p s a L ts e to h) (hn : h.next ≤ n') (ht : UnderT ty n') :
    St n0 E0 p s a' L ts e' to' ⟨setEnt h.ents p (rdr s a' L e' to'), n', ty⟩ where
  g := sy_getEnt_setEnt S.g
  l := by
    rcases S.l with h1 | ⟨i, v, h1, h2, h3, h4, h5⟩
    · exact .inl h1
    · exact .inr ⟨i, v, h1, (getEnt_setEnt_ne h3).trans h2, h3, h4, by (try dsimp only); omega⟩
  d := S.d.set S.n
  n := S.n
  lt := by have := S.lt; (try dsimp only); omega
  f := ⟨S.f.1.set.le hn, ht⟩
theorem St.app0 {n0 : Nat} {E0 : List (Nat × CObj)} {p : Nat} {s : List UInt8} {a a' : Int} {e to e' to' : Int} {h : CHeap} {n' i : Nat} {ty : List (Nat × Nat)} {x : CVal} {ts : List CVal} (S : St n0 E0 p s a .nils ts e to h) (hi : h.next ≤ i) (hn : i < n') (ht : UnderT ty n') :
    St n0 E0 p s a' (.imm (.own i 0) 4 [x]) [x] e' to' ⟨(i, .tok 0) :: setEnt h.ents p (rdr s a' (.imm (.own i 0) 4 [x]) e' to'), n', ty⟩ := by
  have hlt := S.lt
  have hn0 := S.n
  have hip : (i == p) = false := by simp; omega
  exact {
    g := by simp only [getEnt, hip, Bool.false_eq_true, if_false]; exact sy_getEnt_setEnt S.g
    l := .inr ⟨i, 0, rfl, by simp [getEnt], by omega, by omega, hn⟩
    d := (S.d.set hn0).cons (by omega)
    n := hn0
    lt := by (try dsimp only); omega
    f := ⟨Under.cons hn (S.f.1.set.le (by (try dsimp only); omega)), ht⟩ }
theorem St.app1 {n0 : Nat} {E0 : List (Nat × CObj)} {p : Nat} {s : List UInt8} {a a' : Int} {e to e' to' : Int} {h : CHeap} {n' i v : Nat} {ty : List (Nat × Nat)} {x : CVal} {ts : List CVal} {L : CVal} (S : St n0 E0 p s a L ts e to h) (ht : getEnt h.ents i = some (.tok v)) (hip : i ≠ p) (hi0 : n0 ≤ i) (hin : i < h.next) (hn : h.next ≤ n') (hty : UnderT ty n') :
    St n0 E0 p s a' (.imm (.own i (v + 1)) 4 (ts ++ [x])) (ts ++ [x]) e' to' ⟨setEnt (setEnt h.ents i (.tok (v + 1))) p (rdr s a' (.imm (.own i (v + 1)) 4 (ts ++ [x])) e' to'), n', ty⟩ := by
  have hlt := S.lt
  have hn0 := S.n
  have hg : getEnt (setEnt h.ents i (.tok (v + 1))) p = some (rdr s a L e to) := (getEnt_setEnt_ne (Ne.symm hip)).trans S.g
  exact {
    g := sy_getEnt_setEnt hg
    l := .inr ⟨i, v + 1, rfl, (getEnt_setEnt_ne hip).trans (sy_getEnt_setEnt ht), hip, hi0, by (try dsimp only); omega⟩
    d := (S.d.set hi0).set hn0
    n := hn0
    lt := by (try dsimp only); omega
    f := ⟨S.f.1.set.set.le hn, hty⟩ }

theorem skip_F {n0 : Nat} {E0 : List (Nat × CObj)} (p d : Nat) (s r : List UInt8) (a : Nat) (L : CVal) (ts : List CVal) (to : Int) (hs : s.length < 60000) (hda : s.drop a = r) (hlen : a + r.length = s.length) (h : CHeap) (S : St n0 E0 p s a L ts 0 to h) (K : CVal → CHeap → Prop)
    (hk1 : ∀ h', (skipF r).2 = true → St n0 E0 p s ((s.length - (skipF r).1.length : Nat) : Int) L ts 0 to h' → h.next ≤ h'.next → K (.tup []) h')
    (hk2 : ∀ h', (skipF r).2 = false → St n0 E0 p s (((s.length - (skipF r).1.length : Nat) : Int) + 3) L ts 2 ((s.length - (skipF r).1.length : Nat) : Int) h' → h.next ≤ h'.next → K (.tup []) h') : Wc tree.getF 9 [.ptr p d 0] h K := by
  have hg := S.g
  have hf := S.f
  have hp := S.lt
  have hL := S.whole
  obtain ⟨hu, hut, hX⟩ := fx4 hf
  have hY := fx5 hf hg
  refine Wc.mkG 9 c9 (by kernel_rfl) rfl ?_
  generalize e : entryC _ _ _ = r
  simp (disch := omega) [hX, hg, hY, c9] at e
  subst e
  repeat (first | refine sq_ ?_ | refine bl_ ?_ | ((first | refine rg_ ?_ | refine go_ ?_); generalize e : goR _ _ _ _ _ _ _ _ = r; simp (disch := omega) [hX, hg, hY, c9] at e; replace e : some _ = _ := e; subst e; (try dsimp only [goW])) | refine ct_ rfl ?_ | refine cf_ rfl ?_ | refine sk_ ?_ | refine ex_ ?_)
  refine skip_loop s hs p d L hL.1 hL.2 to _ r.length r a (Nat.le_refl _) hda hlen _ _ _ _ _ _ _ _ hg ⟨hu, hut⟩ hp ?_ ?_
  · intro n' ty v1 v2 v3 v4 v5 v6 v7 g1 g2 g3
    try simp only [outOf, thenW_ret, roundW]
    refine endW.of (.inl rfl) rfl ?_
    generalize e : endsC _ _ _ = r
    simp (disch := omega) [hX, hg, hY, c9] at e
    subst e
    (try dsimp only)
    exact hk1 _ g3 (S.upd g1 g2) g1
  · intro n' ty v1 v2 v3 v4 v5 v6 v7 g1 g2 g3
    try simp only [outOf, thenW_ret, roundW]
    refine endW.of (.inr rfl) rfl ?_
    generalize e : endsC _ _ _ = r
    simp (disch := omega) [hX, hg, hY, c9] at e
    subst e
    (try dsimp only)
    exact hk2 _ g3 (S.upd g1 g2) g1
theorem wPJ1 {P : Prop} (h : P := by repeat (first | refine sq_ ?_ | refine bl_ ?_ | ((first | refine rg_ ?_ | refine go_ ?_); generalize e : goR _ _ _ _ _ _ _ _ = r; simp (disch := omega) [hX, hg, hY, htr, hto, hto1, hdsE, hC4, hc1, c17, c20] at e; replace e : some _ = _ := e; subst e; (try dsimp only [goW])) | refine ct_ rfl ?_ | refine cf_ rfl ?_ | refine sk_ ?_ | refine ex_ ?_ | (refine FR _ ?_ _ fun n2 tyn2 hn2 hun2 => ⟨rfl, ?_⟩; exact fit_; (try dsimp only at hn2)) | (refine P _ ?_ _ fun n3 tyn3 hn3 hun3 => ⟨rfl, ?_⟩; exact fit_; (try dsimp only at hn3)) | (refine (contains_N c _ hcc) _ ?_ _ fun n4 tyn4 hn4 hun4 => ⟨rfl, ?_⟩; exact fit_; (try dsimp only at hn4)) | (refine Wc.mkG 17 c17 (by kernel_rfl) rfl ?_; generalize e : entryC _ _ _ = r; simp (disch := omega) [hX, hg, hY, htr, hto, hto1, hdsE, hC4, hc1, c17, c20] at e; subst e) | ((first | (refine W.ret ?_; (try simp only [outOf, thenW_ret, roundW]); refine endW.of (.inl rfl) rfl ?_) | refine endW.of (.inr rfl) rfl ?_); generalize e : endsC _ _ _ = r; simp (disch := omega) [hX, hg, hY, htr, hto, hto1, hdsE, hC4, hc1, c17, c20] at e; subst e; (try dsimp only [goW]); (first | refine ⟨rfl, ?_⟩ | (refine hk _ _ (S.app0 ?_ ?_ ?_) ?_; omega; omega; exact ut_; (try dsimp only); omega))))) : P := h
theorem wPJ2 {P : Prop} (h : P := by repeat (first | refine sq_ ?_ | refine bl_ ?_ | ((first | refine rg_ ?_ | refine go_ ?_); generalize e : goR _ _ _ _ _ _ _ _ = r; simp (disch := omega) [hX, hg, hY, ht, htP, hPt, hTT, hiP, hcomm, hC3, hD3, htr, hto, hto1, hdsE, hC4, hC5, hc1, c17, c20] at e; replace e : some _ = _ := e; subst e; (try dsimp only [goW])) | refine ct_ rfl ?_ | refine cf_ rfl ?_ | refine sk_ ?_ | refine ex_ ?_ | (refine FR _ ?_ _ fun n2 tyn2 hn2 hun2 => ⟨rfl, ?_⟩; exact fit_; (try dsimp only at hn2)) | (refine P _ ?_ _ fun n3 tyn3 hn3 hun3 => ⟨rfl, ?_⟩; exact fit_; (try dsimp only at hn3)) | (refine (contains_N c _ hcc) _ ?_ _ fun n4 tyn4 hn4 hun4 => ⟨rfl, ?_⟩; exact fit_; (try dsimp only at hn4)) | (refine Wc.mkG 17 c17 (by kernel_rfl) rfl ?_; generalize e : entryC _ _ _ = r; simp (disch := omega) [hX, hg, hY, ht, htP, hPt, hTT, hiP, hcomm, hC3, hD3, htr, hto, hto1, hdsE, hC4, hC5, hc1, c17, c20] at e; subst e) | ((first | (refine W.ret ?_; (try simp only [outOf, thenW_ret, roundW]); refine endW.of (.inl rfl) rfl ?_) | refine endW.of (.inr rfl) rfl ?_); generalize e : endsC _ _ _ = r; simp (disch := omega) [hX, hg, hY, ht, htP, hPt, hTT, hiP, hcomm, hC3, hD3, htr, hto, hto1, hdsE, hC4, hC5, hc1, c17, c20] at e; subst e; (try dsimp only [goW]); (first | refine ⟨rfl, ?_⟩ | (refine hk _ _ (S.app1 ht hip hi0 hin ?_ ?_) ?_; omega; exact ut_; (try dsimp only); omega))))) : P := h
theorem wPJ3 {P : Prop} (h : P := by repeat (first | refine sq_ ?_ | refine bl_ ?_ | ((first | refine rg_ ?_ | refine go_ ?_); generalize e : goR _ _ _ _ _ _ _ _ = r; simp (disch := omega) [hX, hg, hY, htr, hto, hto1, hdsE, hC4, hc1, c17, c20] at e; replace e : some _ = _ := e; subst e; (try dsimp only [goW])) | refine ct_ rfl ?_ | refine cf_ rfl ?_ | refine sk_ ?_ | refine ex_ ?_ | (refine FR _ ?_ _ fun n2 tyn2 hn2 hun2 => ⟨rfl, ?_⟩; exact fit_; (try dsimp only at hn2)) | (refine P _ ?_ _ fun n3 tyn3 m3 d3 hn3 hun3 => ⟨rfl, ?_⟩; exact fit_; (try dsimp only at hn3)) | (refine (contains_N c _ hcc) _ ?_ _ fun n4 tyn4 hn4 hun4 => ⟨rfl, ?_⟩; exact fit_; (try dsimp only at hn4)) | (refine Wc.mkG 17 c17 (by kernel_rfl) rfl ?_; generalize e : entryC _ _ _ = r; simp (disch := omega) [hX, hg, hY, htr, hto, hto1, hdsE, hC4, hc1, c17, c20] at e; subst e) | ((first | (refine W.ret ?_; (try simp only [outOf, thenW_ret, roundW]); refine endW.of (.inl rfl) rfl ?_) | refine endW.of (.inr rfl) rfl ?_); generalize e : endsC _ _ _ = r; simp (disch := omega) [hX, hg, hY, htr, hto, hto1, hdsE, hC4, hc1, c17, c20] at e; subst e; (try dsimp only [goW]); (first | refine ⟨rfl, ?_⟩ | (refine hk _ _ (S.app0 ?_ ?_ ?_) ?_; omega; omega; exact ut_; (try dsimp only); omega))))) : P := h
theorem wPJ4 {P : Prop} (h : P := by repeat (first | refine sq_ ?_ | refine bl_ ?_ | ((first | refine rg_ ?_ | refine go_ ?_); generalize e : goR _ _ _ _ _ _ _ _ = r; simp (disch := omega) [hX, hg, hY, ht, htP, hPt, hTT, hiP, hcomm, hC3, hD3, htr, hto, hto1, hdsE, hC4, hC5, hc1, c17, c20] at e; replace e : some _ = _ := e; subst e; (try dsimp only [goW])) | refine ct_ rfl ?_ | refine cf_ rfl ?_ | refine sk_ ?_ | refine ex_ ?_ | (refine FR _ ?_ _ fun n2 tyn2 hn2 hun2 => ⟨rfl, ?_⟩; exact fit_; (try dsimp only at hn2)) | (refine P _ ?_ _ fun n3 tyn3 m3 d3 hn3 hun3 => ⟨rfl, ?_⟩; exact fit_; (try dsimp only at hn3)) | (refine (contains_N c _ hcc) _ ?_ _ fun n4 tyn4 hn4 hun4 => ⟨rfl, ?_⟩; exact fit_; (try dsimp only at hn4)) | (refine Wc.mkG 17 c17 (by kernel_rfl) rfl ?_; generalize e : entryC _ _ _ = r; simp (disch := omega) [hX, hg, hY, ht, htP, hPt, hTT, hiP, hcomm, hC3, hD3, htr, hto, hto1, hdsE, hC4, hC5, hc1, c17, c20] at e; subst e) | ((first | (refine W.ret ?_; (try simp only [outOf, thenW_ret, roundW]); refine endW.of (.inl rfl) rfl ?_) | refine endW.of (.inr rfl) rfl ?_); generalize e : endsC _ _ _ = r; simp (disch := omega) [hX, hg, hY, ht, htP, hPt, hTT, hiP, hcomm, hC3, hD3, htr, hto, hto1, hdsE, hC4, hC5, hc1, c17, c20] at e; subst e; (try dsimp only [goW]); (first | refine ⟨rfl, ?_⟩ | (refine hk _ _ (S.app1 ht hip hi0 hin ?_ ?_) ?_; omega; exact ut_; (try dsimp only); omega))))) : P := h

abbrev numTail : CCode := (.seq (.region [⟨.mv (.var 4), none⟩, ⟨.mv (.var 1), none⟩, ⟨.mv (.var 4), none⟩, ⟨.slc 0 (.loc 1) (some (.loc 0)) none, none⟩, ⟨.mv (.var 5), none⟩, ⟨.call false 13 [(.loc 1), (.loc 0)], none⟩, ⟨.bin .add (.loc 5) (.loc 0), none⟩, ⟨.mv (.loc 0), none⟩] [(6, 7)] [] []) (.seq (.region [⟨.mv (.var 1), none⟩, ⟨.mv (.var 4), none⟩, ⟨.mv (.var 6), none⟩, ⟨.slc 0 (.loc 2) (some (.loc 1)) (some (.loc 0)), none⟩, ⟨.mv (.var 7), none⟩, ⟨.call false 34 [(.loc 1), (.loc 0), (.const (.int .i64 64))], none⟩, ⟨.mv (.loc 0), none⟩, ⟨.extract 0 (.loc 0), none⟩, ⟨.extract 1 (.loc 1), none⟩, ⟨.mv (.loc 1), none⟩, ⟨.mv (.loc 1), none⟩] [(8, 10), (10, 9)] [] []) (.seq (.region [⟨.mv (.var 0), none⟩, ⟨.mv (.var 8), none⟩, ⟨.eqv .ifc true (.loc 0) (.const .nili), none⟩, ⟨.mv (.var 0), none⟩, ⟨.nilck (.loc 0), none⟩, ⟨.fieldAddr 1 (.loc 0), none⟩, ⟨.load none (.loc 0), none⟩, ⟨.call false 17 [(.loc 6), (.loc 4), (.const (.int .i64 3)), (.loc 0)], none⟩] [] [] []) (.seq (.seq (.region [⟨.mv (.var 6), none⟩, ⟨.mv (.var 1), none⟩, ⟨.len true (.loc 0), none⟩, ⟨.bin .lss (.loc 2) (.loc 0), none⟩] [(9, 3)] [] []) (.cond (.var 9) (.region [⟨.mv (.var 0), none⟩, ⟨.mv (.var 1), none⟩, ⟨.mv (.var 6), none⟩, ⟨.mv (.var 6), none⟩, ⟨.bin .add (.loc 0) (.const (.int .i64 1)), none⟩, ⟨.slc 0 (.loc 3) (some (.loc 2)) (some (.loc 0)), none⟩, ⟨.call false 19 [(.const (.str [65, 66, 67, 68, 69, 70, 71, 72, 73, 74, 75, 76, 77, 78, 79, 80, 81, 82, 83, 84, 85, 86, 87, 88, 89, 90, 97, 98, 99, 100, 101, 102, 103, 104, 105, 106, 107, 108, 109, 110, 111, 112, 113, 114, 115, 116, 117, 118, 119, 120, 121, 122, 95, 48, 49, 50, 51, 52, 53, 54, 55, 56, 57, 46])), (.loc 0)], none⟩, ⟨.mv (.var 0), none⟩, ⟨.nilck (.loc 0), none⟩, ⟨.fieldAddr 1 (.loc 0), none⟩, ⟨.load none (.loc 0), none⟩, ⟨.call false 17 [(.loc 10), (.loc 4), (.const (.int .i64 2)), (.loc 0)], none⟩] [] [(10, 0, 1)] []) .skip)) (.seq (.region [⟨.mv (.var 0), none⟩, ⟨.mv (.var 0), none⟩, ⟨.nilck (.loc 0), none⟩, ⟨.fieldAddr 2 (.loc 0), none⟩, ⟨.load none (.loc 0), none⟩, ⟨.mv (.var 10), none⟩, ⟨.mv (.var 0), none⟩, ⟨.nilck (.loc 0), none⟩, ⟨.fieldAddr 1 (.loc 0), none⟩, ⟨.load none (.loc 0), none⟩, ⟨.build [(.int .i64 0), (.str []), (.int .u64 0), (.int .i64 0)] [(0, 1, (.const (.int .i64 2))), (2, 1, (.loc 4)), (3, 1, (.loc 0))], none⟩, ⟨.lit .imm true [(.int .i64 0), (.str []), (.int .u64 0), (.int .i64 0)] 1 [(0, (.loc 0))], none⟩, ⟨.append .imm 0 4 (.loc 7) (.loc 0), none⟩, ⟨.nilck (.loc 12), none⟩, ⟨.fieldAddr 2 (.loc 0), none⟩, ⟨.store 1 (.loc 0) (.loc 2), none⟩] [] [] []) (.region [⟨.mv (.var 0), none⟩, ⟨.nilck (.loc 0), none⟩, ⟨.fieldAddr 1 (.loc 0), none⟩, ⟨.load none (.loc 0), none⟩, ⟨.mv (.var 6), none⟩, ⟨.bin .add (.loc 1) (.loc 0), none⟩, ⟨.nilck (.loc 5), none⟩, ⟨.fieldAddr 1 (.loc 0), none⟩, ⟨.store 1 (.loc 0) (.loc 2), none⟩] [] [] []))))))
abbrev tokC (k : Int) (t : List UInt8) (n : Nat) (a : Int) : CVal := .agg [.int .i64 k, .str t, .int .u64 (n : Int), .int .i64 a]

theorem contains_N (c : UInt8) (b : Bool) (hb : (namesB ++ [46]).contains c = b) : Pu tree.getF 19 [.str [65, 66, 67, 68, 69, 70, 71, 72, 73, 74, 75, 76, 77, 78, 79, 80, 81, 82, 83, 84, 85, 86, 87, 88, 89, 90, 97, 98, 99, 100, 101, 102, 103, 104, 105, 106, 107, 108, 109, 110, 111, 112, 113, 114, 115, 116, 117, 118, 119, 120, 121, 122, 95, 48, 49, 50, 51, 52, 53, 54, 55, 56, 57, 46], .str [c]] (.bool b) := by
  rw [← hb]; exact contains_F (namesB ++ [46]) c (by decide)

theorem tail_ok_end0 {n0 n1 : Nat} {E0 : List (Nat × CObj)} (p d : Nat) (s r : List UInt8) (a n k : Nat) (B : Int) (v0 : Nat) (set ds : List UInt8) (ts : List CVal) (hts : ts.length ≤ 100000) (to : Int) (hs : s.length < 60000) (hda : s.drop a = r) (hlen : a + r.length = s.length) (hnk : n + k ≤ r.length) (hdsE : (r.take (n + k)).drop n = ds)
    (FR : Pu tree.getF 13 [.str (r.drop n), .str set] (.int .i64 (k : Int))) (P : Pu tree.getF 34 [.str ds, .int .i64 B, .int .i64 64] (.tup [.int .u64 (v0 : Int), .nili])) (hend : n + k = r.length) (h : CHeap) (S : St n0 E0 p s (a : Int) (.nils) [] 0 to h) (hn1 : n1 ≤ h.next) (hu1 : Under h.ents n1) (v2 v3 v6 v8 v9 v10 : CVal) (K : CVal → CHeap → Prop)
    (hk : ∀ h' L', St n0 E0 p s ((a : Int) + ((n : Int) + (k : Int))) L' ([] ++ [tokC 2 [] v0 a]) 0 to h' → h.next ≤ h'.next → K (.tup []) h') : W tree.getF numTail ⟨[.ptr p d 0, .str r, v2, v3, .int .i64 (n : Int), .str set, v6, .int .i64 B, v8, v9, v10], h, []⟩ (endW c20 n1 K) := by
  have hg := S.g
  have hf := S.f
  have hp := S.lt
  obtain ⟨hu, hut, hX⟩ := fx4 hf
  have hY := fx5 hf hg
  have hC4 : ∀ x, dropCells (setEnt h.ents p x) n1 = setEnt h.ents p x := fun x => dropCells_under hu1.set
  have htr : r.take r.length = r := List.take_length
  have hto : ((n : Int) + (k : Int)).toNat = n + k := by omega
  have hto1 : ((n : Int) + (k : Int) + 1).toNat = n + k + 1 := by omega
  repeat (first | refine sq_ ?_ | refine bl_ ?_ | ((first | refine rg_ ?_ | refine go_ ?_); generalize e : goR _ _ _ _ _ _ _ _ = r; simp (disch := omega) [hX, hg, hY, htr, hto, hto1, hdsE, hC4, c17, c20] at e; replace e : some _ = _ := e; subst e; (try dsimp only [goW])) | refine ct_ rfl ?_ | refine cf_ rfl ?_ | refine sk_ ?_ | refine ex_ ?_ | (refine FR _ ?_ _ fun n2 tyn2 hn2 hun2 => ⟨rfl, ?_⟩; exact fit_; (try dsimp only at hn2)) | (refine P _ ?_ _ fun n3 tyn3 hn3 hun3 => ⟨rfl, ?_⟩; exact fit_; (try dsimp only at hn3)) | (refine Wc.mkG 17 c17 (by kernel_rfl) rfl ?_; generalize e : entryC _ _ _ = r; simp (disch := omega) [hX, hg, hY, htr, hto, hto1, hdsE, hC4, c17, c20] at e; subst e) | ((first | (refine W.ret ?_; (try simp only [outOf, thenW_ret, roundW]); refine endW.of (.inl rfl) rfl ?_) | refine endW.of (.inr rfl) rfl ?_); generalize e : endsC _ _ _ = r; simp (disch := omega) [hX, hg, hY, htr, hto, hto1, hdsE, hC4, c17, c20] at e; subst e; (try dsimp only [goW]); (first | refine ⟨rfl, ?_⟩ | (refine hk _ _ (S.app0 ?_ ?_ ?_) ?_; omega; omega; exact ut_; (try dsimp only); omega))))

theorem tail_ok_end1 {n0 n1 : Nat} {E0 : List (Nat × CObj)} (p d : Nat) (s r : List UInt8) (a n k : Nat) (B : Int) (v0 : Nat) (set ds : List UInt8) (ts : List CVal) (hts : ts.length ≤ 100000) (to : Int) (hs : s.length < 60000) (hda : s.drop a = r) (hlen : a + r.length = s.length) (hnk : n + k ≤ r.length) (hdsE : (r.take (n + k)).drop n = ds)
    (FR : Pu tree.getF 13 [.str (r.drop n), .str set] (.int .i64 (k : Int))) (P : Pu tree.getF 34 [.str ds, .int .i64 B, .int .i64 64] (.tup [.int .u64 (v0 : Int), .nili])) (hend : n + k = r.length) (h : CHeap) (i v : Nat) (ht : getEnt h.ents i = some (.tok v)) (hip : i ≠ p) (hi0 : n0 ≤ i) (hin : i < h.next) (S : St n0 E0 p s (a : Int) (.imm (.own i v) 4 ts) ts 0 to h) (hn1 : n1 ≤ h.next) (hu1 : Under h.ents n1) (v2 v3 v6 v8 v9 v10 : CVal) (K : CVal → CHeap → Prop)
    (hk : ∀ h' L', St n0 E0 p s ((a : Int) + ((n : Int) + (k : Int))) L' (ts ++ [tokC 2 [] v0 a]) 0 to h' → h.next ≤ h'.next → K (.tup []) h') : W tree.getF numTail ⟨[.ptr p d 0, .str r, v2, v3, .int .i64 (n : Int), .str set, v6, .int .i64 B, v8, v9, v10], h, []⟩ (endW c20 n1 K) := by
  have hg := S.g
  have hf := S.f
  have hp := S.lt
  obtain ⟨hu, hut, hX⟩ := fx4 hf
  have hY := fx5 hf hg
  have htP : ∀ x, getEnt (setEnt h.ents p x) i = some (.tok v) := fun x => (getEnt_setEnt_ne hip).trans ht
  have hPt : ∀ x y, getEnt (setEnt (setEnt h.ents i x) p y) p = some y := fun x y => sy_getEnt_setEnt ((getEnt_setEnt_ne (Ne.symm hip)).trans hg)
  have hTT : ∀ x y, getEnt (setEnt (setEnt h.ents i x) p y) i = some x := fun x y => (getEnt_setEnt_ne hip).trans (sy_getEnt_setEnt ht)
  have hiP : ∀ x, getEnt (setEnt h.ents i x) p = _ := fun x => (getEnt_setEnt_ne (Ne.symm hip)).trans hg
  have hcomm : ∀ x y, setEnt (setEnt h.ents p y) i x = setEnt (setEnt h.ents i x) p y := fun x y => setEnt_comm (Ne.symm hip)
  have hC3 : ∀ x y m, h.next ≤ m → dropCells (setEnt (setEnt h.ents i x) p y) m = setEnt (setEnt h.ents i x) p y := fun x y m hm => dropCells_under (hu.set.set.le hm)
  have hD3 : ∀ x y m, h.next ≤ m → dropEnts (setEnt (setEnt h.ents i x) p y) m = setEnt (setEnt h.ents i x) p y := fun x y m hm => dropEnts_under (hu.set.set.le hm)
  have hC4 : ∀ x, dropCells (setEnt h.ents p x) n1 = setEnt h.ents p x := fun x => dropCells_under hu1.set
  have hC5 : ∀ x y, dropCells (setEnt (setEnt h.ents i x) p y) n1 = setEnt (setEnt h.ents i x) p y := fun x y => dropCells_under hu1.set.set
  have htr : r.take r.length = r := List.take_length
  have hto : ((n : Int) + (k : Int)).toNat = n + k := by omega
  have hto1 : ((n : Int) + (k : Int) + 1).toNat = n + k + 1 := by omega
  repeat (first | refine sq_ ?_ | refine bl_ ?_ | ((first | refine rg_ ?_ | refine go_ ?_); generalize e : goR _ _ _ _ _ _ _ _ = r; simp (disch := omega) [hX, hg, hY, ht, htP, hPt, hTT, hiP, hcomm, hC3, hD3, htr, hto, hto1, hdsE, hC4, hC5, c17, c20] at e; replace e : some _ = _ := e; subst e; (try dsimp only [goW])) | refine ct_ rfl ?_ | refine cf_ rfl ?_ | refine sk_ ?_ | refine ex_ ?_ | (refine FR _ ?_ _ fun n2 tyn2 hn2 hun2 => ⟨rfl, ?_⟩; exact fit_; (try dsimp only at hn2)) | (refine P _ ?_ _ fun n3 tyn3 hn3 hun3 => ⟨rfl, ?_⟩; exact fit_; (try dsimp only at hn3)) | (refine Wc.mkG 17 c17 (by kernel_rfl) rfl ?_; generalize e : entryC _ _ _ = r; simp (disch := omega) [hX, hg, hY, ht, htP, hPt, hTT, hiP, hcomm, hC3, hD3, htr, hto, hto1, hdsE, hC4, hC5, c17, c20] at e; subst e) | ((first | (refine W.ret ?_; (try simp only [outOf, thenW_ret, roundW]); refine endW.of (.inl rfl) rfl ?_) | refine endW.of (.inr rfl) rfl ?_); generalize e : endsC _ _ _ = r; simp (disch := omega) [hX, hg, hY, ht, htP, hPt, hTT, hiP, hcomm, hC3, hD3, htr, hto, hto1, hdsE, hC4, hC5, c17, c20] at e; subst e; (try dsimp only [goW]); (first | refine ⟨rfl, ?_⟩ | (refine hk _ _ (S.app1 ht hip hi0 hin ?_ ?_) ?_; omega; exact ut_; (try dsimp only); omega))))

theorem tail_ok_good0 {n0 n1 : Nat} {E0 : List (Nat × CObj)} (p d : Nat) (s r : List UInt8) (a n k : Nat) (B : Int) (v0 : Nat) (set ds : List UInt8) (ts : List CVal) (hts : ts.length ≤ 100000) (to : Int) (hs : s.length < 60000) (hda : s.drop a = r) (hlen : a + r.length = s.length) (hnk : n + k ≤ r.length) (hdsE : (r.take (n + k)).drop n = ds)
    (FR : Pu tree.getF 13 [.str (r.drop n), .str set] (.int .i64 (k : Int))) (P : Pu tree.getF 34 [.str ds, .int .i64 B, .int .i64 64] (.tup [.int .u64 (v0 : Int), .nili])) (c : UInt8) (t : List UInt8) (hc : r.drop (n + k) = c :: t) (hcc : (namesB ++ [46]).contains c = false) (h : CHeap) (S : St n0 E0 p s (a : Int) (.nils) [] 0 to h) (hn1 : n1 ≤ h.next) (hu1 : Under h.ents n1) (v2 v3 v6 v8 v9 v10 : CVal) (K : CVal → CHeap → Prop)
    (hk : ∀ h' L', St n0 E0 p s ((a : Int) + ((n : Int) + (k : Int))) L' ([] ++ [tokC 2 [] v0 a]) 0 to h' → h.next ≤ h'.next → K (.tup []) h') : W tree.getF numTail ⟨[.ptr p d 0, .str r, v2, v3, .int .i64 (n : Int), .str set, v6, .int .i64 B, v8, v9, v10], h, []⟩ (endW c20 n1 K) := by
  have hg := S.g
  have hf := S.f
  have hp := S.lt
  obtain ⟨hu, hut, hX⟩ := fx4 hf
  have hY := fx5 hf hg
  have hC4 : ∀ x, dropCells (setEnt h.ents p x) n1 = setEnt h.ents p x := fun x => dropCells_under hu1.set
  have htr : r.take r.length = r := List.take_length
  have hto : ((n : Int) + (k : Int)).toNat = n + k := by omega
  have hto1 : ((n : Int) + (k : Int) + 1).toNat = n + k + 1 := by omega
  have hlt : n + k < r.length := by
    rcases Nat.lt_or_ge (n + k) r.length with h' | h'
    · exact h'
    · rw [List.drop_eq_nil_of_le h'] at hc; cases hc
  have hc1 : (r.take (n + k + 1)).drop (n + k) = [c] := by
    rw [List.drop_take, hc, show n + k + 1 - (n + k) = 1 by omega]; rfl
  exact wPJ1

theorem tail_ok_good1 {n0 n1 : Nat} {E0 : List (Nat × CObj)} (p d : Nat) (s r : List UInt8) (a n k : Nat) (B : Int) (v0 : Nat) (set ds : List UInt8) (ts : List CVal) (hts : ts.length ≤ 100000) (to : Int) (hs : s.length < 60000) (hda : s.drop a = r) (hlen : a + r.length = s.length) (hnk : n + k ≤ r.length) (hdsE : (r.take (n + k)).drop n = ds)
    (FR : Pu tree.getF 13 [.str (r.drop n), .str set] (.int .i64 (k : Int))) (P : Pu tree.getF 34 [.str ds, .int .i64 B, .int .i64 64] (.tup [.int .u64 (v0 : Int), .nili])) (c : UInt8) (t : List UInt8) (hc : r.drop (n + k) = c :: t) (hcc : (namesB ++ [46]).contains c = false) (h : CHeap) (i v : Nat) (ht : getEnt h.ents i = some (.tok v)) (hip : i ≠ p) (hi0 : n0 ≤ i) (hin : i < h.next) (S : St n0 E0 p s (a : Int) (.imm (.own i v) 4 ts) ts 0 to h) (hn1 : n1 ≤ h.next) (hu1 : Under h.ents n1) (v2 v3 v6 v8 v9 v10 : CVal) (K : CVal → CHeap → Prop)
    (hk : ∀ h' L', St n0 E0 p s ((a : Int) + ((n : Int) + (k : Int))) L' (ts ++ [tokC 2 [] v0 a]) 0 to h' → h.next ≤ h'.next → K (.tup []) h') : W tree.getF numTail ⟨[.ptr p d 0, .str r, v2, v3, .int .i64 (n : Int), .str set, v6, .int .i64 B, v8, v9, v10], h, []⟩ (endW c20 n1 K) := by
  have hg := S.g
  have hf := S.f
  have hp := S.lt
  obtain ⟨hu, hut, hX⟩ := fx4 hf
  have hY := fx5 hf hg
  have htP : ∀ x, getEnt (setEnt h.ents p x) i = some (.tok v) := fun x => (getEnt_setEnt_ne hip).trans ht
  have hPt : ∀ x y, getEnt (setEnt (setEnt h.ents i x) p y) p = some y := fun x y => sy_getEnt_setEnt ((getEnt_setEnt_ne (Ne.symm hip)).trans hg)
  have hTT : ∀ x y, getEnt (setEnt (setEnt h.ents i x) p y) i = some x := fun x y => (getEnt_setEnt_ne hip).trans (sy_getEnt_setEnt ht)
  have hiP : ∀ x, getEnt (setEnt h.ents i x) p = _ := fun x => (getEnt_setEnt_ne (Ne.symm hip)).trans hg
  have hcomm : ∀ x y, setEnt (setEnt h.ents p y) i x = setEnt (setEnt h.ents i x) p y := fun x y => setEnt_comm (Ne.symm hip)
  have hC3 : ∀ x y m, h.next ≤ m → dropCells (setEnt (setEnt h.ents i x) p y) m = setEnt (setEnt h.ents i x) p y := fun x y m hm => dropCells_under (hu.set.set.le hm)
  have hD3 : ∀ x y m, h.next ≤ m → dropEnts (setEnt (setEnt h.ents i x) p y) m = setEnt (setEnt h.ents i x) p y := fun x y m hm => dropEnts_under (hu.set.set.le hm)
  have hC4 : ∀ x, dropCells (setEnt h.ents p x) n1 = setEnt h.ents p x := fun x => dropCells_under hu1.set
  have hC5 : ∀ x y, dropCells (setEnt (setEnt h.ents i x) p y) n1 = setEnt (setEnt h.ents i x) p y := fun x y => dropCells_under hu1.set.set
  have htr : r.take r.length = r := List.take_length
  have hto : ((n : Int) + (k : Int)).toNat = n + k := by omega
  have hto1 : ((n : Int) + (k : Int) + 1).toNat = n + k + 1 := by omega
  have hlt : n + k < r.length := by
    rcases Nat.lt_or_ge (n + k) r.length with h' | h'
    · exact h'
    · rw [List.drop_eq_nil_of_le h'] at hc; cases hc
  have hc1 : (r.take (n + k + 1)).drop (n + k) = [c] := by
    rw [List.drop_take, hc, show n + k + 1 - (n + k) = 1 by omega]; rfl
  exact wPJ2

theorem tail_ok_bad0 {n0 n1 : Nat} {E0 : List (Nat × CObj)} (p d : Nat) (s r : List UInt8) (a n k : Nat) (B : Int) (v0 : Nat) (set ds : List UInt8) (ts : List CVal) (hts : ts.length ≤ 100000) (to : Int) (hs : s.length < 60000) (hda : s.drop a = r) (hlen : a + r.length = s.length) (hnk : n + k ≤ r.length) (hdsE : (r.take (n + k)).drop n = ds)
    (FR : Pu tree.getF 13 [.str (r.drop n), .str set] (.int .i64 (k : Int))) (P : Pu tree.getF 34 [.str ds, .int .i64 B, .int .i64 64] (.tup [.int .u64 (v0 : Int), .nili])) (c : UInt8) (t : List UInt8) (hc : r.drop (n + k) = c :: t) (hcc : (namesB ++ [46]).contains c = true) (h : CHeap) (S : St n0 E0 p s (a : Int) (.nils) [] 0 to h) (hn1 : n1 ≤ h.next) (hu1 : Under h.ents n1) (v2 v3 v6 v8 v9 v10 : CVal) (K : CVal → CHeap → Prop)
    (hk : ∀ h' L', St n0 E0 p s ((a : Int) + ((n : Int) + (k : Int))) L' ([] ++ [tokC 2 [] v0 a]) 2 (a : Int) h' → h.next ≤ h'.next → K (.tup []) h') : W tree.getF numTail ⟨[.ptr p d 0, .str r, v2, v3, .int .i64 (n : Int), .str set, v6, .int .i64 B, v8, v9, v10], h, []⟩ (endW c20 n1 K) := by
  have hg := S.g
  have hf := S.f
  have hp := S.lt
  obtain ⟨hu, hut, hX⟩ := fx4 hf
  have hY := fx5 hf hg
  have hC4 : ∀ x, dropCells (setEnt h.ents p x) n1 = setEnt h.ents p x := fun x => dropCells_under hu1.set
  have htr : r.take r.length = r := List.take_length
  have hto : ((n : Int) + (k : Int)).toNat = n + k := by omega
  have hto1 : ((n : Int) + (k : Int) + 1).toNat = n + k + 1 := by omega
  have hlt : n + k < r.length := by
    rcases Nat.lt_or_ge (n + k) r.length with h' | h'
    · exact h'
    · rw [List.drop_eq_nil_of_le h'] at hc; cases hc
  have hc1 : (r.take (n + k + 1)).drop (n + k) = [c] := by
    rw [List.drop_take, hc, show n + k + 1 - (n + k) = 1 by omega]; rfl
  exact wPJ1

theorem tail_ok_bad1 {n0 n1 : Nat} {E0 : List (Nat × CObj)} (p d : Nat) (s r : List UInt8) (a n k : Nat) (B : Int) (v0 : Nat) (set ds : List UInt8) (ts : List CVal) (hts : ts.length ≤ 100000) (to : Int) (hs : s.length < 60000) (hda : s.drop a = r) (hlen : a + r.length = s.length) (hnk : n + k ≤ r.length) (hdsE : (r.take (n + k)).drop n = ds)
    (FR : Pu tree.getF 13 [.str (r.drop n), .str set] (.int .i64 (k : Int))) (P : Pu tree.getF 34 [.str ds, .int .i64 B, .int .i64 64] (.tup [.int .u64 (v0 : Int), .nili])) (c : UInt8) (t : List UInt8) (hc : r.drop (n + k) = c :: t) (hcc : (namesB ++ [46]).contains c = true) (h : CHeap) (i v : Nat) (ht : getEnt h.ents i = some (.tok v)) (hip : i ≠ p) (hi0 : n0 ≤ i) (hin : i < h.next) (S : St n0 E0 p s (a : Int) (.imm (.own i v) 4 ts) ts 0 to h) (hn1 : n1 ≤ h.next) (hu1 : Under h.ents n1) (v2 v3 v6 v8 v9 v10 : CVal) (K : CVal → CHeap → Prop)
    (hk : ∀ h' L', St n0 E0 p s ((a : Int) + ((n : Int) + (k : Int))) L' (ts ++ [tokC 2 [] v0 a]) 2 (a : Int) h' → h.next ≤ h'.next → K (.tup []) h') : W tree.getF numTail ⟨[.ptr p d 0, .str r, v2, v3, .int .i64 (n : Int), .str set, v6, .int .i64 B, v8, v9, v10], h, []⟩ (endW c20 n1 K) := by
  have hg := S.g
  have hf := S.f
  have hp := S.lt
  obtain ⟨hu, hut, hX⟩ := fx4 hf
  have hY := fx5 hf hg
  have htP : ∀ x, getEnt (setEnt h.ents p x) i = some (.tok v) := fun x => (getEnt_setEnt_ne hip).trans ht
  have hPt : ∀ x y, getEnt (setEnt (setEnt h.ents i x) p y) p = some y := fun x y => sy_getEnt_setEnt ((getEnt_setEnt_ne (Ne.symm hip)).trans hg)
  have hTT : ∀ x y, getEnt (setEnt (setEnt h.ents i x) p y) i = some x := fun x y => (getEnt_setEnt_ne hip).trans (sy_getEnt_setEnt ht)
  have hiP : ∀ x, getEnt (setEnt h.ents i x) p = _ := fun x => (getEnt_setEnt_ne (Ne.symm hip)).trans hg
  have hcomm : ∀ x y, setEnt (setEnt h.ents p y) i x = setEnt (setEnt h.ents i x) p y := fun x y => setEnt_comm (Ne.symm hip)
  have hC3 : ∀ x y m, h.next ≤ m → dropCells (setEnt (setEnt h.ents i x) p y) m = setEnt (setEnt h.ents i x) p y := fun x y m hm => dropCells_under (hu.set.set.le hm)
  have hD3 : ∀ x y m, h.next ≤ m → dropEnts (setEnt (setEnt h.ents i x) p y) m = setEnt (setEnt h.ents i x) p y := fun x y m hm => dropEnts_under (hu.set.set.le hm)
  have hC4 : ∀ x, dropCells (setEnt h.ents p x) n1 = setEnt h.ents p x := fun x => dropCells_under hu1.set
  have hC5 : ∀ x y, dropCells (setEnt (setEnt h.ents i x) p y) n1 = setEnt (setEnt h.ents i x) p y := fun x y => dropCells_under hu1.set.set
  have htr : r.take r.length = r := List.take_length
  have hto : ((n : Int) + (k : Int)).toNat = n + k := by omega
  have hto1 : ((n : Int) + (k : Int) + 1).toNat = n + k + 1 := by omega
  have hlt : n + k < r.length := by
    rcases Nat.lt_or_ge (n + k) r.length with h' | h'
    · exact h'
    · rw [List.drop_eq_nil_of_le h'] at hc; cases hc
  have hc1 : (r.take (n + k + 1)).drop (n + k) = [c] := by
    rw [List.drop_take, hc, show n + k + 1 - (n + k) = 1 by omega]; rfl
  exact wPJ2

theorem tail_ovf_end0 {n0 n1 : Nat} {E0 : List (Nat × CObj)} (p d : Nat) (s r : List UInt8) (a n k : Nat) (B : Int) (v0 : Nat) (set ds : List UInt8) (ts : List CVal) (hts : ts.length ≤ 100000) (to : Int) (hs : s.length < 60000) (hda : s.drop a = r) (hlen : a + r.length = s.length) (hnk : n + k ≤ r.length) (hdsE : (r.take (n + k)).drop n = ds)
    (FR : Pu tree.getF 13 [.str (r.drop n), .str set] (.int .i64 (k : Int))) (P : ∀ (h : CHeap), Fit h → ∀ (K : CVal → CHeap → Prop), (∀ n' ty m d, h.next ≤ n' → UnderT ty n' → K (.tup [.int .u64 (v0 : Int), .ifc 80 (.ptr m d 0)]) ⟨h.ents, n', ty⟩) → Wc tree.getF 34 [.str ds, .int .i64 B, .int .i64 64] h K) (hend : n + k = r.length) (h : CHeap) (S : St n0 E0 p s (a : Int) (.nils) [] 0 to h) (hn1 : n1 ≤ h.next) (hu1 : Under h.ents n1) (v2 v3 v6 v8 v9 v10 : CVal) (K : CVal → CHeap → Prop)
    (hk : ∀ h' L', St n0 E0 p s ((a : Int) + ((n : Int) + (k : Int))) L' ([] ++ [tokC 2 [] v0 a]) 3 (a : Int) h' → h.next ≤ h'.next → K (.tup []) h') : W tree.getF numTail ⟨[.ptr p d 0, .str r, v2, v3, .int .i64 (n : Int), .str set, v6, .int .i64 B, v8, v9, v10], h, []⟩ (endW c20 n1 K) := by
  have hg := S.g
  have hf := S.f
  have hp := S.lt
  obtain ⟨hu, hut, hX⟩ := fx4 hf
  have hY := fx5 hf hg
  have hC4 : ∀ x, dropCells (setEnt h.ents p x) n1 = setEnt h.ents p x := fun x => dropCells_under hu1.set
  have htr : r.take r.length = r := List.take_length
  have hto : ((n : Int) + (k : Int)).toNat = n + k := by omega
  have hto1 : ((n : Int) + (k : Int) + 1).toNat = n + k + 1 := by omega
  repeat (first | refine sq_ ?_ | refine bl_ ?_ | ((first | refine rg_ ?_ | refine go_ ?_); generalize e : goR _ _ _ _ _ _ _ _ = r; simp (disch := omega) [hX, hg, hY, htr, hto, hto1, hdsE, hC4, c17, c20] at e; replace e : some _ = _ := e; subst e; (try dsimp only [goW])) | refine ct_ rfl ?_ | refine cf_ rfl ?_ | refine sk_ ?_ | refine ex_ ?_ | (refine FR _ ?_ _ fun n2 tyn2 hn2 hun2 => ⟨rfl, ?_⟩; exact fit_; (try dsimp only at hn2)) | (refine P _ ?_ _ fun n3 tyn3 m3 d3 hn3 hun3 => ⟨rfl, ?_⟩; exact fit_; (try dsimp only at hn3)) | (refine Wc.mkG 17 c17 (by kernel_rfl) rfl ?_; generalize e : entryC _ _ _ = r; simp (disch := omega) [hX, hg, hY, htr, hto, hto1, hdsE, hC4, c17, c20] at e; subst e) | ((first | (refine W.ret ?_; (try simp only [outOf, thenW_ret, roundW]); refine endW.of (.inl rfl) rfl ?_) | refine endW.of (.inr rfl) rfl ?_); generalize e : endsC _ _ _ = r; simp (disch := omega) [hX, hg, hY, htr, hto, hto1, hdsE, hC4, c17, c20] at e; subst e; (try dsimp only [goW]); (first | refine ⟨rfl, ?_⟩ | (refine hk _ _ (S.app0 ?_ ?_ ?_) ?_; omega; omega; exact ut_; (try dsimp only); omega))))

theorem tail_ovf_end1 {n0 n1 : Nat} {E0 : List (Nat × CObj)} (p d : Nat) (s r : List UInt8) (a n k : Nat) (B : Int) (v0 : Nat) (set ds : List UInt8) (ts : List CVal) (hts : ts.length ≤ 100000) (to : Int) (hs : s.length < 60000) (hda : s.drop a = r) (hlen : a + r.length = s.length) (hnk : n + k ≤ r.length) (hdsE : (r.take (n + k)).drop n = ds)
    (FR : Pu tree.getF 13 [.str (r.drop n), .str set] (.int .i64 (k : Int))) (P : ∀ (h : CHeap), Fit h → ∀ (K : CVal → CHeap → Prop), (∀ n' ty m d, h.next ≤ n' → UnderT ty n' → K (.tup [.int .u64 (v0 : Int), .ifc 80 (.ptr m d 0)]) ⟨h.ents, n', ty⟩) → Wc tree.getF 34 [.str ds, .int .i64 B, .int .i64 64] h K) (hend : n + k = r.length) (h : CHeap) (i v : Nat) (ht : getEnt h.ents i = some (.tok v)) (hip : i ≠ p) (hi0 : n0 ≤ i) (hin : i < h.next) (S : St n0 E0 p s (a : Int) (.imm (.own i v) 4 ts) ts 0 to h) (hn1 : n1 ≤ h.next) (hu1 : Under h.ents n1) (v2 v3 v6 v8 v9 v10 : CVal) (K : CVal → CHeap → Prop)
    (hk : ∀ h' L', St n0 E0 p s ((a : Int) + ((n : Int) + (k : Int))) L' (ts ++ [tokC 2 [] v0 a]) 3 (a : Int) h' → h.next ≤ h'.next → K (.tup []) h') : W tree.getF numTail ⟨[.ptr p d 0, .str r, v2, v3, .int .i64 (n : Int), .str set, v6, .int .i64 B, v8, v9, v10], h, []⟩ (endW c20 n1 K) := by
  have hg := S.g
  have hf := S.f
  have hp := S.lt
  obtain ⟨hu, hut, hX⟩ := fx4 hf
  have hY := fx5 hf hg
  have htP : ∀ x, getEnt (setEnt h.ents p x) i = some (.tok v) := fun x => (getEnt_setEnt_ne hip).trans ht
  have hPt : ∀ x y, getEnt (setEnt (setEnt h.ents i x) p y) p = some y := fun x y => sy_getEnt_setEnt ((getEnt_setEnt_ne (Ne.symm hip)).trans hg)
  have hTT : ∀ x y, getEnt (setEnt (setEnt h.ents i x) p y) i = some x := fun x y => (getEnt_setEnt_ne hip).trans (sy_getEnt_setEnt ht)
  have hiP : ∀ x, getEnt (setEnt h.ents i x) p = _ := fun x => (getEnt_setEnt_ne (Ne.symm hip)).trans hg
  have hcomm : ∀ x y, setEnt (setEnt h.ents p y) i x = setEnt (setEnt h.ents i x) p y := fun x y => setEnt_comm (Ne.symm hip)
  have hC3 : ∀ x y m, h.next ≤ m → dropCells (setEnt (setEnt h.ents i x) p y) m = setEnt (setEnt h.ents i x) p y := fun x y m hm => dropCells_under (hu.set.set.le hm)
  have hD3 : ∀ x y m, h.next ≤ m → dropEnts (setEnt (setEnt h.ents i x) p y) m = setEnt (setEnt h.ents i x) p y := fun x y m hm => dropEnts_under (hu.set.set.le hm)
  have hC4 : ∀ x, dropCells (setEnt h.ents p x) n1 = setEnt h.ents p x := fun x => dropCells_under hu1.set
  have hC5 : ∀ x y, dropCells (setEnt (setEnt h.ents i x) p y) n1 = setEnt (setEnt h.ents i x) p y := fun x y => dropCells_under hu1.set.set
  have htr : r.take r.length = r := List.take_length
  have hto : ((n : Int) + (k : Int)).toNat = n + k := by omega
  have hto1 : ((n : Int) + (k : Int) + 1).toNat = n + k + 1 := by omega
  repeat (first | refine sq_ ?_ | refine bl_ ?_ | ((first | refine rg_ ?_ | refine go_ ?_); generalize e : goR _ _ _ _ _ _ _ _ = r; simp (disch := omega) [hX, hg, hY, ht, htP, hPt, hTT, hiP, hcomm, hC3, hD3, htr, hto, hto1, hdsE, hC4, hC5, c17, c20] at e; replace e : some _ = _ := e; subst e; (try dsimp only [goW])) | refine ct_ rfl ?_ | refine cf_ rfl ?_ | refine sk_ ?_ | refine ex_ ?_ | (refine FR _ ?_ _ fun n2 tyn2 hn2 hun2 => ⟨rfl, ?_⟩; exact fit_; (try dsimp only at hn2)) | (refine P _ ?_ _ fun n3 tyn3 m3 d3 hn3 hun3 => ⟨rfl, ?_⟩; exact fit_; (try dsimp only at hn3)) | (refine Wc.mkG 17 c17 (by kernel_rfl) rfl ?_; generalize e : entryC _ _ _ = r; simp (disch := omega) [hX, hg, hY, ht, htP, hPt, hTT, hiP, hcomm, hC3, hD3, htr, hto, hto1, hdsE, hC4, hC5, c17, c20] at e; subst e) | ((first | (refine W.ret ?_; (try simp only [outOf, thenW_ret, roundW]); refine endW.of (.inl rfl) rfl ?_) | refine endW.of (.inr rfl) rfl ?_); generalize e : endsC _ _ _ = r; simp (disch := omega) [hX, hg, hY, ht, htP, hPt, hTT, hiP, hcomm, hC3, hD3, htr, hto, hto1, hdsE, hC4, hC5, c17, c20] at e; subst e; (try dsimp only [goW]); (first | refine ⟨rfl, ?_⟩ | (refine hk _ _ (S.app1 ht hip hi0 hin ?_ ?_) ?_; omega; exact ut_; (try dsimp only); omega))))

theorem tail_ovf_good0 {n0 n1 : Nat} {E0 : List (Nat × CObj)} (p d : Nat) (s r : List UInt8) (a n k : Nat) (B : Int) (v0 : Nat) (set ds : List UInt8) (ts : List CVal) (hts : ts.length ≤ 100000) (to : Int) (hs : s.length < 60000) (hda : s.drop a = r) (hlen : a + r.length = s.length) (hnk : n + k ≤ r.length) (hdsE : (r.take (n + k)).drop n = ds)
    (FR : Pu tree.getF 13 [.str (r.drop n), .str set] (.int .i64 (k : Int))) (P : ∀ (h : CHeap), Fit h → ∀ (K : CVal → CHeap → Prop), (∀ n' ty m d, h.next ≤ n' → UnderT ty n' → K (.tup [.int .u64 (v0 : Int), .ifc 80 (.ptr m d 0)]) ⟨h.ents, n', ty⟩) → Wc tree.getF 34 [.str ds, .int .i64 B, .int .i64 64] h K) (c : UInt8) (t : List UInt8) (hc : r.drop (n + k) = c :: t) (hcc : (namesB ++ [46]).contains c = false) (h : CHeap) (S : St n0 E0 p s (a : Int) (.nils) [] 0 to h) (hn1 : n1 ≤ h.next) (hu1 : Under h.ents n1) (v2 v3 v6 v8 v9 v10 : CVal) (K : CVal → CHeap → Prop)
    (hk : ∀ h' L', St n0 E0 p s ((a : Int) + ((n : Int) + (k : Int))) L' ([] ++ [tokC 2 [] v0 a]) 3 (a : Int) h' → h.next ≤ h'.next → K (.tup []) h') : W tree.getF numTail ⟨[.ptr p d 0, .str r, v2, v3, .int .i64 (n : Int), .str set, v6, .int .i64 B, v8, v9, v10], h, []⟩ (endW c20 n1 K) := by
  have hg := S.g
  have hf := S.f
  have hp := S.lt
  obtain ⟨hu, hut, hX⟩ := fx4 hf
  have hY := fx5 hf hg
  have hC4 : ∀ x, dropCells (setEnt h.ents p x) n1 = setEnt h.ents p x := fun x => dropCells_under hu1.set
  have htr : r.take r.length = r := List.take_length
  have hto : ((n : Int) + (k : Int)).toNat = n + k := by omega
  have hto1 : ((n : Int) + (k : Int) + 1).toNat = n + k + 1 := by omega
  have hlt : n + k < r.length := by
    rcases Nat.lt_or_ge (n + k) r.length with h' | h'
    · exact h'
    · rw [List.drop_eq_nil_of_le h'] at hc; cases hc
  have hc1 : (r.take (n + k + 1)).drop (n + k) = [c] := by
    rw [List.drop_take, hc, show n + k + 1 - (n + k) = 1 by omega]; rfl
  exact wPJ3

theorem tail_ovf_good1 {n0 n1 : Nat} {E0 : List (Nat × CObj)} (p d : Nat) (s r : List UInt8) (a n k : Nat) (B : Int) (v0 : Nat) (set ds : List UInt8) (ts : List CVal) (hts : ts.length ≤ 100000) (to : Int) (hs : s.length < 60000) (hda : s.drop a = r) (hlen : a + r.length = s.length) (hnk : n + k ≤ r.length) (hdsE : (r.take (n + k)).drop n = ds)
    (FR : Pu tree.getF 13 [.str (r.drop n), .str set] (.int .i64 (k : Int))) (P : ∀ (h : CHeap), Fit h → ∀ (K : CVal → CHeap → Prop), (∀ n' ty m d, h.next ≤ n' → UnderT ty n' → K (.tup [.int .u64 (v0 : Int), .ifc 80 (.ptr m d 0)]) ⟨h.ents, n', ty⟩) → Wc tree.getF 34 [.str ds, .int .i64 B, .int .i64 64] h K) (c : UInt8) (t : List UInt8) (hc : r.drop (n + k) = c :: t) (hcc : (namesB ++ [46]).contains c = false) (h : CHeap) (i v : Nat) (ht : getEnt h.ents i = some (.tok v)) (hip : i ≠ p) (hi0 : n0 ≤ i) (hin : i < h.next) (S : St n0 E0 p s (a : Int) (.imm (.own i v) 4 ts) ts 0 to h) (hn1 : n1 ≤ h.next) (hu1 : Under h.ents n1) (v2 v3 v6 v8 v9 v10 : CVal) (K : CVal → CHeap → Prop)
    (hk : ∀ h' L', St n0 E0 p s ((a : Int) + ((n : Int) + (k : Int))) L' (ts ++ [tokC 2 [] v0 a]) 3 (a : Int) h' → h.next ≤ h'.next → K (.tup []) h') : W tree.getF numTail ⟨[.ptr p d 0, .str r, v2, v3, .int .i64 (n : Int), .str set, v6, .int .i64 B, v8, v9, v10], h, []⟩ (endW c20 n1 K) := by
  have hg := S.g
  have hf := S.f
  have hp := S.lt
  obtain ⟨hu, hut, hX⟩ := fx4 hf
  have hY := fx5 hf hg
  have htP : ∀ x, getEnt (setEnt h.ents p x) i = some (.tok v) := fun x => (getEnt_setEnt_ne hip).trans ht
  have hPt : ∀ x y, getEnt (setEnt (setEnt h.ents i x) p y) p = some y := fun x y => sy_getEnt_setEnt ((getEnt_setEnt_ne (Ne.symm hip)).trans hg)
  have hTT : ∀ x y, getEnt (setEnt (setEnt h.ents i x) p y) i = some x := fun x y => (getEnt_setEnt_ne hip).trans (sy_getEnt_setEnt ht)
  have hiP : ∀ x, getEnt (setEnt h.ents i x) p = _ := fun x => (getEnt_setEnt_ne (Ne.symm hip)).trans hg
  have hcomm : ∀ x y, setEnt (setEnt h.ents p y) i x = setEnt (setEnt h.ents i x) p y := fun x y => setEnt_comm (Ne.symm hip)
  have hC3 : ∀ x y m, h.next ≤ m → dropCells (setEnt (setEnt h.ents i x) p y) m = setEnt (setEnt h.ents i x) p y := fun x y m hm => dropCells_under (hu.set.set.le hm)
  have hD3 : ∀ x y m, h.next ≤ m → dropEnts (setEnt (setEnt h.ents i x) p y) m = setEnt (setEnt h.ents i x) p y := fun x y m hm => dropEnts_under (hu.set.set.le hm)
  have hC4 : ∀ x, dropCells (setEnt h.ents p x) n1 = setEnt h.ents p x := fun x => dropCells_under hu1.set
  have hC5 : ∀ x y, dropCells (setEnt (setEnt h.ents i x) p y) n1 = setEnt (setEnt h.ents i x) p y := fun x y => dropCells_under hu1.set.set
  have htr : r.take r.length = r := List.take_length
  have hto : ((n : Int) + (k : Int)).toNat = n + k := by omega
  have hto1 : ((n : Int) + (k : Int) + 1).toNat = n + k + 1 := by omega
  have hlt : n + k < r.length := by
    rcases Nat.lt_or_ge (n + k) r.length with h' | h'
    · exact h'
    · rw [List.drop_eq_nil_of_le h'] at hc; cases hc
  have hc1 : (r.take (n + k + 1)).drop (n + k) = [c] := by
    rw [List.drop_take, hc, show n + k + 1 - (n + k) = 1 by omega]; rfl
  exact wPJ4

theorem tail_ovf_bad0 {n0 n1 : Nat} {E0 : List (Nat × CObj)} (p d : Nat) (s r : List UInt8) (a n k : Nat) (B : Int) (v0 : Nat) (set ds : List UInt8) (ts : List CVal) (hts : ts.length ≤ 100000) (to : Int) (hs : s.length < 60000) (hda : s.drop a = r) (hlen : a + r.length = s.length) (hnk : n + k ≤ r.length) (hdsE : (r.take (n + k)).drop n = ds)
    (FR : Pu tree.getF 13 [.str (r.drop n), .str set] (.int .i64 (k : Int))) (P : ∀ (h : CHeap), Fit h → ∀ (K : CVal → CHeap → Prop), (∀ n' ty m d, h.next ≤ n' → UnderT ty n' → K (.tup [.int .u64 (v0 : Int), .ifc 80 (.ptr m d 0)]) ⟨h.ents, n', ty⟩) → Wc tree.getF 34 [.str ds, .int .i64 B, .int .i64 64] h K) (c : UInt8) (t : List UInt8) (hc : r.drop (n + k) = c :: t) (hcc : (namesB ++ [46]).contains c = true) (h : CHeap) (S : St n0 E0 p s (a : Int) (.nils) [] 0 to h) (hn1 : n1 ≤ h.next) (hu1 : Under h.ents n1) (v2 v3 v6 v8 v9 v10 : CVal) (K : CVal → CHeap → Prop)
    (hk : ∀ h' L', St n0 E0 p s ((a : Int) + ((n : Int) + (k : Int))) L' ([] ++ [tokC 2 [] v0 a]) 3 (a : Int) h' → h.next ≤ h'.next → K (.tup []) h') : W tree.getF numTail ⟨[.ptr p d 0, .str r, v2, v3, .int .i64 (n : Int), .str set, v6, .int .i64 B, v8, v9, v10], h, []⟩ (endW c20 n1 K) := by
  have hg := S.g
  have hf := S.f
  have hp := S.lt
  obtain ⟨hu, hut, hX⟩ := fx4 hf
  have hY := fx5 hf hg
  have hC4 : ∀ x, dropCells (setEnt h.ents p x) n1 = setEnt h.ents p x := fun x => dropCells_under hu1.set
  have htr : r.take r.length = r := List.take_length
  have hto : ((n : Int) + (k : Int)).toNat = n + k := by omega
  have hto1 : ((n : Int) + (k : Int) + 1).toNat = n + k + 1 := by omega
  have hlt : n + k < r.length := by
    rcases Nat.lt_or_ge (n + k) r.length with h' | h'
    · exact h'
    · rw [List.drop_eq_nil_of_le h'] at hc; cases hc
  have hc1 : (r.take (n + k + 1)).drop (n + k) = [c] := by
    rw [List.drop_take, hc, show n + k + 1 - (n + k) = 1 by omega]; rfl
  exact wPJ3

theorem tail_ovf_bad1 {n0 n1 : Nat} {E0 : List (Nat × CObj)} (p d : Nat) (s r : List UInt8) (a n k : Nat) (B : Int) (v0 : Nat) (set ds : List UInt8) (ts : List CVal) (hts : ts.length ≤ 100000) (to : Int) (hs : s.length < 60000) (hda : s.drop a = r) (hlen : a + r.length = s.length) (hnk : n + k ≤ r.length) (hdsE : (r.take (n + k)).drop n = ds)
    (FR : Pu tree.getF 13 [.str (r.drop n), .str set] (.int .i64 (k : Int))) (P : ∀ (h : CHeap), Fit h → ∀ (K : CVal → CHeap → Prop), (∀ n' ty m d, h.next ≤ n' → UnderT ty n' → K (.tup [.int .u64 (v0 : Int), .ifc 80 (.ptr m d 0)]) ⟨h.ents, n', ty⟩) → Wc tree.getF 34 [.str ds, .int .i64 B, .int .i64 64] h K) (c : UInt8) (t : List UInt8) (hc : r.drop (n + k) = c :: t) (hcc : (namesB ++ [46]).contains c = true) (h : CHeap) (i v : Nat) (ht : getEnt h.ents i = some (.tok v)) (hip : i ≠ p) (hi0 : n0 ≤ i) (hin : i < h.next) (S : St n0 E0 p s (a : Int) (.imm (.own i v) 4 ts) ts 0 to h) (hn1 : n1 ≤ h.next) (hu1 : Under h.ents n1) (v2 v3 v6 v8 v9 v10 : CVal) (K : CVal → CHeap → Prop)
    (hk : ∀ h' L', St n0 E0 p s ((a : Int) + ((n : Int) + (k : Int))) L' (ts ++ [tokC 2 [] v0 a]) 3 (a : Int) h' → h.next ≤ h'.next → K (.tup []) h') : W tree.getF numTail ⟨[.ptr p d 0, .str r, v2, v3, .int .i64 (n : Int), .str set, v6, .int .i64 B, v8, v9, v10], h, []⟩ (endW c20 n1 K) := by
  have hg := S.g
  have hf := S.f
  have hp := S.lt
  obtain ⟨hu, hut, hX⟩ := fx4 hf
  have hY := fx5 hf hg
  have htP : ∀ x, getEnt (setEnt h.ents p x) i = some (.tok v) := fun x => (getEnt_setEnt_ne hip).trans ht
  have hPt : ∀ x y, getEnt (setEnt (setEnt h.ents i x) p y) p = some y := fun x y => sy_getEnt_setEnt ((getEnt_setEnt_ne (Ne.symm hip)).trans hg)
  have hTT : ∀ x y, getEnt (setEnt (setEnt h.ents i x) p y) i = some x := fun x y => (getEnt_setEnt_ne hip).trans (sy_getEnt_setEnt ht)
  have hiP : ∀ x, getEnt (setEnt h.ents i x) p = _ := fun x => (getEnt_setEnt_ne (Ne.symm hip)).trans hg
  have hcomm : ∀ x y, setEnt (setEnt h.ents p y) i x = setEnt (setEnt h.ents i x) p y := fun x y => setEnt_comm (Ne.symm hip)
  have hC3 : ∀ x y m, h.next ≤ m → dropCells (setEnt (setEnt h.ents i x) p y) m = setEnt (setEnt h.ents i x) p y := fun x y m hm => dropCells_under (hu.set.set.le hm)
  have hD3 : ∀ x y m, h.next ≤ m → dropEnts (setEnt (setEnt h.ents i x) p y) m = setEnt (setEnt h.ents i x) p y := fun x y m hm => dropEnts_under (hu.set.set.le hm)
  have hC4 : ∀ x, dropCells (setEnt h.ents p x) n1 = setEnt h.ents p x := fun x => dropCells_under hu1.set
  have hC5 : ∀ x y, dropCells (setEnt (setEnt h.ents i x) p y) n1 = setEnt (setEnt h.ents i x) p y := fun x y => dropCells_under hu1.set.set
  have htr : r.take r.length = r := List.take_length
  have hto : ((n : Int) + (k : Int)).toNat = n + k := by omega
  have hto1 : ((n : Int) + (k : Int) + 1).toNat = n + k + 1 := by omega
  have hlt : n + k < r.length := by
    rcases Nat.lt_or_ge (n + k) r.length with h' | h'
    · exact h'
    · rw [List.drop_eq_nil_of_le h'] at hc; cases hc
  have hc1 : (r.take (n + k + 1)).drop (n + k) = [c] := by
    rw [List.drop_take, hc, show n + k + 1 - (n + k) = 1 by omega]; rfl
  exact wPJ4

end Go.Proofs.YthblmflngjofjaaDoor.IrW
