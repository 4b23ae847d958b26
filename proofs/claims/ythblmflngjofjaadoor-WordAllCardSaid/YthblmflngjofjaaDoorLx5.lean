/- What the functions of the law 'WordAll' do: part 5 of 7. -/
import Derived.Test.YthblmflngjofjaaDoorLx4
namespace Go.Proofs.YthblmflngjofjaaDoor.IrW
open Go Go.CI Go.LexF
set_option maxRecDepth 100000
set_option linter.unusedVariables false
set_option linter.unusedSimpArgs false
attribute [local irreducible] W Wo Wc WoR
/-- The reference's reader as it lies: text, place, error, where. -/
abbrev lx (s : List UInt8) (i e t : Int) : CObj := .cells [.str s, .int .i64 i, .int .i64 e, .int .i64 t]

theorem starts_t (s : List UInt8) (i : Nat) (e t : Int) (w : List UInt8) (hs : s.length < 60000) (hw : (s.drop i).take w.length = w) (hi : i + w.length ≤ s.length) (h : CHeap) (p d : Nat) (hf : Fit h) (hg : getEnt h.ents p = some (lx s (i : Int) e t)) (hp : p < h.next) (K : CVal → CHeap → Prop) (hk : ∀ n' ty, h.next ≤ n' → UnderT ty n' → K (.bool true) ⟨h.ents, n', ty⟩) : Wc tree.getF 22 [.ptr p d 0, .str w] h K := by
  obtain ⟨hu, hut, hX⟩ := fx4 hf
  have hY := fx5 hf hg
  have hc : (s.take (i + w.length)).drop i = w := by rw [List.drop_take, show i + w.length - i = w.length by omega, hw]
  have e1 : ((i : Int) + (w.length : Int)).toNat = i + w.length := by omega

  refine Wc.mkG 22 c22 (by kernel_rfl) rfl ?_
  generalize e : entryC _ _ _ = r
  simp (disch := omega) [hX, hg, hY, hc, e1, c22] at e
  subst e
  repeat (first | refine sq_ ?_ | refine bl_ ?_ | ((first | refine rg_ ?_ | refine go_ ?_); generalize e : goR _ _ _ _ _ _ _ _ = r; simp (disch := omega) [hX, hg, hY, hc, e1, c22] at e; replace e : some _ = _ := e; subst e; (try dsimp only [goW])) | refine ct_ rfl ?_ | refine cf_ rfl ?_ | refine sk_ ?_ | refine ex_ ?_ | (refine W.loop ?_; try (generalize e : dropped _ _ _ = r; simp (disch := omega) [hX, hg, hY, hc, e1, c22] at e; subst e; try dsimp only)) | ((first | (refine W.ret ?_; (try simp only [outOf, thenW_ret, roundW]); refine endW.of (.inl rfl) rfl ?_) | refine endW.of (.inr rfl) rfl ?_); generalize e : endsC _ _ _ = r; simp (disch := omega) [hX, hg, hY, hc, e1, c22] at e; subst e; (try dsimp only [goW]); (refine hk _ _ ?_ ?_; omega; exact ut_)))

theorem starts_n (s : List UInt8) (i : Nat) (e t : Int) (w : List UInt8) (hs : s.length < 60000) (hi : i ≤ s.length) (hw : w.length < 100) (hl : s.length < i + w.length) (h : CHeap) (p d : Nat) (hf : Fit h) (hg : getEnt h.ents p = some (lx s (i : Int) e t)) (hp : p < h.next) (K : CVal → CHeap → Prop) (hk : ∀ n' ty, h.next ≤ n' → UnderT ty n' → K (.bool false) ⟨h.ents, n', ty⟩) : Wc tree.getF 22 [.ptr p d 0, .str w] h K := by
  obtain ⟨hu, hut, hX⟩ := fx4 hf
  have hY := fx5 hf hg

  refine Wc.mkG 22 c22 (by kernel_rfl) rfl ?_
  generalize e : entryC _ _ _ = r
  simp (disch := omega) [hX, hg, hY, c22] at e
  subst e
  repeat (first | refine sq_ ?_ | refine bl_ ?_ | ((first | refine rg_ ?_ | refine go_ ?_); generalize e : goR _ _ _ _ _ _ _ _ = r; simp (disch := omega) [hX, hg, hY, c22] at e; replace e : some _ = _ := e; subst e; (try dsimp only [goW])) | refine ct_ rfl ?_ | refine cf_ rfl ?_ | refine sk_ ?_ | refine ex_ ?_ | (refine W.loop ?_; try (generalize e : dropped _ _ _ = r; simp (disch := omega) [hX, hg, hY, c22] at e; subst e; try dsimp only)) | ((first | (refine W.ret ?_; (try simp only [outOf, thenW_ret, roundW]); refine endW.of (.inl rfl) rfl ?_) | refine endW.of (.inr rfl) rfl ?_); generalize e : endsC _ _ _ = r; simp (disch := omega) [hX, hg, hY, c22] at e; subst e; (try dsimp only [goW]); (refine hk _ _ ?_ ?_; omega; exact ut_)))

theorem starts_d (s : List UInt8) (i : Nat) (e t : Int) (w : List UInt8) (hs : s.length < 60000) (hi : i + w.length ≤ s.length) (hw : ((s.drop i).take w.length == w) = false) (h : CHeap) (p d : Nat) (hf : Fit h) (hg : getEnt h.ents p = some (lx s (i : Int) e t)) (hp : p < h.next) (K : CVal → CHeap → Prop) (hk : ∀ n' ty, h.next ≤ n' → UnderT ty n' → K (.bool false) ⟨h.ents, n', ty⟩) : Wc tree.getF 22 [.ptr p d 0, .str w] h K := by
  obtain ⟨hu, hut, hX⟩ := fx4 hf
  have hY := fx5 hf hg
  have hc : (((s.take (i + w.length)).drop i) == w) = false := by rw [List.drop_take, show i + w.length - i = w.length by omega, hw]
  have hc2 : ¬ ((s.take (i + w.length)).drop i) = w := by simpa using hc
  have e1 : ((i : Int) + (w.length : Int)).toNat = i + w.length := by omega

  refine Wc.mkG 22 c22 (by kernel_rfl) rfl ?_
  generalize e : entryC _ _ _ = r
  simp (disch := omega) [hX, hg, hY, hc, hc2, e1, c22] at e
  subst e
  repeat (first | refine sq_ ?_ | refine bl_ ?_ | ((first | refine rg_ ?_ | refine go_ ?_); generalize e : goR _ _ _ _ _ _ _ _ = r; simp (disch := omega) [hX, hg, hY, hc, hc2, e1, c22] at e; replace e : some _ = _ := e; subst e; (try dsimp only [goW])) | refine ct_ rfl ?_ | refine cf_ rfl ?_ | refine sk_ ?_ | refine ex_ ?_ | (refine W.loop ?_; try (generalize e : dropped _ _ _ = r; simp (disch := omega) [hX, hg, hY, hc, hc2, e1, c22] at e; subst e; try dsimp only)) | ((first | (refine W.ret ?_; (try simp only [outOf, thenW_ret, roundW]); refine endW.of (.inl rfl) rfl ?_) | refine endW.of (.inr rfl) rfl ?_); generalize e : endsC _ _ _ = r; simp (disch := omega) [hX, hg, hY, hc, hc2, e1, c22] at e; subst e; (try dsimp only [goW]); (refine hk _ _ ?_ ?_; omega; exact ut_)))

theorem byte_s (s : List UInt8) (i k : Nat) (e t : Int) (c : UInt8) (hs : s.length < 60000) (hk0 : k < 100) (hc : s[i + k]? = some c) (h : CHeap) (p d : Nat) (hf : Fit h) (hg : getEnt h.ents p = some (lx s (i : Int) e t)) (hp : p < h.next) (K : CVal → CHeap → Prop) (hk : ∀ n' ty, h.next ≤ n' → UnderT ty n' → K (.int .u8 (c.toNat : Int)) ⟨h.ents, n', ty⟩) : Wc tree.getF 25 [.ptr p d 0, .int .i64 (k : Int)] h K := by
  obtain ⟨hu, hut, hX⟩ := fx4 hf
  have hY := fx5 hf hg
  obtain ⟨hi, hce⟩ := List.getElem?_eq_some_iff.1 hc
  have e1 : ((i : Int) + (k : Int)).toNat = i + k := by omega

  refine Wc.mkG 25 c25 (by kernel_rfl) rfl ?_
  generalize e : entryC _ _ _ = r
  simp (disch := omega) [hX, hg, hY, hc, e1, hce, c25] at e
  subst e
  repeat (first | refine sq_ ?_ | refine bl_ ?_ | ((first | refine rg_ ?_ | refine go_ ?_); generalize e : goR _ _ _ _ _ _ _ _ = r; simp (disch := omega) [hX, hg, hY, hc, e1, hce, c25] at e; replace e : some _ = _ := e; subst e; (try dsimp only [goW])) | refine ct_ rfl ?_ | refine cf_ rfl ?_ | refine sk_ ?_ | refine ex_ ?_ | (refine W.loop ?_; try (generalize e : dropped _ _ _ = r; simp (disch := omega) [hX, hg, hY, hc, e1, hce, c25] at e; subst e; try dsimp only)) | ((first | (refine W.ret ?_; (try simp only [outOf, thenW_ret, roundW]); refine endW.of (.inl rfl) rfl ?_) | refine endW.of (.inr rfl) rfl ?_); generalize e : endsC _ _ _ = r; simp (disch := omega) [hX, hg, hY, hc, e1, hce, c25] at e; subst e; (try dsimp only [goW]); (refine hk _ _ ?_ ?_; omega; exact ut_)))

theorem byte_n (s : List UInt8) (i k : Nat) (e t : Int) (hs : s.length < 60000) (hi : i ≤ s.length) (hk0 : k < 100) (hl : s.length ≤ i + k) (h : CHeap) (p d : Nat) (hf : Fit h) (hg : getEnt h.ents p = some (lx s (i : Int) e t)) (hp : p < h.next) (K : CVal → CHeap → Prop) (hk : ∀ n' ty, h.next ≤ n' → UnderT ty n' → K (.int .u8 0) ⟨h.ents, n', ty⟩) : Wc tree.getF 25 [.ptr p d 0, .int .i64 (k : Int)] h K := by
  obtain ⟨hu, hut, hX⟩ := fx4 hf
  have hY := fx5 hf hg

  refine Wc.mkG 25 c25 (by kernel_rfl) rfl ?_
  generalize e : entryC _ _ _ = r
  simp (disch := omega) [hX, hg, hY, c25] at e
  subst e
  repeat (first | refine sq_ ?_ | refine bl_ ?_ | ((first | refine rg_ ?_ | refine go_ ?_); generalize e : goR _ _ _ _ _ _ _ _ = r; simp (disch := omega) [hX, hg, hY, c25] at e; replace e : some _ = _ := e; subst e; (try dsimp only [goW])) | refine ct_ rfl ?_ | refine cf_ rfl ?_ | refine sk_ ?_ | refine ex_ ?_ | (refine W.loop ?_; try (generalize e : dropped _ _ _ = r; simp (disch := omega) [hX, hg, hY, c25] at e; subst e; try dsimp only)) | ((first | (refine W.ret ?_; (try simp only [outOf, thenW_ret, roundW]); refine endW.of (.inl rfl) rfl ?_) | refine endW.of (.inr rfl) rfl ?_); generalize e : endsC _ _ _ = r; simp (disch := omega) [hX, hg, hY, c25] at e; subst e; (try dsimp only [goW]); (refine hk _ _ ?_ ?_; omega; exact ut_)))

theorem fail_L (s : List UInt8) (i e t e' t' : Int) (h : CHeap) (p d : Nat) (hf : Fit h) (hg : getEnt h.ents p = some (lx s i e t)) (hp : p < h.next) (K : CVal → CHeap → Prop) (hk : ∀ n' ty, h.next ≤ n' → UnderT ty n' → K (.agg [.int .i64 0, .str [], .int .u64 0, .int .i64 0]) ⟨setEnt h.ents p (lx s i e' t'), n', ty⟩) : Wc tree.getF 23 [.ptr p d 0, .int .i64 e', .int .i64 t'] h K := by
  obtain ⟨hu, hut, hX⟩ := fx4 hf
  have hY := fx5 hf hg

  refine Wc.mkG 23 c23 (by kernel_rfl) rfl ?_
  generalize e : entryC _ _ _ = r
  simp (disch := omega) [hX, hg, hY, c23] at e
  subst e
  repeat (first | refine sq_ ?_ | refine bl_ ?_ | ((first | refine rg_ ?_ | refine go_ ?_); generalize e : goR _ _ _ _ _ _ _ _ = r; simp (disch := omega) [hX, hg, hY, c23] at e; replace e : some _ = _ := e; subst e; (try dsimp only [goW])) | refine ct_ rfl ?_ | refine cf_ rfl ?_ | refine sk_ ?_ | refine ex_ ?_ | (refine W.loop ?_; try (generalize e : dropped _ _ _ = r; simp (disch := omega) [hX, hg, hY, c23] at e; subst e; try dsimp only)) | ((first | (refine W.ret ?_; (try simp only [outOf, thenW_ret, roundW]); refine endW.of (.inl rfl) rfl ?_) | refine endW.of (.inr rfl) rfl ?_); generalize e : endsC _ _ _ = r; simp (disch := omega) [hX, hg, hY, c23] at e; subst e; (try dsimp only [goW]); (refine hk _ _ ?_ ?_; omega; exact ut_)))

end Go.Proofs.YthblmflngjofjaaDoor.IrW
namespace Go.Proofs.YthblmflngjofjaaDoor.IrW
open Go Go.CI
open Go.LexF hiding spacesB lettersB
set_option maxRecDepth 100000
set_option linter.unusedVariables false
set_option linter.unusedSimpArgs false
attribute [local irreducible] W Wo Wc WoR
abbrev lineLoop : CCode := (.loop true (.seq (.seq (.region [⟨.mv (.var 0), none⟩, ⟨.nilck (.loc 0), none⟩, ⟨.fieldAddr 1 (.loc 0), none⟩, ⟨.load none (.loc 0), none⟩, ⟨.mv (.var 0), none⟩, ⟨.nilck (.loc 0), none⟩, ⟨.fieldAddr 0 (.loc 0), none⟩, ⟨.load none (.loc 0), none⟩, ⟨.len true (.loc 0), none⟩, ⟨.bin .lss (.loc 5) (.loc 0), none⟩, ⟨.mv (.loc 0), none⟩, ⟨.mv (.var 0), (some (0, true))⟩, ⟨.nilck (.loc 0), (some (1, true))⟩, ⟨.fieldAddr 0 (.loc 0), (some (2, true))⟩, ⟨.load none (.loc 0), (some (3, true))⟩, ⟨.mv (.var 0), (some (4, true))⟩, ⟨.nilck (.loc 0), (some (5, true))⟩, ⟨.fieldAddr 1 (.loc 0), (some (6, true))⟩, ⟨.load none (.loc 0), (some (7, true))⟩, ⟨.idxStr (.loc 4) (.loc 0), (some (8, true))⟩, ⟨.bin .neq (.loc 0) (.const (.int .u8 10)), (some (9, true))⟩, ⟨.pick (.loc 10) (.loc 0) (.const (.bool false)), none⟩] [(5, 21)] [] []) (.cond (.var 5) .skip (.exit 3))) (.block 4 (.region [⟨.mv (.var 0), none⟩, ⟨.nilck (.loc 0), none⟩, ⟨.fieldAddr 1 (.loc 0), none⟩, ⟨.load none (.loc 0), none⟩, ⟨.bin .add (.loc 0) (.const (.int .i64 1)), none⟩, ⟨.nilck (.loc 4), none⟩, ⟨.fieldAddr 1 (.loc 0), none⟩, ⟨.store 1 (.loc 0) (.loc 2), none⟩] [] [] []))))
abbrev cmtLoop : CCode := (.loop true (.seq (.seq (.region [⟨.mv (.var 0), none⟩, ⟨.nilck (.loc 0), none⟩, ⟨.fieldAddr 1 (.loc 0), none⟩, ⟨.load none (.loc 0), none⟩, ⟨.mv (.var 0), none⟩, ⟨.nilck (.loc 0), none⟩, ⟨.fieldAddr 0 (.loc 0), none⟩, ⟨.load none (.loc 0), none⟩, ⟨.len true (.loc 0), none⟩, ⟨.bin .lss (.loc 5) (.loc 0), none⟩, ⟨.mv (.loc 0), none⟩, ⟨.mv (.var 0), (some (0, true))⟩, ⟨.call false 22 [(.loc 0), (.const (.str [42, 47]))], (some (1, true))⟩, ⟨.not (.loc 0), (some (2, true))⟩, ⟨.pick (.loc 3) (.loc 0) (.const (.bool false)), none⟩] [(7, 14)] [] []) (.cond (.var 7) .skip (.exit 5))) (.block 6 (.region [⟨.mv (.var 0), none⟩, ⟨.nilck (.loc 0), none⟩, ⟨.fieldAddr 1 (.loc 0), none⟩, ⟨.load none (.loc 0), none⟩, ⟨.bin .add (.loc 0) (.const (.int .i64 1)), none⟩, ⟨.nilck (.loc 4), none⟩, ⟨.fieldAddr 1 (.loc 0), none⟩, ⟨.store 1 (.loc 0) (.loc 2), none⟩] [] [] []))))
theorem at_drop {s r : List UInt8} {c : UInt8} {i : Nat} (h : s.drop i = c :: r) : s[i]? = some c := by
  have := congrArg List.head? h
  simpa using this
theorem drop_next {s r : List UInt8} {c : UInt8} {i : Nat} (h : s.drop i = c :: r) : s.drop (i + 1) = r := by
  have := congrArg (List.drop 1) h
  rw [List.drop_drop] at this
  simpa using this
theorem ref_line (s : List UInt8) (hs : s.length < 60000) (p d : Nat) (t : Int) (Q : CExit → CSt → Prop) (v1 v2 v3 v4 v6 v7 v8 v9 : CVal) : ∀ (r : List UInt8) (i : Nat), s.drop i = r → i + r.length = s.length → ∀ (h : CHeap) (v5 : CVal), getEnt h.ents p = some (lx s (i : Int) 0 t) → Fit h → p < h.next →
    (∀ n' ty w5, h.next ≤ n' → UnderT ty n' → Q (.exit 3) ⟨[.ptr p d 0, v1, v2, v3, v4, w5, v6, v7, v8, v9], ⟨setEnt h.ents p (lx s ((s.length - (dropLine r).length : Nat) : Int) 0 t), n', ty⟩, []⟩) →
    W tree.getF lineLoop ⟨[.ptr p d 0, v1, v2, v3, v4, v5, v6, v7, v8, v9], h, []⟩ Q := by
  intro r
  induction r with
  | nil =>
    intro i hd hlen h v5 hg hf hp hk
    simp only [List.length_nil, Nat.add_zero] at hlen
    subst hlen
    have e0 : s.length - (dropLine []).length = s.length := by simp [dropLine]
    rw [e0, setEnt_same hg] at hk
    obtain ⟨hu, hut, hX⟩ := fx4 hf
    have hY := fx5 hf hg; have ⟨hG, hD2, hC2, hN2⟩ := hY
    refine W.loop ?_
    repeat (first | refine sq_ ?_ | refine bl_ ?_ | ((first | refine rg_ ?_ | refine go_ ?_); generalize e : goR _ _ _ _ _ _ _ _ = r; simp (disch := omega) [hX, hg, hY] at e; replace e : some _ = _ := e; subst e; (try dsimp only [goW])) | refine ct_ rfl ?_ | refine cf_ rfl ?_ | refine sk_ ?_ | refine ex_ ?_)
    all_goals (refine hk _ _ _ ?_ ?_; omega; exact ut_)
  | cons c r ih =>
    intro i hd hlen h v5 hg hf hp hk
    simp only [List.length_cons] at hlen
    have hc0 := at_drop hd
    obtain ⟨hi, hce⟩ := List.getElem?_eq_some_iff.1 hc0
    obtain ⟨hu, hut, hX⟩ := fx4 hf
    have hY := fx5 hf hg; have ⟨hG, hD2, hC2, hN2⟩ := hY
    by_cases hc : c.toNat = 10
    · have hc1 : c = 10 := UInt8.toNat_inj.1 hc
      have e0 : s.length - (dropLine (c :: r)).length = i := by unfold dropLine; rw [if_pos hc1]; simp; omega
      rw [e0, setEnt_same hg] at hk
      refine W.loop ?_
      repeat (first | refine sq_ ?_ | refine bl_ ?_ | ((first | refine rg_ ?_ | refine go_ ?_); generalize e : goR _ _ _ _ _ _ _ _ = r; simp (disch := omega) [hX, hg, hY, hce, hc0] at e; replace e : some _ = _ := e; subst e; (try dsimp only [goW])) | refine ct_ rfl ?_ | refine cf_ rfl ?_ | refine sk_ ?_ | refine ex_ ?_)
      all_goals (refine hk _ _ _ ?_ ?_; omega; exact ut_)
    · have hc1 : ¬ c = 10 := fun e => hc (by rw [e]; rfl)
      have e0 : dropLine (c :: r) = dropLine r := by conv => lhs; unfold dropLine
                                                     rw [if_neg hc1]
      rw [e0] at hk
      have hcont : ∀ (h' : CHeap) (w5 : CVal), h'.ents = setEnt h.ents p (lx s ((i : Int) + 1) 0 t) → h.next ≤ h'.next → UnderT h'.tys h'.next → W tree.getF lineLoop ⟨[.ptr p d 0, v1, v2, v3, v4, w5, v6, v7, v8, v9], h', []⟩ Q := by
        intro h' w5 e1 e2 e3
        have e4 : ((i : Int) + 1) = ((i + 1 : Nat) : Int) := by omega
        rw [e4] at e1
        refine ih (i + 1) (drop_next hd) (by omega) h' w5 (by rw [e1]; exact hG _) ⟨by rw [e1]; exact hu.set.le e2, e3⟩ (by omega) ?_
        intro n' ty u5 g1 g2
        rw [e1, sy_setEnt_setEnt]
        exact hk n' ty u5 (by omega) g2
      refine W.loop ?_
      repeat (first | refine sq_ ?_ | refine bl_ ?_ | ((first | refine rg_ ?_ | refine go_ ?_); generalize e : goR _ _ _ _ _ _ _ _ = r; simp (disch := omega) [hX, hg, hY, hce, hc0] at e; replace e : some _ = _ := e; subst e; (try dsimp only [goW])) | refine ct_ rfl ?_ | refine cf_ rfl ?_ | refine sk_ ?_ | refine ex_ ?_)
      show W tree.getF lineLoop (dropped true _ _) Q
      generalize e : dropped _ _ _ = r0
      simp (disch := omega) [hX, hg, hY] at e
      subst e
      try dsimp only
      refine hcont _ _ ?_ ?_ ?_
      · rfl
      · (try dsimp only); omega
      · exact UnderT.le (by assumption) (by (try dsimp only); omega)

theorem ref_cmt (s : List UInt8) (hs : s.length < 60000) (p d : Nat) (t : Int) (Q : CExit → CSt → Prop) (v1 v2 v3 v4 v5 v6 v8 v9 : CVal) : ∀ (r : List UInt8) (i : Nat), s.drop i = r → i + r.length = s.length → ∀ (h : CHeap) (v7 : CVal), getEnt h.ents p = some (lx s (i : Int) 0 t) → Fit h → p < h.next →
    (∀ n' ty w7, h.next ≤ n' → UnderT ty n' → dropCmt r = none → Q (.exit 5) ⟨[.ptr p d 0, v1, v2, v3, v4, v5, v6, w7, v8, v9], ⟨setEnt h.ents p (lx s (s.length : Int) 0 t), n', ty⟩, []⟩) →
    (∀ n' ty w7 u, h.next ≤ n' → UnderT ty n' → dropCmt r = some u → Q (.exit 5) ⟨[.ptr p d 0, v1, v2, v3, v4, v5, v6, w7, v8, v9], ⟨setEnt h.ents p (lx s ((s.length - u.length - 2 : Nat) : Int) 0 t), n', ty⟩, []⟩) →
    W tree.getF cmtLoop ⟨[.ptr p d 0, v1, v2, v3, v4, v5, v6, v7, v8, v9], h, []⟩ Q := by
  intro r
  induction r with
  | nil =>
    intro i hd hlen h v7 hg hf hp hk1 hk2
    simp only [List.length_nil, Nat.add_zero] at hlen
    subst hlen
    rw [setEnt_same hg] at hk1
    obtain ⟨hu, hut, hX⟩ := fx4 hf
    have hY := fx5 hf hg; have ⟨hG, hD2, hC2, hN2⟩ := hY
    refine W.loop ?_
    repeat (first | refine sq_ ?_ | refine bl_ ?_ | ((first | refine rg_ ?_ | refine go_ ?_); generalize e : goR _ _ _ _ _ _ _ _ = r; simp (disch := omega) [hX, hg, hY] at e; replace e : some _ = _ := e; subst e; (try dsimp only [goW])) | refine ct_ rfl ?_ | refine cf_ rfl ?_ | refine sk_ ?_ | refine ex_ ?_)
    all_goals (refine hk1 _ _ _ ?_ ?_ rfl; omega; exact ut_)
  | cons c r ih =>
    intro i hd hlen h v7 hg hf hp hk1 hk2
    have hlen0 := hlen
    simp only [List.length_cons] at hlen
    have hc0 := at_drop hd
    obtain ⟨hi, hce⟩ := List.getElem?_eq_some_iff.1 hc0
    obtain ⟨hu, hut, hX⟩ := fx4 hf
    have hY := fx5 hf hg; have ⟨hG, hD2, hC2, hN2⟩ := hY
    by_cases hq : (c :: r).take 2 = [42, 47]
    · obtain ⟨u, hu1⟩ : ∃ u, c :: r = 42 :: 47 :: u := ⟨(c :: r).drop 2, by have := List.take_append_drop 2 (c :: r); rw [hq] at this; exact this.symm⟩
      have e0 : dropCmt (c :: r) = some u := by rw [hu1]; unfold dropCmt; simp
      have hl2 : (c :: r).length = u.length + 2 := by rw [hu1]; rfl
      rw [List.length_cons] at hl2
      have e1 : s.length - u.length - 2 = i := by omega
      have hk2' : ∀ n' ty w7, h.next ≤ n' → UnderT ty n' → Q (.exit 5) ⟨[.ptr p d 0, v1, v2, v3, v4, v5, v6, w7, v8, v9], ⟨h.ents, n', ty⟩, []⟩ := fun n' ty w7 g1 g2 => by
        have := hk2 n' ty w7 u g1 g2 e0
        rw [e1, setEnt_same hg] at this; exact this
      have S0 := starts_t s i 0 t [42, 47] hs (by rw [hd]; exact hq) (by simp; omega)
      refine W.loop ?_
      repeat (first | refine sq_ ?_ | refine bl_ ?_ | ((first | refine rg_ ?_ | refine go_ ?_); generalize e : goR _ _ _ _ _ _ _ _ = r; simp (disch := omega) [hX, hg, hY, hce, hc0] at e; replace e : some _ = _ := e; subst e; (try dsimp only [goW])) | refine ct_ rfl ?_ | refine cf_ rfl ?_ | refine sk_ ?_ | refine ex_ ?_ | (refine S0 _ p d ?_ ?_ ?_ _ fun n1 tyn1 hn1 hun1 => ⟨rfl, ?_⟩; exact fit_; exact ge_; (try dsimp only); omega; (try dsimp only at hn1)))
      all_goals (refine hk2' _ _ _ ?_ ?_; omega; exact ut_)
    · have e0 : dropCmt (c :: r) = dropCmt r := by
        conv => lhs; unfold dropCmt
        by_cases h42 : c = 42
        · subst h42
          rw [if_pos rfl]
          cases r with
          | nil => rfl
          | cons b r' =>
            dsimp only
            rw [if_neg (fun e => hq (by rw [e]; rfl))]
        · rw [if_neg h42]
      rw [e0] at hk1 hk2
      have hcont : ∀ (h' : CHeap) (w7 : CVal), h'.ents = setEnt h.ents p (lx s ((i : Int) + 1) 0 t) → h.next ≤ h'.next → UnderT h'.tys h'.next → W tree.getF cmtLoop ⟨[.ptr p d 0, v1, v2, v3, v4, v5, v6, w7, v8, v9], h', []⟩ Q := by
        intro h' w7 e1 e2 e3
        have e4 : ((i : Int) + 1) = ((i + 1 : Nat) : Int) := by omega
        rw [e4] at e1
        refine ih (i + 1) (drop_next hd) (by omega) h' w7 (by rw [e1]; exact hG _) ⟨by rw [e1]; exact hu.set.le e2, e3⟩ (by omega) ?_ ?_
        · intro n' ty u7 g1 g2 g3
          rw [e1, sy_setEnt_setEnt]
          exact hk1 n' ty u7 (by omega) g2 g3
        · intro n' ty u7 u g1 g2 g3
          rw [e1, sy_setEnt_setEnt]
          exact hk2 n' ty u7 u (by omega) g2 g3
      have S0 : ∀ (h : CHeap) (hf : Fit h) (hg : getEnt h.ents p = some (lx s (i : Int) 0 t)) (hp : p < h.next) (K : CVal → CHeap → Prop) (hk : ∀ n' ty, h.next ≤ n' → UnderT ty n' → K (.bool false) ⟨h.ents, n', ty⟩), Wc tree.getF 22 [.ptr p d 0, .str [42, 47]] h K := fun h hf hg hp K hk => by
        by_cases hle : i + 2 ≤ s.length
        · exact starts_d s i 0 t [42, 47] hs hle (by rw [hd]; simpa using hq) h p d hf hg hp K hk
        · exact starts_n s i 0 t [42, 47] hs (by omega) (by simp) (by simp; omega) h p d hf hg hp K hk
      refine W.loop ?_
      repeat (first | refine sq_ ?_ | refine bl_ ?_ | ((first | refine rg_ ?_ | refine go_ ?_); generalize e : goR _ _ _ _ _ _ _ _ = r; simp (disch := omega) [hX, hg, hY, hce, hc0] at e; replace e : some _ = _ := e; subst e; (try dsimp only [goW])) | refine ct_ rfl ?_ | refine cf_ rfl ?_ | refine sk_ ?_ | refine ex_ ?_ | (refine S0 _ ?_ ?_ ?_ _ fun n1 tyn1 hn1 hun1 => ⟨rfl, ?_⟩; exact fit_; exact ge_; (try dsimp only); omega; (try dsimp only at hn1)))
      show W tree.getF cmtLoop (dropped true _ _) Q
      generalize e : dropped _ _ _ = r0
      simp (disch := omega) [hX, hg, hY] at e
      subst e
      try dsimp only
      refine hcont _ _ ?_ ?_ ?_
      · rfl
      · (try dsimp only); omega
      · exact UnderT.le (by assumption) (by (try dsimp only); omega)
theorem all256 {p : UInt8 → Bool} (h : (List.range 256).all (fun k => p (UInt8.ofNat k)) = true) (c : UInt8) : p c = true := by
  have h1 := List.all_eq_true.1 h c.toNat (List.mem_range.2 c.toNat_lt)
  rwa [show UInt8.ofNat c.toNat = c by simp] at h1
theorem sp_eq (c : UInt8) : Go.LexF.spacesB.contains c = decide (9 ≤ c.toNat ∧ c.toNat ≤ 13 ∨ c.toNat = 32) := by
  have := all256 (p := fun c => Go.LexF.spacesB.contains c == decide (9 ≤ c.toNat ∧ c.toNat ≤ 13 ∨ c.toNat = 32)) (by decide +kernel) c
  simpa using this
abbrev spaceLoop : CCode := (.loop true (.seq (.seq (.region [⟨.mv (.var 0), none⟩, ⟨.nilck (.loc 0), none⟩, ⟨.fieldAddr 1 (.loc 0), none⟩, ⟨.load none (.loc 0), none⟩, ⟨.mv (.var 0), none⟩, ⟨.nilck (.loc 0), none⟩, ⟨.fieldAddr 0 (.loc 0), none⟩, ⟨.load none (.loc 0), none⟩, ⟨.len true (.loc 0), none⟩, ⟨.bin .lss (.loc 5) (.loc 0), none⟩, ⟨.mv (.loc 0), none⟩, ⟨.mv (.var 0), (some (0, true))⟩, ⟨.nilck (.loc 0), (some (1, true))⟩, ⟨.fieldAddr 2 (.loc 0), (some (2, true))⟩, ⟨.load none (.loc 0), (some (3, true))⟩, ⟨.bin .eql (.loc 0) (.const (.int .i64 0)), (some (4, true))⟩, ⟨.pick (.loc 5) (.loc 0) (.const (.bool false)), none⟩] [(1, 16)] [] []) (.cond (.var 1) .skip (.exit 0))) (.block 1 (.seq (.region [⟨.mv (.var 0), none⟩, ⟨.nilck (.loc 0), none⟩, ⟨.fieldAddr 0 (.loc 0), none⟩, ⟨.load none (.loc 0), none⟩, ⟨.mv (.var 0), none⟩, ⟨.nilck (.loc 0), none⟩, ⟨.fieldAddr 1 (.loc 0), none⟩, ⟨.load none (.loc 0), none⟩, ⟨.idxStr (.loc 4) (.loc 0), none⟩, ⟨.mv (.loc 0), none⟩] [(2, 9)] [] []) (.block 2 (.seq (.region [⟨.mv (.var 2), none⟩, ⟨.bin .geq (.loc 0) (.const (.int .u8 9)), none⟩, ⟨.mv (.loc 0), none⟩, ⟨.mv (.var 2), (some (0, true))⟩, ⟨.bin .leq (.loc 0) (.const (.int .u8 13)), (some (1, true))⟩, ⟨.pick (.loc 2) (.loc 0) (.const (.bool false)), none⟩, ⟨.mv (.loc 0), none⟩, ⟨.mv (.var 2), (some (0, false))⟩, ⟨.bin .eql (.loc 0) (.const (.int .u8 32)), (some (1, false))⟩, ⟨.pick (.loc 2) (.const (.bool true)) (.loc 0), none⟩, ⟨.mv (.loc 0), none⟩] [(3, 10)] [] []) (.cond (.var 3) (.region [⟨.mv (.var 0), none⟩, ⟨.nilck (.loc 0), none⟩, ⟨.fieldAddr 1 (.loc 0), none⟩, ⟨.load none (.loc 0), none⟩, ⟨.bin .add (.loc 0) (.const (.int .i64 1)), none⟩, ⟨.nilck (.loc 4), none⟩, ⟨.fieldAddr 1 (.loc 0), none⟩, ⟨.store 1 (.loc 0) (.loc 2), none⟩] [] [] []) (.seq (.region [⟨.mv (.var 0), none⟩, ⟨.call false 22 [(.loc 0), (.const (.str [47, 47]))], none⟩, ⟨.mv (.loc 0), none⟩] [(4, 2)] [] []) (.cond (.var 4) (.block 3 (.loop true (.seq (.seq (.region [⟨.mv (.var 0), none⟩, ⟨.nilck (.loc 0), none⟩, ⟨.fieldAddr 1 (.loc 0), none⟩, ⟨.load none (.loc 0), none⟩, ⟨.mv (.var 0), none⟩, ⟨.nilck (.loc 0), none⟩, ⟨.fieldAddr 0 (.loc 0), none⟩, ⟨.load none (.loc 0), none⟩, ⟨.len true (.loc 0), none⟩, ⟨.bin .lss (.loc 5) (.loc 0), none⟩, ⟨.mv (.loc 0), none⟩, ⟨.mv (.var 0), (some (0, true))⟩, ⟨.nilck (.loc 0), (some (1, true))⟩, ⟨.fieldAddr 0 (.loc 0), (some (2, true))⟩, ⟨.load none (.loc 0), (some (3, true))⟩, ⟨.mv (.var 0), (some (4, true))⟩, ⟨.nilck (.loc 0), (some (5, true))⟩, ⟨.fieldAddr 1 (.loc 0), (some (6, true))⟩, ⟨.load none (.loc 0), (some (7, true))⟩, ⟨.idxStr (.loc 4) (.loc 0), (some (8, true))⟩, ⟨.bin .neq (.loc 0) (.const (.int .u8 10)), (some (9, true))⟩, ⟨.pick (.loc 10) (.loc 0) (.const (.bool false)), none⟩] [(5, 21)] [] []) (.cond (.var 5) .skip (.exit 3))) (.block 4 (.region [⟨.mv (.var 0), none⟩, ⟨.nilck (.loc 0), none⟩, ⟨.fieldAddr 1 (.loc 0), none⟩, ⟨.load none (.loc 0), none⟩, ⟨.bin .add (.loc 0) (.const (.int .i64 1)), none⟩, ⟨.nilck (.loc 4), none⟩, ⟨.fieldAddr 1 (.loc 0), none⟩, ⟨.store 1 (.loc 0) (.loc 2), none⟩] [] [] []))))) (.seq (.region [⟨.mv (.var 0), none⟩, ⟨.call false 22 [(.loc 0), (.const (.str [47, 42]))], none⟩, ⟨.mv (.loc 0), none⟩] [(6, 2)] [] []) (.cond (.var 6) (.seq (.region [⟨.mv (.var 0), none⟩, ⟨.nilck (.loc 0), none⟩, ⟨.fieldAddr 1 (.loc 0), none⟩, ⟨.load none (.loc 0), none⟩, ⟨.mv (.loc 0), none⟩] [(9, 4)] [] []) (.seq (.region [⟨.mv (.var 0), none⟩, ⟨.mv (.var 0), none⟩, ⟨.nilck (.loc 0), none⟩, ⟨.fieldAddr 1 (.loc 0), none⟩, ⟨.load none (.loc 0), none⟩, ⟨.bin .add (.loc 0) (.const (.int .i64 2)), none⟩, ⟨.nilck (.loc 5), none⟩, ⟨.fieldAddr 1 (.loc 0), none⟩, ⟨.store 1 (.loc 0) (.loc 2), none⟩] [] [] []) (.seq (.block 5 (.loop true (.seq (.seq (.region [⟨.mv (.var 0), none⟩, ⟨.nilck (.loc 0), none⟩, ⟨.fieldAddr 1 (.loc 0), none⟩, ⟨.load none (.loc 0), none⟩, ⟨.mv (.var 0), none⟩, ⟨.nilck (.loc 0), none⟩, ⟨.fieldAddr 0 (.loc 0), none⟩, ⟨.load none (.loc 0), none⟩, ⟨.len true (.loc 0), none⟩, ⟨.bin .lss (.loc 5) (.loc 0), none⟩, ⟨.mv (.loc 0), none⟩, ⟨.mv (.var 0), (some (0, true))⟩, ⟨.call false 22 [(.loc 0), (.const (.str [42, 47]))], (some (1, true))⟩, ⟨.not (.loc 0), (some (2, true))⟩, ⟨.pick (.loc 3) (.loc 0) (.const (.bool false)), none⟩] [(7, 14)] [] []) (.cond (.var 7) .skip (.exit 5))) (.block 6 (.region [⟨.mv (.var 0), none⟩, ⟨.nilck (.loc 0), none⟩, ⟨.fieldAddr 1 (.loc 0), none⟩, ⟨.load none (.loc 0), none⟩, ⟨.bin .add (.loc 0) (.const (.int .i64 1)), none⟩, ⟨.nilck (.loc 4), none⟩, ⟨.fieldAddr 1 (.loc 0), none⟩, ⟨.store 1 (.loc 0) (.loc 2), none⟩] [] [] []))))) (.seq (.seq (.region [⟨.mv (.var 0), none⟩, ⟨.nilck (.loc 0), none⟩, ⟨.fieldAddr 1 (.loc 0), none⟩, ⟨.load none (.loc 0), none⟩, ⟨.mv (.var 0), none⟩, ⟨.nilck (.loc 0), none⟩, ⟨.fieldAddr 0 (.loc 0), none⟩, ⟨.load none (.loc 0), none⟩, ⟨.len true (.loc 0), none⟩, ⟨.bin .geq (.loc 5) (.loc 0), none⟩] [(8, 9)] [] []) (.cond (.var 8) (.seq (.region [⟨.mv (.var 0), none⟩, ⟨.mv (.var 9), none⟩, ⟨.call false 23 [(.loc 1), (.const (.int .i64 2)), (.loc 0)], none⟩] [] [] []) .ret) .skip)) (.region [⟨.mv (.var 0), none⟩, ⟨.mv (.var 0), none⟩, ⟨.nilck (.loc 0), none⟩, ⟨.fieldAddr 1 (.loc 0), none⟩, ⟨.load none (.loc 0), none⟩, ⟨.bin .add (.loc 0) (.const (.int .i64 2)), none⟩, ⟨.nilck (.loc 5), none⟩, ⟨.fieldAddr 1 (.loc 0), none⟩, ⟨.store 1 (.loc 0) (.loc 2), none⟩] [] [] []))))) .ret)))))))))))
theorem ref_space (s : List UInt8) (hs : s.length < 60000) (p d : Nat) (t : Int) (Q : CExit → CSt → Prop) : ∀ (m : Nat) (r : List UInt8) (i : Nat), r.length ≤ m → s.drop i = r → i + r.length = s.length → ∀ (h : CHeap) (v1 v2 v3 v4 v5 v6 v7 v8 v9 : CVal), getEnt h.ents p = some (lx s (i : Int) 0 t) → Fit h → p < h.next →
    (∀ x n' ty v1 v2 v3 v4 v5 v6 v7 v8 v9, (x = .ret ∨ x = .exit 0) → h.next ≤ n' → UnderT ty n' → (skipF r).2 = true → Q x ⟨[.ptr p d 0, v1, v2, v3, v4, v5, v6, v7, v8, v9], ⟨setEnt h.ents p (lx s ((s.length - (skipF r).1.length : Nat) : Int) 0 t), n', ty⟩, []⟩) →
    (∀ n' ty v1 v2 v3 v4 v5 v6 v7 v8 v9, h.next ≤ n' → UnderT ty n' → (skipF r).2 = false → Q .ret ⟨[.ptr p d 0, v1, v2, v3, v4, v5, v6, v7, v8, v9], ⟨setEnt h.ents p (lx s (s.length : Int) 2 ((s.length - (skipF r).1.length : Nat) : Int)), n', ty⟩, []⟩) →
    W tree.getF spaceLoop ⟨[.ptr p d 0, v1, v2, v3, v4, v5, v6, v7, v8, v9], h, []⟩ Q := by
  intro m
  induction m with
  | zero =>
    intro r i hm hd hlen h v1 v2 v3 v4 v5 v6 v7 v8 v9 hg hf hp hk1 hk2
    obtain rfl : r = [] := List.length_eq_zero_iff.1 (by omega)
    rw [skipF_nil] at hk1
    simp only [List.length_nil, Nat.add_zero] at hlen
    subst hlen
    simp only [List.length_nil, Nat.sub_zero, setEnt_same hg] at hk1
    obtain ⟨hu, hut, hX⟩ := fx4 hf
    have hY := fx5 hf hg; have ⟨hG, hD2, hC2, hN2⟩ := hY
    refine W.loop ?_
    repeat (first | refine sq_ ?_ | refine bl_ ?_ | ((first | refine rg_ ?_ | refine go_ ?_); generalize e : goR _ _ _ _ _ _ _ _ = r; simp (disch := omega) [hX, hg, hY] at e; replace e : some _ = _ := e; subst e; (try dsimp only [goW])) | refine ct_ rfl ?_ | refine cf_ rfl ?_ | refine sk_ ?_ | refine ex_ ?_)
    all_goals ((try refine W.ret ?_); (try simp only [outOf, thenW_ret, roundW]); (first | refine hk1 _ _ _ _ _ _ _ _ _ _ _ _ (.inl rfl) ?_ ?_ (by first | rfl | trivial) | refine hk1 _ _ _ _ _ _ _ _ _ _ _ _ (.inr rfl) ?_ ?_ (by first | rfl | trivial)); omega; exact ut_)
  | succ m ih =>
    intro r i hm hd hlen h v1 v2 v3 v4 v5 v6 v7 v8 v9 hg hf hp hk1 hk2
    have hnext : ∀ (j : Nat) (r' : List UInt8), r'.length ≤ m → s.drop j = r' → j + r'.length = s.length → skipF r = skipF r' → ∀ (h' : CHeap) (w1 w2 w3 w4 w5 w6 w7 w8 w9 : CVal), h'.ents = setEnt h.ents p (lx s (j : Int) 0 t) → h.next ≤ h'.next → UnderT h'.tys h'.next → W tree.getF spaceLoop ⟨[.ptr p d 0, w1, w2, w3, w4, w5, w6, w7, w8, w9], h', []⟩ Q := by
      intro j r' hm' hd' hl' hsk h' w1 w2 w3 w4 w5 w6 w7 w8 w9 e1 e2 e3
      rw [hsk] at hk1 hk2
      have hG : ∀ x, getEnt (setEnt h.ents p x) p = some x := fun x => sy_getEnt_setEnt hg
      refine ih r' j hm' hd' hl' h' _ _ _ _ _ _ _ _ _ (by rw [e1]; exact hG _) ⟨by rw [e1]; exact hf.1.set.le e2, e3⟩ (by omega) ?_ ?_
      · intro x n' ty u1 u2 u3 u4 u5 u6 u7 u8 u9 g0 g1 g2 g3
        rw [e1, sy_setEnt_setEnt]
        exact hk1 x n' ty u1 u2 u3 u4 u5 u6 u7 u8 u9 g0 (by omega) g2 g3
      · intro n' ty u1 u2 u3 u4 u5 u6 u7 u8 u9 g1 g2 g3
        rw [e1, sy_setEnt_setEnt]
        exact hk2 n' ty u1 u2 u3 u4 u5 u6 u7 u8 u9 (by omega) g2 g3
    cases r with
    | nil =>
      rw [skipF_nil] at hk1
      simp only [List.length_nil, Nat.add_zero] at hlen
      subst hlen
      simp only [List.length_nil, Nat.sub_zero, setEnt_same hg] at hk1
      obtain ⟨hu, hut, hX⟩ := fx4 hf
      have hY := fx5 hf hg; have ⟨hG, hD2, hC2, hN2⟩ := hY
      refine W.loop ?_
      repeat (first | refine sq_ ?_ | refine bl_ ?_ | ((first | refine rg_ ?_ | refine go_ ?_); generalize e : goR _ _ _ _ _ _ _ _ = r; simp (disch := omega) [hX, hg, hY] at e; replace e : some _ = _ := e; subst e; (try dsimp only [goW])) | refine ct_ rfl ?_ | refine cf_ rfl ?_ | refine sk_ ?_ | refine ex_ ?_)
      all_goals ((try refine W.ret ?_); (try simp only [outOf, thenW_ret, roundW]); (first | refine hk1 _ _ _ _ _ _ _ _ _ _ _ _ (.inl rfl) ?_ ?_ (by first | rfl | trivial) | refine hk1 _ _ _ _ _ _ _ _ _ _ _ _ (.inr rfl) ?_ ?_ (by first | rfl | trivial)); omega; exact ut_)
    | cons c r =>
      simp only [List.length_cons] at hlen hm
      have hc0 := at_drop hd
      obtain ⟨hi, hce⟩ := List.getElem?_eq_some_iff.1 hc0
      obtain ⟨hu, hut, hX⟩ := fx4 hf
      have hY := fx5 hf hg; have ⟨hG, hD2, hC2, hN2⟩ := hY
      by_cases hsp : 9 ≤ c.toNat ∧ c.toNat ≤ 13 ∨ c.toNat = 32
      · have hsk : skipF (c :: r) = skipF r := by rw [skipF_eq, sp_eq, if_pos (by simpa using hsp)]
        rcases hsp with ⟨hs1, hs2⟩ | hs1
        · refine W.loop ?_
          repeat (first | refine sq_ ?_ | refine bl_ ?_ | ((first | refine rg_ ?_ | refine go_ ?_); generalize e : goR _ _ _ _ _ _ _ _ = r; simp (disch := omega) [hX, hg, hY, hce, hc0, hs1, hs2] at e; replace e : some _ = _ := e; subst e; (try dsimp only [goW])) | refine ct_ rfl ?_ | refine cf_ rfl ?_ | refine sk_ ?_ | refine ex_ ?_)
          show W tree.getF spaceLoop (dropped true _ _) Q
          generalize e : dropped _ _ _ = r0
          simp (disch := omega) [hX, hg, hY] at e
          subst e
          try dsimp only
          refine hnext (i + 1) r ?_ ?_ ?_ ?_ _ _ _ _ _ _ _ _ _ _ ?_ ?_ ?_
          · omega
          · exact drop_next hd
          · omega
          · exact hsk
          · rfl
          · (try dsimp only); omega
          · exact UnderT.le (by assumption) (by (try dsimp only); omega)
        · refine W.loop ?_
          repeat (first | refine sq_ ?_ | refine bl_ ?_ | ((first | refine rg_ ?_ | refine go_ ?_); generalize e : goR _ _ _ _ _ _ _ _ = r; simp (disch := omega) [hX, hg, hY, hce, hc0, hs1] at e; replace e : some _ = _ := e; subst e; (try dsimp only [goW])) | refine ct_ rfl ?_ | refine cf_ rfl ?_ | refine sk_ ?_ | refine ex_ ?_)
          show W tree.getF spaceLoop (dropped true _ _) Q
          generalize e : dropped _ _ _ = r0
          simp (disch := omega) [hX, hg, hY] at e
          subst e
          try dsimp only
          refine hnext (i + 1) r ?_ ?_ ?_ ?_ _ _ _ _ _ _ _ _ _ _ ?_ ?_ ?_
          · omega
          · exact drop_next hd
          · omega
          · exact hsk
          · rfl
          · (try dsimp only); omega
          · exact UnderT.le (by assumption) (by (try dsimp only); omega)
      · have hnsp : Go.LexF.spacesB.contains c = false := by rw [sp_eq]; simpa using hsp
        have hlen' : i + (c :: r).length = s.length := by simp; omega
        by_cases hT1 : (c :: r).take 2 = [47, 47]
        · obtain ⟨u, hu1⟩ : ∃ u, c :: r = 47 :: 47 :: u := ⟨(c :: r).drop 2, by have := List.take_append_drop 2 (c :: r); rw [hT1] at this; exact this.symm⟩
          have hl2 : (c :: r).length = u.length + 2 := by rw [hu1]; rfl
          have edl : dropLine (c :: r) = dropLine u := by rw [hu1]; rfl
          have hsk : skipF (c :: r) = skipF (dropLine (c :: r)) := by
            rw [edl, hu1, skipF_eq, if_neg (by decide), if_pos rfl]
            rfl
          have hdle := dropLine_le u
          rw [List.length_cons] at hl2
          have hc47 : c.toNat = 47 := by injection hu1 with a _; rw [a]; rfl
          have hdd : s.drop (s.length - (dropLine (c :: r)).length) = dropLine (c :: r) := by
            have := drop_line (c :: r)
            rw [← hd, List.drop_drop] at this
            rw [hd] at this
            rw [← this]; congr 1; rw [this, edl, List.length_cons]; omega
          have hrel := ref_line s hs p d t
          have S1 := starts_t s i 0 t [47, 47] hs (by rw [hd]; exact hT1) (by simp; omega)
          refine W.loop ?_
          repeat (first | refine sq_ ?_ | refine bl_ ?_ | ((first | refine rg_ ?_ | refine go_ ?_); generalize e : goR _ _ _ _ _ _ _ _ = r; simp (disch := omega) [hX, hg, hY, hce, hc0, hc47] at e; replace e : some _ = _ := e; subst e; (try dsimp only [goW])) | refine ct_ rfl ?_ | refine cf_ rfl ?_ | refine sk_ ?_ | refine ex_ ?_ | (refine S1 _ p d ?_ ?_ ?_ _ fun n1 tyn1 hn1 hun1 => ⟨rfl, ?_⟩; exact fit_; exact ge_; (try dsimp only); omega; (try dsimp only at hn1)))
          refine ref_line s hs p d t _ _ _ _ _ _ _ _ _ (c :: r) i hd hlen' _ _ ?_ ?_ ?_ ?_
          · exact hg
          · exact fit_
          · (try dsimp only); omega
          intro n2 ty2 w5 g1 g2
          try dsimp only at g1
          try simp only [outOf, thenW_ret, roundW]
          repeat (first | refine sq_ ?_ | refine bl_ ?_ | ((first | refine rg_ ?_ | refine go_ ?_); generalize e : goR _ _ _ _ _ _ _ _ = r; simp (disch := omega) [hX, hg, hY, hce, hc0, hc47] at e; replace e : some _ = _ := e; subst e; (try dsimp only [goW])) | refine ct_ rfl ?_ | refine cf_ rfl ?_ | refine sk_ ?_ | refine ex_ ?_)
          show W tree.getF spaceLoop (dropped true _ _) Q
          generalize e : dropped _ _ _ = r0
          simp (disch := omega) [hX, hg, hY] at e
          subst e
          try dsimp only
          refine hnext (s.length - (dropLine (c :: r)).length) (dropLine (c :: r)) ?_ ?_ ?_ ?_ _ _ _ _ _ _ _ _ _ _ ?_ ?_ ?_
          · rw [edl]; omega
          · exact hdd
          · rw [edl]; omega
          · exact hsk
          · rfl
          · (try dsimp only); omega
          · exact UnderT.le (by assumption) (by (try dsimp only); omega)
        · have S1 : ∀ (h : CHeap) (hf : Fit h) (hg : getEnt h.ents p = some (lx s (i : Int) 0 t)) (hp : p < h.next) (K : CVal → CHeap → Prop) (hk : ∀ n' ty, h.next ≤ n' → UnderT ty n' → K (.bool false) ⟨h.ents, n', ty⟩), Wc tree.getF 22 [.ptr p d 0, .str [47, 47]] h K := fun h hf hg hp K hk => by
            by_cases hle : i + 2 ≤ s.length
            · exact starts_d s i 0 t [47, 47] hs hle (by rw [hd]; simpa using hT1) h p d hf hg hp K hk
            · exact starts_n s i 0 t [47, 47] hs (by omega) (by simp) (by simp; omega) h p d hf hg hp K hk
          by_cases hT2 : (c :: r).take 2 = [47, 42]
          · obtain ⟨u, hu1⟩ : ∃ u, c :: r = 47 :: 42 :: u := ⟨(c :: r).drop 2, by have := List.take_append_drop 2 (c :: r); rw [hT2] at this; exact this.symm⟩
            have hl2 : (c :: r).length = u.length + 2 := by rw [hu1]; rfl
            rw [List.length_cons] at hl2
            have hc47 : c.toNat = 47 := by injection hu1 with a _; rw [a]; rfl
            have hdu : s.drop (i + 2) = u := by rw [← List.drop_drop, hd, hu1]; rfl
            have S2 := starts_t s i 0 t [47, 42] hs (by rw [hd]; exact hT2) (by simp; omega)
            have hskn : dropCmt u = none → skipF (c :: r) = (c :: r, false) := fun e => by
              rw [hu1, skipF_eq, if_neg (by decide), if_pos rfl]; simp [e]
            have hsks : ∀ u2, dropCmt u = some u2 → skipF (c :: r) = skipF u2 := fun u2 e => by
              rw [hu1, skipF_eq, if_neg (by decide), if_pos rfl]; simp [e]
            have hk2f : ∀ n' ty v1 v2 v3 v4 v5 v6 v7 v8 v9, h.next ≤ n' → UnderT ty n' → skipF (c :: r) = (c :: r, false) → Q .ret ⟨[.ptr p d 0, v1, v2, v3, v4, v5, v6, v7, v8, v9], ⟨setEnt h.ents p (lx s (s.length : Int) 2 (i : Int)), n', ty⟩, []⟩ := fun n' ty u1 u2 u3 u4 u5 u6 u7 u8 u9 g1 g2 g3 => by
              have := hk2 n' ty u1 u2 u3 u4 u5 u6 u7 u8 u9 g1 g2 (by rw [g3])
              rw [g3, show s.length - (c :: r, false).1.length = i by simp only [List.length_cons]; omega] at this
              exact this
            refine W.loop ?_
            repeat (first | refine sq_ ?_ | refine bl_ ?_ | ((first | refine rg_ ?_ | refine go_ ?_); generalize e : goR _ _ _ _ _ _ _ _ = r; simp (disch := omega) [hX, hg, hY, hce, hc0, hc47] at e; replace e : some _ = _ := e; subst e; (try dsimp only [goW])) | refine ct_ rfl ?_ | refine cf_ rfl ?_ | refine sk_ ?_ | refine ex_ ?_ | (refine S1 _ ?_ ?_ ?_ _ fun n1 tyn1 hn1 hun1 => ⟨rfl, ?_⟩; exact fit_; exact ge_; (try dsimp only); omega; (try dsimp only at hn1)) | (refine S2 _ p d ?_ ?_ ?_ _ fun n1 tyn1 hn1 hun1 => ⟨rfl, ?_⟩; exact fit_; exact ge_; (try dsimp only); omega; (try dsimp only at hn1)))
            have ec : ((i + 2 : Nat) : Int) = (i : Int) + 2 := by omega
            refine ref_cmt s hs p d t _ _ _ _ _ _ _ _ _ u (i + 2) hdu (by omega) _ _ ?_ ?_ ?_ ?_ ?_
            · rw [ec]; exact hG _
            · exact fit_
            · (try dsimp only); omega
            · intro n2 ty2 w7 g1 g2 g3
              try dsimp only at g1
              try simp only [outOf, thenW_ret, roundW, sy_setEnt_setEnt]
              repeat (first | refine sq_ ?_ | refine bl_ ?_ | ((first | refine rg_ ?_ | refine go_ ?_); generalize e : goR _ _ _ _ _ _ _ _ = r; simp (disch := omega) [hX, hg, hY, hce, hc0, hc47] at e; replace e : some _ = _ := e; subst e; (try dsimp only [goW])) | refine ct_ rfl ?_ | refine cf_ rfl ?_ | refine sk_ ?_ | refine ex_ ?_ | (refine fail_L s (s.length : Int) 0 t _ _ _ p d ?_ ?_ ?_ _ fun n3 tyn3 hn3 hun3 => ⟨rfl, ?_⟩; exact fit_; (focus (((first | exact hG _ | (try dsimp only); exact hG _)); done)); (try dsimp only); omega; (try dsimp only at hn3)))
              all_goals ((try refine W.ret ?_); (try simp only [outOf, thenW_ret, roundW, sy_setEnt_setEnt]))
              all_goals (refine hk2f _ _ _ _ _ _ _ _ _ _ _ ?_ ?_ (hskn g3); omega; exact ut_)
            · intro n2 ty2 w7 u2 g1 g2 g3
              try dsimp only at g1
              have hcl := dropCmt_lt g3
              have hdc : s.drop (s.length - u2.length - 2 + 2) = u2 := by
                have hh := idx_cmt u 0
                rw [g3] at hh
                have h2 := hh.2
                rw [← hdu, List.drop_drop, hdu] at h2
                rw [show s.length - u2.length - 2 + 2 = i + 2 + (u.length - u2.length) by omega]; exact h2
              try simp only [outOf, thenW_ret, roundW, sy_setEnt_setEnt]
              repeat (first | refine sq_ ?_ | refine bl_ ?_ | ((first | refine rg_ ?_ | refine go_ ?_); generalize e : goR _ _ _ _ _ _ _ _ = r; simp (disch := omega) [hX, hg, hY, hce, hc0, hc47] at e; replace e : some _ = _ := e; subst e; (try dsimp only [goW])) | refine ct_ rfl ?_ | refine cf_ rfl ?_ | refine sk_ ?_ | refine ex_ ?_)
              show W tree.getF spaceLoop (dropped true _ _) Q
              generalize e : dropped _ _ _ = r0
              simp (disch := omega) [hX, hg, hY] at e
              subst e
              try dsimp only
              refine hnext (s.length - u2.length - 2 + 2) u2 ?_ ?_ ?_ ?_ _ _ _ _ _ _ _ _ _ _ ?_ ?_ ?_
              · omega
              · exact hdc
              · omega
              · exact hsks u2 g3
              · rfl
              · (try dsimp only); omega
              · exact UnderT.le (by assumption) (by (try dsimp only); omega)
          · have S2 : ∀ (h : CHeap) (hf : Fit h) (hg : getEnt h.ents p = some (lx s (i : Int) 0 t)) (hp : p < h.next) (K : CVal → CHeap → Prop) (hk : ∀ n' ty, h.next ≤ n' → UnderT ty n' → K (.bool false) ⟨h.ents, n', ty⟩), Wc tree.getF 22 [.ptr p d 0, .str [47, 42]] h K := fun h hf hg hp K hk => by
              by_cases hle : i + 2 ≤ s.length
              · exact starts_d s i 0 t [47, 42] hs hle (by rw [hd]; simpa using hT2) h p d hf hg hp K hk
              · exact starts_n s i 0 t [47, 42] hs (by omega) (by simp) (by simp; omega) h p d hf hg hp K hk
            have hsk : skipF (c :: r) = (c :: r, true) := by
              rw [skipF_eq, if_neg (by rw [hnsp]; decide)]
              split
              · rename_i hc
                cases r with
                | nil => rfl
                | cons b r' =>
                  dsimp only
                  rw [if_neg (fun e => hT1 (by rw [e, hc]; rfl)), if_neg (fun e => hT2 (by rw [e, hc]; rfl))]
              · rfl
            have hpos : s.length - (c :: r).length = i := by omega
            rw [hsk] at hk1
            simp only [hpos, setEnt_same hg] at hk1
            have h32 : ¬ c.toNat = 32 := fun e => hsp (.inr e)
            by_cases h9 : 9 ≤ c.toNat
            · have h13 : ¬ c.toNat ≤ 13 := fun e => hsp (.inl ⟨h9, e⟩)
              refine W.loop ?_
              repeat (first | refine sq_ ?_ | refine bl_ ?_ | ((first | refine rg_ ?_ | refine go_ ?_); generalize e : goR _ _ _ _ _ _ _ _ = r; simp (disch := omega) [hX, hg, hY, hce, hc0, h9, h32, h13] at e; replace e : some _ = _ := e; subst e; (try dsimp only [goW])) | refine ct_ rfl ?_ | refine cf_ rfl ?_ | refine sk_ ?_ | refine ex_ ?_ | (refine S1 _ ?_ ?_ ?_ _ fun n1 tyn1 hn1 hun1 => ⟨rfl, ?_⟩; exact fit_; exact ge_; (try dsimp only); omega; (try dsimp only at hn1)) | (refine S2 _ ?_ ?_ ?_ _ fun n1 tyn1 hn1 hun1 => ⟨rfl, ?_⟩; exact fit_; exact ge_; (try dsimp only); omega; (try dsimp only at hn1)))
              all_goals ((try refine W.ret ?_); (try simp only [outOf, thenW_ret, roundW]); (first | refine hk1 _ _ _ _ _ _ _ _ _ _ _ _ (.inl rfl) ?_ ?_ (by first | rfl | trivial) | refine hk1 _ _ _ _ _ _ _ _ _ _ _ _ (.inr rfl) ?_ ?_ (by first | rfl | trivial)); omega; exact ut_)
            · refine W.loop ?_
              repeat (first | refine sq_ ?_ | refine bl_ ?_ | ((first | refine rg_ ?_ | refine go_ ?_); generalize e : goR _ _ _ _ _ _ _ _ = r; simp (disch := omega) [hX, hg, hY, hce, hc0, h9, h32] at e; replace e : some _ = _ := e; subst e; (try dsimp only [goW])) | refine ct_ rfl ?_ | refine cf_ rfl ?_ | refine sk_ ?_ | refine ex_ ?_ | (refine S1 _ ?_ ?_ ?_ _ fun n1 tyn1 hn1 hun1 => ⟨rfl, ?_⟩; exact fit_; exact ge_; (try dsimp only); omega; (try dsimp only at hn1)) | (refine S2 _ ?_ ?_ ?_ _ fun n1 tyn1 hn1 hun1 => ⟨rfl, ?_⟩; exact fit_; exact ge_; (try dsimp only); omega; (try dsimp only at hn1)))
              all_goals ((try refine W.ret ?_); (try simp only [outOf, thenW_ret, roundW]); (first | refine hk1 _ _ _ _ _ _ _ _ _ _ _ _ (.inl rfl) ?_ ?_ (by first | rfl | trivial) | refine hk1 _ _ _ _ _ _ _ _ _ _ _ _ (.inr rfl) ?_ ?_ (by first | rfl | trivial)); omega; exact ut_)
theorem space_L (s : List UInt8) (hs : s.length < 60000) (i : Nat) (r : List UInt8) (hd : s.drop i = r) (hlen : i + r.length = s.length) (t : Int) (h : CHeap) (p d : Nat) (hf : Fit h) (hg : getEnt h.ents p = some (lx s (i : Int) 0 t)) (hp : p < h.next) (K : CVal → CHeap → Prop)
    (hk1 : ∀ n' ty, h.next ≤ n' → UnderT ty n' → (skipF r).2 = true → K (.tup []) ⟨setEnt h.ents p (lx s ((s.length - (skipF r).1.length : Nat) : Int) 0 t), n', ty⟩)
    (hk2 : ∀ n' ty, h.next ≤ n' → UnderT ty n' → (skipF r).2 = false → K (.tup []) ⟨setEnt h.ents p (lx s (s.length : Int) 2 ((s.length - (skipF r).1.length : Nat) : Int)), n', ty⟩) : Wc tree.getF 11 [.ptr p d 0] h K := by
  obtain ⟨hu, hut, hX⟩ := fx4 hf
  have hY := fx5 hf hg

  refine Wc.mkG 11 c11 (by kernel_rfl) rfl ?_
  generalize e : entryC _ _ _ = r
  simp (disch := omega) [hX, hg, hY, c11] at e
  subst e
  refine bl_ ?_
  refine ref_space s hs p d t _ r.length r i (Nat.le_refl _) hd hlen _ _ _ _ _ _ _ _ _ _ hg ?_ ?_ ?_ ?_
  · exact ⟨hu.le (by (try dsimp only); omega), UnderT.le hut (by (try dsimp only); omega)⟩
  · (try dsimp only); omega
  · intro x n' ty w1 w2 w3 w4 w5 w6 w7 w8 w9 g0 g1 g2 g3
    try dsimp only at g1
    rcases g0 with rfl | rfl
    all_goals ((try simp only [outOf, thenW_ret, roundW]); (first | refine endW.of (.inl rfl) rfl ?_ | refine endW.of (.inr rfl) rfl ?_); generalize e : endsC _ _ _ = r; simp (disch := omega) [hX, hg, hY] at e; subst e)
    all_goals (refine hk1 _ _ ?_ ?_ g3; omega; exact ut_)
  · intro n' ty w1 w2 w3 w4 w5 w6 w7 w8 w9 g1 g2 g3
    try dsimp only at g1
    all_goals ((try simp only [outOf, thenW_ret, roundW]); (first | refine endW.of (.inl rfl) rfl ?_ | refine endW.of (.inr rfl) rfl ?_); generalize e : endsC _ _ _ = r; simp (disch := omega) [hX, hg, hY] at e; subst e)
    all_goals (refine hk2 _ _ ?_ ?_ g3; omega; exact ut_)
/-- How far a name goes on, as the reference reads it. -/
def nmR : List UInt8 → Nat
  | [] => 0
  | c :: r => if letB c = true ∨ digB c = true ∨ c.toNat = 46 ∧ letB (r.headD 0) = true then 1 + nmR r else 0
theorem letter_0 : Pu tree.getF 24 [.int .u8 0] (.bool false) := letter_F 0
theorem digit_0 : Pu tree.getF 26 [.int .u8 0] (.bool false) := digit_F 0
abbrev nmLoop : CCode := (.loop true (.seq (.seq (.region [⟨.mv (.var 0), none⟩, ⟨.call false 25 [(.loc 0), (.const (.int .i64 0))], none⟩, ⟨.call false 24 [(.loc 0)], none⟩, ⟨.mv (.loc 0), none⟩, ⟨.mv (.var 0), (some (0, false))⟩, ⟨.call false 25 [(.loc 0), (.const (.int .i64 0))], (some (1, false))⟩, ⟨.call false 26 [(.loc 0)], (some (2, false))⟩, ⟨.pick (.loc 3) (.const (.bool true)) (.loc 0), none⟩, ⟨.mv (.loc 0), none⟩, ⟨.mv (.var 0), (some (0, false))⟩, ⟨.call false 25 [(.loc 0), (.const (.int .i64 0))], (some (1, false))⟩, ⟨.bin .eql (.loc 0) (.const (.int .u8 46)), (some (2, false))⟩, ⟨.mv (.loc 0), (some (3, false))⟩, ⟨.mv (.var 0), (some (0, true))⟩, ⟨.call false 25 [(.loc 0), (.const (.int .i64 1))], (some (1, true))⟩, ⟨.call false 24 [(.loc 0)], (some (2, true))⟩, ⟨.pick (.loc 3) (.loc 0) (.const (.bool false)), (some (7, false))⟩, ⟨.pick (.loc 8) (.const (.bool true)) (.loc 0), none⟩] [(6, 17)] [] []) (.cond (.var 6) .skip (.exit 1))) (.block 2 (.region [⟨.mv (.var 0), none⟩, ⟨.nilck (.loc 0), none⟩, ⟨.fieldAddr 1 (.loc 0), none⟩, ⟨.load none (.loc 0), none⟩, ⟨.bin .add (.loc 0) (.const (.int .i64 1)), none⟩, ⟨.nilck (.loc 4), none⟩, ⟨.fieldAddr 1 (.loc 0), none⟩, ⟨.store 1 (.loc 0) (.loc 2), none⟩] [] [] []))))
theorem ref_name (s : List UInt8) (hs : s.length < 60000) (p d : Nat) (t : Int) (Q : CExit → CSt → Prop) (v1 v2 v3 v4 v5 v7 v8 v9 v10 v11 : CVal) : ∀ (r : List UInt8) (i : Nat), s.drop i = r → i + r.length = s.length → ∀ (h : CHeap) (v6 : CVal), getEnt h.ents p = some (lx s (i : Int) 0 t) → Fit h → p < h.next →
    (∀ n' ty w6, h.next ≤ n' → UnderT ty n' → Q (.exit 1) ⟨[.ptr p d 0, v1, v2, v3, v4, v5, w6, v7, v8, v9, v10, v11], ⟨setEnt h.ents p (lx s ((i + nmR r : Nat) : Int) 0 t), n', ty⟩, []⟩) →
    W tree.getF nmLoop ⟨[.ptr p d 0, v1, v2, v3, v4, v5, v6, v7, v8, v9, v10, v11], h, []⟩ Q := by
  intro r
  induction r with
  | nil =>
    intro i hd hlen h v6 hg hf hp hk
    simp only [List.length_nil, Nat.add_zero] at hlen
    have e0 : i + nmR [] = i := rfl
    rw [e0, setEnt_same hg] at hk
    have B0 : ∀ (h : CHeap) (hf : Fit h) (hg : getEnt h.ents p = some (lx s (i : Int) 0 t)) (hp : p < h.next) (K : CVal → CHeap → Prop) (hk : ∀ n' ty, h.next ≤ n' → UnderT ty n' → K (.int .u8 0) ⟨h.ents, n', ty⟩), Wc tree.getF 25 [.ptr p d 0, .int .i64 0] h K := fun h hf hg hp K hk => byte_n s i 0 0 t hs (by omega) (by omega) (by omega) h p d hf hg hp K hk
    obtain ⟨hu, hut, hX⟩ := fx4 hf
    have hY := fx5 hf hg; have ⟨hG, hD2, hC2, hN2⟩ := hY
    refine W.loop ?_
    repeat (first | refine sq_ ?_ | refine bl_ ?_ | ((first | refine rg_ ?_ | refine go_ ?_); generalize e : goR _ _ _ _ _ _ _ _ = r; simp (disch := omega) [hX, hg, hY] at e; replace e : some _ = _ := e; subst e; (try dsimp only [goW])) | refine ct_ rfl ?_ | refine cf_ rfl ?_ | refine sk_ ?_ | refine ex_ ?_ | (refine B0 _ ?_ ?_ ?_ _ fun n1 tyn1 hn1 hun1 => ⟨rfl, ?_⟩; exact fit_; exact ge_; (try dsimp only); omega; (try dsimp only at hn1)) | (refine letter_0 _ ?_ _ fun n1 tyn1 hn1 hun1 => ⟨rfl, ?_⟩; exact fit_; (try dsimp only at hn1)) | (refine digit_0 _ ?_ _ fun n1 tyn1 hn1 hun1 => ⟨rfl, ?_⟩; exact fit_; (try dsimp only at hn1)))
    all_goals ((try simp only [outOf, thenW_ret, roundW]); refine hk _ _ _ ?_ ?_; omega; exact ut_)
  | cons c r ih =>
    intro i hd hlen h v6 hg hf hp hk
    simp only [List.length_cons] at hlen
    have hc0 := at_drop hd
    obtain ⟨hi, hce⟩ := List.getElem?_eq_some_iff.1 hc0
    have B0 : ∀ (h : CHeap) (hf : Fit h) (hg : getEnt h.ents p = some (lx s (i : Int) 0 t)) (hp : p < h.next) (K : CVal → CHeap → Prop) (hk : ∀ n' ty, h.next ≤ n' → UnderT ty n' → K (.int .u8 (c.toNat : Int)) ⟨h.ents, n', ty⟩), Wc tree.getF 25 [.ptr p d 0, .int .i64 0] h K := fun h hf hg hp K hk => byte_s s i 0 0 t c hs (by omega) hc0 h p d hf hg hp K hk
    obtain ⟨hu, hut, hX⟩ := fx4 hf
    have hY := fx5 hf hg; have ⟨hG, hD2, hC2, hN2⟩ := hY
    have hcont : (letB c = true ∨ digB c = true ∨ c.toNat = 46 ∧ letB (r.headD 0) = true) → ∀ (h' : CHeap) (w6 : CVal), h'.ents = setEnt h.ents p (lx s ((i : Int) + 1) 0 t) → h.next ≤ h'.next → UnderT h'.tys h'.next → W tree.getF nmLoop ⟨[.ptr p d 0, v1, v2, v3, v4, v5, w6, v7, v8, v9, v10, v11], h', []⟩ Q := by
      intro hyes h' w6 e1 e2 e3
      have e4 : ((i : Int) + 1) = ((i + 1 : Nat) : Int) := by omega
      rw [e4] at e1
      have e5 : i + nmR (c :: r) = i + 1 + nmR r := by conv => lhs; unfold nmR
                                                       rw [if_pos hyes]; omega
      rw [e5] at hk
      refine ih (i + 1) (drop_next hd) (by omega) h' w6 (by rw [e1]; exact hG _) ⟨by rw [e1]; exact hu.set.le e2, e3⟩ (by omega) ?_
      intro n' ty u6 g1 g2
      rw [e1, sy_setEnt_setEnt]
      exact hk n' ty u6 (by omega) g2
    have hno : ¬ (letB c = true ∨ digB c = true ∨ c.toNat = 46 ∧ letB (r.headD 0) = true) → ∀ n' ty w6, h.next ≤ n' → UnderT ty n' → Q (.exit 1) ⟨[.ptr p d 0, v1, v2, v3, v4, v5, w6, v7, v8, v9, v10, v11], ⟨h.ents, n', ty⟩, []⟩ := by
      intro hn n' ty w6 g1 g2
      have := hk n' ty w6 g1 g2
      have e5 : i + nmR (c :: r) = i := by conv => lhs; unfold nmR
                                           rw [if_neg hn]; omega
      rw [e5, setEnt_same hg] at this
      exact this
    have LF := letter_F c
    have DF := digit_F c
    by_cases hl : letB c = true
    · rw [hl] at LF
      refine W.loop ?_
      repeat (first | refine sq_ ?_ | refine bl_ ?_ | ((first | refine rg_ ?_ | refine go_ ?_); generalize e : goR _ _ _ _ _ _ _ _ = r; simp (disch := omega) [hX, hg, hY, hce, hc0] at e; replace e : some _ = _ := e; subst e; (try dsimp only [goW])) | refine ct_ rfl ?_ | refine cf_ rfl ?_ | refine sk_ ?_ | refine ex_ ?_ | (refine B0 _ ?_ ?_ ?_ _ fun n1 tyn1 hn1 hun1 => ⟨rfl, ?_⟩; exact fit_; exact ge_; (try dsimp only); omega; (try dsimp only at hn1)) | (refine LF _ ?_ _ fun n1 tyn1 hn1 hun1 => ⟨rfl, ?_⟩; exact fit_; (try dsimp only at hn1)))
      show W tree.getF nmLoop (dropped true _ _) Q
      generalize e : dropped _ _ _ = r0
      simp (disch := omega) [hX, hg, hY] at e
      subst e
      try dsimp only
      refine hcont (.inl hl) _ _ ?_ ?_ ?_
      · rfl
      · (try dsimp only); omega
      · exact UnderT.le (by assumption) (by (try dsimp only); omega)
    · rw [Bool.not_eq_true] at hl
      rw [hl] at LF
      by_cases hdg : digB c = true
      · rw [hdg] at DF
        refine W.loop ?_
        repeat (first | refine sq_ ?_ | refine bl_ ?_ | ((first | refine rg_ ?_ | refine go_ ?_); generalize e : goR _ _ _ _ _ _ _ _ = r; simp (disch := omega) [hX, hg, hY, hce, hc0] at e; replace e : some _ = _ := e; subst e; (try dsimp only [goW])) | refine ct_ rfl ?_ | refine cf_ rfl ?_ | refine sk_ ?_ | refine ex_ ?_ | (refine B0 _ ?_ ?_ ?_ _ fun n1 tyn1 hn1 hun1 => ⟨rfl, ?_⟩; exact fit_; exact ge_; (try dsimp only); omega; (try dsimp only at hn1)) | (refine LF _ ?_ _ fun n1 tyn1 hn1 hun1 => ⟨rfl, ?_⟩; exact fit_; (try dsimp only at hn1)) | (refine DF _ ?_ _ fun n1 tyn1 hn1 hun1 => ⟨rfl, ?_⟩; exact fit_; (try dsimp only at hn1)))
        show W tree.getF nmLoop (dropped true _ _) Q
        generalize e : dropped _ _ _ = r0
        simp (disch := omega) [hX, hg, hY] at e
        subst e
        try dsimp only
        refine hcont (.inr (.inl hdg)) _ _ ?_ ?_ ?_
        · rfl
        · (try dsimp only); omega
        · exact UnderT.le (by assumption) (by (try dsimp only); omega)
      · rw [Bool.not_eq_true] at hdg
        rw [hdg] at DF
        by_cases h46 : c.toNat = 46
        · cases r with
          | nil =>
            have B1 : ∀ (h : CHeap) (hf : Fit h) (hg : getEnt h.ents p = some (lx s (i : Int) 0 t)) (hp : p < h.next) (K : CVal → CHeap → Prop) (hk : ∀ n' ty, h.next ≤ n' → UnderT ty n' → K (.int .u8 0) ⟨h.ents, n', ty⟩), Wc tree.getF 25 [.ptr p d 0, .int .i64 1] h K := fun h hf hg hp K hk => byte_n s i 1 0 t hs (by omega) (by omega) (by simp at hlen; omega) h p d hf hg hp K hk
            have hn : ¬ (letB c = true ∨ digB c = true ∨ c.toNat = 46 ∧ letB (([] : List UInt8).headD 0) = true) := by rw [hl, hdg]; rintro (h | h | ⟨_, h⟩) <;> cases h
            refine W.loop ?_
            repeat (first | refine sq_ ?_ | refine bl_ ?_ | ((first | refine rg_ ?_ | refine go_ ?_); generalize e : goR _ _ _ _ _ _ _ _ = r; simp (disch := omega) [hX, hg, hY, hce, hc0] at e; replace e : some _ = _ := e; subst e; (try dsimp only [goW])) | refine ct_ rfl ?_ | refine cf_ rfl ?_ | refine sk_ ?_ | refine ex_ ?_ | (refine B0 _ ?_ ?_ ?_ _ fun n1 tyn1 hn1 hun1 => ⟨rfl, ?_⟩; exact fit_; exact ge_; (try dsimp only); omega; (try dsimp only at hn1)) | (refine B1 _ ?_ ?_ ?_ _ fun n1 tyn1 hn1 hun1 => ⟨rfl, ?_⟩; exact fit_; exact ge_; (try dsimp only); omega; (try dsimp only at hn1)) | (refine LF _ ?_ _ fun n1 tyn1 hn1 hun1 => ⟨rfl, ?_⟩; exact fit_; (try dsimp only at hn1)) | (refine DF _ ?_ _ fun n1 tyn1 hn1 hun1 => ⟨rfl, ?_⟩; exact fit_; (try dsimp only at hn1)) | (refine letter_0 _ ?_ _ fun n1 tyn1 hn1 hun1 => ⟨rfl, ?_⟩; exact fit_; (try dsimp only at hn1)))
            all_goals ((try simp only [outOf, thenW_ret, roundW]); refine hno hn _ _ _ ?_ ?_; omega; exact ut_)
          | cons b r' =>
            have B1 : ∀ (h : CHeap) (hf : Fit h) (hg : getEnt h.ents p = some (lx s (i : Int) 0 t)) (hp : p < h.next) (K : CVal → CHeap → Prop) (hk : ∀ n' ty, h.next ≤ n' → UnderT ty n' → K (.int .u8 (b.toNat : Int)) ⟨h.ents, n', ty⟩), Wc tree.getF 25 [.ptr p d 0, .int .i64 1] h K := fun h hf hg hp K hk => byte_s s i 1 0 t b hs (by omega) (at_drop (drop_next hd)) h p d hf hg hp K hk
            have LF1 := letter_F b
            by_cases hb : letB b = true
            · rw [hb] at LF1
              refine W.loop ?_
              repeat (first | refine sq_ ?_ | refine bl_ ?_ | ((first | refine rg_ ?_ | refine go_ ?_); generalize e : goR _ _ _ _ _ _ _ _ = r; simp (disch := omega) [hX, hg, hY, hce, hc0] at e; replace e : some _ = _ := e; subst e; (try dsimp only [goW])) | refine ct_ rfl ?_ | refine cf_ rfl ?_ | refine sk_ ?_ | refine ex_ ?_ | (refine B0 _ ?_ ?_ ?_ _ fun n1 tyn1 hn1 hun1 => ⟨rfl, ?_⟩; exact fit_; exact ge_; (try dsimp only); omega; (try dsimp only at hn1)) | (refine B1 _ ?_ ?_ ?_ _ fun n1 tyn1 hn1 hun1 => ⟨rfl, ?_⟩; exact fit_; exact ge_; (try dsimp only); omega; (try dsimp only at hn1)) | (refine LF1 _ ?_ _ fun n1 tyn1 hn1 hun1 => ⟨rfl, ?_⟩; exact fit_; (try dsimp only at hn1)) | (refine LF _ ?_ _ fun n1 tyn1 hn1 hun1 => ⟨rfl, ?_⟩; exact fit_; (try dsimp only at hn1)) | (refine DF _ ?_ _ fun n1 tyn1 hn1 hun1 => ⟨rfl, ?_⟩; exact fit_; (try dsimp only at hn1)))
              show W tree.getF nmLoop (dropped true _ _) Q
              generalize e : dropped _ _ _ = r0
              simp (disch := omega) [hX, hg, hY] at e
              subst e
              try dsimp only
              refine hcont (.inr (.inr ⟨h46, hb⟩)) _ _ ?_ ?_ ?_
              · rfl
              · (try dsimp only); omega
              · exact UnderT.le (by assumption) (by (try dsimp only); omega)
            · rw [Bool.not_eq_true] at hb
              rw [hb] at LF1
              have hn : ¬ (letB c = true ∨ digB c = true ∨ c.toNat = 46 ∧ letB ((b :: r').headD 0) = true) := by rw [hl, hdg]; rintro (h | h | ⟨_, h⟩); cases h; cases h; rw [List.headD_cons, hb] at h; cases h
              refine W.loop ?_
              repeat (first | refine sq_ ?_ | refine bl_ ?_ | ((first | refine rg_ ?_ | refine go_ ?_); generalize e : goR _ _ _ _ _ _ _ _ = r; simp (disch := omega) [hX, hg, hY, hce, hc0] at e; replace e : some _ = _ := e; subst e; (try dsimp only [goW])) | refine ct_ rfl ?_ | refine cf_ rfl ?_ | refine sk_ ?_ | refine ex_ ?_ | (refine B0 _ ?_ ?_ ?_ _ fun n1 tyn1 hn1 hun1 => ⟨rfl, ?_⟩; exact fit_; exact ge_; (try dsimp only); omega; (try dsimp only at hn1)) | (refine B1 _ ?_ ?_ ?_ _ fun n1 tyn1 hn1 hun1 => ⟨rfl, ?_⟩; exact fit_; exact ge_; (try dsimp only); omega; (try dsimp only at hn1)) | (refine LF1 _ ?_ _ fun n1 tyn1 hn1 hun1 => ⟨rfl, ?_⟩; exact fit_; (try dsimp only at hn1)) | (refine LF _ ?_ _ fun n1 tyn1 hn1 hun1 => ⟨rfl, ?_⟩; exact fit_; (try dsimp only at hn1)) | (refine DF _ ?_ _ fun n1 tyn1 hn1 hun1 => ⟨rfl, ?_⟩; exact fit_; (try dsimp only at hn1)))
              all_goals ((try simp only [outOf, thenW_ret, roundW]); refine hno hn _ _ _ ?_ ?_; omega; exact ut_)
        · have hn : ¬ (letB c = true ∨ digB c = true ∨ c.toNat = 46 ∧ letB (r.headD 0) = true) := by rw [hl, hdg]; rintro (h | h | ⟨h, _⟩); cases h; cases h; exact h46 h
          refine W.loop ?_
          repeat (first | refine sq_ ?_ | refine bl_ ?_ | ((first | refine rg_ ?_ | refine go_ ?_); generalize e : goR _ _ _ _ _ _ _ _ = r; simp (disch := omega) [hX, hg, hY, hce, hc0] at e; replace e : some _ = _ := e; subst e; (try dsimp only [goW])) | refine ct_ rfl ?_ | refine cf_ rfl ?_ | refine sk_ ?_ | refine ex_ ?_ | (refine B0 _ ?_ ?_ ?_ _ fun n1 tyn1 hn1 hun1 => ⟨rfl, ?_⟩; exact fit_; exact ge_; (try dsimp only); omega; (try dsimp only at hn1)) | (refine LF _ ?_ _ fun n1 tyn1 hn1 hun1 => ⟨rfl, ?_⟩; exact fit_; (try dsimp only at hn1)) | (refine DF _ ?_ _ fun n1 tyn1 hn1 hun1 => ⟨rfl, ?_⟩; exact fit_; (try dsimp only at hn1)))
          all_goals ((try simp only [outOf, thenW_ret, roundW]); refine hno hn _ _ _ ?_ ?_; omega; exact ut_)
abbrev Z4 : CObj := .cells [.int .i64 0, .str [], .int .u64 0, .int .i64 0]
abbrev digLoop : CCode := (.loop true (.seq (.seq (.region [⟨.mv (.var 0), none⟩, ⟨.nilck (.loc 0), none⟩, ⟨.fieldAddr 1 (.loc 0), none⟩, ⟨.load none (.loc 0), none⟩, ⟨.mv (.var 0), none⟩, ⟨.nilck (.loc 0), none⟩, ⟨.fieldAddr 0 (.loc 0), none⟩, ⟨.load none (.loc 0), none⟩, ⟨.len true (.loc 0), none⟩, ⟨.bin .lss (.loc 5) (.loc 0), none⟩] [(4, 9)] [] []) (.cond (.var 4) .skip (.exit 0))) (.block 1 (.seq (.region [⟨.mv (.var 0), none⟩, ⟨.nilck (.loc 0), none⟩, ⟨.fieldAddr 0 (.loc 0), none⟩, ⟨.load none (.loc 0), none⟩, ⟨.mv (.var 0), none⟩, ⟨.nilck (.loc 0), none⟩, ⟨.fieldAddr 1 (.loc 0), none⟩, ⟨.load none (.loc 0), none⟩, ⟨.idxStr (.loc 4) (.loc 0), none⟩, ⟨.call false 38 [(.loc 0)], none⟩, ⟨.mv (.loc 0), none⟩] [(5, 10)] [] []) (.seq (.seq (.region [⟨.mv (.var 5), none⟩, ⟨.bin .lss (.loc 0) (.const (.int .i64 0)), none⟩, ⟨.mv (.loc 0), none⟩, ⟨.mv (.var 5), (some (0, false))⟩, ⟨.conv .u64 (.loc 0), (some (1, false))⟩, ⟨.mv (.var 6), (some (2, false))⟩, ⟨.bin .geq (.loc 1) (.loc 0), (some (3, false))⟩, ⟨.pick (.loc 4) (.const (.bool true)) (.loc 0), none⟩] [(7, 7)] [] []) (.cond (.var 7) (.exit 0) .skip)) (.seq (.seq (.region [⟨.mv (.var 8), none⟩, ⟨.mv (.var 5), none⟩, ⟨.conv .u64 (.loc 0), none⟩, ⟨.bin .sub (.const (.int .u64 18446744073709551615)) (.loc 0), none⟩, ⟨.mv (.var 6), none⟩, ⟨.bin .quo (.loc 1) (.loc 0), none⟩, ⟨.bin .gtr (.loc 5) (.loc 0), none⟩] [(9, 6)] [] []) (.cond (.var 9) (.seq (.region [⟨.mv (.var 0), none⟩, ⟨.mv (.var 2), none⟩, ⟨.call false 23 [(.loc 1), (.const (.int .i64 3)), (.loc 0)], none⟩, ⟨.store 4 (.var 10) (.loc 0), none⟩] [] [] []) .ret) .skip)) (.seq (.region [⟨.mv (.var 8), none⟩, ⟨.mv (.var 6), none⟩, ⟨.bin .mul (.loc 1) (.loc 0), none⟩, ⟨.mv (.var 5), none⟩, ⟨.conv .u64 (.loc 0), none⟩, ⟨.bin .add (.loc 2) (.loc 0), none⟩, ⟨.mv (.loc 0), none⟩] [(8, 6)] [] []) (.region [⟨.mv (.var 0), none⟩, ⟨.nilck (.loc 0), none⟩, ⟨.fieldAddr 1 (.loc 0), none⟩, ⟨.load none (.loc 0), none⟩, ⟨.bin .add (.loc 0) (.const (.int .i64 1)), none⟩, ⟨.nilck (.loc 4), none⟩, ⟨.fieldAddr 1 (.loc 0), none⟩, ⟨.store 1 (.loc 0) (.loc 2), none⟩] [] [] []))))))))
theorem fr_yes {cs r : List UInt8} {c : UInt8} (h : cs.contains c = true) : fr cs (c :: r) = c :: fr cs r := by unfold fr; rw [List.takeWhile_cons, if_pos h]
theorem fr_no {cs r : List UInt8} {c : UInt8} (h : cs.contains c = false) : fr cs (c :: r) = [] := by unfold fr; rw [List.takeWhile_cons, if_neg (by rw [h]; decide)]

theorem dig_in8 (c : UInt8) : D8.contains c = decide (0 ≤ dgI c ∧ dgI c < 8) := by
  have := all256 (p := fun c => D8.contains c == decide (0 ≤ dgI c ∧ dgI c < 8)) (by decide +kernel) c
  simpa using this

theorem dig_in10 (c : UInt8) : D10.contains c = decide (0 ≤ dgI c ∧ dgI c < 10) := by
  have := all256 (p := fun c => D10.contains c == decide (0 ≤ dgI c ∧ dgI c < 10)) (by decide +kernel) c
  simpa using this

theorem dig_in16 (c : UInt8) : hexesB.contains c = decide (0 ≤ dgI c ∧ dgI c < 16) := by
  have := all256 (p := fun c => hexesB.contains c == decide (0 ≤ dgI c ∧ dgI c < 16)) (by decide +kernel) c
  simpa using this

theorem digF_dgI (c : UInt8) (h : 0 ≤ dgI c) : dgI c = (digF c : Int) := by
  have := all256 (p := fun c => !(decide (0 ≤ dgI c)) || decide (dgI c = (digF c : Int))) (by decide +kernel) c
  simpa [h] using this
theorem ref_dig8 (s : List UInt8) (hs : s.length < 60000) (p d m dm : Nat) (t at' : Int) (hmp : m ≠ p) (Q : CExit → CSt → Prop) (v1 v3 v11 v12 : CVal) : ∀ (r : List UInt8) (i v : Nat), s.drop i = r → i + r.length = s.length → v < 18446744073709551616 → ∀ (h : CHeap) (v4 v5 v7 v9 : CVal), getEnt h.ents p = some (lx s (i : Int) 0 t) → getEnt h.ents m = some Z4 → Fit h → p < h.next → m < h.next →
    (∀ n' ty w4 w5 w7 w9, h.next ≤ n' → UnderT ty n' → valF 8 v (fr D8 r) < 18446744073709551616 → Q (.exit 0) ⟨[.ptr p d 0, v1, .int .i64 at', v3, w4, w5, .int .u64 8, w7, .int .u64 (valF 8 v (fr D8 r) : Nat), w9, .ptr m dm 0, v11, v12], ⟨setEnt h.ents p (lx s ((i + (fr D8 r).length : Nat) : Int) 0 t), n', ty⟩, []⟩) →
    (∀ n' ty w4 w5 w7 w8 w9 (j : Int), h.next ≤ n' → UnderT ty n' → 18446744073709551616 ≤ valF 8 v (fr D8 r) → Q .ret ⟨[.ptr p d 0, v1, .int .i64 at', v3, w4, w5, .int .u64 8, w7, w8, w9, .ptr m dm 0, v11, v12], ⟨setEnt h.ents p (lx s j 3 at'), n', ty⟩, []⟩) →
    W tree.getF digLoop ⟨[.ptr p d 0, v1, .int .i64 at', v3, v4, v5, .int .u64 8, v7, .int .u64 (v : Int), v9, .ptr m dm 0, v11, v12], h, []⟩ Q := by
  intro r
  induction r with
  | nil =>
    intro i v hd hlen hv h v4 v5 v7 v9 hg hm hf hp hpm hk1 hk2
    simp only [List.length_nil, Nat.add_zero] at hlen
    have e0 : i + (fr D8 []).length = i := rfl
    rw [e0, setEnt_same hg] at hk1
    obtain ⟨hu, hut, hX⟩ := fx4 hf
    have hY := fx5 hf hg; have ⟨hG, hD2, hC2, hN2⟩ := hY
    have hM2 : ∀ x, getEnt (setEnt h.ents p x) m = some Z4 := fun x => by rw [getEnt_setEnt_ne hmp]; exact hm
    have hMS : ∀ x, setEnt (setEnt h.ents p x) m Z4 = setEnt h.ents p x := fun x => setEnt_same (hM2 x)
    refine W.loop ?_
    repeat (first | refine sq_ ?_ | refine bl_ ?_ | ((first | refine rg_ ?_ | refine go_ ?_); generalize e : goR _ _ _ _ _ _ _ _ = r; simp (disch := omega) [hX, hg, hY, hm, hM2, hMS, hmp, sy_wrapu64] at e; replace e : some _ = _ := e; subst e; (try dsimp only [goW])) | refine ct_ rfl ?_ | refine cf_ rfl ?_ | refine sk_ ?_ | refine ex_ ?_)
    all_goals ((try simp only [outOf, thenW_ret, roundW]); refine hk1 _ _ _ _ _ _ ?_ ?_ ?_; omega; exact ut_; exact hv)
  | cons c r ih =>
    intro i v hd hlen hv h v4 v5 v7 v9 hg hm hf hp hpm hk1 hk2
    simp only [List.length_cons] at hlen
    have hc0 := at_drop hd
    obtain ⟨hi, hce⟩ := List.getElem?_eq_some_iff.1 hc0
    obtain ⟨hu, hut, hX⟩ := fx4 hf
    have hY := fx5 hf hg; have ⟨hG, hD2, hC2, hN2⟩ := hY
    have hM2 : ∀ x, getEnt (setEnt h.ents p x) m = some Z4 := fun x => by rw [getEnt_setEnt_ne hmp]; exact hm
    have hMS : ∀ x, setEnt (setEnt h.ents p x) m Z4 = setEnt h.ents p x := fun x => setEnt_same (hM2 x)
    have DG := Digit_F c
    obtain ⟨x, hx⟩ : ∃ x, dgI c = x := ⟨_, rfl⟩
    rw [hx] at DG
    by_cases hin : 0 ≤ x ∧ x < 8
    · obtain ⟨hx0, hx1⟩ := hin
      have hfr : fr D8 (c :: r) = c :: fr D8 r := fr_yes (by rw [dig_in8]; simp [hx, hx0, hx1])
      have hdx := digF_dgI c (by omega)
      rw [hx] at hdx
      obtain ⟨y, hy⟩ : ∃ y, digF c = y := ⟨_, rfl⟩
      rw [hy] at hdx
      subst hdx
      have htd : ((18446744073709551615 : Int) - (y : Int)).tdiv 8 = (18446744073709551615 - (y : Int)) / 8 := Int.tdiv_eq_ediv_of_nonneg (by omega)
      rw [hfr] at hk1 hk2
      have hvl : valF 8 v (c :: fr D8 r) = valF 8 (v * 8 + y) (fr D8 r) := by show valF 8 (v * 8 + digF c) _ = _; rw [hy]
      rw [hvl] at hk1 hk2
      by_cases hov : 18446744073709551616 ≤ v * 8 + y
      · have hbig := valF_le 8 (by omega) (fr D8 r) (v * 8 + y)
        refine W.loop ?_
        repeat (first | refine sq_ ?_ | refine bl_ ?_ | ((first | refine rg_ ?_ | refine go_ ?_); generalize e : goR _ _ _ _ _ _ _ _ = r; simp (disch := omega) [hX, hg, hY, hce, hc0, hm, hM2, hMS, hmp, sy_wrapu64, htd] at e; replace e : some _ = _ := e; subst e; (try dsimp only [goW])) | refine ct_ rfl ?_ | refine cf_ rfl ?_ | refine sk_ ?_ | refine ex_ ?_ | (refine DG _ ?_ _ fun n2 tyn2 hn2 hun2 => ⟨rfl, ?_⟩; exact fit_; (try dsimp only at hn2)) | (refine fail_L s (i : Int) 0 t _ _ _ p d ?_ ?_ ?_ _ fun n3 tyn3 hn3 hun3 => ⟨rfl, ?_⟩; exact fit_; (focus (((first | exact hg | exact hG _ | (try dsimp only); exact hg)); done)); (try dsimp only); omega; (try dsimp only at hn3)))
        all_goals ((try refine W.ret ?_); (try simp only [outOf, thenW_ret, roundW, hMS]); refine hk2 _ _ _ _ _ _ _ _ ?_ ?_ ?_; omega; exact ut_; omega)
      · have hnext : ∀ (h' : CHeap) (w4 w5 w7 w9 : CVal) (z : Int), h'.ents = setEnt h.ents p (lx s ((i : Int) + 1) 0 t) → z = ((v * 8 + y : Nat) : Int) → h.next ≤ h'.next → UnderT h'.tys h'.next → W tree.getF digLoop ⟨[.ptr p d 0, v1, .int .i64 at', v3, w4, w5, .int .u64 8, w7, .int .u64 z, w9, .ptr m dm 0, v11, v12], h', []⟩ Q := by
          intro h' w4 w5 w7 w9 z e1 e0 e2 e3
          subst e0
          have e4 : ((i : Int) + 1) = ((i + 1 : Nat) : Int) := by omega
          rw [e4] at e1
          refine ih (i + 1) (v * 8 + y) (drop_next hd) (by omega) (by omega) h' w4 w5 w7 w9 (by rw [e1]; exact hG _) (by rw [e1]; exact hM2 _) ⟨by rw [e1]; exact hu.set.le e2, e3⟩ (by omega) (by omega) ?_ ?_
          · intro n' ty u4 u5 u7 u9 g1 g2 g3
            rw [e1, sy_setEnt_setEnt]
            have := hk1 n' ty u4 u5 u7 u9 (by omega) g2 g3
            rw [show i + (c :: fr D8 r).length = i + 1 + (fr D8 r).length by simp; omega] at this
            exact this
          · intro n' ty u4 u5 u7 u8 u9 j g1 g2 g3
            rw [e1, sy_setEnt_setEnt]
            exact hk2 n' ty u4 u5 u7 u8 u9 j (by omega) g2 g3
        refine W.loop ?_
        repeat (first | refine sq_ ?_ | refine bl_ ?_ | ((first | refine rg_ ?_ | refine go_ ?_); generalize e : goR _ _ _ _ _ _ _ _ = r; simp (disch := omega) [hX, hg, hY, hce, hc0, hm, hM2, hMS, hmp, sy_wrapu64, htd] at e; replace e : some _ = _ := e; subst e; (try dsimp only [goW])) | refine ct_ rfl ?_ | refine cf_ rfl ?_ | refine sk_ ?_ | refine ex_ ?_ | (refine DG _ ?_ _ fun n2 tyn2 hn2 hun2 => ⟨rfl, ?_⟩; exact fit_; (try dsimp only at hn2)))
        show W tree.getF digLoop (dropped true _ _) Q
        generalize e : dropped _ _ _ = r0
        simp (disch := omega) [hX, hg, hY, hce, hc0, hm, hM2, hMS, hmp, sy_wrapu64] at e
        subst e
        try dsimp only
        refine hnext _ _ _ _ _ _ ?_ ?_ ?_ ?_
        · rfl
        · (try dsimp only); omega
        · (try dsimp only); omega
        · exact UnderT.le (by assumption) (by (try dsimp only); omega)
    · have hfr : fr D8 (c :: r) = [] := fr_no (by rw [dig_in8, hx]; simpa using hin)
      have hl0 : (fr D8 (c :: r)).length = 0 := by rw [hfr]; rfl
      have e0 : i + (fr D8 (c :: r)).length = i := by omega
      rw [e0, setEnt_same hg] at hk1
      rw [hfr] at hk1
      have hmx : -1 ≤ x ∧ x < 16 := by
        have := all256 (p := fun c => decide (-1 ≤ dgI c ∧ dgI c < 16)) (by decide +kernel) c
        rw [← hx]; simpa using this
      by_cases hx0 : x < 0
      · refine W.loop ?_
        repeat (first | refine sq_ ?_ | refine bl_ ?_ | ((first | refine rg_ ?_ | refine go_ ?_); generalize e : goR _ _ _ _ _ _ _ _ = r; simp (disch := omega) [hX, hg, hY, hce, hc0, hm, hM2, hMS, hmp, sy_wrapu64] at e; replace e : some _ = _ := e; subst e; (try dsimp only [goW])) | refine ct_ rfl ?_ | refine cf_ rfl ?_ | refine sk_ ?_ | refine ex_ ?_ | (refine DG _ ?_ _ fun n2 tyn2 hn2 hun2 => ⟨rfl, ?_⟩; exact fit_; (try dsimp only at hn2)))
        all_goals ((try simp only [outOf, thenW_ret, roundW]); refine hk1 _ _ _ _ _ _ ?_ ?_ ?_; omega; exact ut_; exact hv)
      · refine W.loop ?_
        repeat (first | refine sq_ ?_ | refine bl_ ?_ | ((first | refine rg_ ?_ | refine go_ ?_); generalize e : goR _ _ _ _ _ _ _ _ = r; simp (disch := omega) [hX, hg, hY, hce, hc0, hm, hM2, hMS, hmp, sy_wrapu64] at e; replace e : some _ = _ := e; subst e; (try dsimp only [goW])) | refine ct_ rfl ?_ | refine cf_ rfl ?_ | refine sk_ ?_ | refine ex_ ?_ | (refine DG _ ?_ _ fun n2 tyn2 hn2 hun2 => ⟨rfl, ?_⟩; exact fit_; (try dsimp only at hn2)))
        all_goals ((try simp only [outOf, thenW_ret, roundW]); refine hk1 _ _ _ _ _ _ ?_ ?_ ?_; omega; exact ut_; exact hv)

theorem ref_dig10 (s : List UInt8) (hs : s.length < 60000) (p d m dm : Nat) (t at' : Int) (hmp : m ≠ p) (Q : CExit → CSt → Prop) (v1 v3 v11 v12 : CVal) : ∀ (r : List UInt8) (i v : Nat), s.drop i = r → i + r.length = s.length → v < 18446744073709551616 → ∀ (h : CHeap) (v4 v5 v7 v9 : CVal), getEnt h.ents p = some (lx s (i : Int) 0 t) → getEnt h.ents m = some Z4 → Fit h → p < h.next → m < h.next →
    (∀ n' ty w4 w5 w7 w9, h.next ≤ n' → UnderT ty n' → valF 10 v (fr D10 r) < 18446744073709551616 → Q (.exit 0) ⟨[.ptr p d 0, v1, .int .i64 at', v3, w4, w5, .int .u64 10, w7, .int .u64 (valF 10 v (fr D10 r) : Nat), w9, .ptr m dm 0, v11, v12], ⟨setEnt h.ents p (lx s ((i + (fr D10 r).length : Nat) : Int) 0 t), n', ty⟩, []⟩) →
    (∀ n' ty w4 w5 w7 w8 w9 (j : Int), h.next ≤ n' → UnderT ty n' → 18446744073709551616 ≤ valF 10 v (fr D10 r) → Q .ret ⟨[.ptr p d 0, v1, .int .i64 at', v3, w4, w5, .int .u64 10, w7, w8, w9, .ptr m dm 0, v11, v12], ⟨setEnt h.ents p (lx s j 3 at'), n', ty⟩, []⟩) →
    W tree.getF digLoop ⟨[.ptr p d 0, v1, .int .i64 at', v3, v4, v5, .int .u64 10, v7, .int .u64 (v : Int), v9, .ptr m dm 0, v11, v12], h, []⟩ Q := by
  intro r
  induction r with
  | nil =>
    intro i v hd hlen hv h v4 v5 v7 v9 hg hm hf hp hpm hk1 hk2
    simp only [List.length_nil, Nat.add_zero] at hlen
    have e0 : i + (fr D10 []).length = i := rfl
    rw [e0, setEnt_same hg] at hk1
    obtain ⟨hu, hut, hX⟩ := fx4 hf
    have hY := fx5 hf hg; have ⟨hG, hD2, hC2, hN2⟩ := hY
    have hM2 : ∀ x, getEnt (setEnt h.ents p x) m = some Z4 := fun x => by rw [getEnt_setEnt_ne hmp]; exact hm
    have hMS : ∀ x, setEnt (setEnt h.ents p x) m Z4 = setEnt h.ents p x := fun x => setEnt_same (hM2 x)
    refine W.loop ?_
    repeat (first | refine sq_ ?_ | refine bl_ ?_ | ((first | refine rg_ ?_ | refine go_ ?_); generalize e : goR _ _ _ _ _ _ _ _ = r; simp (disch := omega) [hX, hg, hY, hm, hM2, hMS, hmp, sy_wrapu64] at e; replace e : some _ = _ := e; subst e; (try dsimp only [goW])) | refine ct_ rfl ?_ | refine cf_ rfl ?_ | refine sk_ ?_ | refine ex_ ?_)
    all_goals ((try simp only [outOf, thenW_ret, roundW]); refine hk1 _ _ _ _ _ _ ?_ ?_ ?_; omega; exact ut_; exact hv)
  | cons c r ih =>
    intro i v hd hlen hv h v4 v5 v7 v9 hg hm hf hp hpm hk1 hk2
    simp only [List.length_cons] at hlen
    have hc0 := at_drop hd
    obtain ⟨hi, hce⟩ := List.getElem?_eq_some_iff.1 hc0
    obtain ⟨hu, hut, hX⟩ := fx4 hf
    have hY := fx5 hf hg; have ⟨hG, hD2, hC2, hN2⟩ := hY
    have hM2 : ∀ x, getEnt (setEnt h.ents p x) m = some Z4 := fun x => by rw [getEnt_setEnt_ne hmp]; exact hm
    have hMS : ∀ x, setEnt (setEnt h.ents p x) m Z4 = setEnt h.ents p x := fun x => setEnt_same (hM2 x)
    have DG := Digit_F c
    obtain ⟨x, hx⟩ : ∃ x, dgI c = x := ⟨_, rfl⟩
    rw [hx] at DG
    by_cases hin : 0 ≤ x ∧ x < 10
    · obtain ⟨hx0, hx1⟩ := hin
      have hfr : fr D10 (c :: r) = c :: fr D10 r := fr_yes (by rw [dig_in10]; simp [hx, hx0, hx1])
      have hdx := digF_dgI c (by omega)
      rw [hx] at hdx
      obtain ⟨y, hy⟩ : ∃ y, digF c = y := ⟨_, rfl⟩
      rw [hy] at hdx
      subst hdx
      have htd : ((18446744073709551615 : Int) - (y : Int)).tdiv 10 = (18446744073709551615 - (y : Int)) / 10 := Int.tdiv_eq_ediv_of_nonneg (by omega)
      rw [hfr] at hk1 hk2
      have hvl : valF 10 v (c :: fr D10 r) = valF 10 (v * 10 + y) (fr D10 r) := by show valF 10 (v * 10 + digF c) _ = _; rw [hy]
      rw [hvl] at hk1 hk2
      by_cases hov : 18446744073709551616 ≤ v * 10 + y
      · have hbig := valF_le 10 (by omega) (fr D10 r) (v * 10 + y)
        refine W.loop ?_
        repeat (first | refine sq_ ?_ | refine bl_ ?_ | ((first | refine rg_ ?_ | refine go_ ?_); generalize e : goR _ _ _ _ _ _ _ _ = r; simp (disch := omega) [hX, hg, hY, hce, hc0, hm, hM2, hMS, hmp, sy_wrapu64, htd] at e; replace e : some _ = _ := e; subst e; (try dsimp only [goW])) | refine ct_ rfl ?_ | refine cf_ rfl ?_ | refine sk_ ?_ | refine ex_ ?_ | (refine DG _ ?_ _ fun n2 tyn2 hn2 hun2 => ⟨rfl, ?_⟩; exact fit_; (try dsimp only at hn2)) | (refine fail_L s (i : Int) 0 t _ _ _ p d ?_ ?_ ?_ _ fun n3 tyn3 hn3 hun3 => ⟨rfl, ?_⟩; exact fit_; (focus (((first | exact hg | exact hG _ | (try dsimp only); exact hg)); done)); (try dsimp only); omega; (try dsimp only at hn3)))
        all_goals ((try refine W.ret ?_); (try simp only [outOf, thenW_ret, roundW, hMS]); refine hk2 _ _ _ _ _ _ _ _ ?_ ?_ ?_; omega; exact ut_; omega)
      · have hnext : ∀ (h' : CHeap) (w4 w5 w7 w9 : CVal) (z : Int), h'.ents = setEnt h.ents p (lx s ((i : Int) + 1) 0 t) → z = ((v * 10 + y : Nat) : Int) → h.next ≤ h'.next → UnderT h'.tys h'.next → W tree.getF digLoop ⟨[.ptr p d 0, v1, .int .i64 at', v3, w4, w5, .int .u64 10, w7, .int .u64 z, w9, .ptr m dm 0, v11, v12], h', []⟩ Q := by
          intro h' w4 w5 w7 w9 z e1 e0 e2 e3
          subst e0
          have e4 : ((i : Int) + 1) = ((i + 1 : Nat) : Int) := by omega
          rw [e4] at e1
          refine ih (i + 1) (v * 10 + y) (drop_next hd) (by omega) (by omega) h' w4 w5 w7 w9 (by rw [e1]; exact hG _) (by rw [e1]; exact hM2 _) ⟨by rw [e1]; exact hu.set.le e2, e3⟩ (by omega) (by omega) ?_ ?_
          · intro n' ty u4 u5 u7 u9 g1 g2 g3
            rw [e1, sy_setEnt_setEnt]
            have := hk1 n' ty u4 u5 u7 u9 (by omega) g2 g3
            rw [show i + (c :: fr D10 r).length = i + 1 + (fr D10 r).length by simp; omega] at this
            exact this
          · intro n' ty u4 u5 u7 u8 u9 j g1 g2 g3
            rw [e1, sy_setEnt_setEnt]
            exact hk2 n' ty u4 u5 u7 u8 u9 j (by omega) g2 g3
        refine W.loop ?_
        repeat (first | refine sq_ ?_ | refine bl_ ?_ | ((first | refine rg_ ?_ | refine go_ ?_); generalize e : goR _ _ _ _ _ _ _ _ = r; simp (disch := omega) [hX, hg, hY, hce, hc0, hm, hM2, hMS, hmp, sy_wrapu64, htd] at e; replace e : some _ = _ := e; subst e; (try dsimp only [goW])) | refine ct_ rfl ?_ | refine cf_ rfl ?_ | refine sk_ ?_ | refine ex_ ?_ | (refine DG _ ?_ _ fun n2 tyn2 hn2 hun2 => ⟨rfl, ?_⟩; exact fit_; (try dsimp only at hn2)))
        show W tree.getF digLoop (dropped true _ _) Q
        generalize e : dropped _ _ _ = r0
        simp (disch := omega) [hX, hg, hY, hce, hc0, hm, hM2, hMS, hmp, sy_wrapu64] at e
        subst e
        try dsimp only
        refine hnext _ _ _ _ _ _ ?_ ?_ ?_ ?_
        · rfl
        · (try dsimp only); omega
        · (try dsimp only); omega
        · exact UnderT.le (by assumption) (by (try dsimp only); omega)
    · have hfr : fr D10 (c :: r) = [] := fr_no (by rw [dig_in10, hx]; simpa using hin)
      have hl0 : (fr D10 (c :: r)).length = 0 := by rw [hfr]; rfl
      have e0 : i + (fr D10 (c :: r)).length = i := by omega
      rw [e0, setEnt_same hg] at hk1
      rw [hfr] at hk1
      have hmx : -1 ≤ x ∧ x < 16 := by
        have := all256 (p := fun c => decide (-1 ≤ dgI c ∧ dgI c < 16)) (by decide +kernel) c
        rw [← hx]; simpa using this
      by_cases hx0 : x < 0
      · refine W.loop ?_
        repeat (first | refine sq_ ?_ | refine bl_ ?_ | ((first | refine rg_ ?_ | refine go_ ?_); generalize e : goR _ _ _ _ _ _ _ _ = r; simp (disch := omega) [hX, hg, hY, hce, hc0, hm, hM2, hMS, hmp, sy_wrapu64] at e; replace e : some _ = _ := e; subst e; (try dsimp only [goW])) | refine ct_ rfl ?_ | refine cf_ rfl ?_ | refine sk_ ?_ | refine ex_ ?_ | (refine DG _ ?_ _ fun n2 tyn2 hn2 hun2 => ⟨rfl, ?_⟩; exact fit_; (try dsimp only at hn2)))
        all_goals ((try simp only [outOf, thenW_ret, roundW]); refine hk1 _ _ _ _ _ _ ?_ ?_ ?_; omega; exact ut_; exact hv)
      · refine W.loop ?_
        repeat (first | refine sq_ ?_ | refine bl_ ?_ | ((first | refine rg_ ?_ | refine go_ ?_); generalize e : goR _ _ _ _ _ _ _ _ = r; simp (disch := omega) [hX, hg, hY, hce, hc0, hm, hM2, hMS, hmp, sy_wrapu64] at e; replace e : some _ = _ := e; subst e; (try dsimp only [goW])) | refine ct_ rfl ?_ | refine cf_ rfl ?_ | refine sk_ ?_ | refine ex_ ?_ | (refine DG _ ?_ _ fun n2 tyn2 hn2 hun2 => ⟨rfl, ?_⟩; exact fit_; (try dsimp only at hn2)))
        all_goals ((try simp only [outOf, thenW_ret, roundW]); refine hk1 _ _ _ _ _ _ ?_ ?_ ?_; omega; exact ut_; exact hv)

theorem ref_dig16 (s : List UInt8) (hs : s.length < 60000) (p d m dm : Nat) (t at' : Int) (hmp : m ≠ p) (Q : CExit → CSt → Prop) (v1 v3 v11 v12 : CVal) : ∀ (r : List UInt8) (i v : Nat), s.drop i = r → i + r.length = s.length → v < 18446744073709551616 → ∀ (h : CHeap) (v4 v5 v7 v9 : CVal), getEnt h.ents p = some (lx s (i : Int) 0 t) → getEnt h.ents m = some Z4 → Fit h → p < h.next → m < h.next →
    (∀ n' ty w4 w5 w7 w9, h.next ≤ n' → UnderT ty n' → valF 16 v (fr hexesB r) < 18446744073709551616 → Q (.exit 0) ⟨[.ptr p d 0, v1, .int .i64 at', v3, w4, w5, .int .u64 16, w7, .int .u64 (valF 16 v (fr hexesB r) : Nat), w9, .ptr m dm 0, v11, v12], ⟨setEnt h.ents p (lx s ((i + (fr hexesB r).length : Nat) : Int) 0 t), n', ty⟩, []⟩) →
    (∀ n' ty w4 w5 w7 w8 w9 (j : Int), h.next ≤ n' → UnderT ty n' → 18446744073709551616 ≤ valF 16 v (fr hexesB r) → Q .ret ⟨[.ptr p d 0, v1, .int .i64 at', v3, w4, w5, .int .u64 16, w7, w8, w9, .ptr m dm 0, v11, v12], ⟨setEnt h.ents p (lx s j 3 at'), n', ty⟩, []⟩) →
    W tree.getF digLoop ⟨[.ptr p d 0, v1, .int .i64 at', v3, v4, v5, .int .u64 16, v7, .int .u64 (v : Int), v9, .ptr m dm 0, v11, v12], h, []⟩ Q := by
  intro r
  induction r with
  | nil =>
    intro i v hd hlen hv h v4 v5 v7 v9 hg hm hf hp hpm hk1 hk2
    simp only [List.length_nil, Nat.add_zero] at hlen
    have e0 : i + (fr hexesB []).length = i := rfl
    rw [e0, setEnt_same hg] at hk1
    obtain ⟨hu, hut, hX⟩ := fx4 hf
    have hY := fx5 hf hg; have ⟨hG, hD2, hC2, hN2⟩ := hY
    have hM2 : ∀ x, getEnt (setEnt h.ents p x) m = some Z4 := fun x => by rw [getEnt_setEnt_ne hmp]; exact hm
    have hMS : ∀ x, setEnt (setEnt h.ents p x) m Z4 = setEnt h.ents p x := fun x => setEnt_same (hM2 x)
    refine W.loop ?_
    repeat (first | refine sq_ ?_ | refine bl_ ?_ | ((first | refine rg_ ?_ | refine go_ ?_); generalize e : goR _ _ _ _ _ _ _ _ = r; simp (disch := omega) [hX, hg, hY, hm, hM2, hMS, hmp, sy_wrapu64] at e; replace e : some _ = _ := e; subst e; (try dsimp only [goW])) | refine ct_ rfl ?_ | refine cf_ rfl ?_ | refine sk_ ?_ | refine ex_ ?_)
    all_goals ((try simp only [outOf, thenW_ret, roundW]); refine hk1 _ _ _ _ _ _ ?_ ?_ ?_; omega; exact ut_; exact hv)
  | cons c r ih =>
    intro i v hd hlen hv h v4 v5 v7 v9 hg hm hf hp hpm hk1 hk2
    simp only [List.length_cons] at hlen
    have hc0 := at_drop hd
    obtain ⟨hi, hce⟩ := List.getElem?_eq_some_iff.1 hc0
    obtain ⟨hu, hut, hX⟩ := fx4 hf
    have hY := fx5 hf hg; have ⟨hG, hD2, hC2, hN2⟩ := hY
    have hM2 : ∀ x, getEnt (setEnt h.ents p x) m = some Z4 := fun x => by rw [getEnt_setEnt_ne hmp]; exact hm
    have hMS : ∀ x, setEnt (setEnt h.ents p x) m Z4 = setEnt h.ents p x := fun x => setEnt_same (hM2 x)
    have DG := Digit_F c
    obtain ⟨x, hx⟩ : ∃ x, dgI c = x := ⟨_, rfl⟩
    rw [hx] at DG
    by_cases hin : 0 ≤ x ∧ x < 16
    · obtain ⟨hx0, hx1⟩ := hin
      have hfr : fr hexesB (c :: r) = c :: fr hexesB r := fr_yes (by rw [dig_in16]; simp [hx, hx0, hx1])
      have hdx := digF_dgI c (by omega)
      rw [hx] at hdx
      obtain ⟨y, hy⟩ : ∃ y, digF c = y := ⟨_, rfl⟩
      rw [hy] at hdx
      subst hdx
      have htd : ((18446744073709551615 : Int) - (y : Int)).tdiv 16 = (18446744073709551615 - (y : Int)) / 16 := Int.tdiv_eq_ediv_of_nonneg (by omega)
      rw [hfr] at hk1 hk2
      have hvl : valF 16 v (c :: fr hexesB r) = valF 16 (v * 16 + y) (fr hexesB r) := by show valF 16 (v * 16 + digF c) _ = _; rw [hy]
      rw [hvl] at hk1 hk2
      by_cases hov : 18446744073709551616 ≤ v * 16 + y
      · have hbig := valF_le 16 (by omega) (fr hexesB r) (v * 16 + y)
        refine W.loop ?_
        repeat (first | refine sq_ ?_ | refine bl_ ?_ | ((first | refine rg_ ?_ | refine go_ ?_); generalize e : goR _ _ _ _ _ _ _ _ = r; simp (disch := omega) [hX, hg, hY, hce, hc0, hm, hM2, hMS, hmp, sy_wrapu64, htd] at e; replace e : some _ = _ := e; subst e; (try dsimp only [goW])) | refine ct_ rfl ?_ | refine cf_ rfl ?_ | refine sk_ ?_ | refine ex_ ?_ | (refine DG _ ?_ _ fun n2 tyn2 hn2 hun2 => ⟨rfl, ?_⟩; exact fit_; (try dsimp only at hn2)) | (refine fail_L s (i : Int) 0 t _ _ _ p d ?_ ?_ ?_ _ fun n3 tyn3 hn3 hun3 => ⟨rfl, ?_⟩; exact fit_; (focus (((first | exact hg | exact hG _ | (try dsimp only); exact hg)); done)); (try dsimp only); omega; (try dsimp only at hn3)))
        all_goals ((try refine W.ret ?_); (try simp only [outOf, thenW_ret, roundW, hMS]); refine hk2 _ _ _ _ _ _ _ _ ?_ ?_ ?_; omega; exact ut_; omega)
      · have hnext : ∀ (h' : CHeap) (w4 w5 w7 w9 : CVal) (z : Int), h'.ents = setEnt h.ents p (lx s ((i : Int) + 1) 0 t) → z = ((v * 16 + y : Nat) : Int) → h.next ≤ h'.next → UnderT h'.tys h'.next → W tree.getF digLoop ⟨[.ptr p d 0, v1, .int .i64 at', v3, w4, w5, .int .u64 16, w7, .int .u64 z, w9, .ptr m dm 0, v11, v12], h', []⟩ Q := by
          intro h' w4 w5 w7 w9 z e1 e0 e2 e3
          subst e0
          have e4 : ((i : Int) + 1) = ((i + 1 : Nat) : Int) := by omega
          rw [e4] at e1
          refine ih (i + 1) (v * 16 + y) (drop_next hd) (by omega) (by omega) h' w4 w5 w7 w9 (by rw [e1]; exact hG _) (by rw [e1]; exact hM2 _) ⟨by rw [e1]; exact hu.set.le e2, e3⟩ (by omega) (by omega) ?_ ?_
          · intro n' ty u4 u5 u7 u9 g1 g2 g3
            rw [e1, sy_setEnt_setEnt]
            have := hk1 n' ty u4 u5 u7 u9 (by omega) g2 g3
            rw [show i + (c :: fr hexesB r).length = i + 1 + (fr hexesB r).length by simp; omega] at this
            exact this
          · intro n' ty u4 u5 u7 u8 u9 j g1 g2 g3
            rw [e1, sy_setEnt_setEnt]
            exact hk2 n' ty u4 u5 u7 u8 u9 j (by omega) g2 g3
        refine W.loop ?_
        repeat (first | refine sq_ ?_ | refine bl_ ?_ | ((first | refine rg_ ?_ | refine go_ ?_); generalize e : goR _ _ _ _ _ _ _ _ = r; simp (disch := omega) [hX, hg, hY, hce, hc0, hm, hM2, hMS, hmp, sy_wrapu64, htd] at e; replace e : some _ = _ := e; subst e; (try dsimp only [goW])) | refine ct_ rfl ?_ | refine cf_ rfl ?_ | refine sk_ ?_ | refine ex_ ?_ | (refine DG _ ?_ _ fun n2 tyn2 hn2 hun2 => ⟨rfl, ?_⟩; exact fit_; (try dsimp only at hn2)))
        show W tree.getF digLoop (dropped true _ _) Q
        generalize e : dropped _ _ _ = r0
        simp (disch := omega) [hX, hg, hY, hce, hc0, hm, hM2, hMS, hmp, sy_wrapu64] at e
        subst e
        try dsimp only
        refine hnext _ _ _ _ _ _ ?_ ?_ ?_ ?_
        · rfl
        · (try dsimp only); omega
        · (try dsimp only); omega
        · exact UnderT.le (by assumption) (by (try dsimp only); omega)
    · have hfr : fr hexesB (c :: r) = [] := fr_no (by rw [dig_in16, hx]; simpa using hin)
      have hl0 : (fr hexesB (c :: r)).length = 0 := by rw [hfr]; rfl
      have e0 : i + (fr hexesB (c :: r)).length = i := by omega
      rw [e0, setEnt_same hg] at hk1
      rw [hfr] at hk1
      have hmx : -1 ≤ x ∧ x < 16 := by
        have := all256 (p := fun c => decide (-1 ≤ dgI c ∧ dgI c < 16)) (by decide +kernel) c
        rw [← hx]; simpa using this
      by_cases hx0 : x < 0
      · refine W.loop ?_
        repeat (first | refine sq_ ?_ | refine bl_ ?_ | ((first | refine rg_ ?_ | refine go_ ?_); generalize e : goR _ _ _ _ _ _ _ _ = r; simp (disch := omega) [hX, hg, hY, hce, hc0, hm, hM2, hMS, hmp, sy_wrapu64] at e; replace e : some _ = _ := e; subst e; (try dsimp only [goW])) | refine ct_ rfl ?_ | refine cf_ rfl ?_ | refine sk_ ?_ | refine ex_ ?_ | (refine DG _ ?_ _ fun n2 tyn2 hn2 hun2 => ⟨rfl, ?_⟩; exact fit_; (try dsimp only at hn2)))
        all_goals ((try simp only [outOf, thenW_ret, roundW]); refine hk1 _ _ _ _ _ _ ?_ ?_ ?_; omega; exact ut_; exact hv)
      · exfalso; omega
abbrev rNumTail : CCode := (.seq (.region [⟨.mv (.var 0), none⟩, ⟨.call false 25 [(.loc 0), (.const (.int .i64 0))], none⟩, ⟨.mv (.loc 0), none⟩] [(11, 2)] [] []) (.seq (.seq (.region [⟨.mv (.var 11), none⟩, ⟨.call false 24 [(.loc 0)], none⟩, ⟨.mv (.loc 0), none⟩, ⟨.mv (.var 11), (some (0, false))⟩, ⟨.call false 26 [(.loc 0)], (some (1, false))⟩, ⟨.pick (.loc 2) (.const (.bool true)) (.loc 0), none⟩, ⟨.mv (.loc 0), none⟩, ⟨.mv (.var 11), (some (0, false))⟩, ⟨.bin .eql (.loc 0) (.const (.int .u8 46)), (some (1, false))⟩, ⟨.pick (.loc 2) (.const (.bool true)) (.loc 0), none⟩] [(12, 9)] [] []) (.cond (.var 12) (.seq (.region [⟨.mv (.var 0), none⟩, ⟨.mv (.var 2), none⟩, ⟨.call false 23 [(.loc 1), (.const (.int .i64 2)), (.loc 0)], none⟩, ⟨.store 4 (.var 10) (.loc 0), none⟩] [] [] []) .ret) .skip)) (.seq (.region [⟨.mv (.var 8), none⟩, ⟨.mv (.var 2), none⟩, ⟨.build [(.int .i64 0), (.str []), (.int .u64 0), (.int .i64 0)] [(0, 1, (.const (.int .i64 2))), (2, 1, (.loc 1)), (3, 1, (.loc 0))], none⟩, ⟨.store 4 (.var 10) (.loc 0), none⟩] [] [] []) .ret)))
theorem ends_eq (c : UInt8) : (namesB ++ [46]).contains c = (letB c || digB c || decide (c.toNat = 46)) := by
  have := all256 (p := fun c => (namesB ++ [46]).contains c == (letB c || digB c || decide (c.toNat = 46))) (by decide +kernel) c
  simpa using this
theorem num_tail (s : List UInt8) (hs : s.length < 60000) (p d m dm : Nat) (t at' v : Int) (hmp : m ≠ p) (Q : CExit → CSt → Prop) (u : List UInt8) (i : Nat) (hd : s.drop i = u) (hlen : i + u.length = s.length) (h : CHeap) (v1 v3 v4 v5 v6 v7 v9 v11 v12 : CVal) (hg : getEnt h.ents p = some (lx s (i : Int) 0 t)) (hm : getEnt h.ents m = some Z4) (hf : Fit h) (hp : p < h.next) (hpm : m < h.next)
    (hk1 : ∀ n' ty w11 w12, h.next ≤ n' → UnderT ty n' → (∀ c u', u = c :: u' → (namesB ++ [46]).contains c = false) → Q .ret ⟨[.ptr p d 0, v1, .int .i64 at', v3, v4, v5, v6, v7, .int .u64 v, v9, .ptr m dm 0, w11, w12], ⟨setEnt h.ents m (.cells [.int .i64 2, .str [], .int .u64 v, .int .i64 at']), n', ty⟩, []⟩)
    (hk2 : ∀ n' ty w11 w12, h.next ≤ n' → UnderT ty n' → (∃ c u', u = c :: u' ∧ (namesB ++ [46]).contains c = true) → Q .ret ⟨[.ptr p d 0, v1, .int .i64 at', v3, v4, v5, v6, v7, .int .u64 v, v9, .ptr m dm 0, w11, w12], ⟨setEnt h.ents p (lx s (i : Int) 2 at'), n', ty⟩, []⟩) :
    W tree.getF rNumTail ⟨[.ptr p d 0, v1, .int .i64 at', v3, v4, v5, v6, v7, .int .u64 v, v9, .ptr m dm 0, v11, v12], h, []⟩ Q := by
  obtain ⟨hu, hut, hX⟩ := fx4 hf
  have hY := fx5 hf hg; have ⟨hG, hD2, hC2, hN2⟩ := hY
  have hM2 : ∀ x, getEnt (setEnt h.ents p x) m = some Z4 := fun x => by rw [getEnt_setEnt_ne hmp]; exact hm
  have hMS : ∀ x, setEnt (setEnt h.ents p x) m Z4 = setEnt h.ents p x := fun x => setEnt_same (hM2 x)

  cases u with
  | nil =>
    simp only [List.length_nil, Nat.add_zero] at hlen
    have B0 : ∀ (h : CHeap) (hf : Fit h) (hg : getEnt h.ents p = some (lx s (i : Int) 0 t)) (hp : p < h.next) (K : CVal → CHeap → Prop) (hk : ∀ n' ty, h.next ≤ n' → UnderT ty n' → K (.int .u8 0) ⟨h.ents, n', ty⟩), Wc tree.getF 25 [.ptr p d 0, .int .i64 0] h K := fun h hf hg hp K hk => byte_n s i 0 0 t hs (by omega) (by omega) (by omega) h p d hf hg hp K hk
    repeat (first | refine sq_ ?_ | refine bl_ ?_ | ((first | refine rg_ ?_ | refine go_ ?_); generalize e : goR _ _ _ _ _ _ _ _ = r; simp (disch := omega) [hX, hg, hY, hm, hM2, hMS, hmp] at e; replace e : some _ = _ := e; subst e; (try dsimp only [goW])) | refine ct_ rfl ?_ | refine cf_ rfl ?_ | refine sk_ ?_ | refine ex_ ?_ | (refine B0 _ ?_ ?_ ?_ _ fun n1 tyn1 hn1 hun1 => ⟨rfl, ?_⟩; exact fit_; exact ge_; (try dsimp only); omega; (try dsimp only at hn1)) | (refine letter_0 _ ?_ _ fun n1 tyn1 hn1 hun1 => ⟨rfl, ?_⟩; exact fit_; (try dsimp only at hn1)) | (refine digit_0 _ ?_ _ fun n1 tyn1 hn1 hun1 => ⟨rfl, ?_⟩; exact fit_; (try dsimp only at hn1)))
    all_goals ((try refine W.ret ?_); (try simp only [outOf, thenW_ret, roundW, hMS]); refine hk1 _ _ _ _ ?_ ?_ (by intro c u' e; cases e); omega; exact ut_)
  | cons c u =>
    simp only [List.length_cons] at hlen
    have hc0 := at_drop hd
    have B0 : ∀ (h : CHeap) (hf : Fit h) (hg : getEnt h.ents p = some (lx s (i : Int) 0 t)) (hp : p < h.next) (K : CVal → CHeap → Prop) (hk : ∀ n' ty, h.next ≤ n' → UnderT ty n' → K (.int .u8 (c.toNat : Int)) ⟨h.ents, n', ty⟩), Wc tree.getF 25 [.ptr p d 0, .int .i64 0] h K := fun h hf hg hp K hk => byte_s s i 0 0 t c hs (by omega) hc0 h p d hf hg hp K hk
    have LF := letter_F c
    have DF := digit_F c
    by_cases hl : letB c = true
    · have hin : (namesB ++ [46]).contains c = true := by rw [ends_eq, hl]; rfl
      rw [hl] at LF
      repeat (first | refine sq_ ?_ | refine bl_ ?_ | ((first | refine rg_ ?_ | refine go_ ?_); generalize e : goR _ _ _ _ _ _ _ _ = r; simp (disch := omega) [hX, hg, hY, hm, hM2, hMS, hmp] at e; replace e : some _ = _ := e; subst e; (try dsimp only [goW])) | refine ct_ rfl ?_ | refine cf_ rfl ?_ | refine sk_ ?_ | refine ex_ ?_ | (refine B0 _ ?_ ?_ ?_ _ fun n1 tyn1 hn1 hun1 => ⟨rfl, ?_⟩; exact fit_; exact ge_; (try dsimp only); omega; (try dsimp only at hn1)) | (refine fail_L s (i : Int) 0 t _ _ _ p d ?_ ?_ ?_ _ fun n3 tyn3 hn3 hun3 => ⟨rfl, ?_⟩; exact fit_; (focus (((first | exact hg | exact hG _ | (try dsimp only); exact hg)); done)); (try dsimp only); omega; (try dsimp only at hn3)) | (refine LF _ ?_ _ fun n1 tyn1 hn1 hun1 => ⟨rfl, ?_⟩; exact fit_; (try dsimp only at hn1)) | (refine DF _ ?_ _ fun n1 tyn1 hn1 hun1 => ⟨rfl, ?_⟩; exact fit_; (try dsimp only at hn1)))
      all_goals ((try refine W.ret ?_); (try simp only [outOf, thenW_ret, roundW, hMS]); refine hk2 _ _ _ _ ?_ ?_ ⟨c, u, rfl, hin⟩; omega; exact ut_)
    · rw [Bool.not_eq_true] at hl
      rw [hl] at LF
      by_cases hdg : digB c = true
      · have hin : (namesB ++ [46]).contains c = true := by rw [ends_eq, hl, hdg]; rfl
        rw [hdg] at DF
        repeat (first | refine sq_ ?_ | refine bl_ ?_ | ((first | refine rg_ ?_ | refine go_ ?_); generalize e : goR _ _ _ _ _ _ _ _ = r; simp (disch := omega) [hX, hg, hY, hm, hM2, hMS, hmp] at e; replace e : some _ = _ := e; subst e; (try dsimp only [goW])) | refine ct_ rfl ?_ | refine cf_ rfl ?_ | refine sk_ ?_ | refine ex_ ?_ | (refine B0 _ ?_ ?_ ?_ _ fun n1 tyn1 hn1 hun1 => ⟨rfl, ?_⟩; exact fit_; exact ge_; (try dsimp only); omega; (try dsimp only at hn1)) | (refine fail_L s (i : Int) 0 t _ _ _ p d ?_ ?_ ?_ _ fun n3 tyn3 hn3 hun3 => ⟨rfl, ?_⟩; exact fit_; (focus (((first | exact hg | exact hG _ | (try dsimp only); exact hg)); done)); (try dsimp only); omega; (try dsimp only at hn3)) | (refine LF _ ?_ _ fun n1 tyn1 hn1 hun1 => ⟨rfl, ?_⟩; exact fit_; (try dsimp only at hn1)) | (refine DF _ ?_ _ fun n1 tyn1 hn1 hun1 => ⟨rfl, ?_⟩; exact fit_; (try dsimp only at hn1)))
        all_goals ((try refine W.ret ?_); (try simp only [outOf, thenW_ret, roundW, hMS]); refine hk2 _ _ _ _ ?_ ?_ ⟨c, u, rfl, hin⟩; omega; exact ut_)
      · rw [Bool.not_eq_true] at hdg
        rw [hdg] at DF
        by_cases h46 : c.toNat = 46
        · have hin : (namesB ++ [46]).contains c = true := by rw [ends_eq, hl, hdg]; simp [h46]
          repeat (first | refine sq_ ?_ | refine bl_ ?_ | ((first | refine rg_ ?_ | refine go_ ?_); generalize e : goR _ _ _ _ _ _ _ _ = r; simp (disch := omega) [hX, hg, hY, hm, hM2, hMS, hmp] at e; replace e : some _ = _ := e; subst e; (try dsimp only [goW])) | refine ct_ rfl ?_ | refine cf_ rfl ?_ | refine sk_ ?_ | refine ex_ ?_ | (refine B0 _ ?_ ?_ ?_ _ fun n1 tyn1 hn1 hun1 => ⟨rfl, ?_⟩; exact fit_; exact ge_; (try dsimp only); omega; (try dsimp only at hn1)) | (refine fail_L s (i : Int) 0 t _ _ _ p d ?_ ?_ ?_ _ fun n3 tyn3 hn3 hun3 => ⟨rfl, ?_⟩; exact fit_; (focus (((first | exact hg | exact hG _ | (try dsimp only); exact hg)); done)); (try dsimp only); omega; (try dsimp only at hn3)) | (refine LF _ ?_ _ fun n1 tyn1 hn1 hun1 => ⟨rfl, ?_⟩; exact fit_; (try dsimp only at hn1)) | (refine DF _ ?_ _ fun n1 tyn1 hn1 hun1 => ⟨rfl, ?_⟩; exact fit_; (try dsimp only at hn1)))
          all_goals ((try refine W.ret ?_); (try simp only [outOf, thenW_ret, roundW, hMS]); refine hk2 _ _ _ _ ?_ ?_ ⟨c, u, rfl, hin⟩; omega; exact ut_)
        · have hnin : (namesB ++ [46]).contains c = false := by rw [ends_eq, hl, hdg]; simp [h46]
          repeat (first | refine sq_ ?_ | refine bl_ ?_ | ((first | refine rg_ ?_ | refine go_ ?_); generalize e : goR _ _ _ _ _ _ _ _ = r; simp (disch := omega) [hX, hg, hY, hm, hM2, hMS, hmp] at e; replace e : some _ = _ := e; subst e; (try dsimp only [goW])) | refine ct_ rfl ?_ | refine cf_ rfl ?_ | refine sk_ ?_ | refine ex_ ?_ | (refine B0 _ ?_ ?_ ?_ _ fun n1 tyn1 hn1 hun1 => ⟨rfl, ?_⟩; exact fit_; exact ge_; (try dsimp only); omega; (try dsimp only at hn1)) | (refine fail_L s (i : Int) 0 t _ _ _ p d ?_ ?_ ?_ _ fun n3 tyn3 hn3 hun3 => ⟨rfl, ?_⟩; exact fit_; (focus (((first | exact hg | exact hG _ | (try dsimp only); exact hg)); done)); (try dsimp only); omega; (try dsimp only at hn3)) | (refine LF _ ?_ _ fun n1 tyn1 hn1 hun1 => ⟨rfl, ?_⟩; exact fit_; (try dsimp only at hn1)) | (refine DF _ ?_ _ fun n1 tyn1 hn1 hun1 => ⟨rfl, ?_⟩; exact fit_; (try dsimp only at hn1)))
          all_goals ((try refine W.ret ?_); (try simp only [outOf, thenW_ret, roundW, hMS]); refine hk1 _ _ _ _ ?_ ?_ (by intro c' u' e; cases e; exact hnin); omega; exact ut_)
/-- What a number is, once its base and its digits are known. -/
def endW2 (B : Nat) (ds u : List UInt8) : Nat ⊕ Nat := if 18446744073709551616 ≤ valF B 0 ds then .inl 3 else match u with
  | [] => .inr (valF B 0 ds)
  | c :: _ => if (namesB ++ [46]).contains c then .inl 2 else .inr (valF B 0 ds)

theorem num_rest8 (s : List UInt8) (hs : s.length < 60000) (p d m dm : Nat) (t at' : Int) (hmp : m ≠ p) (Q : CExit → CSt → Prop) (r : List UInt8) (i : Nat) (hd : s.drop i = r) (hlen : i + r.length = s.length) (h : CHeap) (v1 v3 v4 v5 v7 v9 v11 v12 : CVal) (hg : getEnt h.ents p = some (lx s (i : Int) 0 t)) (hm : getEnt h.ents m = some Z4) (hf : Fit h) (hp : p < h.next) (hpm : m < h.next)
    (hk1 : ∀ n' ty w4 w5 w7 w8 w9 w11 w12 v, h.next ≤ n' → UnderT ty n' → endW2 8 (fr D8 r) (bk D8 r) = .inr v → Q .ret ⟨[.ptr p d 0, v1, .int .i64 at', v3, w4, w5, .int .u64 8, w7, w8, w9, .ptr m dm 0, w11, w12], ⟨setEnt (setEnt h.ents p (lx s ((i + (fr D8 r).length : Nat) : Int) 0 t)) m (.cells [.int .i64 2, .str [], .int .u64 (v : Nat), .int .i64 at']), n', ty⟩, []⟩)
    (hk2 : ∀ n' ty w4 w5 w7 w8 w9 w11 w12 (e : Nat) (j : Int), h.next ≤ n' → UnderT ty n' → endW2 8 (fr D8 r) (bk D8 r) = .inl e → Q .ret ⟨[.ptr p d 0, v1, .int .i64 at', v3, w4, w5, .int .u64 8, w7, w8, w9, .ptr m dm 0, w11, w12], ⟨setEnt h.ents p (lx s j (e : Int) at'), n', ty⟩, []⟩) :
    W tree.getF digLoop ⟨[.ptr p d 0, v1, .int .i64 at', v3, v4, v5, .int .u64 8, v7, .int .u64 0, v9, .ptr m dm 0, v11, v12], h, []⟩ (fun x st' => thenW tree.getF rNumTail Q (outOf 0 x) st') := by
  obtain ⟨hu, hut, hX⟩ := fx4 hf
  have hY := fx5 hf hg; have ⟨hG, hD2, hC2, hN2⟩ := hY
  have hM2 : ∀ x, getEnt (setEnt h.ents p x) m = some Z4 := fun x => by rw [getEnt_setEnt_ne hmp]; exact hm
  have hMS : ∀ x, setEnt (setEnt h.ents p x) m Z4 = setEnt h.ents p x := fun x => setEnt_same (hM2 x)
  refine ref_dig8 s hs p d m dm t at' hmp _ _ _ _ _ r i 0 hd hlen (by omega) h _ _ _ _ hg hm ⟨hu, hut⟩ hp hpm ?_ ?_
  · intro n' ty w4 w5 w7 w9 g1 g2 g3
    try simp only [outOf, thenW_ret, roundW]
    have hfl := fr_len D8 r
    have hdr := drop_fr D8 r
    refine num_tail s hs p d m dm t at' _ hmp _ (bk D8 r) (i + (fr D8 r).length) (by rw [← List.drop_drop, hd, hdr]) (by omega) _ _ _ _ _ _ _ _ _ _ (hG _) (hM2 _) ⟨hu.set.le g1, g2⟩ (by (try dsimp only); omega) (by (try dsimp only); omega) ?_ ?_
    · intro n2 ty2 w11 w12 g4 g5 g6
      refine hk1 n2 ty2 _ _ _ _ _ _ _ (valF 8 0 (fr D8 r)) (by (try dsimp only at g4); omega) g5 ?_
      unfold endW2
      rw [if_neg (by omega)]
      split
      · rfl
      · rename_i c u hu2
        rw [g6 _ _ hu2]; rfl
    · intro n2 ty2 w11 w12 g4 g5 g6
      rw [sy_setEnt_setEnt]
      refine hk2 n2 ty2 _ _ _ _ _ _ _ 2 _ (by (try dsimp only at g4); omega) g5 ?_
      obtain ⟨c, u, g7, g8⟩ := g6
      unfold endW2
      rw [if_neg (by omega), g7]
      dsimp only
      rw [g8]; rfl
  · intro n' ty w4 w5 w7 w8 w9 j g1 g2 g3
    try simp only [outOf, thenW_ret, roundW]
    refine hk2 n' ty _ _ _ _ _ _ _ 3 _ g1 g2 ?_
    unfold endW2
    rw [if_pos g3]

theorem num_rest10 (s : List UInt8) (hs : s.length < 60000) (p d m dm : Nat) (t at' : Int) (hmp : m ≠ p) (Q : CExit → CSt → Prop) (r : List UInt8) (i : Nat) (hd : s.drop i = r) (hlen : i + r.length = s.length) (h : CHeap) (v1 v3 v4 v5 v7 v9 v11 v12 : CVal) (hg : getEnt h.ents p = some (lx s (i : Int) 0 t)) (hm : getEnt h.ents m = some Z4) (hf : Fit h) (hp : p < h.next) (hpm : m < h.next)
    (hk1 : ∀ n' ty w4 w5 w7 w8 w9 w11 w12 v, h.next ≤ n' → UnderT ty n' → endW2 10 (fr D10 r) (bk D10 r) = .inr v → Q .ret ⟨[.ptr p d 0, v1, .int .i64 at', v3, w4, w5, .int .u64 10, w7, w8, w9, .ptr m dm 0, w11, w12], ⟨setEnt (setEnt h.ents p (lx s ((i + (fr D10 r).length : Nat) : Int) 0 t)) m (.cells [.int .i64 2, .str [], .int .u64 (v : Nat), .int .i64 at']), n', ty⟩, []⟩)
    (hk2 : ∀ n' ty w4 w5 w7 w8 w9 w11 w12 (e : Nat) (j : Int), h.next ≤ n' → UnderT ty n' → endW2 10 (fr D10 r) (bk D10 r) = .inl e → Q .ret ⟨[.ptr p d 0, v1, .int .i64 at', v3, w4, w5, .int .u64 10, w7, w8, w9, .ptr m dm 0, w11, w12], ⟨setEnt h.ents p (lx s j (e : Int) at'), n', ty⟩, []⟩) :
    W tree.getF digLoop ⟨[.ptr p d 0, v1, .int .i64 at', v3, v4, v5, .int .u64 10, v7, .int .u64 0, v9, .ptr m dm 0, v11, v12], h, []⟩ (fun x st' => thenW tree.getF rNumTail Q (outOf 0 x) st') := by
  obtain ⟨hu, hut, hX⟩ := fx4 hf
  have hY := fx5 hf hg; have ⟨hG, hD2, hC2, hN2⟩ := hY
  have hM2 : ∀ x, getEnt (setEnt h.ents p x) m = some Z4 := fun x => by rw [getEnt_setEnt_ne hmp]; exact hm
  have hMS : ∀ x, setEnt (setEnt h.ents p x) m Z4 = setEnt h.ents p x := fun x => setEnt_same (hM2 x)
  refine ref_dig10 s hs p d m dm t at' hmp _ _ _ _ _ r i 0 hd hlen (by omega) h _ _ _ _ hg hm ⟨hu, hut⟩ hp hpm ?_ ?_
  · intro n' ty w4 w5 w7 w9 g1 g2 g3
    try simp only [outOf, thenW_ret, roundW]
    have hfl := fr_len D10 r
    have hdr := drop_fr D10 r
    refine num_tail s hs p d m dm t at' _ hmp _ (bk D10 r) (i + (fr D10 r).length) (by rw [← List.drop_drop, hd, hdr]) (by omega) _ _ _ _ _ _ _ _ _ _ (hG _) (hM2 _) ⟨hu.set.le g1, g2⟩ (by (try dsimp only); omega) (by (try dsimp only); omega) ?_ ?_
    · intro n2 ty2 w11 w12 g4 g5 g6
      refine hk1 n2 ty2 _ _ _ _ _ _ _ (valF 10 0 (fr D10 r)) (by (try dsimp only at g4); omega) g5 ?_
      unfold endW2
      rw [if_neg (by omega)]
      split
      · rfl
      · rename_i c u hu2
        rw [g6 _ _ hu2]; rfl
    · intro n2 ty2 w11 w12 g4 g5 g6
      rw [sy_setEnt_setEnt]
      refine hk2 n2 ty2 _ _ _ _ _ _ _ 2 _ (by (try dsimp only at g4); omega) g5 ?_
      obtain ⟨c, u, g7, g8⟩ := g6
      unfold endW2
      rw [if_neg (by omega), g7]
      dsimp only
      rw [g8]; rfl
  · intro n' ty w4 w5 w7 w8 w9 j g1 g2 g3
    try simp only [outOf, thenW_ret, roundW]
    refine hk2 n' ty _ _ _ _ _ _ _ 3 _ g1 g2 ?_
    unfold endW2
    rw [if_pos g3]

theorem num_rest16 (s : List UInt8) (hs : s.length < 60000) (p d m dm : Nat) (t at' : Int) (hmp : m ≠ p) (Q : CExit → CSt → Prop) (r : List UInt8) (i : Nat) (hd : s.drop i = r) (hlen : i + r.length = s.length) (h : CHeap) (v1 v3 v4 v5 v7 v9 v11 v12 : CVal) (hg : getEnt h.ents p = some (lx s (i : Int) 0 t)) (hm : getEnt h.ents m = some Z4) (hf : Fit h) (hp : p < h.next) (hpm : m < h.next)
    (hk1 : ∀ n' ty w4 w5 w7 w8 w9 w11 w12 v, h.next ≤ n' → UnderT ty n' → endW2 16 (fr hexesB r) (bk hexesB r) = .inr v → Q .ret ⟨[.ptr p d 0, v1, .int .i64 at', v3, w4, w5, .int .u64 16, w7, w8, w9, .ptr m dm 0, w11, w12], ⟨setEnt (setEnt h.ents p (lx s ((i + (fr hexesB r).length : Nat) : Int) 0 t)) m (.cells [.int .i64 2, .str [], .int .u64 (v : Nat), .int .i64 at']), n', ty⟩, []⟩)
    (hk2 : ∀ n' ty w4 w5 w7 w8 w9 w11 w12 (e : Nat) (j : Int), h.next ≤ n' → UnderT ty n' → endW2 16 (fr hexesB r) (bk hexesB r) = .inl e → Q .ret ⟨[.ptr p d 0, v1, .int .i64 at', v3, w4, w5, .int .u64 16, w7, w8, w9, .ptr m dm 0, w11, w12], ⟨setEnt h.ents p (lx s j (e : Int) at'), n', ty⟩, []⟩) :
    W tree.getF digLoop ⟨[.ptr p d 0, v1, .int .i64 at', v3, v4, v5, .int .u64 16, v7, .int .u64 0, v9, .ptr m dm 0, v11, v12], h, []⟩ (fun x st' => thenW tree.getF rNumTail Q (outOf 0 x) st') := by
  obtain ⟨hu, hut, hX⟩ := fx4 hf
  have hY := fx5 hf hg; have ⟨hG, hD2, hC2, hN2⟩ := hY
  have hM2 : ∀ x, getEnt (setEnt h.ents p x) m = some Z4 := fun x => by rw [getEnt_setEnt_ne hmp]; exact hm
  have hMS : ∀ x, setEnt (setEnt h.ents p x) m Z4 = setEnt h.ents p x := fun x => setEnt_same (hM2 x)
  refine ref_dig16 s hs p d m dm t at' hmp _ _ _ _ _ r i 0 hd hlen (by omega) h _ _ _ _ hg hm ⟨hu, hut⟩ hp hpm ?_ ?_
  · intro n' ty w4 w5 w7 w9 g1 g2 g3
    try simp only [outOf, thenW_ret, roundW]
    have hfl := fr_len hexesB r
    have hdr := drop_fr hexesB r
    refine num_tail s hs p d m dm t at' _ hmp _ (bk hexesB r) (i + (fr hexesB r).length) (by rw [← List.drop_drop, hd, hdr]) (by omega) _ _ _ _ _ _ _ _ _ _ (hG _) (hM2 _) ⟨hu.set.le g1, g2⟩ (by (try dsimp only); omega) (by (try dsimp only); omega) ?_ ?_
    · intro n2 ty2 w11 w12 g4 g5 g6
      refine hk1 n2 ty2 _ _ _ _ _ _ _ (valF 16 0 (fr hexesB r)) (by (try dsimp only at g4); omega) g5 ?_
      unfold endW2
      rw [if_neg (by omega)]
      split
      · rfl
      · rename_i c u hu2
        rw [g6 _ _ hu2]; rfl
    · intro n2 ty2 w11 w12 g4 g5 g6
      rw [sy_setEnt_setEnt]
      refine hk2 n2 ty2 _ _ _ _ _ _ _ 2 _ (by (try dsimp only at g4); omega) g5 ?_
      obtain ⟨c, u, g7, g8⟩ := g6
      unfold endW2
      rw [if_neg (by omega), g7]
      dsimp only
      rw [g8]; rfl
  · intro n' ty w4 w5 w7 w8 w9 j g1 g2 g3
    try simp only [outOf, thenW_ret, roundW]
    refine hk2 n' ty _ _ _ _ _ _ _ 3 _ g1 g2 ?_
    unfold endW2
    rw [if_pos g3]

end Go.Proofs.YthblmflngjofjaaDoor.IrW
