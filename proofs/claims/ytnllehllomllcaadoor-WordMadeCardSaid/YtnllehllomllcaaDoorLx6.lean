/- What the functions of the law 'WordMade' do: part 6 of 8. -/
import Derived.Test.YtnllehllomllcaaDoorLx5
namespace Go.Proofs.YtnllehllomllcaaDoor.IrM
open Go Go.CI
open Go.LexF hiding spacesB lettersB
set_option maxRecDepth 100000
set_option linter.unusedVariables false
set_option linter.unusedSimpArgs false
attribute [local irreducible] W Wo Wc WoR
def zJq (s : List UInt8) : Nat ⊕ (Nat × Nat) := match numF s with
  | (B, n, ds) => match zEx B ds (s.drop (n + ds.length)) with
    | .inl e => .inl e
    | .inr v => .inr (v, n + ds.length)
theorem Digit_0 : Pu tree.getF 46 [.int .u8 0] (.int .i64 (-1)) := zHk 0
theorem number_L (s : List UInt8) (hs : s.length < 60000) (i : Nat) (c : UInt8) (r : List UInt8) (hd : s.drop i = c :: r) (hlen : i + (c :: r).length = s.length) (t : Int) (h : CHeap) (p d : Nat) (hf : Fit h) (hg : zA3 h.ents p = some (lx s (i : Int) 0 t)) (hp : p < h.next) (K : CVal → CHeap → Prop)
    (hk1 : ∀ n' ty (v len : Nat), h.next ≤ n' → zA4 ty n' → zJq (c :: r) = .inr (v, len) → K (.agg [.int .i64 2, .str [], .int .u64 (v : Int), .int .i64 (i : Int)]) ⟨zA0 h.ents p (lx s ((i + len : Nat) : Int) 0 t), n', ty⟩)
    (hk2 : ∀ n' ty (e : Nat) (j : Int), h.next ≤ n' → zA4 ty n' → zJq (c :: r) = .inl e → K (.agg [.int .i64 0, .str [], .int .u64 0, .int .i64 0]) ⟨zA0 h.ents p (lx s j (e : Int) (i : Int)), n', ty⟩) : Wc tree.getF 34 [.ptr p d 0] h K := by
  obtain ⟨hu, hut, hX⟩ := fx4 hf
  have hY := fx5 hf hg; have ⟨hG, hD2, hC2, hN2⟩ := hY
  have hc0 := zB7 hd
  obtain ⟨hi, hce⟩ := List.getElem?_eq_some_iff.1 hc0
  have hfin : ∀ (B n : Nat) (ds : List UInt8), numF (c :: r) = (B, n, ds) → (∀ e, zEx B ds ((c :: r).drop (n + ds.length)) = .inl e → zJq (c :: r) = .inl e) ∧ (∀ v, zEx B ds ((c :: r).drop (n + ds.length)) = .inr v → zJq (c :: r) = .inr (v, n + ds.length)) := by
    intro B n ds hnf
    constructor
    · intro e he; unfold zJq; rw [hnf]; dsimp only; rw [he]
    · intro v he; unfold zJq; rw [hnf]; dsimp only; rw [he]
  by_cases hT1 : (c :: r).take 2 = [48, 120]
  · obtain ⟨r2, hcr⟩ : ∃ r2, c :: r = 48 :: 120 :: r2 := ⟨(c :: r).drop 2, by have := List.take_append_drop 2 (c :: r); rw [hT1] at this; exact this.symm⟩
    have hc48 : c = 48 := by injection hcr
    have hr2 : r = 120 :: r2 := by injection hcr
    subst hr2
    have hd2 : s.drop (i + 2) = r2 := by rw [← List.drop_drop, hd]; rfl
    have hdr2 : (c :: 120 :: r2).drop 2 = r2 := rfl
    have hcn : c.toNat = 48 := by rw [hc48]; rfl
    have S1 : ∀ (h : CHeap) (hf : Fit h) (hg : zA3 h.ents p = some (lx s (i : Int) 0 t)) (hp : p < h.next) (K : CVal → CHeap → Prop) (hk : ∀ n' ty, h.next ≤ n' → zA4 ty n' → K (.bool true) ⟨h.ents, n', ty⟩), Wc tree.getF 29 [.ptr p d 0, .str [48, 120]] h K := fun h hf hg hp K hk => zH6 s i 0 t [48, 120] hs (by rw [hd]; exact hT1) (by simp at hlen ⊢; omega) h p d hf hg hp K hk
    cases hr : r2 with
    | nil =>
      subst hr
      have B2 : ∀ (h : CHeap) (hf : Fit h) (hg : zA3 h.ents p = some (lx s (i : Int) 0 t)) (hp : p < h.next) (K : CVal → CHeap → Prop) (hk : ∀ n' ty, h.next ≤ n' → zA4 ty n' → K (.int .u8 0) ⟨h.ents, n', ty⟩), Wc tree.getF 32 [.ptr p d 0, .int .i64 2] h K := fun h hf hg hp K hk => zJ1 s i 2 0 t hs (by omega) (by omega) (by simp at hlen; omega) h p d hf hg hp K hk
      have DG := Digit_0
      have hnf : numF (c :: 120 :: []) = (8, 0, fr D8 (c :: 120 :: [])) := by unfold numF; rw [if_neg (by rintro ⟨_, h⟩; simp [fr] at h), if_pos (by rw [hc48]; rfl)]
      refine Wc.mkG 34 c34 (by kernel_rfl) rfl ?_
      generalize e : zA9 _ _ _ = r
      simp (disch := omega) [hX, hg, hY, hce, hc0, c34] at e
      subst e
      repeat (first | refine sq_ ?_ | refine bl_ ?_ | ((first | refine rg_ ?_ | refine go_ ?_); generalize e : goR _ _ _ _ _ _ _ _ = r; simp (disch := omega) [hX, hg, hY, hce, hc0] at e; replace e : some _ = _ := e; subst e; (try dsimp only [goW])) | refine ct_ rfl ?_ | refine cf_ rfl ?_ | refine sk_ ?_ | refine ex_ ?_ | (refine S1 _ ?_ ?_ ?_ _ fun n1 tyn1 hn1 hun1 => ⟨rfl, ?_⟩; exact fit_; exact ge_; (try dsimp only); omega; (try dsimp only at hn1)) | (refine S2 _ ?_ ?_ ?_ _ fun n1 tyn1 hn1 hun1 => ⟨rfl, ?_⟩; exact fit_; exact ge_; (try dsimp only); omega; (try dsimp only at hn1)) | (refine B2 _ ?_ ?_ ?_ _ fun n1 tyn1 hn1 hun1 => ⟨rfl, ?_⟩; exact fit_; exact ge_; (try dsimp only); omega; (try dsimp only at hn1)) | (refine DG _ ?_ _ fun n1 tyn1 hn1 hun1 => ⟨rfl, ?_⟩; exact fit_; (try dsimp only at hn1)))
      refine zFp s hs p d _ _ t (i : Int) ?_ _ (c :: 120 :: []) (i) ?_ ?_ _ _ _ _ _ _ _ _ _ ?_ ?_ ?_ ?_ ?_ ?_ ?_
      · omega
      · exact hd
      · exact hlen
      · (simp (disch := omega) [zA3, zA0, zBj, zBk, zA5, hg, hG])
      · (simp (disch := omega) [zA3, zA0, zBj, zBk, zA5, hg, hG])
      · exact fit_
      · (try dsimp only); omega
      · (try dsimp only); omega
      · intro n' ty w4 w5 w7 w8 w9 w11 w12 v g1 g2 g3
        refine endW.of (.inl rfl) rfl ?_
        generalize e : zAj _ _ _ = r
        simp (disch := omega) [hX, hg, hY, hce, hc0, c34] at e
        subst e
        refine hk1 _ _ v _ ?_ ?_ (by have := (hfin _ _ _ hnf).2 v (by rw [Nat.zero_add, zC2]; exact g3); first | exact this | rwa [Nat.zero_add] at this)
        · (try dsimp only at g1); omega
        · exact ut_
      · intro n' ty w4 w5 w7 w8 w9 w11 w12 ee j g1 g2 g3
        refine endW.of (.inl rfl) rfl ?_
        generalize e : zAj _ _ _ = r
        simp (disch := omega) [hX, hg, hY, hce, hc0, c34] at e
        subst e
        refine hk2 _ _ ee j ?_ ?_ ((hfin _ _ _ hnf).1 ee (by rw [Nat.zero_add, zC2]; exact g3))
        · (try dsimp only at g1); omega
        · exact ut_
    | cons x r3 =>
      have hx2 : s[i + 2]? = some x := zB7 (hd2.trans hr)
      have B2 : ∀ (h : CHeap) (hf : Fit h) (hg : zA3 h.ents p = some (lx s (i : Int) 0 t)) (hp : p < h.next) (K : CVal → CHeap → Prop) (hk : ∀ n' ty, h.next ≤ n' → zA4 ty n' → K (.int .u8 (x.toNat : Int)) ⟨h.ents, n', ty⟩), Wc tree.getF 32 [.ptr p d 0, .int .i64 2] h K := fun h hf hg hp K hk => zIa s i 2 0 t x hs (by omega) hx2 h p d hf hg hp K hk
      have DG := zHk x
      by_cases hxx : 0 ≤ dgI x
      · have hxh : zAv.contains x = true := by
          have := zDe (p := fun c => !(decide (0 ≤ dgI c)) || zAv.contains c) (by decide +kernel) x
          simpa [hxx] using this
        have hnf : numF (c :: 120 :: r2) = (16, 2, fr zAv r2) := by unfold numF; rw [if_pos ⟨by rw [hc48]; first | exact .inl rfl | exact .inr rfl, by rw [hdr2, hr, zIp hxh]; simp⟩, hdr2]
        refine Wc.mkG 34 c34 (by kernel_rfl) rfl ?_
        generalize e : zA9 _ _ _ = r
        simp (disch := omega) [hX, hg, hY, hce, hc0, c34] at e
        subst e
        repeat (first | refine sq_ ?_ | refine bl_ ?_ | ((first | refine rg_ ?_ | refine go_ ?_); generalize e : goR _ _ _ _ _ _ _ _ = r; simp (disch := omega) [hX, hg, hY, hce, hc0] at e; replace e : some _ = _ := e; subst e; (try dsimp only [goW])) | refine ct_ rfl ?_ | refine cf_ rfl ?_ | refine sk_ ?_ | refine ex_ ?_ | (refine S1 _ ?_ ?_ ?_ _ fun n1 tyn1 hn1 hun1 => ⟨rfl, ?_⟩; exact fit_; exact ge_; (try dsimp only); omega; (try dsimp only at hn1)) | (refine S2 _ ?_ ?_ ?_ _ fun n1 tyn1 hn1 hun1 => ⟨rfl, ?_⟩; exact fit_; exact ge_; (try dsimp only); omega; (try dsimp only at hn1)) | (refine B2 _ ?_ ?_ ?_ _ fun n1 tyn1 hn1 hun1 => ⟨rfl, ?_⟩; exact fit_; exact ge_; (try dsimp only); omega; (try dsimp only at hn1)) | (refine DG _ ?_ _ fun n1 tyn1 hn1 hun1 => ⟨rfl, ?_⟩; exact fit_; (try dsimp only at hn1)))
        refine zKj s hs p d _ _ t (i : Int) ?_ _ (r2) (i + 2) ?_ ?_ _ _ _ _ _ _ _ _ _ ?_ ?_ ?_ ?_ ?_ ?_ ?_
        · omega
        · exact hd2
        · (simp at hlen ⊢; omega)
        · (simp (disch := omega) [zA3, zA0, zBj, zBk, zA5, hg, hG])
        · (simp (disch := omega) [zA3, zA0, zBj, zBk, zA5, hg, hG])
        · exact fit_
        · (try dsimp only); omega
        · (try dsimp only); omega
        · intro n' ty w4 w5 w7 w8 w9 w11 w12 v g1 g2 g3
          refine endW.of (.inl rfl) rfl ?_
          generalize e : zAj _ _ _ = r
          simp (disch := omega) [hX, hg, hY, hce, hc0, c34] at e
          subst e
          rw [Int.add_assoc]; refine hk1 _ _ v (2 + (fr zAv r2).length) ?_ ?_ (by have := (hfin _ _ _ hnf).2 v (by rw [← List.drop_drop, hdr2, zC2]; exact g3); first | exact this | rwa [Nat.zero_add] at this)
          · (try dsimp only at g1); omega
          · exact ut_
        · intro n' ty w4 w5 w7 w8 w9 w11 w12 ee j g1 g2 g3
          refine endW.of (.inl rfl) rfl ?_
          generalize e : zAj _ _ _ = r
          simp (disch := omega) [hX, hg, hY, hce, hc0, c34] at e
          subst e
          refine hk2 _ _ ee j ?_ ?_ ((hfin _ _ _ hnf).1 ee (by rw [← List.drop_drop, hdr2, zC2]; exact g3))
          · (try dsimp only at g1); omega
          · exact ut_
      · have hxh : zAv.contains x = false := by
          have := zDe (p := fun c => decide (0 ≤ dgI c) || !(zAv.contains c)) (by decide +kernel) x
          simpa [hxx] using this
        have hnf : numF (c :: 120 :: r2) = (8, 0, fr D8 (c :: 120 :: r2)) := by unfold numF; rw [if_neg (by rintro ⟨_, h⟩; rw [hdr2, hr, fr_no hxh] at h; exact absurd h (by decide)), if_pos (by rw [hc48]; rfl)]
        refine Wc.mkG 34 c34 (by kernel_rfl) rfl ?_
        generalize e : zA9 _ _ _ = r
        simp (disch := omega) [hX, hg, hY, hce, hc0, c34] at e
        subst e
        repeat (first | refine sq_ ?_ | refine bl_ ?_ | ((first | refine rg_ ?_ | refine go_ ?_); generalize e : goR _ _ _ _ _ _ _ _ = r; simp (disch := omega) [hX, hg, hY, hce, hc0] at e; replace e : some _ = _ := e; subst e; (try dsimp only [goW])) | refine ct_ rfl ?_ | refine cf_ rfl ?_ | refine sk_ ?_ | refine ex_ ?_ | (refine S1 _ ?_ ?_ ?_ _ fun n1 tyn1 hn1 hun1 => ⟨rfl, ?_⟩; exact fit_; exact ge_; (try dsimp only); omega; (try dsimp only at hn1)) | (refine S2 _ ?_ ?_ ?_ _ fun n1 tyn1 hn1 hun1 => ⟨rfl, ?_⟩; exact fit_; exact ge_; (try dsimp only); omega; (try dsimp only at hn1)) | (refine B2 _ ?_ ?_ ?_ _ fun n1 tyn1 hn1 hun1 => ⟨rfl, ?_⟩; exact fit_; exact ge_; (try dsimp only); omega; (try dsimp only at hn1)) | (refine DG _ ?_ _ fun n1 tyn1 hn1 hun1 => ⟨rfl, ?_⟩; exact fit_; (try dsimp only at hn1)))
        refine zFp s hs p d _ _ t (i : Int) ?_ _ (c :: 120 :: r2) (i) ?_ ?_ _ _ _ _ _ _ _ _ _ ?_ ?_ ?_ ?_ ?_ ?_ ?_
        · omega
        · exact hd
        · exact hlen
        · (simp (disch := omega) [zA3, zA0, zBj, zBk, zA5, hg, hG])
        · (simp (disch := omega) [zA3, zA0, zBj, zBk, zA5, hg, hG])
        · exact fit_
        · (try dsimp only); omega
        · (try dsimp only); omega
        · intro n' ty w4 w5 w7 w8 w9 w11 w12 v g1 g2 g3
          refine endW.of (.inl rfl) rfl ?_
          generalize e : zAj _ _ _ = r
          simp (disch := omega) [hX, hg, hY, hce, hc0, c34] at e
          subst e
          refine hk1 _ _ v _ ?_ ?_ (by have := (hfin _ _ _ hnf).2 v (by rw [Nat.zero_add, zC2]; exact g3); first | exact this | rwa [Nat.zero_add] at this)
          · (try dsimp only at g1); omega
          · exact ut_
        · intro n' ty w4 w5 w7 w8 w9 w11 w12 ee j g1 g2 g3
          refine endW.of (.inl rfl) rfl ?_
          generalize e : zAj _ _ _ = r
          simp (disch := omega) [hX, hg, hY, hce, hc0, c34] at e
          subst e
          refine hk2 _ _ ee j ?_ ?_ ((hfin _ _ _ hnf).1 ee (by rw [Nat.zero_add, zC2]; exact g3))
          · (try dsimp only at g1); omega
          · exact ut_
  · have S1 : ∀ (h : CHeap) (hf : Fit h) (hg : zA3 h.ents p = some (lx s (i : Int) 0 t)) (hp : p < h.next) (K : CVal → CHeap → Prop) (hk : ∀ n' ty, h.next ≤ n' → zA4 ty n' → K (.bool false) ⟨h.ents, n', ty⟩), Wc tree.getF 29 [.ptr p d 0, .str [48, 120]] h K := fun h hf hg hp K hk => by
        by_cases hle : i + 2 ≤ s.length
        · exact zGv s i 0 t [48, 120] hs hle (by rw [hd]; simpa using hT1) h p d hf hg hp K hk
        · exact zHg s i 0 t [48, 120] hs (by omega) (by simp) (by simp; omega) h p d hf hg hp K hk
    by_cases hT2 : (c :: r).take 2 = [48, 88]
    · obtain ⟨r2, hcr⟩ : ∃ r2, c :: r = 48 :: 88 :: r2 := ⟨(c :: r).drop 2, by have := List.take_append_drop 2 (c :: r); rw [hT2] at this; exact this.symm⟩
      have hc48 : c = 48 := by injection hcr
      have hr2 : r = 88 :: r2 := by injection hcr
      subst hr2
      have hd2 : s.drop (i + 2) = r2 := by rw [← List.drop_drop, hd]; rfl
      have hdr2 : (c :: 88 :: r2).drop 2 = r2 := rfl
      have hcn : c.toNat = 48 := by rw [hc48]; rfl
      have S2 : ∀ (h : CHeap) (hf : Fit h) (hg : zA3 h.ents p = some (lx s (i : Int) 0 t)) (hp : p < h.next) (K : CVal → CHeap → Prop) (hk : ∀ n' ty, h.next ≤ n' → zA4 ty n' → K (.bool true) ⟨h.ents, n', ty⟩), Wc tree.getF 29 [.ptr p d 0, .str [48, 88]] h K := fun h hf hg hp K hk => zH6 s i 0 t [48, 88] hs (by rw [hd]; exact hT2) (by simp at hlen ⊢; omega) h p d hf hg hp K hk
      cases hr : r2 with
      | nil =>
        subst hr
        have B2 : ∀ (h : CHeap) (hf : Fit h) (hg : zA3 h.ents p = some (lx s (i : Int) 0 t)) (hp : p < h.next) (K : CVal → CHeap → Prop) (hk : ∀ n' ty, h.next ≤ n' → zA4 ty n' → K (.int .u8 0) ⟨h.ents, n', ty⟩), Wc tree.getF 32 [.ptr p d 0, .int .i64 2] h K := fun h hf hg hp K hk => zJ1 s i 2 0 t hs (by omega) (by omega) (by simp at hlen; omega) h p d hf hg hp K hk
        have DG := Digit_0
        have hnf : numF (c :: 88 :: []) = (8, 0, fr D8 (c :: 88 :: [])) := by unfold numF; rw [if_neg (by rintro ⟨_, h⟩; simp [fr] at h), if_pos (by rw [hc48]; rfl)]
        refine Wc.mkG 34 c34 (by kernel_rfl) rfl ?_
        generalize e : zA9 _ _ _ = r
        simp (disch := omega) [hX, hg, hY, hce, hc0, c34] at e
        subst e
        repeat (first | refine sq_ ?_ | refine bl_ ?_ | ((first | refine rg_ ?_ | refine go_ ?_); generalize e : goR _ _ _ _ _ _ _ _ = r; simp (disch := omega) [hX, hg, hY, hce, hc0] at e; replace e : some _ = _ := e; subst e; (try dsimp only [goW])) | refine ct_ rfl ?_ | refine cf_ rfl ?_ | refine sk_ ?_ | refine ex_ ?_ | (refine S1 _ ?_ ?_ ?_ _ fun n1 tyn1 hn1 hun1 => ⟨rfl, ?_⟩; exact fit_; exact ge_; (try dsimp only); omega; (try dsimp only at hn1)) | (refine S2 _ ?_ ?_ ?_ _ fun n1 tyn1 hn1 hun1 => ⟨rfl, ?_⟩; exact fit_; exact ge_; (try dsimp only); omega; (try dsimp only at hn1)) | (refine B2 _ ?_ ?_ ?_ _ fun n1 tyn1 hn1 hun1 => ⟨rfl, ?_⟩; exact fit_; exact ge_; (try dsimp only); omega; (try dsimp only at hn1)) | (refine DG _ ?_ _ fun n1 tyn1 hn1 hun1 => ⟨rfl, ?_⟩; exact fit_; (try dsimp only at hn1)))
        refine zFp s hs p d _ _ t (i : Int) ?_ _ (c :: 88 :: []) (i) ?_ ?_ _ _ _ _ _ _ _ _ _ ?_ ?_ ?_ ?_ ?_ ?_ ?_
        · omega
        · exact hd
        · exact hlen
        · (simp (disch := omega) [zA3, zA0, zBj, zBk, zA5, hg, hG])
        · (simp (disch := omega) [zA3, zA0, zBj, zBk, zA5, hg, hG])
        · exact fit_
        · (try dsimp only); omega
        · (try dsimp only); omega
        · intro n' ty w4 w5 w7 w8 w9 w11 w12 v g1 g2 g3
          refine endW.of (.inl rfl) rfl ?_
          generalize e : zAj _ _ _ = r
          simp (disch := omega) [hX, hg, hY, hce, hc0, c34] at e
          subst e
          refine hk1 _ _ v _ ?_ ?_ (by have := (hfin _ _ _ hnf).2 v (by rw [Nat.zero_add, zC2]; exact g3); first | exact this | rwa [Nat.zero_add] at this)
          · (try dsimp only at g1); omega
          · exact ut_
        · intro n' ty w4 w5 w7 w8 w9 w11 w12 ee j g1 g2 g3
          refine endW.of (.inl rfl) rfl ?_
          generalize e : zAj _ _ _ = r
          simp (disch := omega) [hX, hg, hY, hce, hc0, c34] at e
          subst e
          refine hk2 _ _ ee j ?_ ?_ ((hfin _ _ _ hnf).1 ee (by rw [Nat.zero_add, zC2]; exact g3))
          · (try dsimp only at g1); omega
          · exact ut_
      | cons x r3 =>
        have hx2 : s[i + 2]? = some x := zB7 (hd2.trans hr)
        have B2 : ∀ (h : CHeap) (hf : Fit h) (hg : zA3 h.ents p = some (lx s (i : Int) 0 t)) (hp : p < h.next) (K : CVal → CHeap → Prop) (hk : ∀ n' ty, h.next ≤ n' → zA4 ty n' → K (.int .u8 (x.toNat : Int)) ⟨h.ents, n', ty⟩), Wc tree.getF 32 [.ptr p d 0, .int .i64 2] h K := fun h hf hg hp K hk => zIa s i 2 0 t x hs (by omega) hx2 h p d hf hg hp K hk
        have DG := zHk x
        by_cases hxx : 0 ≤ dgI x
        · have hxh : zAv.contains x = true := by
            have := zDe (p := fun c => !(decide (0 ≤ dgI c)) || zAv.contains c) (by decide +kernel) x
            simpa [hxx] using this
          have hnf : numF (c :: 88 :: r2) = (16, 2, fr zAv r2) := by unfold numF; rw [if_pos ⟨by rw [hc48]; first | exact .inl rfl | exact .inr rfl, by rw [hdr2, hr, zIp hxh]; simp⟩, hdr2]
          refine Wc.mkG 34 c34 (by kernel_rfl) rfl ?_
          generalize e : zA9 _ _ _ = r
          simp (disch := omega) [hX, hg, hY, hce, hc0, c34] at e
          subst e
          repeat (first | refine sq_ ?_ | refine bl_ ?_ | ((first | refine rg_ ?_ | refine go_ ?_); generalize e : goR _ _ _ _ _ _ _ _ = r; simp (disch := omega) [hX, hg, hY, hce, hc0] at e; replace e : some _ = _ := e; subst e; (try dsimp only [goW])) | refine ct_ rfl ?_ | refine cf_ rfl ?_ | refine sk_ ?_ | refine ex_ ?_ | (refine S1 _ ?_ ?_ ?_ _ fun n1 tyn1 hn1 hun1 => ⟨rfl, ?_⟩; exact fit_; exact ge_; (try dsimp only); omega; (try dsimp only at hn1)) | (refine S2 _ ?_ ?_ ?_ _ fun n1 tyn1 hn1 hun1 => ⟨rfl, ?_⟩; exact fit_; exact ge_; (try dsimp only); omega; (try dsimp only at hn1)) | (refine B2 _ ?_ ?_ ?_ _ fun n1 tyn1 hn1 hun1 => ⟨rfl, ?_⟩; exact fit_; exact ge_; (try dsimp only); omega; (try dsimp only at hn1)) | (refine DG _ ?_ _ fun n1 tyn1 hn1 hun1 => ⟨rfl, ?_⟩; exact fit_; (try dsimp only at hn1)))
          refine zKj s hs p d _ _ t (i : Int) ?_ _ (r2) (i + 2) ?_ ?_ _ _ _ _ _ _ _ _ _ ?_ ?_ ?_ ?_ ?_ ?_ ?_
          · omega
          · exact hd2
          · (simp at hlen ⊢; omega)
          · (simp (disch := omega) [zA3, zA0, zBj, zBk, zA5, hg, hG])
          · (simp (disch := omega) [zA3, zA0, zBj, zBk, zA5, hg, hG])
          · exact fit_
          · (try dsimp only); omega
          · (try dsimp only); omega
          · intro n' ty w4 w5 w7 w8 w9 w11 w12 v g1 g2 g3
            refine endW.of (.inl rfl) rfl ?_
            generalize e : zAj _ _ _ = r
            simp (disch := omega) [hX, hg, hY, hce, hc0, c34] at e
            subst e
            rw [Int.add_assoc]; refine hk1 _ _ v (2 + (fr zAv r2).length) ?_ ?_ (by have := (hfin _ _ _ hnf).2 v (by rw [← List.drop_drop, hdr2, zC2]; exact g3); first | exact this | rwa [Nat.zero_add] at this)
            · (try dsimp only at g1); omega
            · exact ut_
          · intro n' ty w4 w5 w7 w8 w9 w11 w12 ee j g1 g2 g3
            refine endW.of (.inl rfl) rfl ?_
            generalize e : zAj _ _ _ = r
            simp (disch := omega) [hX, hg, hY, hce, hc0, c34] at e
            subst e
            refine hk2 _ _ ee j ?_ ?_ ((hfin _ _ _ hnf).1 ee (by rw [← List.drop_drop, hdr2, zC2]; exact g3))
            · (try dsimp only at g1); omega
            · exact ut_
        · have hxh : zAv.contains x = false := by
            have := zDe (p := fun c => decide (0 ≤ dgI c) || !(zAv.contains c)) (by decide +kernel) x
            simpa [hxx] using this
          have hnf : numF (c :: 88 :: r2) = (8, 0, fr D8 (c :: 88 :: r2)) := by unfold numF; rw [if_neg (by rintro ⟨_, h⟩; rw [hdr2, hr, fr_no hxh] at h; exact absurd h (by decide)), if_pos (by rw [hc48]; rfl)]
          refine Wc.mkG 34 c34 (by kernel_rfl) rfl ?_
          generalize e : zA9 _ _ _ = r
          simp (disch := omega) [hX, hg, hY, hce, hc0, c34] at e
          subst e
          repeat (first | refine sq_ ?_ | refine bl_ ?_ | ((first | refine rg_ ?_ | refine go_ ?_); generalize e : goR _ _ _ _ _ _ _ _ = r; simp (disch := omega) [hX, hg, hY, hce, hc0] at e; replace e : some _ = _ := e; subst e; (try dsimp only [goW])) | refine ct_ rfl ?_ | refine cf_ rfl ?_ | refine sk_ ?_ | refine ex_ ?_ | (refine S1 _ ?_ ?_ ?_ _ fun n1 tyn1 hn1 hun1 => ⟨rfl, ?_⟩; exact fit_; exact ge_; (try dsimp only); omega; (try dsimp only at hn1)) | (refine S2 _ ?_ ?_ ?_ _ fun n1 tyn1 hn1 hun1 => ⟨rfl, ?_⟩; exact fit_; exact ge_; (try dsimp only); omega; (try dsimp only at hn1)) | (refine B2 _ ?_ ?_ ?_ _ fun n1 tyn1 hn1 hun1 => ⟨rfl, ?_⟩; exact fit_; exact ge_; (try dsimp only); omega; (try dsimp only at hn1)) | (refine DG _ ?_ _ fun n1 tyn1 hn1 hun1 => ⟨rfl, ?_⟩; exact fit_; (try dsimp only at hn1)))
          refine zFp s hs p d _ _ t (i : Int) ?_ _ (c :: 88 :: r2) (i) ?_ ?_ _ _ _ _ _ _ _ _ _ ?_ ?_ ?_ ?_ ?_ ?_ ?_
          · omega
          · exact hd
          · exact hlen
          · (simp (disch := omega) [zA3, zA0, zBj, zBk, zA5, hg, hG])
          · (simp (disch := omega) [zA3, zA0, zBj, zBk, zA5, hg, hG])
          · exact fit_
          · (try dsimp only); omega
          · (try dsimp only); omega
          · intro n' ty w4 w5 w7 w8 w9 w11 w12 v g1 g2 g3
            refine endW.of (.inl rfl) rfl ?_
            generalize e : zAj _ _ _ = r
            simp (disch := omega) [hX, hg, hY, hce, hc0, c34] at e
            subst e
            refine hk1 _ _ v _ ?_ ?_ (by have := (hfin _ _ _ hnf).2 v (by rw [Nat.zero_add, zC2]; exact g3); first | exact this | rwa [Nat.zero_add] at this)
            · (try dsimp only at g1); omega
            · exact ut_
          · intro n' ty w4 w5 w7 w8 w9 w11 w12 ee j g1 g2 g3
            refine endW.of (.inl rfl) rfl ?_
            generalize e : zAj _ _ _ = r
            simp (disch := omega) [hX, hg, hY, hce, hc0, c34] at e
            subst e
            refine hk2 _ _ ee j ?_ ?_ ((hfin _ _ _ hnf).1 ee (by rw [Nat.zero_add, zC2]; exact g3))
            · (try dsimp only at g1); omega
            · exact ut_
    · have S2 : ∀ (h : CHeap) (hf : Fit h) (hg : zA3 h.ents p = some (lx s (i : Int) 0 t)) (hp : p < h.next) (K : CVal → CHeap → Prop) (hk : ∀ n' ty, h.next ≤ n' → zA4 ty n' → K (.bool false) ⟨h.ents, n', ty⟩), Wc tree.getF 29 [.ptr p d 0, .str [48, 88]] h K := fun h hf hg hp K hk => by
          by_cases hle : i + 2 ≤ s.length
          · exact zGv s i 0 t [48, 88] hs hle (by rw [hd]; simpa using hT2) h p d hf hg hp K hk
          · exact zHg s i 0 t [48, 88] hs (by omega) (by simp) (by simp; omega) h p d hf hg hp K hk
      have hnP : ¬ (((c :: r).take 2 = [48, 120] ∨ (c :: r).take 2 = [48, 88]) ∧ 0 < (fr zAv ((c :: r).drop 2)).length) := by rintro ⟨h | h, _⟩; exact hT1 h; exact hT2 h
      by_cases h48 : c = 48
      · have hnf : numF (c :: r) = (8, 0, fr D8 (c :: r)) := by unfold numF; rw [if_neg hnP, if_pos (by rw [h48]; rfl)]
        have hcn : c.toNat = 48 := by rw [h48]; rfl
        refine Wc.mkG 34 c34 (by kernel_rfl) rfl ?_
        generalize e : zA9 _ _ _ = r
        simp (disch := omega) [hX, hg, hY, hce, hc0, c34] at e
        subst e
        repeat (first | refine sq_ ?_ | refine bl_ ?_ | ((first | refine rg_ ?_ | refine go_ ?_); generalize e : goR _ _ _ _ _ _ _ _ = r; simp (disch := omega) [hX, hg, hY, hce, hc0] at e; replace e : some _ = _ := e; subst e; (try dsimp only [goW])) | refine ct_ rfl ?_ | refine cf_ rfl ?_ | refine sk_ ?_ | refine ex_ ?_ | (refine S1 _ ?_ ?_ ?_ _ fun n1 tyn1 hn1 hun1 => ⟨rfl, ?_⟩; exact fit_; exact ge_; (try dsimp only); omega; (try dsimp only at hn1)) | (refine S2 _ ?_ ?_ ?_ _ fun n1 tyn1 hn1 hun1 => ⟨rfl, ?_⟩; exact fit_; exact ge_; (try dsimp only); omega; (try dsimp only at hn1)) | (refine B2 _ ?_ ?_ ?_ _ fun n1 tyn1 hn1 hun1 => ⟨rfl, ?_⟩; exact fit_; exact ge_; (try dsimp only); omega; (try dsimp only at hn1)) | (refine DG _ ?_ _ fun n1 tyn1 hn1 hun1 => ⟨rfl, ?_⟩; exact fit_; (try dsimp only at hn1)))
        refine zFp s hs p d _ _ t (i : Int) ?_ _ (c :: r) (i) ?_ ?_ _ _ _ _ _ _ _ _ _ ?_ ?_ ?_ ?_ ?_ ?_ ?_
        · omega
        · exact hd
        · exact hlen
        · (simp (disch := omega) [zA3, zA0, zBj, zBk, zA5, hg, hG])
        · (simp (disch := omega) [zA3, zA0, zBj, zBk, zA5, hg, hG])
        · exact fit_
        · (try dsimp only); omega
        · (try dsimp only); omega
        · intro n' ty w4 w5 w7 w8 w9 w11 w12 v g1 g2 g3
          refine endW.of (.inl rfl) rfl ?_
          generalize e : zAj _ _ _ = r
          simp (disch := omega) [hX, hg, hY, hce, hc0, c34] at e
          subst e
          refine hk1 _ _ v _ ?_ ?_ (by have := (hfin _ _ _ hnf).2 v (by rw [Nat.zero_add, zC2]; exact g3); first | exact this | rwa [Nat.zero_add] at this)
          · (try dsimp only at g1); omega
          · exact ut_
        · intro n' ty w4 w5 w7 w8 w9 w11 w12 ee j g1 g2 g3
          refine endW.of (.inl rfl) rfl ?_
          generalize e : zAj _ _ _ = r
          simp (disch := omega) [hX, hg, hY, hce, hc0, c34] at e
          subst e
          refine hk2 _ _ ee j ?_ ?_ ((hfin _ _ _ hnf).1 ee (by rw [Nat.zero_add, zC2]; exact g3))
          · (try dsimp only at g1); omega
          · exact ut_
      · have hnf : numF (c :: r) = (10, 0, fr D10 (c :: r)) := by unfold numF; rw [if_neg hnP, if_neg (by simp [h48])]
        have hcn : ¬ c.toNat = 48 := fun e => h48 (UInt8.toNat_inj.1 e)
        refine Wc.mkG 34 c34 (by kernel_rfl) rfl ?_
        generalize e : zA9 _ _ _ = r
        simp (disch := omega) [hX, hg, hY, hce, hc0, c34] at e
        subst e
        repeat (first | refine sq_ ?_ | refine bl_ ?_ | ((first | refine rg_ ?_ | refine go_ ?_); generalize e : goR _ _ _ _ _ _ _ _ = r; simp (disch := omega) [hX, hg, hY, hce, hc0] at e; replace e : some _ = _ := e; subst e; (try dsimp only [goW])) | refine ct_ rfl ?_ | refine cf_ rfl ?_ | refine sk_ ?_ | refine ex_ ?_ | (refine S1 _ ?_ ?_ ?_ _ fun n1 tyn1 hn1 hun1 => ⟨rfl, ?_⟩; exact fit_; exact ge_; (try dsimp only); omega; (try dsimp only at hn1)) | (refine S2 _ ?_ ?_ ?_ _ fun n1 tyn1 hn1 hun1 => ⟨rfl, ?_⟩; exact fit_; exact ge_; (try dsimp only); omega; (try dsimp only at hn1)) | (refine B2 _ ?_ ?_ ?_ _ fun n1 tyn1 hn1 hun1 => ⟨rfl, ?_⟩; exact fit_; exact ge_; (try dsimp only); omega; (try dsimp only at hn1)) | (refine DG _ ?_ _ fun n1 tyn1 hn1 hun1 => ⟨rfl, ?_⟩; exact fit_; (try dsimp only at hn1)))
        refine num_rest10 s hs p d _ _ t (i : Int) ?_ _ (c :: r) (i) ?_ ?_ _ _ _ _ _ _ _ _ _ ?_ ?_ ?_ ?_ ?_ ?_ ?_
        · omega
        · exact hd
        · exact hlen
        · (simp (disch := omega) [zA3, zA0, zBj, zBk, zA5, hg, hG])
        · (simp (disch := omega) [zA3, zA0, zBj, zBk, zA5, hg, hG])
        · exact fit_
        · (try dsimp only); omega
        · (try dsimp only); omega
        · intro n' ty w4 w5 w7 w8 w9 w11 w12 v g1 g2 g3
          refine endW.of (.inl rfl) rfl ?_
          generalize e : zAj _ _ _ = r
          simp (disch := omega) [hX, hg, hY, hce, hc0, c34] at e
          subst e
          refine hk1 _ _ v _ ?_ ?_ (by have := (hfin _ _ _ hnf).2 v (by rw [Nat.zero_add, zC2]; exact g3); first | exact this | rwa [Nat.zero_add] at this)
          · (try dsimp only at g1); omega
          · exact ut_
        · intro n' ty w4 w5 w7 w8 w9 w11 w12 ee j g1 g2 g3
          refine endW.of (.inl rfl) rfl ?_
          generalize e : zAj _ _ _ = r
          simp (disch := omega) [hX, hg, hY, hce, hc0, c34] at e
          subst e
          refine hk2 _ _ ee j ?_ ?_ ((hfin _ _ _ hnf).1 ee (by rw [Nat.zero_add, zC2]; exact g3))
          · (try dsimp only at g1); omega
          · exact ut_
abbrev txLoop : CCode := (.loop true (.seq (.seq (.region [.v 0, .n 0, .f 1 0, .l 0, .v 0, .n 0, .f 0 0, .l 0, .g (.len true (.loc 0)), .g (.bin .lss (.loc 5) (.loc 0))] [(2, 9)] [] []) (.cond (.var 2) .skip (.exit 0))) (.seq (.block 1 (.seq (.region [.v 0, .n 0, .f 0 0, .l 0, .v 0, .n 0, .f 1 0, .l 0, .g (.idxStr (.loc 4) (.loc 0)), .m (.loc 0)] [(3, 9)] [] []) (.seq (.block 2 (.seq (.region [.v 3, .v 4, .g (.bin .eql (.loc 1) (.loc 0)), .m (.loc 0)] [(5, 3)] [] []) (.cond (.var 5) (.seq (.region [.v 0, .n 0, .f 1 0, .l 0, .g (.bin .add (.loc 0) (.const (.int .i64 1))), .n 4, .f 1 0, .g (.store 1 (.loc 0) (.loc 2))] [] [] []) (.seq (.seq (.region [.v 6, .g (.call false 47 [(.loc 0)]), .g (.not (.loc 0))] [(7, 2)] [] []) (.cond (.var 7) (.seq (.region [.v 0, .v 1, .g (.call false 30 [(.loc 1), (.const (.int .i64 2)), (.loc 0)]), .g (.store 4 (.var 8) (.loc 0))] [] [] []) .ret) .skip)) (.seq (.region [.v 6, .v 1, .g (.build [(.int .i64 0), (.str []), (.int .u64 0), (.int .i64 0)] [(0, 1, (.const (.int .i64 3))), (1, 1, (.loc 1)), (3, 1, (.loc 0))]), .g (.store 4 (.var 8) (.loc 0))] [] [] []) .ret))) (.seq (.region [.v 3, .g (.bin .eql (.loc 0) (.const (.int .u8 10))), .m (.loc 0)] [(9, 2)] [] []) (.cond (.var 9) (.seq (.region [.v 0, .v 1, .g (.call false 30 [(.loc 1), (.const (.int .i64 2)), (.loc 0)]), .g (.store 4 (.var 8) (.loc 0))] [] [] []) .ret) (.seq (.region [.v 3, .g (.bin .neq (.loc 0) (.const (.int .u8 92))), .m (.loc 0)] [(10, 2)] [] []) (.cond (.var 10) (.seq (.region [.v 6, .v 0, .n 0, .f 0 0, .l 0, .v 0, .n 0, .f 1 0, .l 0, .v 0, .n 0, .f 1 0, .l 0, .g (.bin .add (.loc 0) (.const (.int .i64 1))), .g (.slc 0 (.loc 9) (some (.loc 5)) (some (.loc 0))), .g (.bin .add (.loc 14) (.loc 0)), .m (.loc 0)] [(6, 16)] [] []) (.exit 1)) .skip))))))) (.seq (.region [.v 0, .n 0, .f 1 0, .l 0, .g (.bin .add (.loc 0) (.const (.int .i64 1))), .n 4, .f 1 0, .g (.store 1 (.loc 0) (.loc 2))] [] [] []) (.seq (.region [.v 0, .g (.call false 32 [(.loc 0), (.const (.int .i64 0))])] [(11, 1)] [] []) (.block 3 (.seq (.region [.g (.bin .eql (.var 11) (.const (.int .u8 110))), .m (.loc 0)] [(12, 1)] [] []) (.cond (.var 12) (.region [.v 6, .g (.bin .add (.loc 0) (.const (.str [10]))), .m (.loc 0)] [(6, 2)] [] []) (.seq (.seq (.region [.g (.bin .eql (.var 11) (.const (.int .u8 92))), .m (.loc 0)] [(13, 1)] [] []) (.cond (.var 13) .skip (.seq (.region [.g (.bin .eql (.var 11) (.const (.int .u8 34))), .m (.loc 0)] [(13, 1)] [] []) (.cond (.var 13) .skip (.region [.g (.bin .eql (.var 11) (.const (.int .u8 39))), .m (.loc 0)] [(13, 1)] [] []))))) (.cond (.var 13) (.region [.v 6, .v 0, .n 0, .f 0 0, .l 0, .v 0, .n 0, .f 1 0, .l 0, .v 0, .n 0, .f 1 0, .l 0, .g (.bin .add (.loc 0) (.const (.int .i64 1))), .g (.slc 0 (.loc 9) (some (.loc 5)) (some (.loc 0))), .g (.bin .add (.loc 14) (.loc 0)), .m (.loc 0)] [(6, 16)] [] []) (.seq (.region [.v 0, .v 1, .g (.call false 30 [(.loc 1), (.const (.int .i64 2)), (.loc 0)]), .g (.store 4 (.var 8) (.loc 0))] [] [] []) .ret))))))))))) (.region [.v 0, .n 0, .f 1 0, .l 0, .g (.bin .add (.loc 0) (.const (.int .i64 1))), .n 4, .f 1 0, .g (.store 1 (.loc 0) (.loc 2))] [] [] []))))
theorem ref_text (vl : List UInt8 → Bool) (hV : ∀ x : List UInt8, x.length < 70000 → Pu tree.getF 47 [.str x] (.bool (vl x))) (s : List UInt8) (hs : s.length < 60000) (p d m dm : Nat) (t at' : Int) (q : UInt8) (hmp : m ≠ p) (Q : CExit → CSt → Prop) : ∀ (n : Nat) (r acc : List UInt8) (i : Nat), r.length ≤ n → s.drop i = r → i + r.length = s.length → acc.length ≤ i → ∀ (h : CHeap) (v2 v3 v5 v7 v9 v10 v11 v12 v13 : CVal), zA3 h.ents p = some (lx s (i : Int) 0 t) → zA3 h.ents m = some Z4 → Fit h → p < h.next → m < h.next →
    (∀ n' ty w2 w3 w5 w7 w9 w10 w11 w12 w13 w6 txt k, h.next ≤ n' → zA4 ty n' → zAu q r acc i = some (txt, k) → vl txt = true → Q .ret ⟨[.ptr p d 0, .int .i64 at', w2, w3, .int .u8 (q.toNat : Int), w5, w6, w7, .ptr m dm 0, w9, w10, w11, w12, w13], ⟨zA0 (zA0 h.ents p (lx s (k : Int) 0 t)) m (.cells [.int .i64 3, .str txt, .int .u64 0, .int .i64 at']), n', ty⟩, []⟩) →
    (∀ n' ty w2 w3 w5 w7 w9 w10 w11 w12 w13 w6 (j : Int), h.next ≤ n' → zA4 ty n' → (zAu q r acc i = none ∨ ∃ txt k, zAu q r acc i = some (txt, k) ∧ vl txt = false) → Q .ret ⟨[.ptr p d 0, .int .i64 at', w2, w3, .int .u8 (q.toNat : Int), w5, w6, w7, .ptr m dm 0, w9, w10, w11, w12, w13], ⟨zA0 h.ents p (lx s j 2 at'), n', ty⟩, []⟩) →
    (∀ n' ty w2 w3 w5 w7 w9 w10 w11 w12 w13 w6 (j : Int), h.next ≤ n' → zA4 ty n' → zAu q r acc i = none → Q (.exit 0) ⟨[.ptr p d 0, .int .i64 at', w2, w3, .int .u8 (q.toNat : Int), w5, w6, w7, .ptr m dm 0, w9, w10, w11, w12, w13], ⟨zA0 h.ents p (lx s j 0 t), n', ty⟩, []⟩) →
    W tree.getF txLoop ⟨[.ptr p d 0, .int .i64 at', v2, v3, .int .u8 (q.toNat : Int), v5, .str acc, v7, .ptr m dm 0, v9, v10, v11, v12, v13], h, []⟩ Q := by
  intro n
  induction n with
  | zero =>
    intro r acc i hn hd hlen hac h v2 v3 v5 v7 v9 v10 v11 v12 v13 hg hm hf hp hpm hk1 hk2 hk3
    obtain rfl : r = [] := List.length_eq_zero_iff.1 (by omega)
    simp only [List.length_nil, Nat.add_zero] at hlen
    have hk3' := fun n' ty w2 w3 w5 w7 w9 w10 w11 w12 w13 w6 g1 g2 => hk3 n' ty w2 w3 w5 w7 w9 w10 w11 w12 w13 w6 (i : Int) g1 g2 rfl
    simp only [zAm hg] at hk3'
    obtain ⟨hu, hut, hX⟩ := fx4 hf
    have hY := fx5 hf hg; have ⟨hG, hD2, hC2, hN2⟩ := hY
    have hM2 : ∀ x, zA3 (zA0 h.ents p x) m = some Z4 := fun x => by rw [zA2 hmp]; exact hm
    have hMS : ∀ x, zA0 (zA0 h.ents p x) m Z4 = zA0 h.ents p x := fun x => zAm (hM2 x)
    refine W.loop ?_
    repeat (first | refine sq_ ?_ | refine bl_ ?_ | ((first | refine rg_ ?_ | refine go_ ?_); generalize e : goR _ _ _ _ _ _ _ _ = r; simp (disch := omega) [hX, hg, hY, hm, hM2, hMS, hmp] at e; replace e : some _ = _ := e; subst e; (try dsimp only [goW])) | refine ct_ rfl ?_ | refine cf_ rfl ?_ | refine sk_ ?_ | refine ex_ ?_)
    all_goals ((try simp only [zAg, zA1, zA7]); refine hk3' _ _ _ _ _ _ _ _ _ _ _ _ ?_ ?_; omega; exact ut_)
  | succ n ih =>
    intro r acc i hn hd hlen hac h v2 v3 v5 v7 v9 v10 v11 v12 v13 hg hm hf hp hpm hk1 hk2 hk3
    cases r with
    | nil =>
      simp only [List.length_nil, Nat.add_zero] at hlen
      have hk3' := fun n' ty w2 w3 w5 w7 w9 w10 w11 w12 w13 w6 g1 g2 => hk3 n' ty w2 w3 w5 w7 w9 w10 w11 w12 w13 w6 (i : Int) g1 g2 rfl
      simp only [zAm hg] at hk3'
      obtain ⟨hu, hut, hX⟩ := fx4 hf
      have hY := fx5 hf hg; have ⟨hG, hD2, hC2, hN2⟩ := hY
      have hM2 : ∀ x, zA3 (zA0 h.ents p x) m = some Z4 := fun x => by rw [zA2 hmp]; exact hm
      have hMS : ∀ x, zA0 (zA0 h.ents p x) m Z4 = zA0 h.ents p x := fun x => zAm (hM2 x)
      refine W.loop ?_
      repeat (first | refine sq_ ?_ | refine bl_ ?_ | ((first | refine rg_ ?_ | refine go_ ?_); generalize e : goR _ _ _ _ _ _ _ _ = r; simp (disch := omega) [hX, hg, hY, hm, hM2, hMS, hmp] at e; replace e : some _ = _ := e; subst e; (try dsimp only [goW])) | refine ct_ rfl ?_ | refine cf_ rfl ?_ | refine sk_ ?_ | refine ex_ ?_)
      all_goals ((try simp only [zAg, zA1, zA7]); refine hk3' _ _ _ _ _ _ _ _ _ _ _ _ ?_ ?_; omega; exact ut_)
    | cons c r =>
      simp only [List.length_cons] at hlen hn
      have hc0 := zB7 hd
      obtain ⟨hi, hce⟩ := List.getElem?_eq_some_iff.1 hc0
      have hsl : (s.take (i + 1)).drop i = [c] := by rw [List.drop_take, show i + 1 - i = 1 by omega, hd]; rfl
      have hto : ((i : Int) + 1).toNat = i + 1 := by omega
      obtain ⟨hu, hut, hX⟩ := fx4 hf
      have hY := fx5 hf hg; have ⟨hG, hD2, hC2, hN2⟩ := hY
      have hM2 : ∀ x, zA3 (zA0 h.ents p x) m = some Z4 := fun x => by rw [zA2 hmp]; exact hm
      have hMS : ∀ x, zA0 (zA0 h.ents p x) m Z4 = zA0 h.ents p x := fun x => zAm (hM2 x)
      have hnext : ∀ (r' acc' : List UInt8) (i' : Nat), r'.length ≤ n → s.drop i' = r' → i' + r'.length = s.length → acc'.length ≤ i' → zAu q (c :: r) acc i = zAu q r' acc' i' → ∀ (h' : CHeap) (w2 w3 w5 w7 w9 w10 w11 w12 w13 : CVal), h'.ents = zA0 h.ents p (lx s (i' : Int) 0 t) → h.next ≤ h'.next → zA4 h'.tys h'.next → W tree.getF txLoop ⟨[.ptr p d 0, .int .i64 at', w2, w3, .int .u8 (q.toNat : Int), w5, .str acc', w7, .ptr m dm 0, w9, w10, w11, w12, w13], h', []⟩ Q := by
        intro r' acc' i' h1 h2 h3 h4 h5 h' w2 w3 w5 w7 w9 w10 w11 w12 w13 e1 e2 e3
        rw [h5] at hk1 hk2 hk3
        refine ih r' acc' i' h1 h2 h3 h4 h' _ _ _ _ _ _ _ _ _ (by rw [e1]; exact hG _) (by rw [e1]; exact hM2 _) ⟨by rw [e1]; exact hu.set.le e2, e3⟩ (by omega) (by omega) ?_ ?_ ?_
        · intro n' ty u2 u3 u5 u7 u9 u10 u11 u12 u13 u6 txt k g1 g2
          rw [e1, zA5]
          exact hk1 n' ty _ _ _ _ _ _ _ _ _ _ txt k (by omega) g2
        · intro n' ty u2 u3 u5 u7 u9 u10 u11 u12 u13 u6 j g1 g2
          rw [e1, zA5]
          exact hk2 n' ty _ _ _ _ _ _ _ _ _ _ j (by omega) g2
        · intro n' ty u2 u3 u5 u7 u9 u10 u11 u12 u13 u6 j g1 g2
          rw [e1, zA5]
          exact hk3 n' ty _ _ _ _ _ _ _ _ _ _ j (by omega) g2
      by_cases hcq : c.toNat = q.toNat
      · have hcq' : c = q := UInt8.toNat_inj.1 hcq
        have htf : zAu q (c :: r) acc i = some (acc, i + 1) := by unfold zAu; rw [if_pos hcq']
        have VA := hV acc (by omega)
        by_cases hva : vl acc = true
        · rw [hva] at VA
          refine W.loop ?_
          repeat (first | refine sq_ ?_ | refine bl_ ?_ | ((first | refine rg_ ?_ | refine go_ ?_); generalize e : goR _ _ _ _ _ _ _ _ = r; simp (disch := omega) [hX, hg, hY, hm, hM2, hMS, hmp, hce, hc0, hsl, hto] at e; replace e : some _ = _ := e; subst e; (try dsimp only [goW])) | refine ct_ rfl ?_ | refine cf_ rfl ?_ | refine sk_ ?_ | refine ex_ ?_ | (refine VA _ ?_ _ fun n1 tyn1 hn1 hun1 => ⟨rfl, ?_⟩; exact fit_; (try dsimp only at hn1)))
          all_goals ((try refine W.ret ?_); (try simp only [zAg, zA1, zA7, hMS]); refine hk1 _ _ _ _ _ _ _ _ _ _ _ _ acc (i + 1) ?_ ?_ htf hva; omega; exact ut_)
        · rw [Bool.not_eq_true] at hva
          rw [hva] at VA
          refine W.loop ?_
          repeat (first | refine sq_ ?_ | refine bl_ ?_ | ((first | refine rg_ ?_ | refine go_ ?_); generalize e : goR _ _ _ _ _ _ _ _ = r; simp (disch := omega) [hX, hg, hY, hm, hM2, hMS, hmp, hce, hc0, hsl, hto] at e; replace e : some _ = _ := e; subst e; (try dsimp only [goW])) | refine ct_ rfl ?_ | refine cf_ rfl ?_ | refine sk_ ?_ | refine ex_ ?_ | (refine VA _ ?_ _ fun n1 tyn1 hn1 hun1 => ⟨rfl, ?_⟩; exact fit_; (try dsimp only at hn1)) | (refine zE1 s ((i : Int) + 1) 0 t _ _ _ p d ?_ ?_ ?_ _ fun n3 tyn3 hn3 hun3 => ⟨rfl, ?_⟩; exact fit_; (focus (((first | exact hg | exact hG _ | (try dsimp only); exact hg)); done)); (try dsimp only); omega; (try dsimp only at hn3)))
          all_goals ((try refine W.ret ?_); (try simp only [zAg, zA1, zA7, hMS]); refine hk2 _ _ _ _ _ _ _ _ _ _ _ _ _ ?_ ?_ (.inr ⟨_, _, htf, hva⟩); omega; exact ut_)
      · have hcq' : ¬ c = q := fun e => hcq (by rw [e])
        by_cases h10 : c.toNat = 10
        · have htf : zAu q (c :: r) acc i = none := by unfold zAu; rw [if_neg hcq', if_pos (UInt8.toNat_inj.1 h10)]
          refine W.loop ?_
          repeat (first | refine sq_ ?_ | refine bl_ ?_ | ((first | refine rg_ ?_ | refine go_ ?_); generalize e : goR _ _ _ _ _ _ _ _ = r; simp (disch := omega) [hX, hg, hY, hm, hM2, hMS, hmp, hce, hc0, hsl, hto] at e; replace e : some _ = _ := e; subst e; (try dsimp only [goW])) | refine ct_ rfl ?_ | refine cf_ rfl ?_ | refine sk_ ?_ | refine ex_ ?_ | (refine zE1 s (i : Int) 0 t _ _ _ p d ?_ ?_ ?_ _ fun n3 tyn3 hn3 hun3 => ⟨rfl, ?_⟩; exact fit_; (focus (((first | exact hg | exact hG _ | (try dsimp only); exact hg)); done)); (try dsimp only); omega; (try dsimp only at hn3)))
          all_goals ((try refine W.ret ?_); (try simp only [zAg, zA1, zA7, hMS]); refine hk2 _ _ _ _ _ _ _ _ _ _ _ _ _ ?_ ?_ (.inl htf); omega; exact ut_)
        · by_cases h92 : c.toNat = 92
          · have ec : ((i + 1 : Nat) : Int) = (i : Int) + 1 := by omega
            have htx : ∀ r0 : List UInt8, zAu q (c :: r0) acc i = (match r0 with
                | [] => none
                | x :: u => match zGa x with
                  | none => none
                  | some m => zAu q u (acc ++ [m]) (i + 2)) := by
              intro r0
              conv => lhs; unfold zAu
              rw [if_neg hcq', if_neg (fun e => h10 (by rw [e]; rfl)), if_pos (UInt8.toNat_inj.1 h92)]
              cases r0 <;> rfl
            cases r with
            | nil =>
              have htf : zAu q (c :: []) acc i = none := htx []
              have B0 : ∀ (h : CHeap) (hf : Fit h) (hg : zA3 h.ents p = some (lx s ((i : Int) + 1) 0 t)) (hp : p < h.next) (K : CVal → CHeap → Prop) (hk : ∀ n' ty, h.next ≤ n' → zA4 ty n' → K (.int .u8 0) ⟨h.ents, n', ty⟩), Wc tree.getF 32 [.ptr p d 0, .int .i64 0] h K := fun h hf hg hp K hk => zJ1 s (i + 1) 0 0 t hs (by simp at hlen; omega) (by omega) (by simp at hlen; omega) h p d hf (by rw [ec]; exact hg) hp K hk
              refine W.loop ?_
              repeat (first | refine sq_ ?_ | refine bl_ ?_ | ((first | refine rg_ ?_ | refine go_ ?_); generalize e : goR _ _ _ _ _ _ _ _ = r; simp (disch := omega) [hX, hg, hY, hm, hM2, hMS, hmp, hce, hc0, hsl, hto] at e; replace e : some _ = _ := e; subst e; (try dsimp only [goW])) | refine ct_ rfl ?_ | refine cf_ rfl ?_ | refine sk_ ?_ | refine ex_ ?_ | (refine B0 _ ?_ ?_ ?_ _ fun n1 tyn1 hn1 hun1 => ⟨rfl, ?_⟩; exact fit_; exact ge_; (try dsimp only); omega; (try dsimp only at hn1)) | (refine zE1 s ((i : Int) + 1) 0 t _ _ _ p d ?_ ?_ ?_ _ fun n3 tyn3 hn3 hun3 => ⟨rfl, ?_⟩; exact fit_; (focus (((first | exact hg | exact hG _ | (try dsimp only); exact hg)); done)); (try dsimp only); omega; (try dsimp only at hn3)))
              all_goals ((try refine W.ret ?_); (try simp only [zAg, zA1, zA7, hMS]); refine hk2 _ _ _ _ _ _ _ _ _ _ _ _ _ ?_ ?_ (.inl htf); omega; exact ut_)
            | cons x u =>
              have hd1 := zBi hd
              have hx0 := zB7 hd1
              have B0 : ∀ (h : CHeap) (hf : Fit h) (hg : zA3 h.ents p = some (lx s ((i : Int) + 1) 0 t)) (hp : p < h.next) (K : CVal → CHeap → Prop) (hk : ∀ n' ty, h.next ≤ n' → zA4 ty n' → K (.int .u8 (x.toNat : Int)) ⟨h.ents, n', ty⟩), Wc tree.getF 32 [.ptr p d 0, .int .i64 0] h K := fun h hf hg hp K hk => zIa s (i + 1) 0 0 t x hs (by omega) hx0 h p d hf (by rw [ec]; exact hg) hp K hk
              have hsl2 : (s.take (i + 1 + 1)).drop (i + 1) = [x] := by rw [List.drop_take, show i + 1 + 1 - (i + 1) = 1 by omega, hd1]; rfl
              have hto2 : ((i : Int) + 1 + 1).toNat = i + 1 + 1 := by omega
              simp only [List.length_cons] at hlen hn
              by_cases h110 : x.toNat = 110
              · have htf : zAu q (c :: x :: u) acc i = zAu q u (acc ++ [10]) (i + 2) := by
                  rw [htx (x :: u)]; dsimp only
                  rw [UInt8.toNat_inj.1 (show x.toNat = (110 : UInt8).toNat from h110)]; rfl
                refine W.loop ?_
                repeat (first | refine sq_ ?_ | refine bl_ ?_ | ((first | refine rg_ ?_ | refine go_ ?_); generalize e : goR _ _ _ _ _ _ _ _ = r; simp (disch := omega) [hX, hg, hY, hm, hM2, hMS, hmp, hce, hc0, hsl, hto, hsl2, hto2] at e; replace e : some _ = _ := e; subst e; (try dsimp only [goW])) | refine ct_ rfl ?_ | refine cf_ rfl ?_ | refine sk_ ?_ | refine ex_ ?_ | (refine B0 _ ?_ ?_ ?_ _ fun n1 tyn1 hn1 hun1 => ⟨rfl, ?_⟩; exact fit_; exact ge_; (try dsimp only); omega; (try dsimp only at hn1)))
                show W tree.getF txLoop (dropped true _ _) Q
                generalize e : dropped _ _ _ = r0
                simp (disch := omega) [hX, hg, hY, hm, hM2, hMS, hmp, hce, hc0, hsl, hto, hsl2, hto2] at e
                subst e
                try dsimp only
                refine hnext u (acc ++ [10]) (i + 2) ?_ ?_ ?_ ?_ htf _ _ _ _ _ _ _ _ _ _ ?_ ?_ ?_
                · omega
                · exact zBi hd1
                · omega
                · simp; omega
                · (try dsimp only); simp [Int.add_assoc]
                · (try dsimp only); omega
                · exact zA4.le (by assumption) (by (try dsimp only); omega)
              · by_cases hsame : x.toNat = 92 ∨ x.toNat = 34 ∨ x.toNat = 39
                · have htf : zAu q (c :: x :: u) acc i = zAu q u (acc ++ [x]) (i + 2) := by
                    rw [htx (x :: u)]; dsimp only
                    rcases hsame with e | e | e
                    · rw [UInt8.toNat_inj.1 (show x.toNat = (92 : UInt8).toNat from e)]; rfl
                    · rw [UInt8.toNat_inj.1 (show x.toNat = (34 : UInt8).toNat from e)]; rfl
                    · rw [UInt8.toNat_inj.1 (show x.toNat = (39 : UInt8).toNat from e)]; rfl
                  rcases hsame with e | e | e
                  all_goals refine W.loop ?_
                  all_goals
                    repeat (first | refine sq_ ?_ | refine bl_ ?_ | ((first | refine rg_ ?_ | refine go_ ?_); generalize e : goR _ _ _ _ _ _ _ _ = r; simp (disch := omega) [hX, hg, hY, hm, hM2, hMS, hmp, hce, hc0, hsl, hto, hsl2, hto2] at e; replace e : some _ = _ := e; subst e; (try dsimp only [goW])) | refine ct_ rfl ?_ | refine cf_ rfl ?_ | refine sk_ ?_ | refine ex_ ?_ | (refine B0 _ ?_ ?_ ?_ _ fun n1 tyn1 hn1 hun1 => ⟨rfl, ?_⟩; exact fit_; exact ge_; (try dsimp only); omega; (try dsimp only at hn1)))
                  all_goals
                    show W tree.getF txLoop (dropped true _ _) Q
                    generalize e : dropped _ _ _ = r0
                    simp (disch := omega) [hX, hg, hY, hm, hM2, hMS, hmp, hce, hc0, hsl, hto, hsl2, hto2] at e
                    subst e
                    try dsimp only
                    refine hnext u (acc ++ [x]) (i + 2) ?_ ?_ ?_ ?_ htf _ _ _ _ _ _ _ _ _ _ ?_ ?_ ?_
                    · omega
                    · exact zBi hd1
                    · omega
                    · simp; omega
                    · (try dsimp only); simp [Int.add_assoc]
                    · (try dsimp only); omega
                    · exact zA4.le (by assumption) (by (try dsimp only); omega)
                · have htf : zAu q (c :: x :: u) acc i = none := by
                    rw [htx (x :: u)]; dsimp only
                    unfold zGa
                    rw [if_neg (fun e => hsame (.inl (by rw [e]; rfl))), if_neg (fun e => hsame (.inr (.inl (by rw [e]; rfl)))), if_neg (fun e => hsame (.inr (.inr (by rw [e]; rfl)))), if_neg (fun e => h110 (by rw [e]; rfl))]
                  have n1 : ¬ x.toNat = 92 := fun e => hsame (.inl e)
                  have n2 : ¬ x.toNat = 34 := fun e => hsame (.inr (.inl e))
                  have n3 : ¬ x.toNat = 39 := fun e => hsame (.inr (.inr e))
                  refine W.loop ?_
                  repeat (first | refine sq_ ?_ | refine bl_ ?_ | ((first | refine rg_ ?_ | refine go_ ?_); generalize e : goR _ _ _ _ _ _ _ _ = r; simp (disch := omega) [hX, hg, hY, hm, hM2, hMS, hmp, hce, hc0, hsl, hto, hsl2, hto2] at e; replace e : some _ = _ := e; subst e; (try dsimp only [goW])) | refine ct_ rfl ?_ | refine cf_ rfl ?_ | refine sk_ ?_ | refine ex_ ?_ | (refine B0 _ ?_ ?_ ?_ _ fun n1 tyn1 hn1 hun1 => ⟨rfl, ?_⟩; exact fit_; exact ge_; (try dsimp only); omega; (try dsimp only at hn1)) | (refine zE1 s ((i : Int) + 1) 0 t _ _ _ p d ?_ ?_ ?_ _ fun n3 tyn3 hn3 hun3 => ⟨rfl, ?_⟩; exact fit_; (focus (((first | exact hg | exact hG _ | (try dsimp only); exact hg)); done)); (try dsimp only); omega; (try dsimp only at hn3)))
                  all_goals ((try refine W.ret ?_); (try simp only [zAg, zA1, zA7, hMS]); refine hk2 _ _ _ _ _ _ _ _ _ _ _ _ _ ?_ ?_ (.inl htf); omega; exact ut_)
          · have htf : zAu q (c :: r) acc i = zAu q r (acc ++ [c]) (i + 1) := by
              conv => lhs; unfold zAu
              rw [if_neg hcq', if_neg (fun e => h10 (by rw [e]; rfl)), if_neg (fun e => h92 (by rw [e]; rfl))]
            refine W.loop ?_
            repeat (first | refine sq_ ?_ | refine bl_ ?_ | ((first | refine rg_ ?_ | refine go_ ?_); generalize e : goR _ _ _ _ _ _ _ _ = r; simp (disch := omega) [hX, hg, hY, hm, hM2, hMS, hmp, hce, hc0, hsl, hto] at e; replace e : some _ = _ := e; subst e; (try dsimp only [goW])) | refine ct_ rfl ?_ | refine cf_ rfl ?_ | refine sk_ ?_ | refine ex_ ?_)
            show W tree.getF txLoop (dropped true _ _) Q
            generalize e : dropped _ _ _ = r0
            simp (disch := omega) [hX, hg, hY, hm, hM2, hMS, hmp, hce, hc0, hsl, hto] at e
            subst e
            try dsimp only
            refine hnext r (acc ++ [c]) (i + 1) ?_ ?_ ?_ ?_ htf _ _ _ _ _ _ _ _ _ _ ?_ ?_ ?_
            · omega
            · exact zBi hd
            · omega
            · simp; omega
            · rfl
            · (try dsimp only); omega
            · exact zA4.le (by assumption) (by (try dsimp only); omega)
theorem text_L (vl : List UInt8 → Bool) (hV : ∀ x : List UInt8, x.length < 70000 → Pu tree.getF 47 [.str x] (.bool (vl x))) (s : List UInt8) (hs : s.length < 60000) (i : Nat) (q : UInt8) (r : List UInt8) (hd : s.drop i = q :: r) (hlen : i + (q :: r).length = s.length) (t : Int) (h : CHeap) (p d : Nat) (hf : Fit h) (hg : zA3 h.ents p = some (lx s (i : Int) 0 t)) (hp : p < h.next) (K : CVal → CHeap → Prop)
    (hk1 : ∀ n' ty txt (k : Nat), h.next ≤ n' → zA4 ty n' → zAu q r [] (i + 1) = some (txt, k) → vl txt = true → K (.agg [.int .i64 3, .str txt, .int .u64 0, .int .i64 (i : Int)]) ⟨zA0 h.ents p (lx s (k : Int) 0 t), n', ty⟩)
    (hk2 : ∀ n' ty (j : Int), h.next ≤ n' → zA4 ty n' → (zAu q r [] (i + 1) = none ∨ ∃ txt k, zAu q r [] (i + 1) = some (txt, k) ∧ vl txt = false) → K (.agg [.int .i64 0, .str [], .int .u64 0, .int .i64 0]) ⟨zA0 h.ents p (lx s j 2 (i : Int)), n', ty⟩) : Wc tree.getF 35 [.ptr p d 0] h K := by
  obtain ⟨hu, hut, hX⟩ := fx4 hf
  have hY := fx5 hf hg; have ⟨hG, hD2, hC2, hN2⟩ := hY
  have hc0 := zB7 hd
  obtain ⟨hi, hce⟩ := List.getElem?_eq_some_iff.1 hc0
  refine Wc.mkG 35 c35 (by kernel_rfl) rfl ?_
  generalize e : zA9 _ _ _ = r
  simp (disch := omega) [hX, hg, hY, hce, hc0, c35] at e
  subst e
  repeat (first | refine sq_ ?_ | refine bl_ ?_ | ((first | refine rg_ ?_ | refine go_ ?_); generalize e : goR _ _ _ _ _ _ _ _ = r; simp (disch := omega) [hX, hg, hY, hce, hc0] at e; replace e : some _ = _ := e; subst e; (try dsimp only [goW])) | refine ct_ rfl ?_ | refine cf_ rfl ?_ | refine sk_ ?_ | refine ex_ ?_)
  refine ref_text vl hV s hs p d _ _ t (i : Int) q ?_ _ r.length r [] (i + 1) (Nat.le_refl _) (zBi hd) ?_ (by simp) _ _ _ _ _ _ _ _ _ _ ?_ ?_ ?_ ?_ ?_ ?_ ?_ ?_
  · omega
  · simp at hlen ⊢; omega
  · (simp (disch := omega) [zA3, zA0, zBj, zBk, zA5, hg, hG])
  · (simp (disch := omega) [zA3, zA0, zBj, zBk, zA5, hg, hG])
  · exact fit_
  · (try dsimp only); omega
  · (try dsimp only); omega
  · intro n' ty w2 w3 w5 w7 w9 w10 w11 w12 w13 w6 txt k g1 g2 g3 g4
    (try simp only [zAg, zA1, zA7])
    refine endW.of (.inl rfl) rfl ?_
    generalize e : zAj _ _ _ = r0
    simp (disch := omega) [hX, hg, hY, c35] at e
    subst e
    refine hk1 _ _ txt k ?_ ?_ g3 g4
    · (try dsimp only at g1); omega
    · exact ut_
  · intro n' ty w2 w3 w5 w7 w9 w10 w11 w12 w13 w6 j g1 g2 g3
    (try simp only [zAg, zA1, zA7])
    refine endW.of (.inl rfl) rfl ?_
    generalize e : zAj _ _ _ = r0
    simp (disch := omega) [hX, hg, hY, c35] at e
    subst e
    refine hk2 _ _ j ?_ ?_ g3
    · (try dsimp only at g1); omega
    · exact ut_
  · intro n' ty w2 w3 w5 w7 w9 w10 w11 w12 w13 w6 j g1 g2 g3
    (try simp only [zAg, zA1, zA7])
    try dsimp only at g1
    repeat (first | refine sq_ ?_ | refine bl_ ?_ | ((first | refine rg_ ?_ | refine go_ ?_); generalize e : goR _ _ _ _ _ _ _ _ = r; simp (disch := omega) [hX, hg, hY, hce, hc0] at e; replace e : some _ = _ := e; subst e; (try dsimp only [goW])) | refine ct_ rfl ?_ | refine cf_ rfl ?_ | refine sk_ ?_ | refine ex_ ?_ | (refine zE1 s j 0 t _ _ _ p d ?_ ?_ ?_ _ fun n3 tyn3 hn3 hun3 => ⟨rfl, ?_⟩; exact fit_; exact ge_; (try dsimp only); omega; (try dsimp only at hn3)))
    all_goals (refine W.ret ?_; (try simp only [zAg, zA1, zA7]); refine endW.of (.inl rfl) rfl ?_; generalize e : zAj _ _ _ = r0; simp (disch := omega) [hX, hg, hY, c35] at e; subst e)
    all_goals (refine hk2 _ _ _ ?_ ?_ (.inl g3); omega; exact ut_)

end Go.Proofs.YtnllehllomllcaaDoor.IrM
namespace Go.Proofs.YtnllehllomllcaaDoor.IrM
open Go Go.CI
open Go.LexF hiding spacesB lettersB
set_option maxRecDepth 100000
set_option linter.unusedVariables false
set_option linter.unusedSimpArgs false
attribute [local irreducible] W Wo Wc WoR

theorem tk0 (a b c d : CVal) : ([a, b, c, d] : List CVal)[0]? = some a := rfl
theorem tk1 (a b c d : CVal) : ([a, b, c, d] : List CVal)[1]? = some b := rfl
theorem tk2 (a b c d : CVal) : ([a, b, c, d] : List CVal)[2]? = some c := rfl
theorem tk3 (a b c d : CVal) : ([a, b, c, d] : List CVal)[3]? = some d := rfl
theorem aeq_tok (k n a : Int) (tx : List UInt8) : zDm [.int .i64 k, .str tx, .int .u64 n, .int .i64 a] [.int .i64 k, .str tx, .int .u64 n, .int .i64 a] [(.int, 0), (.str, 1), (.int, 2), (.int, 3)] = some true := by
  have h1 : zEp .int (.int .i64 k) (.int .i64 k) = some true := by simp [zEp]
  have h2 : zEp .str (.str tx) (.str tx) = some true := by simp [zEp]
  have h3 : zEp .int (.int .u64 n) (.int .u64 n) = some true := by simp [zEp]
  have h4 : zEp .int (.int .i64 a) (.int .i64 a) = some true := by simp [zEp]
  unfold zDm; dsimp only [tk0]; rw [h1]; dsimp only
  unfold zDm; dsimp only [tk1]; rw [h2]; dsimp only
  unfold zDm; dsimp only [tk2]; rw [h3]; dsimp only
  unfold zDm; dsimp only [tk3]; rw [h4]; dsimp only
  unfold zDm; rfl
attribute [-simp] zDm zEp
abbrev sameLoop : CCode := (.loop true (.seq (.seq (.region [.v 3, .v 0, .g (.len false (.loc 0)), .g (.bin .lss (.loc 2) (.loc 0))] [(4, 3)] [] []) (.cond (.var 4) .skip (.exit 0))) (.seq (.block 1 (.seq (.region [.v 0, .v 3, .g (.idxAddr 4 (.loc 1) (.loc 0)), .g (.load (some 4) (.loc 0)), .v 1, .v 3, .g (.idxAddr 4 (.loc 1) (.loc 0)), .g (.load (some 4) (.loc 0)), .g (.extl (.aeq true [(.int, 0), (.str, 1), (.int, 2), (.int, 3)]) [(.loc 4), (.loc 0)])] [(5, 8)] [] []) (.cond (.var 5) (.seq (.region [.m (.const (.bool false))] [(6, 0)] [] []) .ret) .skip))) (.region [.v 3, .g (.bin .add (.loc 0) (.const (.int .i64 1))), .m (.loc 0)] [(3, 2)] [] []))))
theorem same_loop (l : List Tok) (hl : l.length < 100000) (t1 t2 : Tag) (Q : CExit → CSt → Prop) : ∀ (r : List Tok) (i : Nat), l.drop i = r → i + r.length = l.length → ∀ (h : CHeap) (v2 v4 v5 v6 : CVal), Fit h →
    (∀ n' ty w3 w4 w5, h.next ≤ n' → zA4 ty n' → Q (.exit 0) ⟨[.imm t1 4 (l.map tokV), .imm t2 4 (l.map tokV), v2, w3, w4, w5, v6], ⟨h.ents, n', ty⟩, []⟩) →
    W tree.getF sameLoop ⟨[.imm t1 4 (l.map tokV), .imm t2 4 (l.map tokV), v2, .int .i64 (i : Int), v4, v5, v6], h, []⟩ Q := by
  intro r
  induction r with
  | nil =>
    intro i hd hlen h v2 v4 v5 v6 hf hk
    simp only [List.length_nil, Nat.add_zero] at hlen
    obtain ⟨hu, hut, hX⟩ := fx4 hf
    refine W.loop ?_
    repeat (first | refine sq_ ?_ | refine bl_ ?_ | ((first | refine rg_ ?_ | refine go_ ?_); generalize e : goR _ _ _ _ _ _ _ _ = r; simp (disch := omega) [hX] at e; replace e : some _ = _ := e; subst e; (try dsimp only [goW])) | refine ct_ rfl ?_ | refine cf_ rfl ?_ | refine sk_ ?_ | refine ex_ ?_)
    all_goals ((try simp only [zAg, zA1, zA7]); refine hk _ _ _ _ _ ?_ ?_; omega; exact ut_)
  | cons x r ih =>
    intro i hd hlen h v2 v4 v5 v6 hf hk
    simp only [List.length_cons] at hlen
    obtain ⟨k, tx, n, a⟩ := x
    have hx : l[i]? = some (k, tx, n, a) := by
      have := congrArg List.head? hd
      simpa using this
    obtain ⟨hi, hxe⟩ := List.getElem?_eq_some_iff.1 hx
    have hx1 : (l.map tokV)[i]? = some (tokV (k, tx, n, a)) := by rw [List.getElem?_map, hx]; rfl
    have hn := zG3 tokV l i _ hx
    dsimp only [tokV] at hn
    have hd1 : l.drop (i + 1) = r := by
      have := congrArg (List.drop 1) hd
      rw [List.drop_drop] at this
      simpa using this
    obtain ⟨hu, hut, hX⟩ := fx4 hf
    refine W.loop ?_
    repeat (first | refine sq_ ?_ | refine bl_ ?_ | ((first | refine rg_ ?_ | refine go_ ?_); generalize e : goR _ _ _ _ _ _ _ _ = r; simp (disch := omega) [hX, List.length_map, hn, aeq_tok] at e; replace e : some _ = _ := e; subst e; (try dsimp only [goW])) | refine ct_ rfl ?_ | refine cf_ rfl ?_ | refine sk_ ?_ | refine ex_ ?_)
    show W tree.getF sameLoop (dropped true _ _) Q
    generalize e : dropped _ _ _ = r0
    simp (disch := omega) [hX] at e
    subst e
    try dsimp only
    refine ih (i + 1) hd1 (by omega) _ _ _ _ _ ?_ ?_
    · exact fit_
    · intro n' ty w3 w4 w5 g1 g2
      exact hk n' ty w3 w4 w5 (by (try dsimp only at g1); omega) g2
end Go.Proofs.YtnllehllomllcaaDoor.IrM
namespace Go.Proofs.YtnllehllomllcaaDoor.IrM
open Go Go.CI
open Go.LexF hiding spacesB lettersB
set_option maxRecDepth 100000
set_option linter.unusedVariables false
set_option linter.unusedSimpArgs false
attribute [local irreducible] W Wo Wc WoR
theorem same_L (l : List Tok) (hl : l.length < 100000) (t1 t2 : Tag) : Pu tree.getF 9 [.imm t1 4 (l.map tokV), .imm t2 4 (l.map tokV)] (.bool true) := by
  intro h hf K hk
  obtain ⟨hu, hut, hX⟩ := fx4 hf

  refine Wc.mkG 9 c9 (by kernel_rfl) rfl ?_
  generalize e : zA9 _ _ _ = r
  simp (disch := omega) [hX, List.length_map, c9] at e
  subst e
  repeat (first | refine sq_ ?_ | refine bl_ ?_ | ((first | refine rg_ ?_ | refine go_ ?_); generalize e : goR _ _ _ _ _ _ _ _ = r; simp (disch := omega) [hX, List.length_map] at e; replace e : some _ = _ := e; subst e; (try dsimp only [goW])) | refine ct_ rfl ?_ | refine cf_ rfl ?_ | refine sk_ ?_ | refine ex_ ?_)
  refine same_loop l hl t1 t2 _ l 0 rfl (by omega) _ _ _ _ _ ?_ ?_
  · exact fit_
  · intro n' ty w3 w4 w5 g1 g2
    try dsimp only at g1
    try simp only [zAg, zA1, zA7]
    repeat (first | refine sq_ ?_ | refine bl_ ?_ | ((first | refine rg_ ?_ | refine go_ ?_); generalize e : goR _ _ _ _ _ _ _ _ = r; simp (disch := omega) [hX, c9] at e; replace e : some _ = _ := e; subst e; (try dsimp only [goW])) | refine ct_ rfl ?_ | refine cf_ rfl ?_ | refine sk_ ?_ | refine ex_ ?_ | ((first | (refine W.ret ?_; (try simp only [zAg, zA1, zA7]); refine endW.of (.inl rfl) rfl ?_) | refine endW.of (.inr rfl) rfl ?_); generalize e : zAj _ _ _ = r; simp (disch := omega) [hX, c9] at e; subst e; (try dsimp only [goW]); (refine hk _ _ ?_ ?_; omega; exact ut_)))

theorem same_N : Pu tree.getF 9 [.nils, .nils] (.bool true) := by
  intro h hf K hk
  obtain ⟨hu, hut, hX⟩ := fx4 hf

  refine Wc.mkG 9 c9 (by kernel_rfl) rfl ?_
  generalize e : zA9 _ _ _ = r
  simp (disch := omega) [hX, c9] at e
  subst e
  repeat (first | refine sq_ ?_ | refine bl_ ?_ | ((first | refine rg_ ?_ | refine go_ ?_); generalize e : goR _ _ _ _ _ _ _ _ = r; simp (disch := omega) [hX, c9] at e; replace e : some _ = _ := e; subst e; (try dsimp only [goW])) | refine ct_ rfl ?_ | refine cf_ rfl ?_ | refine sk_ ?_ | refine ex_ ?_ | (refine W.loop ?_; try (generalize e : dropped _ _ _ = r; simp (disch := omega) [hX, c9] at e; subst e; try dsimp only)) | ((first | (refine W.ret ?_; (try simp only [zAg, zA1, zA7]); refine endW.of (.inl rfl) rfl ?_) | refine endW.of (.inr rfl) rfl ?_); generalize e : zAj _ _ _ = r; simp (disch := omega) [hX, c9] at e; subst e; (try dsimp only [goW]); (refine hk _ _ ?_ ?_; omega; exact ut_)))
theorem numW_eq (s : List UInt8) : numW s = match zJq s with | .inl e => .err e | .inr (v, len) => .tok 2 [] v len := by
  unfold numW zJq
  generalize numF s = x
  obtain ⟨B, n, ds⟩ := x
  dsimp only
  unfold zEx
  by_cases h : 18446744073709551616 ≤ valF B 0 ds
  · rw [if_pos h, if_pos h]
  · rw [if_neg h, if_neg h]
    cases s.drop (n + ds.length) with
    | nil => rfl
    | cons c u =>
      dsimp only
      by_cases hc : (zB1 ++ [46]).contains c = true
      · rw [if_pos hc, if_pos hc]
      · rw [if_neg hc, if_neg hc]
theorem let_eq (c : UInt8) : Go.LexF.lettersB.contains c = letB c := by
  have := zDe (p := fun c => Go.LexF.lettersB.contains c == letB c) (by decide +kernel) c
  simpa using this
theorem nam_eq (c : UInt8) : zB1.contains c = (letB c || digB c) := by
  have := zDe (p := fun c => zB1.contains c == (letB c || digB c)) (by decide +kernel) c
  simpa using this
theorem zFx (c : UInt8) (r : List UInt8) : zDk (c :: r) = if letB c = true then (fr zB1 (c :: r)).length else 0 := by
  show (if Go.LexF.lettersB.contains c then _ else 0) = _
  rw [let_eq]
theorem zK1 (t : List UInt8) : zDk t = if letB (t.headD 0) = true then (fr zB1 t).length else 0 := by
  cases t with
  | nil => rfl
  | cons c r => exact zFx c r
theorem nam_fr {c : UInt8} {r : List UInt8} (h : letB c = true) : 1 ≤ (fr zB1 (c :: r)).length := by
  rw [zIp (by rw [nam_eq, h]; rfl)]; simp
theorem drop_bk (t : List UInt8) : t.drop (fr zB1 t).length = bk zB1 t := zC2 zB1 t
theorem nmR_eq : ∀ (m : Nat) (s : List UInt8), s.length ≤ m → nmR s = (fr zB1 s).length + zE9 (bk zB1 s)
  | _, [], _ => by rw [show bk zB1 [] = [] by rfl, zE9.eq_def]; rfl
  | 0, c :: r, h => by simp at h
  | m + 1, c :: r, h => by
    simp only [List.length_cons] at h
    have ih := nmR_eq m r (by omega)
    by_cases hn : zB1.contains c = true
    · have e1 : bk zB1 (c :: r) = bk zB1 r := by unfold bk; rw [List.dropWhile_cons, if_pos hn]
      have h2 : letB c = true ∨ digB c = true ∨ c.toNat = 46 ∧ letB (r.headD 0) = true := by
        rw [nam_eq] at hn
        rcases Bool.or_eq_true_iff.1 hn with h | h
        · exact .inl h
        · exact .inr (.inl h)
      rw [zIp hn, e1]
      unfold nmR
      rw [if_pos h2, ih]; simp; omega
    · rw [Bool.not_eq_true] at hn
      have e1 : bk zB1 (c :: r) = c :: r := by unfold bk; rw [List.dropWhile_cons, if_neg (by rw [hn]; decide)]
      rw [fr_no hn, e1, zE9.eq_def]
      dsimp only
      rw [nam_eq] at hn
      obtain ⟨g1, g2⟩ := Bool.or_eq_false_iff.1 hn
      unfold nmR
      rw [g1, g2]
      by_cases h46 : c = 46
      · rw [if_pos h46, zK1]
        by_cases hl : letB (r.headD 0) = true
        · have h1 : 1 ≤ (fr zB1 r).length := by
            cases r with
            | nil => exact absurd hl (by decide)
            | cons b u => exact nam_fr hl
          rw [if_pos (.inr (.inr ⟨by rw [h46]; rfl, hl⟩)), if_pos hl, if_neg (by omega), drop_bk, ih]; simp; omega
        · rw [if_neg hl, if_neg (by rintro (h | h | ⟨_, h⟩); cases h; cases h; exact hl h)]; simp
      · rw [if_neg h46, if_neg (by rintro (h | h | ⟨h, _⟩); cases h; cases h; exact h46 (UInt8.toNat_inj.1 h))]; simp
theorem wQQ1 {P : Prop} (h : P := by refine Wc.mkG 60 c60 (by kernel_rfl) rfl ?_; generalize e : zA9 _ _ _ = r; simp (disch := omega) [hX, zAc, zA6, zAa, c60] at e; subst e; repeat (first | refine sq_ ?_ | refine bl_ ?_ | ((first | refine rg_ ?_ | refine go_ ?_); generalize e : goR _ _ _ _ _ _ _ _ = r; simp (disch := omega) [hX, zAc, zA6, zAa, c60] at e; replace e : some _ = _ := e; subst e; (try dsimp only [goW])) | refine ct_ rfl ?_ | refine cf_ rfl ?_ | refine sk_ ?_ | refine ex_ ?_ | (refine W.loop ?_; try (generalize e : dropped _ _ _ = r; simp (disch := omega) [hX, zAc, zA6, zAa, c60] at e; subst e; try dsimp only)) | ((first | (refine W.ret ?_; (try simp only [zAg, zA1, zA7]); refine endW.of (.inl rfl) rfl ?_) | refine endW.of (.inr rfl) rfl ?_); generalize e : zAj _ _ _ = r; simp (disch := omega) [hX, zAc, zA6, zAa, c60] at e; subst e; (try dsimp only [goW]); (refine hk _ _ ?_ ?_; omega; exact ut_)))) : P := h
theorem wQQ2 {P : Prop} (h : P := by refine Wc.mkG 60 c60 (by kernel_rfl) rfl ?_; generalize e : zA9 _ _ _ = r; simp (disch := omega) [hX, List.length_cons, zAc, zA6, zAa, c60] at e; subst e; repeat (first | refine sq_ ?_ | refine bl_ ?_ | ((first | refine rg_ ?_ | refine go_ ?_); generalize e : goR _ _ _ _ _ _ _ _ = r; simp (disch := omega) [hX, List.length_cons, zAc, zA6, zAa, c60] at e; replace e : some _ = _ := e; subst e; (try dsimp only [goW])) | refine ct_ rfl ?_ | refine cf_ rfl ?_ | refine sk_ ?_ | refine ex_ ?_ | (refine W.loop ?_; try (generalize e : dropped _ _ _ = r; simp (disch := omega) [hX, List.length_cons, zAc, zA6, zAa, c60] at e; subst e; try dsimp only)) | ((first | (refine W.ret ?_; (try simp only [zAg, zA1, zA7]); refine endW.of (.inl rfl) rfl ?_) | refine endW.of (.inr rfl) rfl ?_); generalize e : zAj _ _ _ = r; simp (disch := omega) [hX, List.length_cons, zAc, zA6, zAa, c60] at e; subst e; (try dsimp only [goW]); (refine hk _ _ ?_ ?_; omega; exact ut_)))) : P := h
theorem wQQ3 {P : Prop} (h : P := by refine Wc.mkG 60 c60 (by kernel_rfl) rfl ?_; generalize e : zA9 _ _ _ = r; simp (disch := omega) [hX, List.length_cons, i1, zAc, zA6, zAa, c60] at e; subst e; repeat (first | refine sq_ ?_ | refine bl_ ?_ | ((first | refine rg_ ?_ | refine go_ ?_); generalize e : goR _ _ _ _ _ _ _ _ = r; simp (disch := omega) [hX, List.length_cons, i1, zAc, zA6, zAa, c60] at e; replace e : some _ = _ := e; subst e; (try dsimp only [goW])) | refine ct_ rfl ?_ | refine cf_ rfl ?_ | refine sk_ ?_ | refine ex_ ?_ | (refine W.loop ?_; try (generalize e : dropped _ _ _ = r; simp (disch := omega) [hX, List.length_cons, i1, zAc, zA6, zAa, c60] at e; subst e; try dsimp only)) | ((first | (refine W.ret ?_; (try simp only [zAg, zA1, zA7]); refine endW.of (.inl rfl) rfl ?_) | refine endW.of (.inr rfl) rfl ?_); generalize e : zAj _ _ _ = r; simp (disch := omega) [hX, List.length_cons, i1, zAc, zA6, zAa, c60] at e; subst e; (try dsimp only [goW]); (refine hk _ _ ?_ ?_; omega; exact ut_)))) : P := h
theorem wQQ4 {P : Prop} (h : P := by refine Wc.mkG 60 c60 (by kernel_rfl) rfl ?_; generalize e : zA9 _ _ _ = r; simp (disch := omega) [hX, List.length_cons, i1, i2, zAc, zA6, zAa, c60] at e; subst e; repeat (first | refine sq_ ?_ | refine bl_ ?_ | ((first | refine rg_ ?_ | refine go_ ?_); generalize e : goR _ _ _ _ _ _ _ _ = r; simp (disch := omega) [hX, List.length_cons, i1, i2, zAc, zA6, zAa, c60] at e; replace e : some _ = _ := e; subst e; (try dsimp only [goW])) | refine ct_ rfl ?_ | refine cf_ rfl ?_ | refine sk_ ?_ | refine ex_ ?_ | (refine W.loop ?_; try (generalize e : dropped _ _ _ = r; simp (disch := omega) [hX, List.length_cons, i1, i2, zAc, zA6, zAa, c60] at e; subst e; try dsimp only)) | ((first | (refine W.ret ?_; (try simp only [zAg, zA1, zA7]); refine endW.of (.inl rfl) rfl ?_) | refine endW.of (.inr rfl) rfl ?_); generalize e : zAj _ _ _ = r; simp (disch := omega) [hX, List.length_cons, i1, i2, zAc, zA6, zAa, c60] at e; subst e; (try dsimp only [goW]); (refine hk _ _ ?_ ?_; omega; exact ut_)))) : P := h
theorem wQQ5 {P : Prop} (h : P := by refine Wc.mkG 60 c60 (by kernel_rfl) rfl ?_; generalize e : zA9 _ _ _ = r; simp (disch := omega) [hX, List.length_cons, i1, i2, i3, zAc, zA6, zAa, c60] at e; subst e; repeat (first | refine sq_ ?_ | refine bl_ ?_ | ((first | refine rg_ ?_ | refine go_ ?_); generalize e : goR _ _ _ _ _ _ _ _ = r; simp (disch := omega) [hX, List.length_cons, i1, i2, i3, zAc, zA6, zAa, c60] at e; replace e : some _ = _ := e; subst e; (try dsimp only [goW])) | refine ct_ rfl ?_ | refine cf_ rfl ?_ | refine sk_ ?_ | refine ex_ ?_ | (refine W.loop ?_; try (generalize e : dropped _ _ _ = r; simp (disch := omega) [hX, List.length_cons, i1, i2, i3, zAc, zA6, zAa, c60] at e; subst e; try dsimp only)) | ((first | (refine W.ret ?_; (try simp only [zAg, zA1, zA7]); refine endW.of (.inl rfl) rfl ?_) | refine endW.of (.inr rfl) rfl ?_); generalize e : zAj _ _ _ = r; simp (disch := omega) [hX, List.length_cons, i1, i2, i3, zAc, zA6, zAa, c60] at e; subst e; (try dsimp only [goW]); (refine hk _ _ ?_ ?_; omega; exact ut_)))) : P := h

theorem rp_nil  : Pu tree.getF 60 [.str []] (.tup [.int .u32 0, .int .i64 0]) := by
  intro h hf K hk
  obtain ⟨hu, hut, hX⟩ := fx4 hf

  exact wQQ1

theorem rp_1 (c : UInt8) (t : List UInt8) (hc : c.toNat < 128) : Pu tree.getF 60 [.str (c :: t)] (.tup [.int .u32 (c.toNat : Int), .int .i64 1]) := by
  intro h hf K hk
  obtain ⟨hu, hut, hX⟩ := fx4 hf
  have hcl := c.toNat_lt

  exact wQQ1

theorem rp_lo (c : UInt8) (t : List UInt8) (hc : 128 ≤ c.toNat) (hc2 : c.toNat < 192) : Pu tree.getF 60 [.str (c :: t)] (.tup [.int .u32 0, .int .i64 0]) := by
  intro h hf K hk
  obtain ⟨hu, hut, hX⟩ := fx4 hf
  have hcl := c.toNat_lt

  exact wQQ1

theorem rp_hi (c : UInt8) (t : List UInt8) (hc : 248 ≤ c.toNat) : Pu tree.getF 60 [.str (c :: t)] (.tup [.int .u32 0, .int .i64 0]) := by
  intro h hf K hk
  obtain ⟨hu, hut, hX⟩ := fx4 hf
  have hcl := c.toNat_lt

  exact wQQ1

theorem rp_2s (c : UInt8) (t : List UInt8) (hc : 192 ≤ c.toNat) (hc2 : c.toNat < 224) (hs : t.length < 1) : Pu tree.getF 60 [.str (c :: t)] (.tup [.int .u32 0, .int .i64 0]) := by
  intro h hf K hk
  obtain ⟨hu, hut, hX⟩ := fx4 hf
  have hcl := c.toNat_lt

  exact wQQ2

theorem rp_2l1 (c  : UInt8) (c1 : UInt8) (t : List UInt8) (hc : 192 ≤ c.toNat) (hc2 : c.toNat < 224) (hs : 0 ≤ t.length)  (hb : c1.toNat < 128) : Pu tree.getF 60 [.str (c :: c1 :: t)] (.tup [.int .u32 0, .int .i64 0]) := by
  intro h hf K hk
  obtain ⟨hu, hut, hX⟩ := fx4 hf
  have hcl := c.toNat_lt
  have hcl1 := c1.toNat_lt
  have i1 : (c :: c1 :: t)[1]? = some c1 := rfl

  exact wQQ3

theorem rp_2h1 (c  : UInt8) (c1 : UInt8) (t : List UInt8) (hc : 192 ≤ c.toNat) (hc2 : c.toNat < 224) (hs : 0 ≤ t.length)  (hb : 191 < c1.toNat) : Pu tree.getF 60 [.str (c :: c1 :: t)] (.tup [.int .u32 0, .int .i64 0]) := by
  intro h hf K hk
  obtain ⟨hu, hut, hX⟩ := fx4 hf
  have hcl := c.toNat_lt
  have hcl1 := c1.toNat_lt
  have i1 : (c :: c1 :: t)[1]? = some c1 := rfl

  exact wQQ3

theorem rp_2least (c : UInt8) (c1 : UInt8) (t : List UInt8) (hc : 192 ≤ c.toNat) (hc2 : c.toNat < 224) (a1 : 128 ≤ c1.toNat ∧ c1.toNat ≤ 191) (hb : (((c.toNat : Int) - 192) * 64 + ((c1.toNat : Int) - 128)) < 128) : Pu tree.getF 60 [.str (c :: c1 :: t)] (.tup [.int .u32 0, .int .i64 0]) := by
  intro h hf K hk
  obtain ⟨hu, hut, hX⟩ := fx4 hf
  have hcl := c.toNat_lt
  have hcl1 := c1.toNat_lt
  have i1 : (c :: c1 :: t)[1]? = some c1 := rfl

  exact wQQ3

theorem rp_2ok1 (c : UInt8) (c1 : UInt8) (t : List UInt8) (hc : 192 ≤ c.toNat) (hc2 : c.toNat < 224) (a1 : 128 ≤ c1.toNat ∧ c1.toNat ≤ 191) (hb : 128 ≤ (((c.toNat : Int) - 192) * 64 + ((c1.toNat : Int) - 128)) ∧ (((c.toNat : Int) - 192) * 64 + ((c1.toNat : Int) - 128)) < 55296) : Pu tree.getF 60 [.str (c :: c1 :: t)] (.tup [.int .u32 (((c.toNat : Int) - 192) * 64 + ((c1.toNat : Int) - 128)), .int .i64 2]) := by
  intro h hf K hk
  obtain ⟨hu, hut, hX⟩ := fx4 hf
  have hcl := c.toNat_lt
  have hcl1 := c1.toNat_lt
  have i1 : (c :: c1 :: t)[1]? = some c1 := rfl

  exact wQQ3

theorem rp_3s (c : UInt8) (t : List UInt8) (hc : 224 ≤ c.toNat) (hc2 : c.toNat < 240) (hs : t.length < 2) : Pu tree.getF 60 [.str (c :: t)] (.tup [.int .u32 0, .int .i64 0]) := by
  intro h hf K hk
  obtain ⟨hu, hut, hX⟩ := fx4 hf
  have hcl := c.toNat_lt

  exact wQQ2

theorem rp_3l1 (c  : UInt8) (c1 : UInt8) (t : List UInt8) (hc : 224 ≤ c.toNat) (hc2 : c.toNat < 240) (hs : 1 ≤ t.length)  (hb : c1.toNat < 128) : Pu tree.getF 60 [.str (c :: c1 :: t)] (.tup [.int .u32 0, .int .i64 0]) := by
  intro h hf K hk
  obtain ⟨hu, hut, hX⟩ := fx4 hf
  have hcl := c.toNat_lt
  have hcl1 := c1.toNat_lt
  have i1 : (c :: c1 :: t)[1]? = some c1 := rfl

  exact wQQ3

theorem rp_3h1 (c  : UInt8) (c1 : UInt8) (t : List UInt8) (hc : 224 ≤ c.toNat) (hc2 : c.toNat < 240) (hs : 1 ≤ t.length)  (hb : 191 < c1.toNat) : Pu tree.getF 60 [.str (c :: c1 :: t)] (.tup [.int .u32 0, .int .i64 0]) := by
  intro h hf K hk
  obtain ⟨hu, hut, hX⟩ := fx4 hf
  have hcl := c.toNat_lt
  have hcl1 := c1.toNat_lt
  have i1 : (c :: c1 :: t)[1]? = some c1 := rfl

  exact wQQ3

theorem rp_3l2 (c  : UInt8) (c1 : UInt8) (c2 : UInt8) (t : List UInt8) (hc : 224 ≤ c.toNat) (hc2 : c.toNat < 240) (hs : 0 ≤ t.length) (a1 : 128 ≤ c1.toNat ∧ c1.toNat ≤ 191) (hb : c2.toNat < 128) : Pu tree.getF 60 [.str (c :: c1 :: c2 :: t)] (.tup [.int .u32 0, .int .i64 0]) := by
  intro h hf K hk
  obtain ⟨hu, hut, hX⟩ := fx4 hf
  have hcl := c.toNat_lt
  have hcl1 := c1.toNat_lt
  have i1 : (c :: c1 :: c2 :: t)[1]? = some c1 := rfl
  have hcl2 := c2.toNat_lt
  have i2 : (c :: c1 :: c2 :: t)[2]? = some c2 := rfl

  exact wQQ4

theorem rp_3h2 (c  : UInt8) (c1 : UInt8) (c2 : UInt8) (t : List UInt8) (hc : 224 ≤ c.toNat) (hc2 : c.toNat < 240) (hs : 0 ≤ t.length) (a1 : 128 ≤ c1.toNat ∧ c1.toNat ≤ 191) (hb : 191 < c2.toNat) : Pu tree.getF 60 [.str (c :: c1 :: c2 :: t)] (.tup [.int .u32 0, .int .i64 0]) := by
  intro h hf K hk
  obtain ⟨hu, hut, hX⟩ := fx4 hf
  have hcl := c.toNat_lt
  have hcl1 := c1.toNat_lt
  have i1 : (c :: c1 :: c2 :: t)[1]? = some c1 := rfl
  have hcl2 := c2.toNat_lt
  have i2 : (c :: c1 :: c2 :: t)[2]? = some c2 := rfl

  exact wQQ4

theorem rp_3least (c : UInt8) (c1 : UInt8) (c2 : UInt8) (t : List UInt8) (hc : 224 ≤ c.toNat) (hc2 : c.toNat < 240) (a1 : 128 ≤ c1.toNat ∧ c1.toNat ≤ 191) (a2 : 128 ≤ c2.toNat ∧ c2.toNat ≤ 191) (hb : ((((c.toNat : Int) - 224) * 64 + ((c1.toNat : Int) - 128)) * 64 + ((c2.toNat : Int) - 128)) < 2048) : Pu tree.getF 60 [.str (c :: c1 :: c2 :: t)] (.tup [.int .u32 0, .int .i64 0]) := by
  intro h hf K hk
  obtain ⟨hu, hut, hX⟩ := fx4 hf
  have hcl := c.toNat_lt
  have hcl1 := c1.toNat_lt
  have i1 : (c :: c1 :: c2 :: t)[1]? = some c1 := rfl
  have hcl2 := c2.toNat_lt
  have i2 : (c :: c1 :: c2 :: t)[2]? = some c2 := rfl

  exact wQQ4

theorem rp_3sur (c : UInt8) (c1 : UInt8) (c2 : UInt8) (t : List UInt8) (hc : 224 ≤ c.toNat) (hc2 : c.toNat < 240) (a1 : 128 ≤ c1.toNat ∧ c1.toNat ≤ 191) (a2 : 128 ≤ c2.toNat ∧ c2.toNat ≤ 191) (hb : 2048 ≤ ((((c.toNat : Int) - 224) * 64 + ((c1.toNat : Int) - 128)) * 64 + ((c2.toNat : Int) - 128)) ∧ ¬ 1114111 < ((((c.toNat : Int) - 224) * 64 + ((c1.toNat : Int) - 128)) * 64 + ((c2.toNat : Int) - 128)) ∧ 55296 ≤ ((((c.toNat : Int) - 224) * 64 + ((c1.toNat : Int) - 128)) * 64 + ((c2.toNat : Int) - 128)) ∧ ((((c.toNat : Int) - 224) * 64 + ((c1.toNat : Int) - 128)) * 64 + ((c2.toNat : Int) - 128)) ≤ 57343) : Pu tree.getF 60 [.str (c :: c1 :: c2 :: t)] (.tup [.int .u32 0, .int .i64 0]) := by
  intro h hf K hk
  obtain ⟨hu, hut, hX⟩ := fx4 hf
  have hcl := c.toNat_lt
  have hcl1 := c1.toNat_lt
  have i1 : (c :: c1 :: c2 :: t)[1]? = some c1 := rfl
  have hcl2 := c2.toNat_lt
  have i2 : (c :: c1 :: c2 :: t)[2]? = some c2 := rfl

  exact wQQ4

theorem rp_3ok1 (c : UInt8) (c1 : UInt8) (c2 : UInt8) (t : List UInt8) (hc : 224 ≤ c.toNat) (hc2 : c.toNat < 240) (a1 : 128 ≤ c1.toNat ∧ c1.toNat ≤ 191) (a2 : 128 ≤ c2.toNat ∧ c2.toNat ≤ 191) (hb : 2048 ≤ ((((c.toNat : Int) - 224) * 64 + ((c1.toNat : Int) - 128)) * 64 + ((c2.toNat : Int) - 128)) ∧ ((((c.toNat : Int) - 224) * 64 + ((c1.toNat : Int) - 128)) * 64 + ((c2.toNat : Int) - 128)) < 55296) : Pu tree.getF 60 [.str (c :: c1 :: c2 :: t)] (.tup [.int .u32 ((((c.toNat : Int) - 224) * 64 + ((c1.toNat : Int) - 128)) * 64 + ((c2.toNat : Int) - 128)), .int .i64 3]) := by
  intro h hf K hk
  obtain ⟨hu, hut, hX⟩ := fx4 hf
  have hcl := c.toNat_lt
  have hcl1 := c1.toNat_lt
  have i1 : (c :: c1 :: c2 :: t)[1]? = some c1 := rfl
  have hcl2 := c2.toNat_lt
  have i2 : (c :: c1 :: c2 :: t)[2]? = some c2 := rfl

  exact wQQ4

theorem rp_3ok2 (c : UInt8) (c1 : UInt8) (c2 : UInt8) (t : List UInt8) (hc : 224 ≤ c.toNat) (hc2 : c.toNat < 240) (a1 : 128 ≤ c1.toNat ∧ c1.toNat ≤ 191) (a2 : 128 ≤ c2.toNat ∧ c2.toNat ≤ 191) (hb : 2048 ≤ ((((c.toNat : Int) - 224) * 64 + ((c1.toNat : Int) - 128)) * 64 + ((c2.toNat : Int) - 128)) ∧ 57343 < ((((c.toNat : Int) - 224) * 64 + ((c1.toNat : Int) - 128)) * 64 + ((c2.toNat : Int) - 128)) ∧ ((((c.toNat : Int) - 224) * 64 + ((c1.toNat : Int) - 128)) * 64 + ((c2.toNat : Int) - 128)) ≤ 1114111) : Pu tree.getF 60 [.str (c :: c1 :: c2 :: t)] (.tup [.int .u32 ((((c.toNat : Int) - 224) * 64 + ((c1.toNat : Int) - 128)) * 64 + ((c2.toNat : Int) - 128)), .int .i64 3]) := by
  intro h hf K hk
  obtain ⟨hu, hut, hX⟩ := fx4 hf
  have hcl := c.toNat_lt
  have hcl1 := c1.toNat_lt
  have i1 : (c :: c1 :: c2 :: t)[1]? = some c1 := rfl
  have hcl2 := c2.toNat_lt
  have i2 : (c :: c1 :: c2 :: t)[2]? = some c2 := rfl

  exact wQQ4

theorem rp_4s (c : UInt8) (t : List UInt8) (hc : 240 ≤ c.toNat) (hc2 : c.toNat < 248) (hs : t.length < 3) : Pu tree.getF 60 [.str (c :: t)] (.tup [.int .u32 0, .int .i64 0]) := by
  intro h hf K hk
  obtain ⟨hu, hut, hX⟩ := fx4 hf
  have hcl := c.toNat_lt

  exact wQQ2

theorem rp_4l1 (c  : UInt8) (c1 : UInt8) (t : List UInt8) (hc : 240 ≤ c.toNat) (hc2 : c.toNat < 248) (hs : 2 ≤ t.length)  (hb : c1.toNat < 128) : Pu tree.getF 60 [.str (c :: c1 :: t)] (.tup [.int .u32 0, .int .i64 0]) := by
  intro h hf K hk
  obtain ⟨hu, hut, hX⟩ := fx4 hf
  have hcl := c.toNat_lt
  have hcl1 := c1.toNat_lt
  have i1 : (c :: c1 :: t)[1]? = some c1 := rfl

  exact wQQ3

theorem rp_4h1 (c  : UInt8) (c1 : UInt8) (t : List UInt8) (hc : 240 ≤ c.toNat) (hc2 : c.toNat < 248) (hs : 2 ≤ t.length)  (hb : 191 < c1.toNat) : Pu tree.getF 60 [.str (c :: c1 :: t)] (.tup [.int .u32 0, .int .i64 0]) := by
  intro h hf K hk
  obtain ⟨hu, hut, hX⟩ := fx4 hf
  have hcl := c.toNat_lt
  have hcl1 := c1.toNat_lt
  have i1 : (c :: c1 :: t)[1]? = some c1 := rfl

  exact wQQ3

theorem rp_4l2 (c  : UInt8) (c1 : UInt8) (c2 : UInt8) (t : List UInt8) (hc : 240 ≤ c.toNat) (hc2 : c.toNat < 248) (hs : 1 ≤ t.length) (a1 : 128 ≤ c1.toNat ∧ c1.toNat ≤ 191) (hb : c2.toNat < 128) : Pu tree.getF 60 [.str (c :: c1 :: c2 :: t)] (.tup [.int .u32 0, .int .i64 0]) := by
  intro h hf K hk
  obtain ⟨hu, hut, hX⟩ := fx4 hf
  have hcl := c.toNat_lt
  have hcl1 := c1.toNat_lt
  have i1 : (c :: c1 :: c2 :: t)[1]? = some c1 := rfl
  have hcl2 := c2.toNat_lt
  have i2 : (c :: c1 :: c2 :: t)[2]? = some c2 := rfl

  exact wQQ4

theorem rp_4h2 (c  : UInt8) (c1 : UInt8) (c2 : UInt8) (t : List UInt8) (hc : 240 ≤ c.toNat) (hc2 : c.toNat < 248) (hs : 1 ≤ t.length) (a1 : 128 ≤ c1.toNat ∧ c1.toNat ≤ 191) (hb : 191 < c2.toNat) : Pu tree.getF 60 [.str (c :: c1 :: c2 :: t)] (.tup [.int .u32 0, .int .i64 0]) := by
  intro h hf K hk
  obtain ⟨hu, hut, hX⟩ := fx4 hf
  have hcl := c.toNat_lt
  have hcl1 := c1.toNat_lt
  have i1 : (c :: c1 :: c2 :: t)[1]? = some c1 := rfl
  have hcl2 := c2.toNat_lt
  have i2 : (c :: c1 :: c2 :: t)[2]? = some c2 := rfl

  exact wQQ4

theorem rp_4l3 (c  : UInt8) (c1 : UInt8) (c2 : UInt8) (c3 : UInt8) (t : List UInt8) (hc : 240 ≤ c.toNat) (hc2 : c.toNat < 248) (hs : 0 ≤ t.length) (a1 : 128 ≤ c1.toNat ∧ c1.toNat ≤ 191) (a2 : 128 ≤ c2.toNat ∧ c2.toNat ≤ 191) (hb : c3.toNat < 128) : Pu tree.getF 60 [.str (c :: c1 :: c2 :: c3 :: t)] (.tup [.int .u32 0, .int .i64 0]) := by
  intro h hf K hk
  obtain ⟨hu, hut, hX⟩ := fx4 hf
  have hcl := c.toNat_lt
  have hcl1 := c1.toNat_lt
  have i1 : (c :: c1 :: c2 :: c3 :: t)[1]? = some c1 := rfl
  have hcl2 := c2.toNat_lt
  have i2 : (c :: c1 :: c2 :: c3 :: t)[2]? = some c2 := rfl
  have hcl3 := c3.toNat_lt
  have i3 : (c :: c1 :: c2 :: c3 :: t)[3]? = some c3 := rfl

  exact wQQ5

theorem rp_4h3 (c  : UInt8) (c1 : UInt8) (c2 : UInt8) (c3 : UInt8) (t : List UInt8) (hc : 240 ≤ c.toNat) (hc2 : c.toNat < 248) (hs : 0 ≤ t.length) (a1 : 128 ≤ c1.toNat ∧ c1.toNat ≤ 191) (a2 : 128 ≤ c2.toNat ∧ c2.toNat ≤ 191) (hb : 191 < c3.toNat) : Pu tree.getF 60 [.str (c :: c1 :: c2 :: c3 :: t)] (.tup [.int .u32 0, .int .i64 0]) := by
  intro h hf K hk
  obtain ⟨hu, hut, hX⟩ := fx4 hf
  have hcl := c.toNat_lt
  have hcl1 := c1.toNat_lt
  have i1 : (c :: c1 :: c2 :: c3 :: t)[1]? = some c1 := rfl
  have hcl2 := c2.toNat_lt
  have i2 : (c :: c1 :: c2 :: c3 :: t)[2]? = some c2 := rfl
  have hcl3 := c3.toNat_lt
  have i3 : (c :: c1 :: c2 :: c3 :: t)[3]? = some c3 := rfl

  exact wQQ5

theorem rp_4least (c : UInt8) (c1 : UInt8) (c2 : UInt8) (c3 : UInt8) (t : List UInt8) (hc : 240 ≤ c.toNat) (hc2 : c.toNat < 248) (a1 : 128 ≤ c1.toNat ∧ c1.toNat ≤ 191) (a2 : 128 ≤ c2.toNat ∧ c2.toNat ≤ 191) (a3 : 128 ≤ c3.toNat ∧ c3.toNat ≤ 191) (hb : (((((c.toNat : Int) - 240) * 64 + ((c1.toNat : Int) - 128)) * 64 + ((c2.toNat : Int) - 128)) * 64 + ((c3.toNat : Int) - 128)) < 65536) : Pu tree.getF 60 [.str (c :: c1 :: c2 :: c3 :: t)] (.tup [.int .u32 0, .int .i64 0]) := by
  intro h hf K hk
  obtain ⟨hu, hut, hX⟩ := fx4 hf
  have hcl := c.toNat_lt
  have hcl1 := c1.toNat_lt
  have i1 : (c :: c1 :: c2 :: c3 :: t)[1]? = some c1 := rfl
  have hcl2 := c2.toNat_lt
  have i2 : (c :: c1 :: c2 :: c3 :: t)[2]? = some c2 := rfl
  have hcl3 := c3.toNat_lt
  have i3 : (c :: c1 :: c2 :: c3 :: t)[3]? = some c3 := rfl

  exact wQQ5

theorem rp_4most (c : UInt8) (c1 : UInt8) (c2 : UInt8) (c3 : UInt8) (t : List UInt8) (hc : 240 ≤ c.toNat) (hc2 : c.toNat < 248) (a1 : 128 ≤ c1.toNat ∧ c1.toNat ≤ 191) (a2 : 128 ≤ c2.toNat ∧ c2.toNat ≤ 191) (a3 : 128 ≤ c3.toNat ∧ c3.toNat ≤ 191) (hb : 65536 ≤ (((((c.toNat : Int) - 240) * 64 + ((c1.toNat : Int) - 128)) * 64 + ((c2.toNat : Int) - 128)) * 64 + ((c3.toNat : Int) - 128)) ∧ 1114111 < (((((c.toNat : Int) - 240) * 64 + ((c1.toNat : Int) - 128)) * 64 + ((c2.toNat : Int) - 128)) * 64 + ((c3.toNat : Int) - 128))) : Pu tree.getF 60 [.str (c :: c1 :: c2 :: c3 :: t)] (.tup [.int .u32 0, .int .i64 0]) := by
  intro h hf K hk
  obtain ⟨hu, hut, hX⟩ := fx4 hf
  have hcl := c.toNat_lt
  have hcl1 := c1.toNat_lt
  have i1 : (c :: c1 :: c2 :: c3 :: t)[1]? = some c1 := rfl
  have hcl2 := c2.toNat_lt
  have i2 : (c :: c1 :: c2 :: c3 :: t)[2]? = some c2 := rfl
  have hcl3 := c3.toNat_lt
  have i3 : (c :: c1 :: c2 :: c3 :: t)[3]? = some c3 := rfl

  exact wQQ5

theorem rp_4ok2 (c : UInt8) (c1 : UInt8) (c2 : UInt8) (c3 : UInt8) (t : List UInt8) (hc : 240 ≤ c.toNat) (hc2 : c.toNat < 248) (a1 : 128 ≤ c1.toNat ∧ c1.toNat ≤ 191) (a2 : 128 ≤ c2.toNat ∧ c2.toNat ≤ 191) (a3 : 128 ≤ c3.toNat ∧ c3.toNat ≤ 191) (hb : 65536 ≤ (((((c.toNat : Int) - 240) * 64 + ((c1.toNat : Int) - 128)) * 64 + ((c2.toNat : Int) - 128)) * 64 + ((c3.toNat : Int) - 128)) ∧ 57343 < (((((c.toNat : Int) - 240) * 64 + ((c1.toNat : Int) - 128)) * 64 + ((c2.toNat : Int) - 128)) * 64 + ((c3.toNat : Int) - 128)) ∧ (((((c.toNat : Int) - 240) * 64 + ((c1.toNat : Int) - 128)) * 64 + ((c2.toNat : Int) - 128)) * 64 + ((c3.toNat : Int) - 128)) ≤ 1114111) : Pu tree.getF 60 [.str (c :: c1 :: c2 :: c3 :: t)] (.tup [.int .u32 (((((c.toNat : Int) - 240) * 64 + ((c1.toNat : Int) - 128)) * 64 + ((c2.toNat : Int) - 128)) * 64 + ((c3.toNat : Int) - 128)), .int .i64 4]) := by
  intro h hf K hk
  obtain ⟨hu, hut, hX⟩ := fx4 hf
  have hcl := c.toNat_lt
  have hcl1 := c1.toNat_lt
  have i1 : (c :: c1 :: c2 :: c3 :: t)[1]? = some c1 := rfl
  have hcl2 := c2.toNat_lt
  have i2 : (c :: c1 :: c2 :: c3 :: t)[2]? = some c2 := rfl
  have hcl3 := c3.toNat_lt
  have i3 : (c :: c1 :: c2 :: c3 :: t)[3]? = some c3 := rfl

  exact wQQ5
theorem zIb {x : Nat} {c : UInt8} (hx : x < 256) : UInt8.ofNat x = c ↔ c.toNat = x := by
  constructor
  · intro h; rw [← h]; simp; omega
  · intro h; rw [← h]; simp
theorem put2 {x : Nat} {c c1 : UInt8} (hx : x < 2048) : putB x = [c, c1] ↔ 128 ≤ x ∧ c.toNat = 192 + x / 64 ∧ c1.toNat = 128 + x % 64 := by
  unfold putB
  by_cases h : x < 128
  · rw [if_pos h]; simp; omega
  · rw [if_neg h, if_pos hx]
    simp only [List.cons.injEq, and_true]
    rw [zIb (by omega), zIb (by omega)]
    omega
theorem put3 {x : Nat} {c c1 c2 : UInt8} (hx : x < 65536) : putB x = [c, c1, c2] ↔ 2048 ≤ x ∧ (¬ (55296 ≤ x ∧ x < 57344) ∧ c.toNat = 224 + x / 4096 ∧ c1.toNat = 128 + x / 64 % 64 ∧ c2.toNat = 128 + x % 64 ∨ (55296 ≤ x ∧ x < 57344) ∧ c.toNat = 239 ∧ c1.toNat = 191 ∧ c2.toNat = 189) := by
  unfold putB
  by_cases h : x < 128
  · rw [if_pos h]; simp; omega
  · rw [if_neg h]
    by_cases h2 : x < 2048
    · rw [if_pos h2]; simp; omega
    · rw [if_neg h2]
      by_cases hs : 55296 ≤ x ∧ x < 57344 ∨ 1114111 < x
      · rw [if_pos hs]
        simp only [List.cons.injEq, and_true]
        rw [show (239 : UInt8) = UInt8.ofNat 239 by rfl, show (191 : UInt8) = UInt8.ofNat 191 by rfl, show (189 : UInt8) = UInt8.ofNat 189 by rfl, zIb (by omega), zIb (by omega), zIb (by omega)]
        omega
      · rw [if_neg hs, if_pos hx]
        simp only [List.cons.injEq, and_true]
        rw [zIb (by omega), zIb (by omega), zIb (by omega)]
        omega
theorem put4 {x : Nat} {c c1 c2 c3 : UInt8} (hx : x < 2097152) : putB x = [c, c1, c2, c3] ↔ 65536 ≤ x ∧ x ≤ 1114111 ∧ c.toNat = 240 + x / 262144 ∧ c1.toNat = 128 + x / 4096 % 64 ∧ c2.toNat = 128 + x / 64 % 64 ∧ c3.toNat = 128 + x % 64 := by
  unfold putB
  by_cases h : x < 128
  · rw [if_pos h]; simp; omega
  · rw [if_neg h]
    by_cases h2 : x < 2048
    · rw [if_pos h2]; simp; omega
    · rw [if_neg h2]
      by_cases hs : 55296 ≤ x ∧ x < 57344 ∨ 1114111 < x
      · rw [if_pos hs]; simp; omega
      · rw [if_neg hs]
        by_cases h3 : x < 65536
        · rw [if_pos h3]; simp; omega
        · rw [if_neg h3]
          simp only [List.cons.injEq, and_true]
          rw [zIb (by omega), zIb (by omega), zIb (by omega), zIb (by omega)]
          omega
theorem point_2 (c : UInt8) (t : List UInt8) (hc : 192 ≤ c.toNat) (hc2 : c.toNat < 224) : ∃ v : Int, Pu tree.getF 60 [.str (c :: t)] (.tup [.int .u32 v, .int .i64 (ptF (c :: t) : Int)]) := by
  have hcl := c.toNat_lt
  have k1 : ¬ c.toNat < 128 := by omega
  have k2 : c.toNat / 32 = 6 := by omega
  match t with
  | [] =>
    have e : ptF (c :: []) = 0 := by simp only [ptF]; rw [if_neg k1, if_pos k2]
    rw [e]; exact ⟨_, rp_2s c _ hc hc2 (by simp)⟩
  | c1 :: t =>
    have hcl1 := c1.toNat_lt
    obtain ⟨x, hx⟩ : ∃ x, (c.toNat % 32) * 64 + c1.toNat % 64 = x := ⟨_, rfl⟩
    have P := put2 (x := x) (c := c) (c1 := c1) (by omega)
    have ef : ptF (c :: c1 :: t) = if putB x = [c, c1] then 2 else 0 := by
      rw [← hx]; simp only [ptF]; rw [if_neg k1, if_pos k2]
    have eno : ¬ putB x = [c, c1] → ptF (c :: c1 :: t) = 0 := fun h => by rw [ef, if_neg h]
    have eyes : putB x = [c, c1] → ptF (c :: c1 :: t) = 2 := fun h => by rw [ef, if_pos h]
    by_cases l1 : c1.toNat < 128
    · rw [eno (by rw [P]; omega)]; exact ⟨_, rp_2l1 c c1 (t) hc hc2 (by simp)  l1⟩
    by_cases h1 : 191 < c1.toNat
    · rw [eno (by rw [P]; omega)]; exact ⟨_, rp_2h1 c c1 (t) hc hc2 (by simp)  h1⟩
    have a1 : 128 ≤ c1.toNat ∧ c1.toNat ≤ 191 := by omega
    have hv : (((c.toNat : Int) - 192) * 64 + ((c1.toNat : Int) - 128)) = (x : Int) := by omega
    by_cases w1 : x < 128
    · rw [eno (by rw [P]; omega)]; exact ⟨_, rp_2least c c1 t hc hc2 a1 (by rw [hv]; omega)⟩
    rw [eyes (by rw [P]; omega)]; exact ⟨_, rp_2ok1 c c1 t hc hc2 a1 (by rw [hv]; omega)⟩

theorem point_3 (c : UInt8) (t : List UInt8) (hc : 224 ≤ c.toNat) (hc2 : c.toNat < 240) : ∃ v : Int, Pu tree.getF 60 [.str (c :: t)] (.tup [.int .u32 v, .int .i64 (ptF (c :: t) : Int)]) := by
  have hcl := c.toNat_lt
  have k1 : ¬ c.toNat < 128 := by omega
  have k2 : ¬ c.toNat / 32 = 6 := by omega
  have k3 : c.toNat / 16 = 14 := by omega
  match t with
  | [] =>
    have e : ptF (c :: []) = 0 := by simp only [ptF]; rw [if_neg k1, if_neg k2, if_pos k3]
    rw [e]; exact ⟨_, rp_3s c _ hc hc2 (by simp)⟩
  | [c1] =>
    have e : ptF (c :: [c1]) = 0 := by simp only [ptF]; rw [if_neg k1, if_neg k2, if_pos k3]
    rw [e]; exact ⟨_, rp_3s c _ hc hc2 (by simp)⟩
  | c1 :: c2 :: t =>
    have hcl1 := c1.toNat_lt
    have hcl2 := c2.toNat_lt
    obtain ⟨x, hx⟩ : ∃ x, ((c.toNat % 16) * 64 + c1.toNat % 64) * 64 + c2.toNat % 64 = x := ⟨_, rfl⟩
    have P := put3 (x := x) (c := c) (c1 := c1) (c2 := c2) (by omega)
    have ef : ptF (c :: c1 :: c2 :: t) = if putB x = [c, c1, c2] then 3 else 0 := by
      rw [← hx]; simp only [ptF]; rw [if_neg k1, if_neg k2, if_pos k3]
    have eno : ¬ putB x = [c, c1, c2] → ptF (c :: c1 :: c2 :: t) = 0 := fun h => by rw [ef, if_neg h]
    have eyes : putB x = [c, c1, c2] → ptF (c :: c1 :: c2 :: t) = 3 := fun h => by rw [ef, if_pos h]
    by_cases l1 : c1.toNat < 128
    · rw [eno (by rw [P]; omega)]; exact ⟨_, rp_3l1 c c1 (c2 :: t) hc hc2 (by simp)  l1⟩
    by_cases h1 : 191 < c1.toNat
    · rw [eno (by rw [P]; omega)]; exact ⟨_, rp_3h1 c c1 (c2 :: t) hc hc2 (by simp)  h1⟩
    have a1 : 128 ≤ c1.toNat ∧ c1.toNat ≤ 191 := by omega
    by_cases l2 : c2.toNat < 128
    · rw [eno (by rw [P]; omega)]; exact ⟨_, rp_3l2 c c1 c2 (t) hc hc2 (by simp) a1 l2⟩
    by_cases h2 : 191 < c2.toNat
    · rw [eno (by rw [P]; omega)]; exact ⟨_, rp_3h2 c c1 c2 (t) hc hc2 (by simp) a1 h2⟩
    have a2 : 128 ≤ c2.toNat ∧ c2.toNat ≤ 191 := by omega
    have hv : ((((c.toNat : Int) - 224) * 64 + ((c1.toNat : Int) - 128)) * 64 + ((c2.toNat : Int) - 128)) = (x : Int) := by omega
    by_cases w1 : x < 2048
    · rw [eno (by rw [P]; omega)]; exact ⟨_, rp_3least c c1 c2 t hc hc2 a1 a2 (by rw [hv]; omega)⟩
    by_cases w2 : x < 55296
    · rw [eyes (by rw [P]; omega)]; exact ⟨_, rp_3ok1 c c1 c2 t hc hc2 a1 a2 (by rw [hv]; omega)⟩
    by_cases w3 : x ≤ 57343
    · rw [eno (by rw [P]; omega)]; exact ⟨_, rp_3sur c c1 c2 t hc hc2 a1 a2 (by rw [hv]; omega)⟩
    rw [eyes (by rw [P]; omega)]; exact ⟨_, rp_3ok2 c c1 c2 t hc hc2 a1 a2 (by rw [hv]; omega)⟩

theorem point_4 (c : UInt8) (t : List UInt8) (hc : 240 ≤ c.toNat) (hc2 : c.toNat < 248) : ∃ v : Int, Pu tree.getF 60 [.str (c :: t)] (.tup [.int .u32 v, .int .i64 (ptF (c :: t) : Int)]) := by
  have hcl := c.toNat_lt
  have k1 : ¬ c.toNat < 128 := by omega
  have k2 : ¬ c.toNat / 32 = 6 := by omega
  have k3 : ¬ c.toNat / 16 = 14 := by omega
  have k4 : c.toNat / 8 = 30 := by omega
  match t with
  | [] =>
    have e : ptF (c :: []) = 0 := by simp only [ptF]; rw [if_neg k1, if_neg k2, if_neg k3, if_pos k4]
    rw [e]; exact ⟨_, rp_4s c _ hc hc2 (by simp)⟩
  | [c1] =>
    have e : ptF (c :: [c1]) = 0 := by simp only [ptF]; rw [if_neg k1, if_neg k2, if_neg k3, if_pos k4]
    rw [e]; exact ⟨_, rp_4s c _ hc hc2 (by simp)⟩
  | [c1, c2] =>
    have e : ptF (c :: [c1, c2]) = 0 := by simp only [ptF]; rw [if_neg k1, if_neg k2, if_neg k3, if_pos k4]
    rw [e]; exact ⟨_, rp_4s c _ hc hc2 (by simp)⟩
  | c1 :: c2 :: c3 :: t =>
    have hcl1 := c1.toNat_lt
    have hcl2 := c2.toNat_lt
    have hcl3 := c3.toNat_lt
    obtain ⟨x, hx⟩ : ∃ x, (((c.toNat % 8) * 64 + c1.toNat % 64) * 64 + c2.toNat % 64) * 64 + c3.toNat % 64 = x := ⟨_, rfl⟩
    have P := put4 (x := x) (c := c) (c1 := c1) (c2 := c2) (c3 := c3) (by omega)
    have ef : ptF (c :: c1 :: c2 :: c3 :: t) = if putB x = [c, c1, c2, c3] then 4 else 0 := by
      rw [← hx]; simp only [ptF]; rw [if_neg k1, if_neg k2, if_neg k3, if_pos k4]
    have eno : ¬ putB x = [c, c1, c2, c3] → ptF (c :: c1 :: c2 :: c3 :: t) = 0 := fun h => by rw [ef, if_neg h]
    have eyes : putB x = [c, c1, c2, c3] → ptF (c :: c1 :: c2 :: c3 :: t) = 4 := fun h => by rw [ef, if_pos h]
    by_cases l1 : c1.toNat < 128
    · rw [eno (by rw [P]; omega)]; exact ⟨_, rp_4l1 c c1 (c2 :: c3 :: t) hc hc2 (by simp)  l1⟩
    by_cases h1 : 191 < c1.toNat
    · rw [eno (by rw [P]; omega)]; exact ⟨_, rp_4h1 c c1 (c2 :: c3 :: t) hc hc2 (by simp)  h1⟩
    have a1 : 128 ≤ c1.toNat ∧ c1.toNat ≤ 191 := by omega
    by_cases l2 : c2.toNat < 128
    · rw [eno (by rw [P]; omega)]; exact ⟨_, rp_4l2 c c1 c2 (c3 :: t) hc hc2 (by simp) a1 l2⟩
    by_cases h2 : 191 < c2.toNat
    · rw [eno (by rw [P]; omega)]; exact ⟨_, rp_4h2 c c1 c2 (c3 :: t) hc hc2 (by simp) a1 h2⟩
    have a2 : 128 ≤ c2.toNat ∧ c2.toNat ≤ 191 := by omega
    by_cases l3 : c3.toNat < 128
    · rw [eno (by rw [P]; omega)]; exact ⟨_, rp_4l3 c c1 c2 c3 (t) hc hc2 (by simp) a1 a2 l3⟩
    by_cases h3 : 191 < c3.toNat
    · rw [eno (by rw [P]; omega)]; exact ⟨_, rp_4h3 c c1 c2 c3 (t) hc hc2 (by simp) a1 a2 h3⟩
    have a3 : 128 ≤ c3.toNat ∧ c3.toNat ≤ 191 := by omega
    have hv : (((((c.toNat : Int) - 240) * 64 + ((c1.toNat : Int) - 128)) * 64 + ((c2.toNat : Int) - 128)) * 64 + ((c3.toNat : Int) - 128)) = (x : Int) := by omega
    by_cases w1 : x < 65536
    · rw [eno (by rw [P]; omega)]; exact ⟨_, rp_4least c c1 c2 c3 t hc hc2 a1 a2 a3 (by rw [hv]; omega)⟩
    by_cases w2 : 1114111 < x
    · rw [eno (by rw [P]; omega)]; exact ⟨_, rp_4most c c1 c2 c3 t hc hc2 a1 a2 a3 (by rw [hv]; omega)⟩
    rw [eyes (by rw [P]; omega)]; exact ⟨_, rp_4ok2 c c1 c2 c3 t hc hc2 a1 a2 a3 (by rw [hv]; omega)⟩

theorem point_R (s : List UInt8) : ∃ v : Int, Pu tree.getF 60 [.str s] (.tup [.int .u32 v, .int .i64 (ptF s : Int)]) := by
  cases s with
  | nil => exact ⟨_, rp_nil⟩
  | cons c t =>
    by_cases h1 : c.toNat < 128
    · have e : ptF (c :: t) = 1 := by simp only [ptF]; rw [if_pos h1]
      rw [e]; exact ⟨_, rp_1 c t h1⟩
    by_cases h2 : c.toNat < 192
    · have e : ptF (c :: t) = 0 := by simp only [ptF]; rw [if_neg h1, if_neg (by omega), if_neg (by omega), if_neg (by omega)]
      rw [e]; exact ⟨_, rp_lo c t (by omega) h2⟩
    by_cases h3 : c.toNat < 224
    · exact point_2 c t (by omega) h3
    by_cases h4 : c.toNat < 240
    · exact point_3 c t (by omega) h4
    by_cases h5 : c.toNat < 248
    · exact point_4 c t (by omega) h5
    have e : ptF (c :: t) = 0 := by simp only [ptF]; rw [if_neg h1, if_neg (by omega), if_neg (by omega), if_neg (by omega)]
    rw [e]; exact ⟨_, rp_hi c t (by omega)⟩
abbrev zJw : CCode := (.loop true (.seq (.seq (.region [.v 0, .g (.len true (.loc 0)), .g (.bin .gtr (.loc 0) (.const (.int .i64 0)))] [(1, 2)] [] []) (.cond (.var 1) .skip (.exit 0))) (.block 1 (.seq (.region [.v 0, .g (.call false 60 [(.loc 0)]), .m (.loc 0), .g (.extract 0 (.loc 0)), .g (.extract 1 (.loc 1)), .m (.loc 1), .m (.loc 1)] [(2, 6)] [] []) (.seq (.seq (.region [.v 2, .g (.bin .eql (.loc 0) (.const (.int .i64 0)))] [(3, 1)] [] []) (.cond (.var 3) (.seq (.region [.m (.const (.bool false))] [(4, 0)] [] []) .ret) .skip)) (.region [.v 0, .v 2, .g (.slc 0 (.loc 1) (some (.loc 0)) none), .m (.loc 0)] [(0, 3)] [] []))))))
theorem rvalid_loop (Q : CExit → CSt → Prop) : ∀ (m : Nat) (s : List UInt8), s.length ≤ m → s.length ≤ 70000 → ∀ (h : CHeap) (v1 v2 v3 v4 : CVal), Fit h →
    (∀ n' ty v0 v1 v2 v3, h.next ≤ n' → zA4 ty n' → zB9 s = false → Q .ret ⟨[v0, v1, v2, v3, .bool false], ⟨h.ents, n', ty⟩, []⟩) →
    (∀ n' ty v0 v1 v2 v3 v4, h.next ≤ n' → zA4 ty n' → zB9 s = true → Q (.exit 0) ⟨[v0, v1, v2, v3, v4], ⟨h.ents, n', ty⟩, []⟩) →
    W tree.getF zJw ⟨[.str s, v1, v2, v3, v4], h, []⟩ Q := by
  intro m
  induction m with
  | zero =>
    intro s hm hl h v1 v2 v3 v4 hf hk1 hk2
    obtain rfl : s = [] := List.length_eq_zero_iff.1 (by omega)
    obtain ⟨hu, hut, hX⟩ := fx4 hf

    refine W.loop ?_
    repeat (first | refine sq_ ?_ | refine bl_ ?_ | ((first | refine rg_ ?_ | refine go_ ?_); generalize e : goR _ _ _ _ _ _ _ _ = r; simp (disch := omega) [hX] at e; replace e : some _ = _ := e; subst e; (try dsimp only [goW])) | refine ct_ rfl ?_ | refine cf_ rfl ?_ | refine sk_ ?_ | refine ex_ ?_)
    exact hk2 _ _ _ _ _ _ _ (by omega) ut_ (by rw [zB9]; rfl)
  | succ m ih =>
    intro s hm hl h v1 v2 v3 v4 hf hk1 hk2
    obtain ⟨hu, hut, hX⟩ := fx4 hf

    cases s with
    | nil =>
      refine W.loop ?_
      repeat (first | refine sq_ ?_ | refine bl_ ?_ | ((first | refine rg_ ?_ | refine go_ ?_); generalize e : goR _ _ _ _ _ _ _ _ = r; simp (disch := omega) [hX] at e; replace e : some _ = _ := e; subst e; (try dsimp only [goW])) | refine ct_ rfl ?_ | refine cf_ rfl ?_ | refine sk_ ?_ | refine ex_ ?_)
      exact hk2 _ _ _ _ _ _ _ (by omega) ut_ (by rw [zB9]; rfl)
    | cons c t =>
      obtain ⟨rv, P⟩ := point_R (c :: t)
      have hle := ptF_le (c :: t)
      simp only [List.length_cons] at hm hl hle
      have htk : (c :: t).take (t.length + 1) = c :: t := List.take_of_length_le (by simp)
      by_cases hz : ptF (c :: t) = 0
      · rw [hz] at P
        refine W.loop ?_
        repeat (first | refine sq_ ?_ | refine bl_ ?_ | ((first | refine rg_ ?_ | refine go_ ?_); generalize e : goR _ _ _ _ _ _ _ _ = r; simp (disch := omega) [hX] at e; replace e : some _ = _ := e; subst e; (try dsimp only [goW])) | refine ct_ rfl ?_ | refine cf_ rfl ?_ | refine sk_ ?_ | refine ex_ ?_ | (refine P _ ?_ _ fun n1 tyn1 hn1 hun1 => ⟨rfl, ?_⟩; exact fit_; (try dsimp only at hn1)) | (refine W.ret ?_; (try simp only [zAg, zA1, zA7]); refine hk1 _ _ _ _ _ _ ?_ ?_ ?_; omega; exact ut_; rw [zB9, dif_pos hz]; rfl))
      · obtain ⟨n, hn⟩ : ∃ n, ptF (c :: t) = n := ⟨_, rfl⟩
        have hvd : zB9 (c :: t) = zB9 ((c :: t).drop n) := by
          conv => lhs; rw [zB9]
          rw [dif_neg hz, hn]
        rw [hvd] at hk1 hk2
        rw [hn] at P hz hle
        have hn0 : ¬ ((n : Int) = 0) := by omega
        refine W.loop ?_
        repeat (first | refine sq_ ?_ | refine bl_ ?_ | ((first | refine rg_ ?_ | refine go_ ?_); generalize e : goR _ _ _ _ _ _ _ _ = r; simp (disch := omega) [hX, htk, hn0] at e; replace e : some _ = _ := e; subst e; (try dsimp only [goW])) | refine ct_ rfl ?_ | refine cf_ rfl ?_ | refine sk_ ?_ | refine ex_ ?_ | (refine P _ ?_ _ fun n1 tyn1 hn1 hun1 => ⟨rfl, ?_⟩; exact fit_; (try dsimp only at hn1)))
        show W tree.getF zJw (dropped true _ _) Q
        generalize e : dropped _ _ _ = r9
        simp (disch := omega) [hX] at e
        subst e
        refine ih ((c :: t).drop n) (by rw [List.length_drop]; simp; omega) (by rw [List.length_drop]; simp; omega) _ _ _ _ _ ?_ ?_ ?_
        · exact fit_
        · intro n' ty w0 w1 w2 w3 g1 g3 g2; exact hk1 n' ty w0 w1 w2 w3 (by dsimp only at g1; omega) g3 g2
        · intro n' ty w0 w1 w2 w3 w4 g1 g3 g2; exact hk2 n' ty w0 w1 w2 w3 w4 (by dsimp only at g1; omega) g3 g2

theorem valid_R (s : List UInt8) (hl : s.length < 70000) : Pu tree.getF 47 [.str s] (.bool (zB9 s)) := by
  intro h hf K hk
  obtain ⟨hu, hut, hX⟩ := fx4 hf
  refine Wc.mkG 47 c47 (by kernel_rfl) rfl ?_
  generalize e : zA9 _ _ _ = r
  simp (disch := omega) [hX, c47] at e
  subst e
  repeat (first | refine sq_ ?_ | refine bl_ ?_ | ((first | refine rg_ ?_ | refine go_ ?_); generalize e : goR _ _ _ _ _ _ _ _ = r; simp (disch := omega) [hX, c47] at e; replace e : some _ = _ := e; subst e; (try dsimp only [goW])) | refine ct_ rfl ?_ | refine cf_ rfl ?_ | refine sk_ ?_ | refine ex_ ?_)
  refine rvalid_loop _ s.length s (Nat.le_refl _) (by omega) _ _ _ _ _ ?_ ?_ ?_
  · exact fit_
  · intro n' ty w0 w1 w2 w3 g1 g3 g2
    try dsimp only at g1
    rw [g2] at hk
    try simp only [zAg, zA1, zA7]
    refine endW.of (.inl rfl) rfl ?_
    generalize e : zAj _ _ _ = r
    simp (disch := omega) [hX, c47] at e
    subst e
    (try dsimp only)
    refine hk _ _ ?_ ?_
    omega
    exact ut_
  · intro n' ty w0 w1 w2 w3 w4 g1 g3 g2
    try dsimp only at g1
    rw [g2] at hk
    repeat (first | refine sq_ ?_ | refine bl_ ?_ | ((first | refine rg_ ?_ | refine go_ ?_); generalize e : goR _ _ _ _ _ _ _ _ = r; simp (disch := omega) [hX, c47] at e; replace e : some _ = _ := e; subst e; (try dsimp only [goW])) | refine ct_ rfl ?_ | refine cf_ rfl ?_ | refine sk_ ?_ | refine ex_ ?_ | ((first | (refine W.ret ?_; (try simp only [zAg, zA1, zA7]); refine endW.of (.inl rfl) rfl ?_) | refine endW.of (.inr rfl) rfl ?_); generalize e : zAj _ _ _ = r; simp (disch := omega) [hX, c47] at e; subst e; (try dsimp only [goW]); (refine hk _ _ ?_ ?_; omega; exact ut_)))

/-- A text's end, told from elsewhere. -/
theorem textF_shift (q : UInt8) (m : Nat) : ∀ (n : Nat) (r acc : List UInt8) (k : Nat), r.length ≤ n → zAu q r acc (k + m) = (zAu q r acc k).map (fun x => (x.1, x.2 + m)) := by
  intro n
  induction n with
  | zero =>
    intro r acc k h
    obtain rfl : r = [] := List.length_eq_zero_iff.1 (by omega)
    simp [zAu]
  | succ n ih =>
    intro r acc k h
    cases r with
    | nil => simp [zAu]
    | cons c t =>
      simp only [List.length_cons] at h
      unfold zAu
      by_cases h1 : c = q
      · rw [if_pos h1, if_pos h1]; simp; omega
      rw [if_neg h1, if_neg h1]
      by_cases h2 : c = 10
      · rw [if_pos h2, if_pos h2]; rfl
      rw [if_neg h2, if_neg h2]
      by_cases h3 : c = 92
      · rw [if_pos h3, if_pos h3]
        cases t with
        | nil => rfl
        | cons x u =>
          dsimp only
          cases zGa x with
          | none => rfl
          | some w =>
            dsimp only
            have := ih u (acc ++ [w]) (k + 2) (by simp only [List.length_cons] at h; omega)
            rw [← this]
            congr 1
            omega
      · rw [if_neg h3, if_neg h3]
        have := ih t (acc ++ [c]) (k + 1) (by omega)
        rw [← this]
        congr 1
        omega
theorem wQU1 {P : Prop} (h : P := by repeat (first | refine sq_ ?_ | refine bl_ ?_ | ((first | refine rg_ ?_ | refine go_ ?_); generalize e : goR _ _ _ _ _ _ _ _ = r; simp (disch := omega) [hX, hg, hY, hce, hc0, hsl, hto, hcut, hto9, c14] at e; replace e : some _ = _ := e; subst e; (try dsimp only [goW])) | refine ct_ rfl ?_ | refine cf_ rfl ?_ | refine sk_ ?_ | refine ex_ ?_ | ((first | (refine W.ret ?_; (try simp only [zAg, zA1, zA7]); refine endW.of (.inl rfl) rfl ?_) | refine endW.of (.inr rfl) rfl ?_); generalize e : zAj _ _ _ = r; simp (disch := omega) [hX, hg, hY, hce, hc0, hsl, hto, hcut, hto9, c14] at e; subst e; (try dsimp only [goW]); (refine hk _ _ ?_ ?_; omega; exact ut_)))) : P := h
theorem wQU2 {P : Prop} (h : P := by repeat (first | refine sq_ ?_ | refine bl_ ?_ | ((first | refine rg_ ?_ | refine go_ ?_); generalize e : goR _ _ _ _ _ _ _ _ = r; simp (disch := omega) [hX, hg, hY, hce, hc0, hsl, hto, c14] at e; replace e : some _ = _ := e; subst e; (try dsimp only [goW])) | refine ct_ rfl ?_ | refine cf_ rfl ?_ | refine sk_ ?_ | refine ex_ ?_ | ((first | (refine W.ret ?_; (try simp only [zAg, zA1, zA7]); refine endW.of (.inl rfl) rfl ?_) | refine endW.of (.inr rfl) rfl ?_); generalize e : zAj _ _ _ = r; simp (disch := omega) [hX, hg, hY, hce, hc0, hsl, hto, c14] at e; subst e; (try dsimp only [goW]); (refine hk1 _ _ ?_ ?_; omega; exact ut_)))) : P := h
theorem wQU3 {P : Prop} (h : P := by repeat (first | refine sq_ ?_ | refine bl_ ?_ | ((first | refine rg_ ?_ | refine go_ ?_); generalize e : goR _ _ _ _ _ _ _ _ = r; simp (disch := omega) [hX, hg, hY, hce, hc0, hsl, hto, c14] at e; replace e : some _ = _ := e; subst e; (try dsimp only [goW])) | refine ct_ rfl ?_ | refine cf_ rfl ?_ | refine sk_ ?_ | refine ex_ ?_ | ((first | (refine W.ret ?_; (try simp only [zAg, zA1, zA7]); refine endW.of (.inl rfl) rfl ?_) | refine endW.of (.inr rfl) rfl ?_); generalize e : zAj _ _ _ = r; simp (disch := omega) [hX, hg, hY, hce, hc0, hsl, hto, c14] at e; subst e; (try dsimp only [goW]); (refine hk2 _ _ ?_ ?_; omega; exact ut_)))) : P := h

theorem nmR_le (s : List UInt8) : nmR s ≤ s.length := by
  induction s with
  | nil => exact Nat.le_refl _
  | cons c r ih =>
    unfold nmR
    split
    · simp only [List.length_cons]; omega
    · exact Nat.zero_le _

theorem word_e (s : List UInt8) (hs : s.length < 60000) (i : Nat) (hi : i = s.length) (t : Int) (h : CHeap) (p d : Nat) (hf : Fit h) (hg : zA3 h.ents p = some (lx s (i : Int) 0 t)) (hp : p < h.next) (K : CVal → CHeap → Prop)
    (hk : ∀ n' ty, h.next ≤ n' → zA4 ty n' → K (.agg [.int .i64 5, .str [], .int .u64 0, .int .i64 (i : Int)]) ⟨h.ents, n', ty⟩) : Wc tree.getF 14 [.ptr p d 0] h K := by
  obtain ⟨hu, hut, hX⟩ := fx4 hf
  have hY := fx5 hf hg
  have hie : (i : Int) = (s.length : Int) := by omega
  refine Wc.mkG 14 c14 (by kernel_rfl) rfl ?_
  generalize e : zA9 _ _ _ = r
  simp (disch := omega) [hX, hg, hY, c14] at e
  subst e
  repeat (first | refine sq_ ?_ | refine bl_ ?_ | ((first | refine rg_ ?_ | refine go_ ?_); generalize e : goR _ _ _ _ _ _ _ _ = r; simp (disch := omega) [hX, hg, hY, c14] at e; replace e : some _ = _ := e; subst e; (try dsimp only [goW])) | refine ct_ rfl ?_ | refine cf_ rfl ?_ | refine sk_ ?_ | refine ex_ ?_ | ((first | (refine W.ret ?_; (try simp only [zAg, zA1, zA7]); refine endW.of (.inl rfl) rfl ?_) | refine endW.of (.inr rfl) rfl ?_); generalize e : zAj _ _ _ = r; simp (disch := omega) [hX, hg, hY, c14] at e; subst e; (try dsimp only [goW]); (refine hk _ _ ?_ ?_; omega; exact ut_)))

theorem word_nm (s : List UInt8) (hs : s.length < 60000) (i : Nat) (c : UInt8) (r : List UInt8) (hd : s.drop i = c :: r) (hlen : i + (c :: r).length = s.length) (t : Int) (hl : letB c = true) (h : CHeap) (p d : Nat) (hf : Fit h) (hg : zA3 h.ents p = some (lx s (i : Int) 0 t)) (hp : p < h.next) (K : CVal → CHeap → Prop) (hk : ∀ n' ty, h.next ≤ n' → zA4 ty n' → K (.agg [.int .i64 1, .str ((c :: r).take (1 + nmR r)), .int .u64 0, .int .i64 (i : Int)]) ⟨zA0 h.ents p (lx s ((i + 1 + nmR r : Nat) : Int) 0 t), n', ty⟩) : Wc tree.getF 14 [.ptr p d 0] h K := by
  obtain ⟨hu, hut, hX⟩ := fx4 hf
  have hY := fx5 hf hg; have ⟨hG, hD2, hC2, hN2⟩ := hY
  have hc0 := zB7 hd
  obtain ⟨hi, hce⟩ := List.getElem?_eq_some_iff.1 hc0
  have hcl := c.toNat_lt
  have hine : ¬ ((i : Int) = (s.length : Int)) := by omega
  have LF := zBc c
  have DF := zBv c
  have hsl : (s.take (i + 1)).drop i = [c] := by rw [List.drop_take, show i + 1 - i = 1 by omega, hd]; rfl
  have hto : ((i : Int) + 1).toNat = i + 1 := by omega
  rw [hl] at LF
  refine Wc.mkG 14 c14 (by kernel_rfl) rfl ?_
  generalize e : zA9 _ _ _ = r
  simp (disch := omega) [hX, hg, hY, c14] at e
  subst e
  repeat (first | refine sq_ ?_ | refine bl_ ?_ | ((first | refine rg_ ?_ | refine go_ ?_); generalize e : goR _ _ _ _ _ _ _ _ = r; simp (disch := omega) [hX, hg, hY, hce, hc0, hsl, hto] at e; replace e : some _ = _ := e; subst e; (try dsimp only [goW])) | refine ct_ rfl ?_ | refine cf_ rfl ?_ | refine sk_ ?_ | refine ex_ ?_ | (refine LF _ ?_ _ fun n1 tyn1 hn1 hun1 => ⟨rfl, ?_⟩; exact fit_; (try dsimp only at hn1)) | (refine DF _ ?_ _ fun n1 tyn1 hn1 hun1 => ⟨rfl, ?_⟩; exact fit_; (try dsimp only at hn1)))
  refine ref_name s hs p d t _ _ _ _ _ _ _ _ _ _ _ r (i + 1) (zBi hd) (by simp only [List.length_cons] at hlen; omega) _ _ ?_ ?_ ?_ ?_
  · (simp (disch := omega) [zA3, zA0, zBj, zBk, zA5, hg, hG])
  · exact fit_
  · (try dsimp only); omega
  · intro n' ty w6 g1 g2
    try dsimp only at g1
    have hnl := nmR_le r
    have hlen1 := hlen
    simp only [List.length_cons] at hlen1
    have hcut : (s.take (i + 1 + nmR r)).drop i = (c :: r).take (1 + nmR r) := by rw [List.drop_take, hd]; congr 1; omega
    obtain ⟨e9, he9⟩ : ∃ e9, i + 1 + nmR r = e9 := ⟨_, rfl⟩
    have hto9 : ((e9 : Nat) : Int).toNat = e9 := by omega
    simp only [he9] at hk hcut ⊢
    exact wQU1

theorem word_dot (s : List UInt8) (hs : s.length < 60000) (i : Nat) (c x : UInt8) (r0 r : List UInt8) (hr : r = x :: r0) (hd : s.drop i = c :: r) (hlen : i + (c :: r).length = s.length) (t : Int) (hl : letB c = false) (h46 : c.toNat = 46) (hx : letB x = true) (h : CHeap) (p d : Nat) (hf : Fit h) (hg : zA3 h.ents p = some (lx s (i : Int) 0 t)) (hp : p < h.next) (K : CVal → CHeap → Prop) (hk : ∀ n' ty, h.next ≤ n' → zA4 ty n' → K (.agg [.int .i64 1, .str ((c :: r).take (1 + nmR r)), .int .u64 0, .int .i64 (i : Int)]) ⟨zA0 h.ents p (lx s ((i + 1 + nmR r : Nat) : Int) 0 t), n', ty⟩) : Wc tree.getF 14 [.ptr p d 0] h K := by
  obtain ⟨hu, hut, hX⟩ := fx4 hf
  have hY := fx5 hf hg; have ⟨hG, hD2, hC2, hN2⟩ := hY
  have hc0 := zB7 hd
  obtain ⟨hi, hce⟩ := List.getElem?_eq_some_iff.1 hc0
  have hcl := c.toNat_lt
  have hine : ¬ ((i : Int) = (s.length : Int)) := by omega
  have LF := zBc c
  have DF := zBv c
  have hsl : (s.take (i + 1)).drop i = [c] := by rw [List.drop_take, show i + 1 - i = 1 by omega, hd]; rfl
  have hto : ((i : Int) + 1).toNat = i + 1 := by omega
  have hx1 : s[i + 1]? = some x := by have := zBi hd; rw [hr] at this; exact zB7 this
  have B1 : ∀ (h : CHeap) (hf : Fit h) (hg : zA3 h.ents p = some (lx s (i : Int) 0 t)) (hp : p < h.next) (K : CVal → CHeap → Prop) (hk : ∀ n' ty, h.next ≤ n' → zA4 ty n' → K (.int .u8 (x.toNat : Int)) ⟨h.ents, n', ty⟩), Wc tree.getF 32 [.ptr p d 0, .int .i64 1] h K := fun h hf hg hp K hk => zIa s i 1 0 t x hs (by omega) hx1 h p d hf hg hp K hk
  have LX := zBc x
  rw [hl] at LF
  rw [hx] at LX
  refine Wc.mkG 14 c14 (by kernel_rfl) rfl ?_
  generalize e : zA9 _ _ _ = r
  simp (disch := omega) [hX, hg, hY, c14] at e
  subst e
  repeat (first | refine sq_ ?_ | refine bl_ ?_ | ((first | refine rg_ ?_ | refine go_ ?_); generalize e : goR _ _ _ _ _ _ _ _ = r; simp (disch := omega) [hX, hg, hY, hce, hc0, hsl, hto] at e; replace e : some _ = _ := e; subst e; (try dsimp only [goW])) | refine ct_ rfl ?_ | refine cf_ rfl ?_ | refine sk_ ?_ | refine ex_ ?_ | (refine LF _ ?_ _ fun n1 tyn1 hn1 hun1 => ⟨rfl, ?_⟩; exact fit_; (try dsimp only at hn1)) | (refine B1 _ ?_ ?_ ?_ _ fun n1 tyn1 hn1 hun1 => ⟨rfl, ?_⟩; exact fit_; exact ge_; (try dsimp only); omega; (try dsimp only at hn1)) | (refine LX _ ?_ _ fun n1 tyn1 hn1 hun1 => ⟨rfl, ?_⟩; exact fit_; (try dsimp only at hn1)) | (refine DF _ ?_ _ fun n1 tyn1 hn1 hun1 => ⟨rfl, ?_⟩; exact fit_; (try dsimp only at hn1)))
  refine ref_name s hs p d t _ _ _ _ _ _ _ _ _ _ _ r (i + 1) (zBi hd) (by simp only [List.length_cons] at hlen; omega) _ _ ?_ ?_ ?_ ?_
  · (simp (disch := omega) [zA3, zA0, zBj, zBk, zA5, hg, hG])
  · exact fit_
  · (try dsimp only); omega
  · intro n' ty w6 g1 g2
    try dsimp only at g1
    have hnl := nmR_le r
    have hlen1 := hlen
    simp only [List.length_cons] at hlen1
    have hcut : (s.take (i + 1 + nmR r)).drop i = (c :: r).take (1 + nmR r) := by rw [List.drop_take, hd]; congr 1; omega
    obtain ⟨e9, he9⟩ : ∃ e9, i + 1 + nmR r = e9 := ⟨_, rfl⟩
    have hto9 : ((e9 : Nat) : Int).toNat = e9 := by omega
    simp only [he9] at hk hcut ⊢
    exact wQU1

theorem word_num (s : List UInt8) (hs : s.length < 60000) (i : Nat) (c : UInt8) (r : List UInt8) (hd : s.drop i = c :: r) (hlen : i + (c :: r).length = s.length) (t : Int) (hl : letB c = false) (hdg : digB c = true) (hne : ¬ c.toNat = 46) (h : CHeap) (p d : Nat) (hf : Fit h) (hg : zA3 h.ents p = some (lx s (i : Int) 0 t)) (hp : p < h.next) (K : CVal → CHeap → Prop)
    (hk1 : ∀ n' ty (v len : Nat), h.next ≤ n' → zA4 ty n' → zJq (c :: r) = .inr (v, len) → K (.agg [.int .i64 2, .str [], .int .u64 (v : Int), .int .i64 (i : Int)]) ⟨zA0 h.ents p (lx s ((i + len : Nat) : Int) 0 t), n', ty⟩)
    (hk2 : ∀ n' ty (e : Nat) (j : Int), h.next ≤ n' → zA4 ty n' → zJq (c :: r) = .inl e → K (.agg [.int .i64 0, .str [], .int .u64 0, .int .i64 0]) ⟨zA0 h.ents p (lx s j (e : Int) (i : Int)), n', ty⟩) : Wc tree.getF 14 [.ptr p d 0] h K := by
  obtain ⟨hu, hut, hX⟩ := fx4 hf
  have hY := fx5 hf hg
  have hc0 := zB7 hd
  obtain ⟨hi, hce⟩ := List.getElem?_eq_some_iff.1 hc0
  have hcl := c.toNat_lt
  have hine : ¬ ((i : Int) = (s.length : Int)) := by omega
  have LF := zBc c
  have DF := zBv c
  have hsl : (s.take (i + 1)).drop i = [c] := by rw [List.drop_take, show i + 1 - i = 1 by omega, hd]; rfl
  have hto : ((i : Int) + 1).toNat = i + 1 := by omega
  rw [hl] at LF
  rw [hdg] at DF
  refine Wc.mkG 14 c14 (by kernel_rfl) rfl ?_
  generalize e : zA9 _ _ _ = r
  simp (disch := omega) [hX, hg, hY, c14] at e
  subst e
  repeat (first | refine sq_ ?_ | refine bl_ ?_ | ((first | refine rg_ ?_ | refine go_ ?_); generalize e : goR _ _ _ _ _ _ _ _ = r; simp (disch := omega) [hX, hg, hY, hce, hc0, hsl, hto] at e; replace e : some _ = _ := e; subst e; (try dsimp only [goW])) | refine ct_ rfl ?_ | refine cf_ rfl ?_ | refine sk_ ?_ | refine ex_ ?_ | (refine LF _ ?_ _ fun n1 tyn1 hn1 hun1 => ⟨rfl, ?_⟩; exact fit_; (try dsimp only at hn1)) | (refine DF _ ?_ _ fun n1 tyn1 hn1 hun1 => ⟨rfl, ?_⟩; exact fit_; (try dsimp only at hn1)))
  refine number_L s hs i c r hd hlen t _ p d ?_ ?_ ?_ _ (fun n1 ty1 v len h1 h2 e1 => ⟨rfl, ?_⟩) (fun n1 ty1 e j h1 h2 e1 => ⟨rfl, ?_⟩); exact fit_; exact ge_; (try dsimp only); omega; all_goals (try dsimp only at h1)
  · obtain ⟨e9, he9⟩ : ∃ e9, i + len = e9 := ⟨_, rfl⟩
    replace hk1 := fun n' ty g1 g2 => hk1 n' ty v len g1 g2 e1
    simp only [he9] at hk1 ⊢
    exact wQU2
  · replace hk2 := fun n' ty g1 g2 => hk2 n' ty e j g1 g2 e1
    exact wQU3

theorem word_txt (s : List UInt8) (hs : s.length < 60000) (i : Nat) (c : UInt8) (r : List UInt8) (hd : s.drop i = c :: r) (hlen : i + (c :: r).length = s.length) (t : Int) (hl : letB c = false) (hdg : digB c = false) (hq : c.toNat = 34 ∨ c.toNat = 39) (h : CHeap) (p d : Nat) (hf : Fit h) (hg : zA3 h.ents p = some (lx s (i : Int) 0 t)) (hp : p < h.next) (K : CVal → CHeap → Prop)
    (hk1 : ∀ n' ty txt (k : Nat), h.next ≤ n' → zA4 ty n' → zAu c r [] (i + 1) = some (txt, k) → zB9 txt = true → K (.agg [.int .i64 3, .str txt, .int .u64 0, .int .i64 (i : Int)]) ⟨zA0 h.ents p (lx s (k : Int) 0 t), n', ty⟩)
    (hk2 : ∀ n' ty (j : Int), h.next ≤ n' → zA4 ty n' → (zAu c r [] (i + 1) = none ∨ ∃ txt k, zAu c r [] (i + 1) = some (txt, k) ∧ zB9 txt = false) → K (.agg [.int .i64 0, .str [], .int .u64 0, .int .i64 0]) ⟨zA0 h.ents p (lx s j 2 (i : Int)), n', ty⟩) : Wc tree.getF 14 [.ptr p d 0] h K := by
  obtain ⟨hu, hut, hX⟩ := fx4 hf
  have hY := fx5 hf hg
  have hc0 := zB7 hd
  obtain ⟨hi, hce⟩ := List.getElem?_eq_some_iff.1 hc0
  have hcl := c.toNat_lt
  have hine : ¬ ((i : Int) = (s.length : Int)) := by omega
  have LF := zBc c
  have DF := zBv c
  have hsl : (s.take (i + 1)).drop i = [c] := by rw [List.drop_take, show i + 1 - i = 1 by omega, hd]; rfl
  have hto : ((i : Int) + 1).toNat = i + 1 := by omega
  rw [hl] at LF
  rw [hdg] at DF
  rcases hq with hq | hq
  · refine Wc.mkG 14 c14 (by kernel_rfl) rfl ?_
    generalize e : zA9 _ _ _ = r
    simp (disch := omega) [hX, hg, hY, c14] at e
    subst e
    repeat (first | refine sq_ ?_ | refine bl_ ?_ | ((first | refine rg_ ?_ | refine go_ ?_); generalize e : goR _ _ _ _ _ _ _ _ = r; simp (disch := omega) [hX, hg, hY, hce, hc0, hsl, hto] at e; replace e : some _ = _ := e; subst e; (try dsimp only [goW])) | refine ct_ rfl ?_ | refine cf_ rfl ?_ | refine sk_ ?_ | refine ex_ ?_ | (refine LF _ ?_ _ fun n1 tyn1 hn1 hun1 => ⟨rfl, ?_⟩; exact fit_; (try dsimp only at hn1)) | (refine DF _ ?_ _ fun n1 tyn1 hn1 hun1 => ⟨rfl, ?_⟩; exact fit_; (try dsimp only at hn1)))
    refine text_L zB9 valid_R s hs i c r hd hlen t _ p d ?_ ?_ ?_ _ (fun n1 ty1 txt k h1 h2 e1 e2 => ⟨rfl, ?_⟩) (fun n1 ty1 j h1 h2 e1 => ⟨rfl, ?_⟩); exact fit_; exact ge_; (try dsimp only); omega; all_goals (try dsimp only at h1)
    · replace hk1 := fun n' ty g1 g2 => hk1 n' ty txt k g1 g2 e1 e2
      exact wQU2
    · replace hk2 := fun n' ty g1 g2 => hk2 n' ty j g1 g2 e1
      exact wQU3
  · refine Wc.mkG 14 c14 (by kernel_rfl) rfl ?_
    generalize e : zA9 _ _ _ = r
    simp (disch := omega) [hX, hg, hY, c14] at e
    subst e
    repeat (first | refine sq_ ?_ | refine bl_ ?_ | ((first | refine rg_ ?_ | refine go_ ?_); generalize e : goR _ _ _ _ _ _ _ _ = r; simp (disch := omega) [hX, hg, hY, hce, hc0, hsl, hto] at e; replace e : some _ = _ := e; subst e; (try dsimp only [goW])) | refine ct_ rfl ?_ | refine cf_ rfl ?_ | refine sk_ ?_ | refine ex_ ?_ | (refine LF _ ?_ _ fun n1 tyn1 hn1 hun1 => ⟨rfl, ?_⟩; exact fit_; (try dsimp only at hn1)) | (refine DF _ ?_ _ fun n1 tyn1 hn1 hun1 => ⟨rfl, ?_⟩; exact fit_; (try dsimp only at hn1)))
    refine text_L zB9 valid_R s hs i c r hd hlen t _ p d ?_ ?_ ?_ _ (fun n1 ty1 txt k h1 h2 e1 e2 => ⟨rfl, ?_⟩) (fun n1 ty1 j h1 h2 e1 => ⟨rfl, ?_⟩); exact fit_; exact ge_; (try dsimp only); omega; all_goals (try dsimp only at h1)
    · replace hk1 := fun n' ty g1 g2 => hk1 n' ty txt k g1 g2 e1 e2
      exact wQU2
    · replace hk2 := fun n' ty g1 g2 => hk2 n' ty j g1 g2 e1
      exact wQU3

end Go.Proofs.YtnllehllomllcaaDoor.IrM
