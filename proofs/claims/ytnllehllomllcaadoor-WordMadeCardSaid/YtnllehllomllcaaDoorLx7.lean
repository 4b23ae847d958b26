/- What the functions of the law 'WordMade' do: part 7 of 8. -/
import Derived.Test.YtnllehllomllcaaDoorLx6
namespace Go.Proofs.YtnllehllomllcaaDoor.IrM
open Go Go.CI
open Go.LexF hiding spacesB lettersB
set_option maxRecDepth 100000
set_option linter.unusedVariables false
set_option linter.unusedSimpArgs false
attribute [local irreducible] W Wo Wc WoR
theorem wQV1 {P : Prop} (h : P := by refine Wc.mkG 14 c14 (by kernel_rfl) rfl ?_; generalize e : zA9 _ _ _ = r; simp (disch := omega) [hX, hg, hY, c14] at e; subst e; repeat (first | refine sq_ ?_ | refine bl_ ?_ | ((first | refine rg_ ?_ | refine go_ ?_); generalize e : goR _ _ _ _ _ _ _ _ = r; simp (disch := omega) [hX, hg, hY, hce, hc0, hsl, hto, zKy, zLs, tn40, tn41, tn91, tn93, tn61, tn59, tn44, tn60, tn62, tn45, sg0, sg1, sg2, sg3, sg4, sg5, sg6, sg7, sg8, sg9, sg10, sg11, c14] at e; replace e : some _ = _ := e; subst e; (try dsimp only [goW])) | refine ct_ rfl ?_ | refine cf_ rfl ?_ | refine sk_ ?_ | refine ex_ ?_ | (refine W.loop ?_; try (generalize e : dropped _ _ _ = r; simp (disch := omega) [hX, hg, hY, hce, hc0, hsl, hto, zKy, zLs, tn40, tn41, tn91, tn93, tn61, tn59, tn44, tn60, tn62, tn45, sg0, sg1, sg2, sg3, sg4, sg5, sg6, sg7, sg8, sg9, sg10, sg11, c14] at e; subst e; try dsimp only)) | (refine LF _ ?_ _ fun n1 tyn1 hn1 hun1 => ⟨rfl, ?_⟩; exact fit_; (try dsimp only at hn1)) | (refine DF _ ?_ _ fun n1 tyn1 hn1 hun1 => ⟨rfl, ?_⟩; exact fit_; (try dsimp only at hn1)) | ((first | (refine W.ret ?_; (try simp only [zAg, zA1, zA7]); refine endW.of (.inl rfl) rfl ?_) | refine endW.of (.inr rfl) rfl ?_); generalize e : zAj _ _ _ = r; simp (disch := omega) [hX, hg, hY, hce, hc0, hsl, hto, zKy, zLs, tn40, tn41, tn91, tn93, tn61, tn59, tn44, tn60, tn62, tn45, sg0, sg1, sg2, sg3, sg4, sg5, sg6, sg7, sg8, sg9, sg10, sg11, c14] at e; subst e; (try dsimp only [goW]); (refine hk _ _ ?_ ?_; omega; exact ut_)))) : P := h
theorem wQV2 {P : Prop} (h : P := by refine Wc.mkG 14 c14 (by kernel_rfl) rfl ?_; generalize e : zA9 _ _ _ = r; simp (disch := omega) [hX, hg, hY, c14] at e; subst e; repeat (first | refine sq_ ?_ | refine bl_ ?_ | ((first | refine rg_ ?_ | refine go_ ?_); generalize e : goR _ _ _ _ _ _ _ _ = r; simp (disch := omega) [hX, hg, hY, hce, hc0, hsl, hto, zKy, zLs, tn40, tn41, tn91, tn93, tn61, tn59, tn44, tn60, tn62, tn45, sg0, sg1, sg2, sg3, sg4, sg5, sg6, sg7, sg8, sg9, sg10, sg11, c14] at e; replace e : some _ = _ := e; subst e; (try dsimp only [goW])) | refine ct_ rfl ?_ | refine cf_ rfl ?_ | refine sk_ ?_ | refine ex_ ?_ | (refine W.loop ?_; try (generalize e : dropped _ _ _ = r; simp (disch := omega) [hX, hg, hY, hce, hc0, hsl, hto, zKy, zLs, tn40, tn41, tn91, tn93, tn61, tn59, tn44, tn60, tn62, tn45, sg0, sg1, sg2, sg3, sg4, sg5, sg6, sg7, sg8, sg9, sg10, sg11, c14] at e; subst e; try dsimp only)) | (refine LF _ ?_ _ fun n1 tyn1 hn1 hun1 => ⟨rfl, ?_⟩; exact fit_; (try dsimp only at hn1)) | (refine B1 _ ?_ ?_ ?_ _ fun n1 tyn1 hn1 hun1 => ⟨rfl, ?_⟩; exact fit_; exact ge_; (try dsimp only); omega; (try dsimp only at hn1)) | (refine LX _ ?_ _ fun n1 tyn1 hn1 hun1 => ⟨rfl, ?_⟩; exact fit_; (try dsimp only at hn1)) | (refine DF _ ?_ _ fun n1 tyn1 hn1 hun1 => ⟨rfl, ?_⟩; exact fit_; (try dsimp only at hn1)) | (refine zE1 s (i : Int) 0 t _ _ _ p d ?_ ?_ ?_ _ fun n3 tyn3 hn3 hun3 => ⟨rfl, ?_⟩; exact fit_; exact ge_; (try dsimp only); omega; (try dsimp only at hn3)) | ((first | (refine W.ret ?_; (try simp only [zAg, zA1, zA7]); refine endW.of (.inl rfl) rfl ?_) | refine endW.of (.inr rfl) rfl ?_); generalize e : zAj _ _ _ = r; simp (disch := omega) [hX, hg, hY, hce, hc0, hsl, hto, zKy, zLs, tn40, tn41, tn91, tn93, tn61, tn59, tn44, tn60, tn62, tn45, sg0, sg1, sg2, sg3, sg4, sg5, sg6, sg7, sg8, sg9, sg10, sg11, c14] at e; subst e; (try dsimp only [goW]); (refine hk _ _ ?_ ?_; omega; exact ut_)))) : P := h
theorem zKy : UInt8.toNat 123 = 123 := rfl
theorem zLs : UInt8.toNat 125 = 125 := rfl
theorem tn40 : UInt8.toNat 40 = 40 := rfl
theorem tn41 : UInt8.toNat 41 = 41 := rfl
theorem tn91 : UInt8.toNat 91 = 91 := rfl
theorem tn93 : UInt8.toNat 93 = 93 := rfl
theorem tn61 : UInt8.toNat 61 = 61 := rfl
theorem tn59 : UInt8.toNat 59 = 59 := rfl
theorem tn44 : UInt8.toNat 44 = 44 := rfl
theorem tn60 : UInt8.toNat 60 = 60 := rfl
theorem tn62 : UInt8.toNat 62 = 62 := rfl
theorem tn45 : UInt8.toNat 45 = 45 := rfl
theorem sg0 : ([123, 125, 40, 41, 91, 93, 61, 59, 44, 60, 62, 45] : List UInt8)[0]? = some 123 := rfl
theorem sg1 : ([125, 40, 41, 91, 93, 61, 59, 44, 60, 62, 45] : List UInt8)[0]? = some 125 := rfl
theorem sg2 : ([40, 41, 91, 93, 61, 59, 44, 60, 62, 45] : List UInt8)[0]? = some 40 := rfl
theorem sg3 : ([41, 91, 93, 61, 59, 44, 60, 62, 45] : List UInt8)[0]? = some 41 := rfl
theorem sg4 : ([91, 93, 61, 59, 44, 60, 62, 45] : List UInt8)[0]? = some 91 := rfl
theorem sg5 : ([93, 61, 59, 44, 60, 62, 45] : List UInt8)[0]? = some 93 := rfl
theorem sg6 : ([61, 59, 44, 60, 62, 45] : List UInt8)[0]? = some 61 := rfl
theorem sg7 : ([59, 44, 60, 62, 45] : List UInt8)[0]? = some 59 := rfl
theorem sg8 : ([44, 60, 62, 45] : List UInt8)[0]? = some 44 := rfl
theorem sg9 : ([60, 62, 45] : List UInt8)[0]? = some 60 := rfl
theorem sg10 : ([62, 45] : List UInt8)[0]? = some 62 := rfl
theorem sg11 : ([45] : List UInt8)[0]? = some 45 := rfl

theorem word_s123 (s : List UInt8) (hs : s.length < 60000) (i : Nat) (c : UInt8) (r : List UInt8) (hd : s.drop i = c :: r) (hlen : i + (c :: r).length = s.length) (t : Int) (hl : letB c = false) (hdg : digB c = false) (hcg : c.toNat = 123) (h : CHeap) (p d : Nat) (hf : Fit h) (hg : zA3 h.ents p = some (lx s (i : Int) 0 t)) (hp : p < h.next) (K : CVal → CHeap → Prop) (hk : ∀ n' ty, h.next ≤ n' → zA4 ty n' → K (.agg [.int .i64 4, .str [c], .int .u64 0, .int .i64 (i : Int)]) ⟨zA0 h.ents p (lx s ((i + 1 : Nat) : Int) 0 t), n', ty⟩) : Wc tree.getF 14 [.ptr p d 0] h K := by
  obtain ⟨hu, hut, hX⟩ := fx4 hf
  have hY := fx5 hf hg
  have hc0 := zB7 hd
  obtain ⟨hi, hce⟩ := List.getElem?_eq_some_iff.1 hc0
  have hcl := c.toNat_lt
  have hine : ¬ ((i : Int) = (s.length : Int)) := by omega
  have LF := zBc c
  have DF := zBv c
  have hsl : (s.take (i + 1)).drop i = [c] := by rw [List.drop_take, show i + 1 - i = 1 by omega, hd]; rfl
  have hto : ((i : Int) + 1).toNat = i + 1 := by omega
  rw [hl] at LF
  rw [hdg] at DF
  have e1 : ((i + 1 : Nat) : Int) = (i : Int) + 1 := by omega
  rw [e1] at hk
  exact wQV1

theorem word_s125 (s : List UInt8) (hs : s.length < 60000) (i : Nat) (c : UInt8) (r : List UInt8) (hd : s.drop i = c :: r) (hlen : i + (c :: r).length = s.length) (t : Int) (hl : letB c = false) (hdg : digB c = false) (hcg : c.toNat = 125) (h : CHeap) (p d : Nat) (hf : Fit h) (hg : zA3 h.ents p = some (lx s (i : Int) 0 t)) (hp : p < h.next) (K : CVal → CHeap → Prop) (hk : ∀ n' ty, h.next ≤ n' → zA4 ty n' → K (.agg [.int .i64 4, .str [c], .int .u64 0, .int .i64 (i : Int)]) ⟨zA0 h.ents p (lx s ((i + 1 : Nat) : Int) 0 t), n', ty⟩) : Wc tree.getF 14 [.ptr p d 0] h K := by
  obtain ⟨hu, hut, hX⟩ := fx4 hf
  have hY := fx5 hf hg
  have hc0 := zB7 hd
  obtain ⟨hi, hce⟩ := List.getElem?_eq_some_iff.1 hc0
  have hcl := c.toNat_lt
  have hine : ¬ ((i : Int) = (s.length : Int)) := by omega
  have LF := zBc c
  have DF := zBv c
  have hsl : (s.take (i + 1)).drop i = [c] := by rw [List.drop_take, show i + 1 - i = 1 by omega, hd]; rfl
  have hto : ((i : Int) + 1).toNat = i + 1 := by omega
  rw [hl] at LF
  rw [hdg] at DF
  have e1 : ((i + 1 : Nat) : Int) = (i : Int) + 1 := by omega
  rw [e1] at hk
  exact wQV1

theorem word_s40 (s : List UInt8) (hs : s.length < 60000) (i : Nat) (c : UInt8) (r : List UInt8) (hd : s.drop i = c :: r) (hlen : i + (c :: r).length = s.length) (t : Int) (hl : letB c = false) (hdg : digB c = false) (hcg : c.toNat = 40) (h : CHeap) (p d : Nat) (hf : Fit h) (hg : zA3 h.ents p = some (lx s (i : Int) 0 t)) (hp : p < h.next) (K : CVal → CHeap → Prop) (hk : ∀ n' ty, h.next ≤ n' → zA4 ty n' → K (.agg [.int .i64 4, .str [c], .int .u64 0, .int .i64 (i : Int)]) ⟨zA0 h.ents p (lx s ((i + 1 : Nat) : Int) 0 t), n', ty⟩) : Wc tree.getF 14 [.ptr p d 0] h K := by
  obtain ⟨hu, hut, hX⟩ := fx4 hf
  have hY := fx5 hf hg
  have hc0 := zB7 hd
  obtain ⟨hi, hce⟩ := List.getElem?_eq_some_iff.1 hc0
  have hcl := c.toNat_lt
  have hine : ¬ ((i : Int) = (s.length : Int)) := by omega
  have LF := zBc c
  have DF := zBv c
  have hsl : (s.take (i + 1)).drop i = [c] := by rw [List.drop_take, show i + 1 - i = 1 by omega, hd]; rfl
  have hto : ((i : Int) + 1).toNat = i + 1 := by omega
  rw [hl] at LF
  rw [hdg] at DF
  have e1 : ((i + 1 : Nat) : Int) = (i : Int) + 1 := by omega
  rw [e1] at hk
  exact wQV1

theorem word_s41 (s : List UInt8) (hs : s.length < 60000) (i : Nat) (c : UInt8) (r : List UInt8) (hd : s.drop i = c :: r) (hlen : i + (c :: r).length = s.length) (t : Int) (hl : letB c = false) (hdg : digB c = false) (hcg : c.toNat = 41) (h : CHeap) (p d : Nat) (hf : Fit h) (hg : zA3 h.ents p = some (lx s (i : Int) 0 t)) (hp : p < h.next) (K : CVal → CHeap → Prop) (hk : ∀ n' ty, h.next ≤ n' → zA4 ty n' → K (.agg [.int .i64 4, .str [c], .int .u64 0, .int .i64 (i : Int)]) ⟨zA0 h.ents p (lx s ((i + 1 : Nat) : Int) 0 t), n', ty⟩) : Wc tree.getF 14 [.ptr p d 0] h K := by
  obtain ⟨hu, hut, hX⟩ := fx4 hf
  have hY := fx5 hf hg
  have hc0 := zB7 hd
  obtain ⟨hi, hce⟩ := List.getElem?_eq_some_iff.1 hc0
  have hcl := c.toNat_lt
  have hine : ¬ ((i : Int) = (s.length : Int)) := by omega
  have LF := zBc c
  have DF := zBv c
  have hsl : (s.take (i + 1)).drop i = [c] := by rw [List.drop_take, show i + 1 - i = 1 by omega, hd]; rfl
  have hto : ((i : Int) + 1).toNat = i + 1 := by omega
  rw [hl] at LF
  rw [hdg] at DF
  have e1 : ((i + 1 : Nat) : Int) = (i : Int) + 1 := by omega
  rw [e1] at hk
  exact wQV1

theorem word_s91 (s : List UInt8) (hs : s.length < 60000) (i : Nat) (c : UInt8) (r : List UInt8) (hd : s.drop i = c :: r) (hlen : i + (c :: r).length = s.length) (t : Int) (hl : letB c = false) (hdg : digB c = false) (hcg : c.toNat = 91) (h : CHeap) (p d : Nat) (hf : Fit h) (hg : zA3 h.ents p = some (lx s (i : Int) 0 t)) (hp : p < h.next) (K : CVal → CHeap → Prop) (hk : ∀ n' ty, h.next ≤ n' → zA4 ty n' → K (.agg [.int .i64 4, .str [c], .int .u64 0, .int .i64 (i : Int)]) ⟨zA0 h.ents p (lx s ((i + 1 : Nat) : Int) 0 t), n', ty⟩) : Wc tree.getF 14 [.ptr p d 0] h K := by
  obtain ⟨hu, hut, hX⟩ := fx4 hf
  have hY := fx5 hf hg
  have hc0 := zB7 hd
  obtain ⟨hi, hce⟩ := List.getElem?_eq_some_iff.1 hc0
  have hcl := c.toNat_lt
  have hine : ¬ ((i : Int) = (s.length : Int)) := by omega
  have LF := zBc c
  have DF := zBv c
  have hsl : (s.take (i + 1)).drop i = [c] := by rw [List.drop_take, show i + 1 - i = 1 by omega, hd]; rfl
  have hto : ((i : Int) + 1).toNat = i + 1 := by omega
  rw [hl] at LF
  rw [hdg] at DF
  have e1 : ((i + 1 : Nat) : Int) = (i : Int) + 1 := by omega
  rw [e1] at hk
  exact wQV1

theorem word_s93 (s : List UInt8) (hs : s.length < 60000) (i : Nat) (c : UInt8) (r : List UInt8) (hd : s.drop i = c :: r) (hlen : i + (c :: r).length = s.length) (t : Int) (hl : letB c = false) (hdg : digB c = false) (hcg : c.toNat = 93) (h : CHeap) (p d : Nat) (hf : Fit h) (hg : zA3 h.ents p = some (lx s (i : Int) 0 t)) (hp : p < h.next) (K : CVal → CHeap → Prop) (hk : ∀ n' ty, h.next ≤ n' → zA4 ty n' → K (.agg [.int .i64 4, .str [c], .int .u64 0, .int .i64 (i : Int)]) ⟨zA0 h.ents p (lx s ((i + 1 : Nat) : Int) 0 t), n', ty⟩) : Wc tree.getF 14 [.ptr p d 0] h K := by
  obtain ⟨hu, hut, hX⟩ := fx4 hf
  have hY := fx5 hf hg
  have hc0 := zB7 hd
  obtain ⟨hi, hce⟩ := List.getElem?_eq_some_iff.1 hc0
  have hcl := c.toNat_lt
  have hine : ¬ ((i : Int) = (s.length : Int)) := by omega
  have LF := zBc c
  have DF := zBv c
  have hsl : (s.take (i + 1)).drop i = [c] := by rw [List.drop_take, show i + 1 - i = 1 by omega, hd]; rfl
  have hto : ((i : Int) + 1).toNat = i + 1 := by omega
  rw [hl] at LF
  rw [hdg] at DF
  have e1 : ((i + 1 : Nat) : Int) = (i : Int) + 1 := by omega
  rw [e1] at hk
  exact wQV1

theorem word_s61 (s : List UInt8) (hs : s.length < 60000) (i : Nat) (c : UInt8) (r : List UInt8) (hd : s.drop i = c :: r) (hlen : i + (c :: r).length = s.length) (t : Int) (hl : letB c = false) (hdg : digB c = false) (hcg : c.toNat = 61) (h : CHeap) (p d : Nat) (hf : Fit h) (hg : zA3 h.ents p = some (lx s (i : Int) 0 t)) (hp : p < h.next) (K : CVal → CHeap → Prop) (hk : ∀ n' ty, h.next ≤ n' → zA4 ty n' → K (.agg [.int .i64 4, .str [c], .int .u64 0, .int .i64 (i : Int)]) ⟨zA0 h.ents p (lx s ((i + 1 : Nat) : Int) 0 t), n', ty⟩) : Wc tree.getF 14 [.ptr p d 0] h K := by
  obtain ⟨hu, hut, hX⟩ := fx4 hf
  have hY := fx5 hf hg
  have hc0 := zB7 hd
  obtain ⟨hi, hce⟩ := List.getElem?_eq_some_iff.1 hc0
  have hcl := c.toNat_lt
  have hine : ¬ ((i : Int) = (s.length : Int)) := by omega
  have LF := zBc c
  have DF := zBv c
  have hsl : (s.take (i + 1)).drop i = [c] := by rw [List.drop_take, show i + 1 - i = 1 by omega, hd]; rfl
  have hto : ((i : Int) + 1).toNat = i + 1 := by omega
  rw [hl] at LF
  rw [hdg] at DF
  have e1 : ((i + 1 : Nat) : Int) = (i : Int) + 1 := by omega
  rw [e1] at hk
  exact wQV1

theorem word_s59 (s : List UInt8) (hs : s.length < 60000) (i : Nat) (c : UInt8) (r : List UInt8) (hd : s.drop i = c :: r) (hlen : i + (c :: r).length = s.length) (t : Int) (hl : letB c = false) (hdg : digB c = false) (hcg : c.toNat = 59) (h : CHeap) (p d : Nat) (hf : Fit h) (hg : zA3 h.ents p = some (lx s (i : Int) 0 t)) (hp : p < h.next) (K : CVal → CHeap → Prop) (hk : ∀ n' ty, h.next ≤ n' → zA4 ty n' → K (.agg [.int .i64 4, .str [c], .int .u64 0, .int .i64 (i : Int)]) ⟨zA0 h.ents p (lx s ((i + 1 : Nat) : Int) 0 t), n', ty⟩) : Wc tree.getF 14 [.ptr p d 0] h K := by
  obtain ⟨hu, hut, hX⟩ := fx4 hf
  have hY := fx5 hf hg
  have hc0 := zB7 hd
  obtain ⟨hi, hce⟩ := List.getElem?_eq_some_iff.1 hc0
  have hcl := c.toNat_lt
  have hine : ¬ ((i : Int) = (s.length : Int)) := by omega
  have LF := zBc c
  have DF := zBv c
  have hsl : (s.take (i + 1)).drop i = [c] := by rw [List.drop_take, show i + 1 - i = 1 by omega, hd]; rfl
  have hto : ((i : Int) + 1).toNat = i + 1 := by omega
  rw [hl] at LF
  rw [hdg] at DF
  have e1 : ((i + 1 : Nat) : Int) = (i : Int) + 1 := by omega
  rw [e1] at hk
  exact wQV1

theorem word_s44 (s : List UInt8) (hs : s.length < 60000) (i : Nat) (c : UInt8) (r : List UInt8) (hd : s.drop i = c :: r) (hlen : i + (c :: r).length = s.length) (t : Int) (hl : letB c = false) (hdg : digB c = false) (hcg : c.toNat = 44) (h : CHeap) (p d : Nat) (hf : Fit h) (hg : zA3 h.ents p = some (lx s (i : Int) 0 t)) (hp : p < h.next) (K : CVal → CHeap → Prop) (hk : ∀ n' ty, h.next ≤ n' → zA4 ty n' → K (.agg [.int .i64 4, .str [c], .int .u64 0, .int .i64 (i : Int)]) ⟨zA0 h.ents p (lx s ((i + 1 : Nat) : Int) 0 t), n', ty⟩) : Wc tree.getF 14 [.ptr p d 0] h K := by
  obtain ⟨hu, hut, hX⟩ := fx4 hf
  have hY := fx5 hf hg
  have hc0 := zB7 hd
  obtain ⟨hi, hce⟩ := List.getElem?_eq_some_iff.1 hc0
  have hcl := c.toNat_lt
  have hine : ¬ ((i : Int) = (s.length : Int)) := by omega
  have LF := zBc c
  have DF := zBv c
  have hsl : (s.take (i + 1)).drop i = [c] := by rw [List.drop_take, show i + 1 - i = 1 by omega, hd]; rfl
  have hto : ((i : Int) + 1).toNat = i + 1 := by omega
  rw [hl] at LF
  rw [hdg] at DF
  have e1 : ((i + 1 : Nat) : Int) = (i : Int) + 1 := by omega
  rw [e1] at hk
  exact wQV1

theorem word_s60 (s : List UInt8) (hs : s.length < 60000) (i : Nat) (c : UInt8) (r : List UInt8) (hd : s.drop i = c :: r) (hlen : i + (c :: r).length = s.length) (t : Int) (hl : letB c = false) (hdg : digB c = false) (hcg : c.toNat = 60) (h : CHeap) (p d : Nat) (hf : Fit h) (hg : zA3 h.ents p = some (lx s (i : Int) 0 t)) (hp : p < h.next) (K : CVal → CHeap → Prop) (hk : ∀ n' ty, h.next ≤ n' → zA4 ty n' → K (.agg [.int .i64 4, .str [c], .int .u64 0, .int .i64 (i : Int)]) ⟨zA0 h.ents p (lx s ((i + 1 : Nat) : Int) 0 t), n', ty⟩) : Wc tree.getF 14 [.ptr p d 0] h K := by
  obtain ⟨hu, hut, hX⟩ := fx4 hf
  have hY := fx5 hf hg
  have hc0 := zB7 hd
  obtain ⟨hi, hce⟩ := List.getElem?_eq_some_iff.1 hc0
  have hcl := c.toNat_lt
  have hine : ¬ ((i : Int) = (s.length : Int)) := by omega
  have LF := zBc c
  have DF := zBv c
  have hsl : (s.take (i + 1)).drop i = [c] := by rw [List.drop_take, show i + 1 - i = 1 by omega, hd]; rfl
  have hto : ((i : Int) + 1).toNat = i + 1 := by omega
  rw [hl] at LF
  rw [hdg] at DF
  have e1 : ((i + 1 : Nat) : Int) = (i : Int) + 1 := by omega
  rw [e1] at hk
  exact wQV1

theorem word_s62 (s : List UInt8) (hs : s.length < 60000) (i : Nat) (c : UInt8) (r : List UInt8) (hd : s.drop i = c :: r) (hlen : i + (c :: r).length = s.length) (t : Int) (hl : letB c = false) (hdg : digB c = false) (hcg : c.toNat = 62) (h : CHeap) (p d : Nat) (hf : Fit h) (hg : zA3 h.ents p = some (lx s (i : Int) 0 t)) (hp : p < h.next) (K : CVal → CHeap → Prop) (hk : ∀ n' ty, h.next ≤ n' → zA4 ty n' → K (.agg [.int .i64 4, .str [c], .int .u64 0, .int .i64 (i : Int)]) ⟨zA0 h.ents p (lx s ((i + 1 : Nat) : Int) 0 t), n', ty⟩) : Wc tree.getF 14 [.ptr p d 0] h K := by
  obtain ⟨hu, hut, hX⟩ := fx4 hf
  have hY := fx5 hf hg
  have hc0 := zB7 hd
  obtain ⟨hi, hce⟩ := List.getElem?_eq_some_iff.1 hc0
  have hcl := c.toNat_lt
  have hine : ¬ ((i : Int) = (s.length : Int)) := by omega
  have LF := zBc c
  have DF := zBv c
  have hsl : (s.take (i + 1)).drop i = [c] := by rw [List.drop_take, show i + 1 - i = 1 by omega, hd]; rfl
  have hto : ((i : Int) + 1).toNat = i + 1 := by omega
  rw [hl] at LF
  rw [hdg] at DF
  have e1 : ((i + 1 : Nat) : Int) = (i : Int) + 1 := by omega
  rw [e1] at hk
  exact wQV1

theorem word_s45 (s : List UInt8) (hs : s.length < 60000) (i : Nat) (c : UInt8) (r : List UInt8) (hd : s.drop i = c :: r) (hlen : i + (c :: r).length = s.length) (t : Int) (hl : letB c = false) (hdg : digB c = false) (hcg : c.toNat = 45) (h : CHeap) (p d : Nat) (hf : Fit h) (hg : zA3 h.ents p = some (lx s (i : Int) 0 t)) (hp : p < h.next) (K : CVal → CHeap → Prop) (hk : ∀ n' ty, h.next ≤ n' → zA4 ty n' → K (.agg [.int .i64 4, .str [c], .int .u64 0, .int .i64 (i : Int)]) ⟨zA0 h.ents p (lx s ((i + 1 : Nat) : Int) 0 t), n', ty⟩) : Wc tree.getF 14 [.ptr p d 0] h K := by
  obtain ⟨hu, hut, hX⟩ := fx4 hf
  have hY := fx5 hf hg
  have hc0 := zB7 hd
  obtain ⟨hi, hce⟩ := List.getElem?_eq_some_iff.1 hc0
  have hcl := c.toNat_lt
  have hine : ¬ ((i : Int) = (s.length : Int)) := by omega
  have LF := zBc c
  have DF := zBv c
  have hsl : (s.take (i + 1)).drop i = [c] := by rw [List.drop_take, show i + 1 - i = 1 by omega, hd]; rfl
  have hto : ((i : Int) + 1).toNat = i + 1 := by omega
  rw [hl] at LF
  rw [hdg] at DF
  have e1 : ((i + 1 : Nat) : Int) = (i : Int) + 1 := by omega
  rw [e1] at hk
  exact wQV1

theorem word_bad (s : List UInt8) (hs : s.length < 60000) (i : Nat) (c : UInt8) (r : List UInt8) (hd : s.drop i = c :: r) (hlen : i + (c :: r).length = s.length) (t : Int) (hl : letB c = false) (hdg : digB c = false) (hno : ¬ (c.toNat = 34 ∨ c.toNat = 39 ∨ c.toNat = 123 ∨ c.toNat = 125 ∨ c.toNat = 40 ∨ c.toNat = 41 ∨ c.toNat = 91 ∨ c.toNat = 93 ∨ c.toNat = 61 ∨ c.toNat = 59 ∨ c.toNat = 44 ∨ c.toNat = 60 ∨ c.toNat = 62 ∨ c.toNat = 45)) (hne : ¬ c.toNat = 46) (h : CHeap) (p d : Nat) (hf : Fit h) (hg : zA3 h.ents p = some (lx s (i : Int) 0 t)) (hp : p < h.next) (K : CVal → CHeap → Prop) (hk : ∀ n' ty, h.next ≤ n' → zA4 ty n' → K (.agg [.int .i64 0, .str [], .int .u64 0, .int .i64 0]) ⟨zA0 h.ents p (lx s (i : Int) 2 (i : Int)), n', ty⟩) : Wc tree.getF 14 [.ptr p d 0] h K := by
  obtain ⟨hu, hut, hX⟩ := fx4 hf
  have hY := fx5 hf hg
  have hc0 := zB7 hd
  obtain ⟨hi, hce⟩ := List.getElem?_eq_some_iff.1 hc0
  have hcl := c.toNat_lt
  have hine : ¬ ((i : Int) = (s.length : Int)) := by omega
  have LF := zBc c
  have DF := zBv c
  have hsl : (s.take (i + 1)).drop i = [c] := by rw [List.drop_take, show i + 1 - i = 1 by omega, hd]; rfl
  have hto : ((i : Int) + 1).toNat = i + 1 := by omega
  rw [hl] at LF
  rw [hdg] at DF
  refine Wc.mkG 14 c14 (by kernel_rfl) rfl ?_
  generalize e : zA9 _ _ _ = r
  simp (disch := omega) [hX, hg, hY, c14] at e
  subst e
  repeat (first | refine sq_ ?_ | refine bl_ ?_ | ((first | refine rg_ ?_ | refine go_ ?_); generalize e : goR _ _ _ _ _ _ _ _ = r; simp (disch := omega) [hX, hg, hY, hce, hc0, hsl, hto, zKy, zLs, tn40, tn41, tn91, tn93, tn61, tn59, tn44, tn60, tn62, tn45, sg0, sg1, sg2, sg3, sg4, sg5, sg6, sg7, sg8, sg9, sg10, sg11, c14] at e; replace e : some _ = _ := e; subst e; (try dsimp only [goW])) | refine ct_ rfl ?_ | refine cf_ rfl ?_ | refine sk_ ?_ | refine ex_ ?_ | (refine W.loop ?_; try (generalize e : dropped _ _ _ = r; simp (disch := omega) [hX, hg, hY, hce, hc0, hsl, hto, zKy, zLs, tn40, tn41, tn91, tn93, tn61, tn59, tn44, tn60, tn62, tn45, sg0, sg1, sg2, sg3, sg4, sg5, sg6, sg7, sg8, sg9, sg10, sg11, c14] at e; subst e; try dsimp only)) | (refine LF _ ?_ _ fun n1 tyn1 hn1 hun1 => ⟨rfl, ?_⟩; exact fit_; (try dsimp only at hn1)) | (refine DF _ ?_ _ fun n1 tyn1 hn1 hun1 => ⟨rfl, ?_⟩; exact fit_; (try dsimp only at hn1)) | (refine zE1 s (i : Int) 0 t _ _ _ p d ?_ ?_ ?_ _ fun n3 tyn3 hn3 hun3 => ⟨rfl, ?_⟩; exact fit_; exact ge_; (try dsimp only); omega; (try dsimp only at hn3)) | ((first | (refine W.ret ?_; (try simp only [zAg, zA1, zA7]); refine endW.of (.inl rfl) rfl ?_) | refine endW.of (.inr rfl) rfl ?_); generalize e : zAj _ _ _ = r; simp (disch := omega) [hX, hg, hY, hce, hc0, hsl, hto, zKy, zLs, tn40, tn41, tn91, tn93, tn61, tn59, tn44, tn60, tn62, tn45, sg0, sg1, sg2, sg3, sg4, sg5, sg6, sg7, sg8, sg9, sg10, sg11, c14] at e; subst e; (try dsimp only [goW]); (refine hk _ _ ?_ ?_; omega; exact ut_)))

theorem word_dot0 (s : List UInt8) (hs : s.length < 60000) (i : Nat) (c : UInt8) (r : List UInt8) (hr : r = []) (hd : s.drop i = c :: r) (hlen : i + (c :: r).length = s.length) (t : Int) (hl : letB c = false) (hdg : digB c = false) (hno : ¬ (c.toNat = 34 ∨ c.toNat = 39 ∨ c.toNat = 123 ∨ c.toNat = 125 ∨ c.toNat = 40 ∨ c.toNat = 41 ∨ c.toNat = 91 ∨ c.toNat = 93 ∨ c.toNat = 61 ∨ c.toNat = 59 ∨ c.toNat = 44 ∨ c.toNat = 60 ∨ c.toNat = 62 ∨ c.toNat = 45)) (h46 : c.toNat = 46) (h : CHeap) (p d : Nat) (hf : Fit h) (hg : zA3 h.ents p = some (lx s (i : Int) 0 t)) (hp : p < h.next) (K : CVal → CHeap → Prop) (hk : ∀ n' ty, h.next ≤ n' → zA4 ty n' → K (.agg [.int .i64 0, .str [], .int .u64 0, .int .i64 0]) ⟨zA0 h.ents p (lx s (i : Int) 2 (i : Int)), n', ty⟩) : Wc tree.getF 14 [.ptr p d 0] h K := by
  obtain ⟨hu, hut, hX⟩ := fx4 hf
  have hY := fx5 hf hg
  have hc0 := zB7 hd
  obtain ⟨hi, hce⟩ := List.getElem?_eq_some_iff.1 hc0
  have hcl := c.toNat_lt
  have hine : ¬ ((i : Int) = (s.length : Int)) := by omega
  have LF := zBc c
  have DF := zBv c
  have hsl : (s.take (i + 1)).drop i = [c] := by rw [List.drop_take, show i + 1 - i = 1 by omega, hd]; rfl
  have hto : ((i : Int) + 1).toNat = i + 1 := by omega
  have hlen1 : i + 1 = s.length := by rw [hr] at hlen; simpa using hlen
  have B1 : ∀ (h : CHeap) (hf : Fit h) (hg : zA3 h.ents p = some (lx s (i : Int) 0 t)) (hp : p < h.next) (K : CVal → CHeap → Prop) (hk : ∀ n' ty, h.next ≤ n' → zA4 ty n' → K (.int .u8 0) ⟨h.ents, n', ty⟩), Wc tree.getF 32 [.ptr p d 0, .int .i64 1] h K := fun h hf hg hp K hk => zJ1 s i 1 0 t hs (by omega) (by omega) (by omega) h p d hf hg hp K hk
  rw [hl] at LF
  rw [hdg] at DF
  have LX := zIe
  exact wQV2

theorem word_dotn (s : List UInt8) (hs : s.length < 60000) (i : Nat) (c x : UInt8) (r0 r : List UInt8) (hr : r = x :: r0) (hd : s.drop i = c :: r) (hlen : i + (c :: r).length = s.length) (t : Int) (hl : letB c = false) (hdg : digB c = false) (hno : ¬ (c.toNat = 34 ∨ c.toNat = 39 ∨ c.toNat = 123 ∨ c.toNat = 125 ∨ c.toNat = 40 ∨ c.toNat = 41 ∨ c.toNat = 91 ∨ c.toNat = 93 ∨ c.toNat = 61 ∨ c.toNat = 59 ∨ c.toNat = 44 ∨ c.toNat = 60 ∨ c.toNat = 62 ∨ c.toNat = 45)) (h46 : c.toNat = 46) (hx : letB x = false) (h : CHeap) (p d : Nat) (hf : Fit h) (hg : zA3 h.ents p = some (lx s (i : Int) 0 t)) (hp : p < h.next) (K : CVal → CHeap → Prop) (hk : ∀ n' ty, h.next ≤ n' → zA4 ty n' → K (.agg [.int .i64 0, .str [], .int .u64 0, .int .i64 0]) ⟨zA0 h.ents p (lx s (i : Int) 2 (i : Int)), n', ty⟩) : Wc tree.getF 14 [.ptr p d 0] h K := by
  obtain ⟨hu, hut, hX⟩ := fx4 hf
  have hY := fx5 hf hg
  have hc0 := zB7 hd
  obtain ⟨hi, hce⟩ := List.getElem?_eq_some_iff.1 hc0
  have hcl := c.toNat_lt
  have hine : ¬ ((i : Int) = (s.length : Int)) := by omega
  have LF := zBc c
  have DF := zBv c
  have hsl : (s.take (i + 1)).drop i = [c] := by rw [List.drop_take, show i + 1 - i = 1 by omega, hd]; rfl
  have hto : ((i : Int) + 1).toNat = i + 1 := by omega
  have hx1 : s[i + 1]? = some x := by have := zBi hd; rw [hr] at this; exact zB7 this
  have B1 : ∀ (h : CHeap) (hf : Fit h) (hg : zA3 h.ents p = some (lx s (i : Int) 0 t)) (hp : p < h.next) (K : CVal → CHeap → Prop) (hk : ∀ n' ty, h.next ≤ n' → zA4 ty n' → K (.int .u8 (x.toNat : Int)) ⟨h.ents, n', ty⟩), Wc tree.getF 32 [.ptr p d 0, .int .i64 1] h K := fun h hf hg hp K hk => zIa s i 1 0 t x hs (by omega) hx1 h p d hf hg hp K hk
  have LX := zBc x
  rw [hl] at LF
  rw [hdg] at DF
  rw [hx] at LX
  exact wQV2
theorem dig_eq (c : UInt8) : D10.contains c = digB c := by
  have := zDe (p := fun c => D10.contains c == digB c) (by decide +kernel) c
  simpa using this
theorem eq_of_n {c : UInt8} {n : Nat} (hn : n < 256) (h : c.toNat = n) : c = UInt8.ofNat n := by
  apply UInt8.toNat_inj.1
  rw [h, UInt8.toNat_ofNat', Nat.mod_eq_of_lt hn]
theorem nameF_let (c : UInt8) (r : List UInt8) (h : letB c = true) : zBw (c :: r) = 1 + nmR r := by
  have h46 : ¬ c = 46 := by intro e; subst e; exact absurd h (by decide)
  have hw : zDk (c :: r) = (fr zB1 (c :: r)).length := by rw [zFx, if_pos h]
  have hf : fr zB1 (c :: r) = c :: fr zB1 r := by unfold fr; rw [List.takeWhile_cons, if_pos (by rw [nam_eq, h]; rfl)]
  simp only [zBw]
  rw [if_neg h46, hw, if_neg (by rw [hf]; simp), nmR_eq _ r (Nat.le_refl _), drop_bk]
  have : bk zB1 (c :: r) = bk zB1 r := by unfold bk; rw [List.dropWhile_cons, if_pos (by rw [nam_eq, h]; rfl)]
  rw [this, hf, List.length_cons]
  omega
theorem nameF_dot (x : UInt8) (r : List UInt8) (h : letB x = true) : zBw (46 :: x :: r) = 1 + nmR (x :: r) := by
  have hw : zDk (x :: r) = (fr zB1 (x :: r)).length := by rw [zFx, if_pos h]
  have h1 := nam_fr (r := r) h
  simp only [zBw]
  rw [if_pos trivial, zE9, if_pos rfl, hw, if_neg (by omega), nmR_eq _ (x :: r) (Nat.le_refl _), drop_bk]
  omega
theorem zKk (r : List UInt8) (h : letB (r.headD 0) = false) : zBw (46 :: r) = 0 := by
  simp only [zBw]
  have hw : zDk r = 0 := by rw [zK1, h]; rfl
  rw [if_pos trivial, zE9, if_pos rfl, hw, if_pos rfl]
theorem nameF_no (c : UInt8) (r : List UInt8) (h : letB c = false) (h46 : ¬ c.toNat = 46) : zBw (c :: r) = 0 := by
  simp only [zBw]
  have hw : zDk (c :: r) = 0 := by rw [zFx, h]; rfl
  rw [if_neg (fun e => h46 (by rw [e]; rfl)), hw, if_pos rfl]
theorem zJy (v : List UInt8 → Bool) (c : UInt8) (r : List UInt8) (n : Nat) (h : zBw (c :: r) = n + 1) : zCo v (c :: r) = .tok 1 ((c :: r).take (n + 1)) 0 (n + 1) := by
  simp only [zCo]
  rw [h, if_pos (by omega)]
theorem wordW_num (v : List UInt8 → Bool) (c : UInt8) (r : List UInt8) (h : zBw (c :: r) = 0) (hd : digB c = true) : zCo v (c :: r) = numW (c :: r) := by
  simp only [zCo]
  rw [h, if_neg (by omega), if_pos (by rw [dig_eq]; exact hd)]
theorem wordW_txt (v : List UInt8 → Bool) (c : UInt8) (r : List UInt8) (h : zBw (c :: r) = 0) (hd : digB c = false) (hq : c = 34 ∨ c = 39) : zCo v (c :: r) = match zAu c r [] 0 with
      | none => .err 2
      | some (t, k) => if v t then .tok 3 t 0 (k + 1) else .err 2 := by
  simp only [zCo]
  rw [h, if_neg (by omega), if_neg (by rw [dig_eq, hd]; decide), if_pos hq]
  cases zAu c r [] 0 <;> rfl
theorem wordW_sign (v : List UInt8 → Bool) (c : UInt8) (r : List UInt8) (h : zBw (c :: r) = 0) (hd : digB c = false) (hq : ¬ (c = 34 ∨ c = 39)) (hg : zFb.contains c = true) : zCo v (c :: r) = .tok 4 [c] 0 1 := by
  simp only [zCo]
  rw [h, if_neg (by omega), if_neg (by rw [dig_eq, hd]; decide), if_neg hq, if_pos hg]
theorem wordW_bad (v : List UInt8 → Bool) (c : UInt8) (r : List UInt8) (h : zBw (c :: r) = 0) (hd : digB c = false) (hq : ¬ (c = 34 ∨ c = 39)) (hg : zFb.contains c = false) : zCo v (c :: r) = .err 2 := by
  simp only [zCo]
  rw [h, if_neg (by omega), if_neg (by rw [dig_eq, hd]; decide), if_neg hq, if_neg (by rw [hg]; decide)]

theorem zL5 (c : UInt8) : zFb.contains c = true ↔ (c.toNat = 123 ∨ c.toNat = 125 ∨ c.toNat = 40 ∨ c.toNat = 41 ∨ c.toNat = 91 ∨ c.toNat = 93 ∨ c.toNat = 61 ∨ c.toNat = 59 ∨ c.toNat = 44 ∨ c.toNat = 60 ∨ c.toNat = 62 ∨ c.toNat = 45) := by
  have := zDe (p := fun c => zFb.contains c == decide (c.toNat = 123 ∨ c.toNat = 125 ∨ c.toNat = 40 ∨ c.toNat = 41 ∨ c.toNat = 91 ∨ c.toNat = 93 ∨ c.toNat = 61 ∨ c.toNat = 59 ∨ c.toNat = 44 ∨ c.toNat = 60 ∨ c.toNat = 62 ∨ c.toNat = 45)) (by decide +kernel) c
  rw [beq_iff_eq] at this
  rw [this]; exact decide_eq_true_iff
theorem word_L (s : List UInt8) (hs : s.length < 60000) (i : Nat) (c : UInt8) (r : List UInt8) (hd : s.drop i = c :: r) (hlen : i + (c :: r).length = s.length) (t : Int) (h : CHeap) (p d : Nat) (hf : Fit h) (hg : zA3 h.ents p = some (lx s (i : Int) 0 t)) (hp : p < h.next) (K : CVal → CHeap → Prop)
    (hk1 : ∀ n' ty (k : Nat) (txt : List UInt8) (n len : Nat), h.next ≤ n' → zA4 ty n' → zCo zB9 (c :: r) = .tok k txt n len → K (.agg [.int .i64 (k : Int), .str txt, .int .u64 (n : Int), .int .i64 (i : Int)]) ⟨zA0 h.ents p (lx s ((i + len : Nat) : Int) 0 t), n', ty⟩)
    (hk2 : ∀ n' ty (e : Nat) (j : Int), h.next ≤ n' → zA4 ty n' → zCo zB9 (c :: r) = .err e → K (.agg [.int .i64 0, .str [], .int .u64 0, .int .i64 0]) ⟨zA0 h.ents p (lx s j (e : Int) (i : Int)), n', ty⟩) : Wc tree.getF 14 [.ptr p d 0] h K := by
  by_cases hl : letB c = true
  · have e1 := nameF_let c r hl
    have e2 := zJy zB9 c r (nmR r) (by omega)
    refine word_nm s hs i c r hd hlen t hl h p d hf hg hp K ?_
    intro n' ty g1 g2
    have := hk1 n' ty 1 _ 0 _ g1 g2 e2
    rw [show nmR r + 1 = 1 + nmR r by omega, show i + (1 + nmR r) = i + 1 + nmR r by omega] at this
    exact this
  rw [Bool.not_eq_true] at hl
  have bad : ∀ (h0 : zBw (c :: r) = 0) (hdg : digB c = false) (hno : ¬ (c.toNat = 34 ∨ c.toNat = 39 ∨ c.toNat = 123 ∨ c.toNat = 125 ∨ c.toNat = 40 ∨ c.toNat = 41 ∨ c.toNat = 91 ∨ c.toNat = 93 ∨ c.toNat = 61 ∨ c.toNat = 59 ∨ c.toNat = 44 ∨ c.toNat = 60 ∨ c.toNat = 62 ∨ c.toNat = 45)), zCo zB9 (c :: r) = .err 2 := by
    intro h0 hdg hno
    refine wordW_bad _ _ _ h0 hdg ?_ ?_
    · rintro (e | e)
      · exact hno (.inl (by rw [e]; rfl))
      · exact hno (.inr (.inl (by rw [e]; rfl)))
    · rw [← Bool.not_eq_true, zL5]
      exact fun e => hno (.inr (.inr e))
  by_cases h46 : c.toNat = 46
  · have hc : c = 46 := eq_of_n (by decide) h46
    have hdg : digB c = false := by rw [hc]; decide
    have hno : ¬ (c.toNat = 34 ∨ c.toNat = 39 ∨ c.toNat = 123 ∨ c.toNat = 125 ∨ c.toNat = 40 ∨ c.toNat = 41 ∨ c.toNat = 91 ∨ c.toNat = 93 ∨ c.toNat = 61 ∨ c.toNat = 59 ∨ c.toNat = 44 ∨ c.toNat = 60 ∨ c.toNat = 62 ∨ c.toNat = 45) := by omega
    cases hr : r with
    | nil =>
      refine word_dot0 s hs i c r hr hd hlen t hl hdg hno h46 h p d hf hg hp K ?_
      intro n' ty g1 g2
      exact hk2 n' ty 2 _ g1 g2 (bad (by rw [hc, hr]; exact zKk [] (by decide)) hdg hno)
    | cons x r0 =>
      by_cases hx : letB x = true
      · have e2 := zJy zB9 c r (nmR r) (by rw [hc, hr, nameF_dot x r0 hx]; omega)
        refine word_dot s hs i c x r0 r hr hd hlen t hl h46 hx h p d hf hg hp K ?_
        intro n' ty g1 g2
        have := hk1 n' ty 1 _ 0 _ g1 g2 e2
        rw [show nmR r + 1 = 1 + nmR r by omega, show i + (1 + nmR r) = i + 1 + nmR r by omega] at this
        exact this
      · rw [Bool.not_eq_true] at hx
        refine word_dotn s hs i c x r0 r hr hd hlen t hl hdg hno h46 hx h p d hf hg hp K ?_
        intro n' ty g1 g2
        exact hk2 n' ty 2 _ g1 g2 (bad (by rw [hc, hr]; exact zKk (x :: r0) hx) hdg hno)
  have h0 := nameF_no c r hl h46
  by_cases hdg : digB c = true
  · have e1 := wordW_num zB9 c r h0 hdg
    rw [numW_eq] at e1
    refine word_num s hs i c r hd hlen t hl hdg h46 h p d hf hg hp K ?_ ?_
    · intro n' ty v len g1 g2 g3
      rw [g3] at e1
      exact hk1 n' ty 2 _ _ _ g1 g2 e1
    · intro n' ty e j g1 g2 g3
      rw [g3] at e1
      exact hk2 n' ty e j g1 g2 e1
  rw [Bool.not_eq_true] at hdg
  by_cases hq : c.toNat = 34 ∨ c.toNat = 39
  · have hq' : c = 34 ∨ c = 39 := by
      rcases hq with e | e
      · exact .inl (eq_of_n (by decide) e)
      · exact .inr (eq_of_n (by decide) e)
    have e1 := wordW_txt zB9 c r h0 hdg hq'
    have e2 := textF_shift c (i + 1) _ r [] 0 (Nat.le_refl _)
    rw [Nat.zero_add] at e2
    refine word_txt s hs i c r hd hlen t hl hdg hq h p d hf hg hp K ?_ ?_
    · intro n' ty txt k g1 g2 g3 g4
      rw [g3] at e2
      cases hz : zAu c r [] 0 with
      | none => rw [hz] at e2; cases e2
      | some y =>
        obtain ⟨t0, k0⟩ := y
        rw [hz] at e2 e1
        simp only [Option.map_some, Option.some.injEq, Prod.mk.injEq] at e2
        obtain ⟨rfl, rfl⟩ := e2
        dsimp only at e1
        rw [g4, if_pos rfl] at e1
        have := hk1 n' ty 3 _ 0 _ g1 g2 e1
        rw [show i + (k0 + 1) = k0 + (i + 1) by omega] at this
        exact this
    · intro n' ty j g1 g2 g3
      refine hk2 n' ty 2 j g1 g2 ?_
      rw [e1]
      cases hz : zAu c r [] 0 with
      | none => rfl
      | some y =>
        obtain ⟨t0, k0⟩ := y
        rw [hz] at e2
        rcases g3 with g3 | ⟨txt, k, g3, g4⟩
        · rw [g3] at e2; cases e2
        · rw [g3] at e2
          simp only [Option.map_some, Option.some.injEq, Prod.mk.injEq] at e2
          obtain ⟨rfl, rfl⟩ := e2
          dsimp only
          rw [g4]; rfl
  have hq' : ¬ (c = 34 ∨ c = 39) := by
    rintro (e | e)
    · exact hq (.inl (by rw [e]; rfl))
    · exact hq (.inr (by rw [e]; rfl))
  by_cases hsg : zFb.contains c = true
  · have e1 := wordW_sign zB9 c r h0 hdg hq' hsg
    have hk : ∀ n' ty, h.next ≤ n' → zA4 ty n' → K (.agg [.int .i64 4, .str [c], .int .u64 0, .int .i64 (i : Int)]) ⟨zA0 h.ents p (lx s ((i + 1 : Nat) : Int) 0 t), n', ty⟩ := fun n' ty g1 g2 => hk1 n' ty 4 _ 0 _ g1 g2 e1
    rcases (zL5 c).1 hsg with e | e | e | e | e | e | e | e | e | e | e | e
    · exact word_s123 s hs i c r hd hlen t hl hdg e h p d hf hg hp K hk
    · exact word_s125 s hs i c r hd hlen t hl hdg e h p d hf hg hp K hk
    · exact word_s40 s hs i c r hd hlen t hl hdg e h p d hf hg hp K hk
    · exact word_s41 s hs i c r hd hlen t hl hdg e h p d hf hg hp K hk
    · exact word_s91 s hs i c r hd hlen t hl hdg e h p d hf hg hp K hk
    · exact word_s93 s hs i c r hd hlen t hl hdg e h p d hf hg hp K hk
    · exact word_s61 s hs i c r hd hlen t hl hdg e h p d hf hg hp K hk
    · exact word_s59 s hs i c r hd hlen t hl hdg e h p d hf hg hp K hk
    · exact word_s44 s hs i c r hd hlen t hl hdg e h p d hf hg hp K hk
    · exact word_s60 s hs i c r hd hlen t hl hdg e h p d hf hg hp K hk
    · exact word_s62 s hs i c r hd hlen t hl hdg e h p d hf hg hp K hk
    · exact word_s45 s hs i c r hd hlen t hl hdg e h p d hf hg hp K hk
  · have hno : ¬ (c.toNat = 34 ∨ c.toNat = 39 ∨ c.toNat = 123 ∨ c.toNat = 125 ∨ c.toNat = 40 ∨ c.toNat = 41 ∨ c.toNat = 91 ∨ c.toNat = 93 ∨ c.toNat = 61 ∨ c.toNat = 59 ∨ c.toNat = 44 ∨ c.toNat = 60 ∨ c.toNat = 62 ∨ c.toNat = 45) := by
      rw [zL5] at hsg
      omega
    refine word_bad s hs i c r hd hlen t hl hdg hno h46 h p d hf hg hp K ?_
    intro n' ty g1 g2
    exact hk2 n' ty 2 _ g1 g2 (bad h0 hdg hno)
/-- Where the reference's lexer stands: its object, the list so far. -/
structure Sr (n0 : Nat) (E0 : List (Nat × CObj)) (p : Nat) (o : CObj) (L : CVal) (ts : List CVal) (h : CHeap) : Prop where
  g : zA3 h.ents p = some o
  l : L = .nils ∧ ts = [] ∨ ∃ i v, L = .imm (.own i v) 4 ts ∧ zA3 h.ents i = some (.tok v) ∧ i ≠ p ∧ n0 ≤ i ∧ i < h.next
  d : Over n0 E0 h.ents
  n : n0 ≤ p
  lt : p < h.next
  f : Fit h
theorem Sr.upd {n0 : Nat} {E0 : List (Nat × CObj)} {p : Nat} {o o' : CObj} {L : CVal} {ts : List CVal} {h : CHeap} {n' : Nat} {ty : List (Nat × Nat)} (S : Sr n0 E0 p o L ts h) (hn : h.next ≤ n') (ht : zA4 ty n') :
    Sr n0 E0 p o' L ts ⟨zA0 h.ents p o', n', ty⟩ where
  g := zAb S.g
  l := by
    rcases S.l with h1 | ⟨i, v, h1, h2, h3, h4, h5⟩
    · exact .inl h1
    · exact .inr ⟨i, v, h1, (zA2 h3).trans h2, h3, h4, by (try dsimp only); omega⟩
  d := S.d.set S.n
  n := S.n
  lt := by have := S.lt; (try dsimp only); omega
  f := ⟨S.f.1.set.le hn, ht⟩
theorem Sr.app0 {n0 : Nat} {E0 : List (Nat × CObj)} {p : Nat} {o : CObj} {h : CHeap} {n' i : Nat} {ty : List (Nat × Nat)} {x : CVal} {ts : List CVal} (S : Sr n0 E0 p o .nils ts h) (hi : h.next ≤ i) (hn : i < n') (ht : zA4 ty n') :
    Sr n0 E0 p o (.imm (.own i 0) 4 [x]) [x] ⟨(i, .tok 0) :: h.ents, n', ty⟩ := by
  have hlt := S.lt
  have hn0 := S.n
  have hip : (i == p) = false := by simp; omega
  exact {
    g := by simp only [zA3, hip, Bool.false_eq_true, if_false]; exact S.g
    l := .inr ⟨i, 0, rfl, by simp [zA3], by omega, by omega, hn⟩
    d := S.d.cons (by omega)
    n := S.n
    lt := by (try dsimp only); omega
    f := ⟨Under.cons hn (S.f.1.le (by (try dsimp only); omega)), ht⟩ }
theorem Sr.app1 {n0 : Nat} {E0 : List (Nat × CObj)} {p : Nat} {o : CObj} {h : CHeap} {n' i v : Nat} {ty : List (Nat × Nat)} {x : CVal} {ts : List CVal} {L : CVal} (S : Sr n0 E0 p o L ts h) (ht : zA3 h.ents i = some (.tok v)) (hip : i ≠ p) (hi0 : n0 ≤ i) (hin : i < h.next) (hn : h.next ≤ n') (hty : zA4 ty n') :
    Sr n0 E0 p o (.imm (.own i (v + 1)) 4 (ts ++ [x])) (ts ++ [x]) ⟨zA0 h.ents i (.tok (v + 1)), n', ty⟩ := by
  have hlt := S.lt
  exact {
    g := (zA2 (Ne.symm hip)).trans S.g
    l := .inr ⟨i, v + 1, rfl, zAb ht, hip, hi0, by (try dsimp only); omega⟩
    d := S.d.set hi0
    n := S.n
    lt := by (try dsimp only); omega
    f := ⟨S.f.1.set.le hn, hty⟩ }
theorem wordW_kind {c : UInt8} {r : List UInt8} {k n len : Nat} {t : List UInt8} (h : zCo zB9 (c :: r) = .tok k t n len) : k ≤ 4 := by
  unfold zCo at h
  dsimp only at h
  split at h
  · cases h; omega
  · split at h
    · have := numW_tok (by assumption) h; omega
    · split at h
      · cases ht : zAu c r [] 0 with
        | none => rw [ht] at h; cases h
        | some x =>
          obtain ⟨tt, kk⟩ := x
          rw [ht] at h
          dsimp only at h
          split at h
          · cases h; omega
          · cases h
      · split at h
        · cases h; omega
        · cases h
/-- From here on, spaces first. -/
def zH7 (total m : Nat) (r : List UInt8) : Except (Nat × Nat) (List Tok) := match zBd r with
  | (w, false) => .error (2, total - w.length)
  | (w, true) => lexW total m w
abbrev zCk : CCode := (.loop true (.block 1 (.seq (.region [.v 2, .g (.call false 13 [(.loc 0)])] [] [] []) (.seq (.region [.g (.build [(.int .i64 0), (.str []), (.int .u64 0), (.int .i64 0)] []), .g (.lazy 38797316), .g (.init 4 (.loc 0) (.loc 1))] [(4, 1)] [] []) (.seq (.seq (.region [.v 2, .n 0, .f 2 0, .l 0, .g (.bin .eql (.loc 0) (.const (.int .i64 0)))] [(3, 4)] [] []) (.cond (.var 3) (.region [.v 2, .g (.call false 14 [(.loc 0)]), .g (.store 4 (.var 4) (.loc 0))] [] [] []) .skip)) (.seq (.seq (.region [.v 2, .n 0, .f 2 0, .l 0, .g (.bin .neq (.loc 0) (.const (.int .i64 0)))] [(5, 4)] [] []) (.cond (.var 5) (.seq (.region [.v 2, .n 0, .f 2 0, .l 0, .v 2, .n 0, .f 3 0, .l 0, .m (.const .nils), .m (.loc 5), .m (.loc 2)] [(8, 8), (9, 9), (10, 10)] [] []) .ret) .skip)) (.seq (.region [.v 6, .g (.load (some 4) (.var 4)), .g (.lit .imm true [(.int .i64 0), (.str []), (.int .u64 0), (.int .i64 0)] 1 [(0, (.loc 0))]), .g (.append .imm 0 4 (.loc 2) (.loc 0)), .m (.loc 0)] [(6, 4)] [] []) (.seq (.region [.g (.fieldAddr 0 (.var 4)), .l 0, .g (.bin .eql (.loc 0) (.const (.int .i64 5)))] [(7, 2)] [] []) (.cond (.var 7) (.seq (.region [.v 6, .m (.loc 0), .m (.const (.int .i64 0)), .m (.const (.int .i64 0))] [(8, 1), (9, 2), (10, 3)] [] []) .ret) .skip)))))))))

theorem rl_sp_n {n0 : Nat} {E0 : List (Nat × CObj)} (p d : Nat) (s : List UInt8) (hs : s.length < 60000) (t : Int) (v1 v3 v4 v5 v7 v8 v9 v10 : CVal) (Q : CExit → CSt → Prop) (h : CHeap) (hf : Fit h) (i : Nat) (hg : zA3 h.ents p = some (lx s (i : Int) 0 t)) (hp : p < h.next) (hov : Over n0 E0 h.ents) (hn0 : n0 ≤ p)  (j : Nat) (SP : ∀ (h : CHeap) (hf : Fit h) (hg : zA3 h.ents p = some (lx s (i : Int) 0 t)) (hp : p < h.next) (K : CVal → CHeap → Prop) (hk : ∀ n' ty, h.next ≤ n' → zA4 ty n' → K (.tup []) ⟨zA0 h.ents p (lx s (s.length : Int) 2 (j : Int)), n', ty⟩), Wc tree.getF 13 [.ptr p d 0] h K)
    (hk : ∀ w3 w4 w5 w6 w7 h', Over n0 E0 h'.ents → zA4 h'.tys h'.next → h.next ≤ h'.next → Q .ret ⟨[.str s, v1, .ptr p d 0, w3, w4, w5, w6, w7, .nils, .int .i64 2, .int .i64 (j : Int)], h', []⟩) : W tree.getF zCk ⟨[.str s, v1, .ptr p d 0, v3, v4, v5, .nils, v7, v8, v9, v10], h, []⟩ Q := by
  obtain ⟨hu, hut, hX⟩ := fx4 hf
  have hY := fx5 hf hg
  refine W.loop ?_
  repeat (first | refine sq_ ?_ | refine bl_ ?_ | ((first | refine rg_ ?_ | refine go_ ?_); generalize e : goR _ _ _ _ _ _ _ _ = r; simp (disch := omega) [hX, hg, hY] at e; replace e : some _ = _ := e; subst e; (try dsimp only [goW])) | refine ct_ rfl ?_ | refine cf_ rfl ?_ | refine sk_ ?_ | refine ex_ ?_ | (refine SP _ ?_ ?_ ?_ _ fun n1 tyn1 hn1 hun1 => ⟨rfl, ?_⟩; exact fit_; exact ge_; (try dsimp only); omega; (try dsimp only at hn1)))
  all_goals ((try refine W.ret ?_); (try simp only [zAg, zA1, zA7]); refine hk _ _ _ _ _ _ ?_ ?_ ?_; ((repeat (first | exact hov | refine Over.set ?_ (by omega) | refine Over.cons ?_ (by omega)))); exact ut_; ((try dsimp only); omega))

theorem rl_end_n {n0 : Nat} {E0 : List (Nat × CObj)} (p d : Nat) (s : List UInt8) (hs : s.length < 60000) (t : Int) (v1 v3 v4 v5 v7 v8 v9 v10 : CVal) (Q : CExit → CSt → Prop) (h : CHeap) (hf : Fit h) (i : Nat) (hg : zA3 h.ents p = some (lx s (i : Int) 0 t)) (hp : p < h.next) (hov : Over n0 E0 h.ents) (hn0 : n0 ≤ p)  (j : Nat) (SP : ∀ (h : CHeap) (hf : Fit h) (hg : zA3 h.ents p = some (lx s (i : Int) 0 t)) (hp : p < h.next) (K : CVal → CHeap → Prop) (hk : ∀ n' ty, h.next ≤ n' → zA4 ty n' → K (.tup []) ⟨zA0 h.ents p (lx s (j : Int) 0 t), n', ty⟩), Wc tree.getF 13 [.ptr p d 0] h K) (WD : ∀ (h : CHeap) (hf : Fit h) (hg : zA3 h.ents p = some (lx s (j : Int) 0 t)) (hp : p < h.next) (K : CVal → CHeap → Prop) (hk : ∀ n' ty, h.next ≤ n' → zA4 ty n' → K (.agg [.int .i64 5, .str [], .int .u64 0, .int .i64 (j : Int)]) ⟨h.ents, n', ty⟩), Wc tree.getF 14 [.ptr p d 0] h K)
    (hk : ∀ w3 w4 w5 w6 w7 h' q v, Over n0 E0 h'.ents → zA3 h'.ents q = some (.tok v) → n0 ≤ q → zA4 h'.tys h'.next → h.next ≤ h'.next → Q .ret ⟨[.str s, v1, .ptr p d 0, w3, w4, w5, w6, w7, .imm (.own q v) 4 ([] ++ [.agg [.int .i64 5, .str [], .int .u64 0, .int .i64 (j : Int)]]), .int .i64 0, .int .i64 0], h', []⟩) : W tree.getF zCk ⟨[.str s, v1, .ptr p d 0, v3, v4, v5, .nils, v7, v8, v9, v10], h, []⟩ Q := by
  obtain ⟨hu, hut, hX⟩ := fx4 hf
  have hY := fx5 hf hg
  refine W.loop ?_
  repeat (first | refine sq_ ?_ | refine bl_ ?_ | ((first | refine rg_ ?_ | refine go_ ?_); generalize e : goR _ _ _ _ _ _ _ _ = r; simp (disch := omega) [hX, hg, hY] at e; replace e : some _ = _ := e; subst e; (try dsimp only [goW])) | refine ct_ rfl ?_ | refine cf_ rfl ?_ | refine sk_ ?_ | refine ex_ ?_ | (refine SP _ ?_ ?_ ?_ _ fun n1 tyn1 hn1 hun1 => ⟨rfl, ?_⟩; exact fit_; exact ge_; (try dsimp only); omega; (try dsimp only at hn1)) | (refine WD _ ?_ ?_ ?_ _ fun n2 tyn2 hn2 hun2 => ⟨rfl, ?_⟩; exact fit_; exact ge_; (try dsimp only); omega; (try dsimp only at hn2)))
  all_goals ((try refine W.ret ?_); (try simp only [zAg, zA1, zA7]); refine hk _ _ _ _ _ _ _ _ ?_ ?_ ?_ ?_ ?_; ((repeat (first | exact hov | refine Over.set ?_ (by omega) | refine Over.cons ?_ (by omega)))); (simp (disch := omega) [hX, hg, hY]); omega; exact ut_; ((try dsimp only); omega))

theorem rl_bad_n {n0 : Nat} {E0 : List (Nat × CObj)} (p d : Nat) (s : List UInt8) (hs : s.length < 60000) (t : Int) (v1 v3 v4 v5 v7 v8 v9 v10 : CVal) (Q : CExit → CSt → Prop) (h : CHeap) (hf : Fit h) (i : Nat) (hg : zA3 h.ents p = some (lx s (i : Int) 0 t)) (hp : p < h.next) (hov : Over n0 E0 h.ents) (hn0 : n0 ≤ p)  (j e : Nat) (he : 0 < e) (SP : ∀ (h : CHeap) (hf : Fit h) (hg : zA3 h.ents p = some (lx s (i : Int) 0 t)) (hp : p < h.next) (K : CVal → CHeap → Prop) (hk : ∀ n' ty, h.next ≤ n' → zA4 ty n' → K (.tup []) ⟨zA0 h.ents p (lx s (j : Int) 0 t), n', ty⟩), Wc tree.getF 13 [.ptr p d 0] h K) (WD : ∀ (h : CHeap) (hf : Fit h) (hg : zA3 h.ents p = some (lx s (j : Int) 0 t)) (hp : p < h.next) (K : CVal → CHeap → Prop) (hk : ∀ n' ty (x : Int), h.next ≤ n' → zA4 ty n' → K (.agg [.int .i64 0, .str [], .int .u64 0, .int .i64 0]) ⟨zA0 h.ents p (lx s x (e : Int) (j : Int)), n', ty⟩), Wc tree.getF 14 [.ptr p d 0] h K)
    (hk : ∀ w3 w4 w5 w6 w7 h', Over n0 E0 h'.ents → zA4 h'.tys h'.next → h.next ≤ h'.next → Q .ret ⟨[.str s, v1, .ptr p d 0, w3, w4, w5, w6, w7, .nils, .int .i64 (e : Int), .int .i64 (j : Int)], h', []⟩) : W tree.getF zCk ⟨[.str s, v1, .ptr p d 0, v3, v4, v5, .nils, v7, v8, v9, v10], h, []⟩ Q := by
  obtain ⟨hu, hut, hX⟩ := fx4 hf
  have hY := fx5 hf hg
  have hez : ¬ (e : Int) = 0 := by omega
  refine W.loop ?_
  repeat (first | refine sq_ ?_ | refine bl_ ?_ | ((first | refine rg_ ?_ | refine go_ ?_); generalize e : goR _ _ _ _ _ _ _ _ = r; simp (disch := omega) [hX, hg, hY, hez] at e; replace e : some _ = _ := e; subst e; (try dsimp only [goW])) | refine ct_ rfl ?_ | refine cf_ rfl ?_ | refine sk_ ?_ | refine ex_ ?_ | (refine SP _ ?_ ?_ ?_ _ fun n1 tyn1 hn1 hun1 => ⟨rfl, ?_⟩; exact fit_; exact ge_; (try dsimp only); omega; (try dsimp only at hn1)) | (refine WD _ ?_ ?_ ?_ _ fun n2 tyn2 x2 hn2 hun2 => ⟨rfl, ?_⟩; exact fit_; exact ge_; (try dsimp only); omega; (try dsimp only at hn2)))
  all_goals ((try refine W.ret ?_); (try simp only [zAg, zA1, zA7]); refine hk _ _ _ _ _ _ ?_ ?_ ?_; ((repeat (first | exact hov | refine Over.set ?_ (by omega) | refine Over.cons ?_ (by omega)))); exact ut_; ((try dsimp only); omega))

theorem rl_tok_n {n0 : Nat} {E0 : List (Nat × CObj)} (p d : Nat) (s : List UInt8) (hs : s.length < 60000) (t : Int) (v1 v3 v4 v5 v7 v8 v9 v10 : CVal) (Q : CExit → CSt → Prop) (h : CHeap) (hf : Fit h) (i : Nat) (hg : zA3 h.ents p = some (lx s (i : Int) 0 t)) (hp : p < h.next) (hov : Over n0 E0 h.ents) (hn0 : n0 ≤ p)  (j k n j2 : Nat) (tx : List UInt8) (hk5 : k ≤ 4) (SP : ∀ (h : CHeap) (hf : Fit h) (hg : zA3 h.ents p = some (lx s (i : Int) 0 t)) (hp : p < h.next) (K : CVal → CHeap → Prop) (hk : ∀ n' ty, h.next ≤ n' → zA4 ty n' → K (.tup []) ⟨zA0 h.ents p (lx s (j : Int) 0 t), n', ty⟩), Wc tree.getF 13 [.ptr p d 0] h K) (WD : ∀ (h : CHeap) (hf : Fit h) (hg : zA3 h.ents p = some (lx s (j : Int) 0 t)) (hp : p < h.next) (K : CVal → CHeap → Prop) (hk : ∀ n' ty, h.next ≤ n' → zA4 ty n' → K (.agg [.int .i64 (k : Int), .str tx, .int .u64 (n : Int), .int .i64 (j : Int)]) ⟨zA0 h.ents p (lx s (j2 : Int) 0 t), n', ty⟩), Wc tree.getF 14 [.ptr p d 0] h K)
    (hk : ∀ q n' ty w3 w4 w5 w7, h.next ≤ q → q < n' → zA4 ty n' → W tree.getF zCk ⟨[.str s, v1, .ptr p d 0, w3, w4, w5, .imm (.own q 0) 4 [.agg [.int .i64 (k : Int), .str tx, .int .u64 (n : Int), .int .i64 (j : Int)]], w7, v8, v9, v10], ⟨(q, .tok 0) :: zA0 h.ents p (lx s (j2 : Int) 0 t), n', ty⟩, []⟩ Q) : W tree.getF zCk ⟨[.str s, v1, .ptr p d 0, v3, v4, v5, .nils, v7, v8, v9, v10], h, []⟩ Q := by
  obtain ⟨hu, hut, hX⟩ := fx4 hf
  have hY := fx5 hf hg
  refine W.loop ?_
  repeat (first | refine sq_ ?_ | refine bl_ ?_ | ((first | refine rg_ ?_ | refine go_ ?_); generalize e : goR _ _ _ _ _ _ _ _ = r; simp (disch := omega) [hX, hg, hY] at e; replace e : some _ = _ := e; subst e; (try dsimp only [goW])) | refine ct_ rfl ?_ | refine cf_ rfl ?_ | refine sk_ ?_ | refine ex_ ?_ | (refine SP _ ?_ ?_ ?_ _ fun n1 tyn1 hn1 hun1 => ⟨rfl, ?_⟩; exact fit_; exact ge_; (try dsimp only); omega; (try dsimp only at hn1)) | (refine WD _ ?_ ?_ ?_ _ fun n2 tyn2 hn2 hun2 => ⟨rfl, ?_⟩; exact fit_; exact ge_; (try dsimp only); omega; (try dsimp only at hn2)))
  show W tree.getF zCk (dropped true _ _) Q
  generalize e : dropped _ _ _ = r0
  simp (disch := omega) [hX, hg, hY] at e
  subst e
  try dsimp only
  refine hk _ _ _ _ _ _ _ ?_ ?_ ?_
  · (try dsimp only); omega
  · (try dsimp only); omega
  · exact ut_

theorem rl_sp_o {n0 : Nat} {E0 : List (Nat × CObj)} (p d : Nat) (s : List UInt8) (hs : s.length < 60000) (t : Int) (v1 v3 v4 v5 v7 v8 v9 v10 : CVal) (Q : CExit → CSt → Prop) (h : CHeap) (hf : Fit h) (i : Nat) (hg : zA3 h.ents p = some (lx s (i : Int) 0 t)) (hp : p < h.next) (hov : Over n0 E0 h.ents) (hn0 : n0 ≤ p) (iq vq : Nat) (ts : List CVal) (hts : ts.length < 100000) (hti : zA3 h.ents iq = some (.tok vq)) (hip : iq ≠ p) (hi0 : n0 ≤ iq) (hin : iq < h.next) (j : Nat) (SP : ∀ (h : CHeap) (hf : Fit h) (hg : zA3 h.ents p = some (lx s (i : Int) 0 t)) (hp : p < h.next) (K : CVal → CHeap → Prop) (hk : ∀ n' ty, h.next ≤ n' → zA4 ty n' → K (.tup []) ⟨zA0 h.ents p (lx s (s.length : Int) 2 (j : Int)), n', ty⟩), Wc tree.getF 13 [.ptr p d 0] h K)
    (hk : ∀ w3 w4 w5 w6 w7 h', Over n0 E0 h'.ents → zA4 h'.tys h'.next → h.next ≤ h'.next → Q .ret ⟨[.str s, v1, .ptr p d 0, w3, w4, w5, w6, w7, .nils, .int .i64 2, .int .i64 (j : Int)], h', []⟩) : W tree.getF zCk ⟨[.str s, v1, .ptr p d 0, v3, v4, v5, .imm (.own iq vq) 4 ts, v7, v8, v9, v10], h, []⟩ Q := by
  obtain ⟨hu, hut, hX⟩ := fx4 hf
  have hY := fx5 hf hg; have ⟨hG, hD2, hC2, hN2⟩ := hY
  have hti2 : ∀ x, zA3 (zA0 h.ents p x) iq = some (.tok vq) := fun x => (zA2 hip).trans hti
  have hip2 : ¬ p = iq := fun e => hip e.symm
  have hti3 : ∀ x y, zA3 (zA0 (zA0 h.ents p x) iq y) iq = some y := fun x y => zAb (hti2 x)
  have hpg : ∀ x y, zA3 (zA0 (zA0 h.ents p x) iq y) p = some x := fun x y => (zA2 hip2).trans (hG x)
  have hC3 : ∀ x y m, h.next ≤ m → zAi (zA0 (zA0 h.ents p x) iq y) m = zA0 (zA0 h.ents p x) iq y := fun x y m hm => zAd (hu.set.set.le hm)
  refine W.loop ?_
  repeat (first | refine sq_ ?_ | refine bl_ ?_ | ((first | refine rg_ ?_ | refine go_ ?_); generalize e : goR _ _ _ _ _ _ _ _ = r; simp (disch := omega) [hX, hg, hY, hti, hti2, hti3, hip, hip2, hpg, hC3] at e; replace e : some _ = _ := e; subst e; (try dsimp only [goW])) | refine ct_ rfl ?_ | refine cf_ rfl ?_ | refine sk_ ?_ | refine ex_ ?_ | (refine SP _ ?_ ?_ ?_ _ fun n1 tyn1 hn1 hun1 => ⟨rfl, ?_⟩; exact fit_; exact ge_; (try dsimp only); omega; (try dsimp only at hn1)))
  all_goals ((try refine W.ret ?_); (try simp only [zAg, zA1, zA7]); refine hk _ _ _ _ _ _ ?_ ?_ ?_; ((repeat (first | exact hov | refine Over.set ?_ (by omega) | refine Over.cons ?_ (by omega)))); exact ut_; ((try dsimp only); omega))

theorem rl_end_o {n0 : Nat} {E0 : List (Nat × CObj)} (p d : Nat) (s : List UInt8) (hs : s.length < 60000) (t : Int) (v1 v3 v4 v5 v7 v8 v9 v10 : CVal) (Q : CExit → CSt → Prop) (h : CHeap) (hf : Fit h) (i : Nat) (hg : zA3 h.ents p = some (lx s (i : Int) 0 t)) (hp : p < h.next) (hov : Over n0 E0 h.ents) (hn0 : n0 ≤ p) (iq vq : Nat) (ts : List CVal) (hts : ts.length < 100000) (hti : zA3 h.ents iq = some (.tok vq)) (hip : iq ≠ p) (hi0 : n0 ≤ iq) (hin : iq < h.next) (j : Nat) (SP : ∀ (h : CHeap) (hf : Fit h) (hg : zA3 h.ents p = some (lx s (i : Int) 0 t)) (hp : p < h.next) (K : CVal → CHeap → Prop) (hk : ∀ n' ty, h.next ≤ n' → zA4 ty n' → K (.tup []) ⟨zA0 h.ents p (lx s (j : Int) 0 t), n', ty⟩), Wc tree.getF 13 [.ptr p d 0] h K) (WD : ∀ (h : CHeap) (hf : Fit h) (hg : zA3 h.ents p = some (lx s (j : Int) 0 t)) (hp : p < h.next) (K : CVal → CHeap → Prop) (hk : ∀ n' ty, h.next ≤ n' → zA4 ty n' → K (.agg [.int .i64 5, .str [], .int .u64 0, .int .i64 (j : Int)]) ⟨h.ents, n', ty⟩), Wc tree.getF 14 [.ptr p d 0] h K)
    (hk : ∀ w3 w4 w5 w6 w7 h' q v, Over n0 E0 h'.ents → zA3 h'.ents q = some (.tok v) → n0 ≤ q → zA4 h'.tys h'.next → h.next ≤ h'.next → Q .ret ⟨[.str s, v1, .ptr p d 0, w3, w4, w5, w6, w7, .imm (.own q v) 4 (ts ++ [.agg [.int .i64 5, .str [], .int .u64 0, .int .i64 (j : Int)]]), .int .i64 0, .int .i64 0], h', []⟩) : W tree.getF zCk ⟨[.str s, v1, .ptr p d 0, v3, v4, v5, .imm (.own iq vq) 4 ts, v7, v8, v9, v10], h, []⟩ Q := by
  obtain ⟨hu, hut, hX⟩ := fx4 hf
  have hY := fx5 hf hg; have ⟨hG, hD2, hC2, hN2⟩ := hY
  have hti2 : ∀ x, zA3 (zA0 h.ents p x) iq = some (.tok vq) := fun x => (zA2 hip).trans hti
  have hip2 : ¬ p = iq := fun e => hip e.symm
  have hti3 : ∀ x y, zA3 (zA0 (zA0 h.ents p x) iq y) iq = some y := fun x y => zAb (hti2 x)
  have hpg : ∀ x y, zA3 (zA0 (zA0 h.ents p x) iq y) p = some x := fun x y => (zA2 hip2).trans (hG x)
  have hC3 : ∀ x y m, h.next ≤ m → zAi (zA0 (zA0 h.ents p x) iq y) m = zA0 (zA0 h.ents p x) iq y := fun x y m hm => zAd (hu.set.set.le hm)
  refine W.loop ?_
  repeat (first | refine sq_ ?_ | refine bl_ ?_ | ((first | refine rg_ ?_ | refine go_ ?_); generalize e : goR _ _ _ _ _ _ _ _ = r; simp (disch := omega) [hX, hg, hY, hti, hti2, hti3, hip, hip2, hpg, hC3] at e; replace e : some _ = _ := e; subst e; (try dsimp only [goW])) | refine ct_ rfl ?_ | refine cf_ rfl ?_ | refine sk_ ?_ | refine ex_ ?_ | (refine SP _ ?_ ?_ ?_ _ fun n1 tyn1 hn1 hun1 => ⟨rfl, ?_⟩; exact fit_; exact ge_; (try dsimp only); omega; (try dsimp only at hn1)) | (refine WD _ ?_ ?_ ?_ _ fun n2 tyn2 hn2 hun2 => ⟨rfl, ?_⟩; exact fit_; exact ge_; (try dsimp only); omega; (try dsimp only at hn2)))
  all_goals ((try refine W.ret ?_); (try simp only [zAg, zA1, zA7]); refine hk _ _ _ _ _ _ _ _ ?_ ?_ ?_ ?_ ?_; ((repeat (first | exact hov | refine Over.set ?_ (by omega) | refine Over.cons ?_ (by omega)))); (simp (disch := omega) [hX, hg, hY, hti, hti2, hti3, hip, hip2, hpg, hC3]); omega; exact ut_; ((try dsimp only); omega))

theorem rl_bad_o {n0 : Nat} {E0 : List (Nat × CObj)} (p d : Nat) (s : List UInt8) (hs : s.length < 60000) (t : Int) (v1 v3 v4 v5 v7 v8 v9 v10 : CVal) (Q : CExit → CSt → Prop) (h : CHeap) (hf : Fit h) (i : Nat) (hg : zA3 h.ents p = some (lx s (i : Int) 0 t)) (hp : p < h.next) (hov : Over n0 E0 h.ents) (hn0 : n0 ≤ p) (iq vq : Nat) (ts : List CVal) (hts : ts.length < 100000) (hti : zA3 h.ents iq = some (.tok vq)) (hip : iq ≠ p) (hi0 : n0 ≤ iq) (hin : iq < h.next) (j e : Nat) (he : 0 < e) (SP : ∀ (h : CHeap) (hf : Fit h) (hg : zA3 h.ents p = some (lx s (i : Int) 0 t)) (hp : p < h.next) (K : CVal → CHeap → Prop) (hk : ∀ n' ty, h.next ≤ n' → zA4 ty n' → K (.tup []) ⟨zA0 h.ents p (lx s (j : Int) 0 t), n', ty⟩), Wc tree.getF 13 [.ptr p d 0] h K) (WD : ∀ (h : CHeap) (hf : Fit h) (hg : zA3 h.ents p = some (lx s (j : Int) 0 t)) (hp : p < h.next) (K : CVal → CHeap → Prop) (hk : ∀ n' ty (x : Int), h.next ≤ n' → zA4 ty n' → K (.agg [.int .i64 0, .str [], .int .u64 0, .int .i64 0]) ⟨zA0 h.ents p (lx s x (e : Int) (j : Int)), n', ty⟩), Wc tree.getF 14 [.ptr p d 0] h K)
    (hk : ∀ w3 w4 w5 w6 w7 h', Over n0 E0 h'.ents → zA4 h'.tys h'.next → h.next ≤ h'.next → Q .ret ⟨[.str s, v1, .ptr p d 0, w3, w4, w5, w6, w7, .nils, .int .i64 (e : Int), .int .i64 (j : Int)], h', []⟩) : W tree.getF zCk ⟨[.str s, v1, .ptr p d 0, v3, v4, v5, .imm (.own iq vq) 4 ts, v7, v8, v9, v10], h, []⟩ Q := by
  obtain ⟨hu, hut, hX⟩ := fx4 hf
  have hY := fx5 hf hg; have ⟨hG, hD2, hC2, hN2⟩ := hY
  have hti2 : ∀ x, zA3 (zA0 h.ents p x) iq = some (.tok vq) := fun x => (zA2 hip).trans hti
  have hip2 : ¬ p = iq := fun e => hip e.symm
  have hti3 : ∀ x y, zA3 (zA0 (zA0 h.ents p x) iq y) iq = some y := fun x y => zAb (hti2 x)
  have hpg : ∀ x y, zA3 (zA0 (zA0 h.ents p x) iq y) p = some x := fun x y => (zA2 hip2).trans (hG x)
  have hC3 : ∀ x y m, h.next ≤ m → zAi (zA0 (zA0 h.ents p x) iq y) m = zA0 (zA0 h.ents p x) iq y := fun x y m hm => zAd (hu.set.set.le hm)
  have hez : ¬ (e : Int) = 0 := by omega
  refine W.loop ?_
  repeat (first | refine sq_ ?_ | refine bl_ ?_ | ((first | refine rg_ ?_ | refine go_ ?_); generalize e : goR _ _ _ _ _ _ _ _ = r; simp (disch := omega) [hX, hg, hY, hti, hti2, hti3, hip, hip2, hpg, hC3, hez] at e; replace e : some _ = _ := e; subst e; (try dsimp only [goW])) | refine ct_ rfl ?_ | refine cf_ rfl ?_ | refine sk_ ?_ | refine ex_ ?_ | (refine SP _ ?_ ?_ ?_ _ fun n1 tyn1 hn1 hun1 => ⟨rfl, ?_⟩; exact fit_; exact ge_; (try dsimp only); omega; (try dsimp only at hn1)) | (refine WD _ ?_ ?_ ?_ _ fun n2 tyn2 x2 hn2 hun2 => ⟨rfl, ?_⟩; exact fit_; exact ge_; (try dsimp only); omega; (try dsimp only at hn2)))
  all_goals ((try refine W.ret ?_); (try simp only [zAg, zA1, zA7]); refine hk _ _ _ _ _ _ ?_ ?_ ?_; ((repeat (first | exact hov | refine Over.set ?_ (by omega) | refine Over.cons ?_ (by omega)))); exact ut_; ((try dsimp only); omega))

theorem rl_tok_o {n0 : Nat} {E0 : List (Nat × CObj)} (p d : Nat) (s : List UInt8) (hs : s.length < 60000) (t : Int) (v1 v3 v4 v5 v7 v8 v9 v10 : CVal) (Q : CExit → CSt → Prop) (h : CHeap) (hf : Fit h) (i : Nat) (hg : zA3 h.ents p = some (lx s (i : Int) 0 t)) (hp : p < h.next) (hov : Over n0 E0 h.ents) (hn0 : n0 ≤ p) (iq vq : Nat) (ts : List CVal) (hts : ts.length < 100000) (hti : zA3 h.ents iq = some (.tok vq)) (hip : iq ≠ p) (hi0 : n0 ≤ iq) (hin : iq < h.next) (j k n j2 : Nat) (tx : List UInt8) (hk5 : k ≤ 4) (SP : ∀ (h : CHeap) (hf : Fit h) (hg : zA3 h.ents p = some (lx s (i : Int) 0 t)) (hp : p < h.next) (K : CVal → CHeap → Prop) (hk : ∀ n' ty, h.next ≤ n' → zA4 ty n' → K (.tup []) ⟨zA0 h.ents p (lx s (j : Int) 0 t), n', ty⟩), Wc tree.getF 13 [.ptr p d 0] h K) (WD : ∀ (h : CHeap) (hf : Fit h) (hg : zA3 h.ents p = some (lx s (j : Int) 0 t)) (hp : p < h.next) (K : CVal → CHeap → Prop) (hk : ∀ n' ty, h.next ≤ n' → zA4 ty n' → K (.agg [.int .i64 (k : Int), .str tx, .int .u64 (n : Int), .int .i64 (j : Int)]) ⟨zA0 h.ents p (lx s (j2 : Int) 0 t), n', ty⟩), Wc tree.getF 14 [.ptr p d 0] h K)
    (hk : ∀ n' ty w3 w4 w5 w7, h.next ≤ n' → zA4 ty n' → W tree.getF zCk ⟨[.str s, v1, .ptr p d 0, w3, w4, w5, .imm (.own iq (vq + 1)) 4 (ts ++ [.agg [.int .i64 (k : Int), .str tx, .int .u64 (n : Int), .int .i64 (j : Int)]]), w7, v8, v9, v10], ⟨zA0 (zA0 h.ents p (lx s (j2 : Int) 0 t)) iq (.tok (vq + 1)), n', ty⟩, []⟩ Q) : W tree.getF zCk ⟨[.str s, v1, .ptr p d 0, v3, v4, v5, .imm (.own iq vq) 4 ts, v7, v8, v9, v10], h, []⟩ Q := by
  obtain ⟨hu, hut, hX⟩ := fx4 hf
  have hY := fx5 hf hg; have ⟨hG, hD2, hC2, hN2⟩ := hY
  have hti2 : ∀ x, zA3 (zA0 h.ents p x) iq = some (.tok vq) := fun x => (zA2 hip).trans hti
  have hip2 : ¬ p = iq := fun e => hip e.symm
  have hti3 : ∀ x y, zA3 (zA0 (zA0 h.ents p x) iq y) iq = some y := fun x y => zAb (hti2 x)
  have hpg : ∀ x y, zA3 (zA0 (zA0 h.ents p x) iq y) p = some x := fun x y => (zA2 hip2).trans (hG x)
  have hC3 : ∀ x y m, h.next ≤ m → zAi (zA0 (zA0 h.ents p x) iq y) m = zA0 (zA0 h.ents p x) iq y := fun x y m hm => zAd (hu.set.set.le hm)
  refine W.loop ?_
  repeat (first | refine sq_ ?_ | refine bl_ ?_ | ((first | refine rg_ ?_ | refine go_ ?_); generalize e : goR _ _ _ _ _ _ _ _ = r; simp (disch := omega) [hX, hg, hY, hti, hti2, hti3, hip, hip2, hpg, hC3] at e; replace e : some _ = _ := e; subst e; (try dsimp only [goW])) | refine ct_ rfl ?_ | refine cf_ rfl ?_ | refine sk_ ?_ | refine ex_ ?_ | (refine SP _ ?_ ?_ ?_ _ fun n1 tyn1 hn1 hun1 => ⟨rfl, ?_⟩; exact fit_; exact ge_; (try dsimp only); omega; (try dsimp only at hn1)) | (refine WD _ ?_ ?_ ?_ _ fun n2 tyn2 hn2 hun2 => ⟨rfl, ?_⟩; exact fit_; exact ge_; (try dsimp only); omega; (try dsimp only at hn2)))
  show W tree.getF zCk (dropped true _ _) Q
  generalize e : dropped _ _ _ = r0
  simp (disch := omega) [hX, hg, hY, hti, hti2, hti3, hip, hip2, hpg, hC3] at e
  subst e
  try dsimp only
  refine hk _ _ _ _ _ _ ?_ ?_
  · (try dsimp only); omega
  · exact ut_
theorem rlex_loop {n0 : Nat} {E0 : List (Nat × CObj)} (p d : Nat) (s : List UInt8) (hs : s.length < 60000) (t : Int) (v1 v8 v9 v10 : CVal) (Q : CExit → CSt → Prop) : ∀ (m i : Nat) (r : List UInt8), r.length < m → s.drop i = r → i + r.length = s.length → ∀ (L : CVal) (ts : List CVal) (v3 v4 v5 v7 : CVal) (h : CHeap), ts.length + r.length < 90000 → Sr n0 E0 p (lx s (i : Int) 0 t) L ts h →
    (hk1 : ∀ l w3 w4 w5 w6 w7 h' q v, zH7 s.length m r = .ok l → Over n0 E0 h'.ents → zA3 h'.ents q = some (.tok v) → n0 ≤ q → zA4 h'.tys h'.next → h.next ≤ h'.next → Q .ret ⟨[.str s, v1, .ptr p d 0, w3, w4, w5, w6, w7, .imm (.own q v) 4 (ts ++ l.map tokV ++ [tokC 5 [] 0 s.length]), .int .i64 0, .int .i64 0], h', []⟩) →
    (hk2 : ∀ (e k : Nat) w3 w4 w5 w6 w7 h', zH7 s.length m r = .error (e, k) → Over n0 E0 h'.ents → zA4 h'.tys h'.next → h.next ≤ h'.next → Q .ret ⟨[.str s, v1, .ptr p d 0, w3, w4, w5, w6, w7, .nils, .int .i64 (e : Int), .int .i64 (k : Int)], h', []⟩) →
    W tree.getF zCk ⟨[.str s, v1, .ptr p d 0, v3, v4, v5, L, v7, v8, v9, v10], h, []⟩ Q := by
  intro m
  induction m with
  | zero => intro i r hm; omega
  | succ m ih =>
    intro i r hm hd hlen L ts v3 v4 v5 v7 h hts S hk1 hk2
    have hg := S.g
    have hf := S.f
    have hp := S.lt
    have hov := S.d
    have hn0 := S.n
    cases hsk : zBd r with
    | mk w b =>
      obtain ⟨j, hj⟩ : ∃ j, s.length - w.length = j := ⟨_, rfl⟩
      have hwl := zG0 _ r (Nat.le_refl _)
      rw [hsk] at hwl
      dsimp only at hwl
      have hdj := zGk s i r w b hd hlen hsk
      rw [hj] at hdj
      have hlj : j + w.length = s.length := by omega
      have hrr : zH7 s.length (m + 1) r = if b then lexW s.length (m + 1) w else .error (2, j) := by unfold zH7; rw [hsk]; cases b <;> simp [hj]
      cases b with
      | false =>
        rw [show (if false = true then lexW s.length (m + 1) w else Except.error (2, j)) = .error (2, j) from rfl] at hrr
        have SP : ∀ (h : CHeap) (hf : Fit h) (hg : zA3 h.ents p = some (lx s (i : Int) 0 t)) (hp : p < h.next) (K : CVal → CHeap → Prop) (hk : ∀ n' ty, h.next ≤ n' → zA4 ty n' → K (.tup []) ⟨zA0 h.ents p (lx s (s.length : Int) 2 (j : Int)), n', ty⟩), Wc tree.getF 13 [.ptr p d 0] h K := fun h hf hg hp K hk => space_L s hs i r hd hlen t h p d hf hg hp K (fun n' ty g1 g2 g3 => by rw [hsk] at g3; cases g3) (fun n' ty g1 g2 _ => by rw [hsk]; dsimp only; rw [hj]; exact hk n' ty g1 g2)
        rcases S.l with ⟨rfl, rfl⟩ | ⟨iq, vq, rfl, hti, hip, hi0, hin⟩
        · exact rl_sp_n p d s hs t v1 v3 v4 v5 v7 v8 v9 v10 Q h hf i hg hp hov hn0 j SP (fun w3 w4 w5 w6 w7 h' e1 e2 e3 => hk2 2 j w3 w4 w5 w6 w7 h' hrr e1 e2 e3)
        · exact rl_sp_o p d s hs t v1 v3 v4 v5 v7 v8 v9 v10 Q h hf i hg hp hov hn0 iq vq ts (by omega) hti hip hi0 hin j SP (fun w3 w4 w5 w6 w7 h' e1 e2 e3 => hk2 2 j w3 w4 w5 w6 w7 h' hrr e1 e2 e3)
      | true =>
        rw [if_pos rfl] at hrr
        have SP : ∀ (h : CHeap) (hf : Fit h) (hg : zA3 h.ents p = some (lx s (i : Int) 0 t)) (hp : p < h.next) (K : CVal → CHeap → Prop) (hk : ∀ n' ty, h.next ≤ n' → zA4 ty n' → K (.tup []) ⟨zA0 h.ents p (lx s (j : Int) 0 t), n', ty⟩), Wc tree.getF 13 [.ptr p d 0] h K := fun h hf hg hp K hk => space_L s hs i r hd hlen t h p d hf hg hp K (fun n' ty g1 g2 _ => by rw [hsk]; dsimp only; rw [hj]; exact hk n' ty g1 g2) (fun n' ty g1 g2 g3 => by rw [hsk] at g3; cases g3)
        cases w with
        | nil =>
            have hje : j = s.length := by simpa using hlj
            have hrr' : zH7 s.length (m + 1) r = .ok [] := by rw [hrr]; simp [lexW]
            have WD : ∀ (h : CHeap) (hf : Fit h) (hg : zA3 h.ents p = some (lx s (j : Int) 0 t)) (hp : p < h.next) (K : CVal → CHeap → Prop) (hk : ∀ n' ty, h.next ≤ n' → zA4 ty n' → K (.agg [.int .i64 5, .str [], .int .u64 0, .int .i64 (j : Int)]) ⟨h.ents, n', ty⟩), Wc tree.getF 14 [.ptr p d 0] h K := fun h hf hg hp K hk => word_e s hs j hje t h p d hf hg hp K hk
            rcases S.l with ⟨rfl, rfl⟩ | ⟨iq, vq, rfl, hti, hip, hi0, hin⟩
            · exact rl_end_n p d s hs t v1 v3 v4 v5 v7 v8 v9 v10 Q h hf i hg hp hov hn0 j SP WD (fun w3 w4 w5 w6 w7 h' q v e1 e2 e3 e4 e5 => by have := hk1 [] w3 w4 w5 w6 w7 h' q v hrr' e1 e2 e3 e4 e5; rw [hje]; exact this)
            · exact rl_end_o p d s hs t v1 v3 v4 v5 v7 v8 v9 v10 Q h hf i hg hp hov hn0 iq vq ts (by omega) hti hip hi0 hin j SP WD (fun w3 w4 w5 w6 w7 h' q v e1 e2 e3 e4 e5 => by have := hk1 [] w3 w4 w5 w6 w7 h' q v hrr' e1 e2 e3 e4 e5; rw [hje]; rw [List.map_nil, List.append_nil] at this; exact this)
        | cons c u =>
            have hposn : s.length - (c :: u).length = j := hj
            cases hw : zCo zB9 (c :: u) with
            | err e =>
              have he := wordW_err hw
              have hrr' : zH7 s.length (m + 1) r = .error (e, j) := by rw [hrr]; simp only [lexW, hw, hposn]
              have WD : ∀ (h : CHeap) (hf : Fit h) (hg : zA3 h.ents p = some (lx s (j : Int) 0 t)) (hp : p < h.next) (K : CVal → CHeap → Prop) (hk : ∀ n' ty (x : Int), h.next ≤ n' → zA4 ty n' → K (.agg [.int .i64 0, .str [], .int .u64 0, .int .i64 0]) ⟨zA0 h.ents p (lx s x (e : Int) (j : Int)), n', ty⟩), Wc tree.getF 14 [.ptr p d 0] h K := fun h hf hg hp K hk => word_L s hs j c u hdj hlj t h p d hf hg hp K (fun n' ty k tx n len g1 g2 g3 => by rw [hw] at g3; cases g3) (fun n' ty e' x g1 g2 g3 => by rw [hw] at g3; cases g3; exact hk n' ty x g1 g2)
              rcases S.l with ⟨rfl, rfl⟩ | ⟨iq, vq, rfl, hti, hip, hi0, hin⟩
              · exact rl_bad_n p d s hs t v1 v3 v4 v5 v7 v8 v9 v10 Q h hf i hg hp hov hn0 j e (by omega) SP WD (fun w3 w4 w5 w6 w7 h' e1 e2 e3 => hk2 e j w3 w4 w5 w6 w7 h' hrr' e1 e2 e3)
              · exact rl_bad_o p d s hs t v1 v3 v4 v5 v7 v8 v9 v10 Q h hf i hg hp hov hn0 iq vq ts (by omega) hti hip hi0 hin j e (by omega) SP WD (fun w3 w4 w5 w6 w7 h' e1 e2 e3 => hk2 e j w3 w4 w5 w6 w7 h' hrr' e1 e2 e3)
            | tok k tx n len =>
              obtain ⟨j2, hj2⟩ : ∃ j2, j + len = j2 := ⟨_, rfl⟩
              have hl := wordW_tok hw
              have hkk := wordW_kind hw
              simp only [List.length_cons] at hl hlj hwl
              have hd2 : s.drop j2 = (c :: u).drop len := by rw [← hj2, ← hdj, List.drop_drop]
              have hl2 : j2 + ((c :: u).drop len).length = s.length := by rw [List.length_drop]; simp only [List.length_cons]; omega
              have hm2 : ((c :: u).drop len).length < m := by rw [List.length_drop]; simp only [List.length_cons]; omega
              have hrE : ∀ x, zH7 s.length m ((c :: u).drop len) = .error x → zH7 s.length (m + 1) r = .error x := by
                intro x hx
                rw [hrr]
                unfold zH7 at hx
                simp only [lexW, hw]
                cases hsk2 : zBd ((c :: u).drop len) with
                | mk w2 b2 =>
                  rw [hsk2] at hx
                  cases b2 with
                  | false => exact hx
                  | true => dsimp only at hx ⊢; rw [hx]
              have hrO : ∀ l, zH7 s.length m ((c :: u).drop len) = .ok l → zH7 s.length (m + 1) r = .ok ((k, tx, n, j) :: l) := by
                intro l hx
                rw [hrr]
                unfold zH7 at hx
                simp only [lexW, hw]
                cases hsk2 : zBd ((c :: u).drop len) with
                | mk w2 b2 =>
                  rw [hsk2] at hx
                  cases b2 with
                  | false => cases hx
                  | true => dsimp only at hx ⊢; rw [hx]; dsimp only; rw [hposn]
              have hlj : j + (c :: u).length = s.length := by simp only [List.length_cons]; omega
              have WD : ∀ (h : CHeap) (hf : Fit h) (hg : zA3 h.ents p = some (lx s (j : Int) 0 t)) (hp : p < h.next) (K : CVal → CHeap → Prop) (hk : ∀ n' ty, h.next ≤ n' → zA4 ty n' → K (.agg [.int .i64 (k : Int), .str tx, .int .u64 (n : Int), .int .i64 (j : Int)]) ⟨zA0 h.ents p (lx s (j2 : Int) 0 t), n', ty⟩), Wc tree.getF 14 [.ptr p d 0] h K := fun h hf hg hp K hk => word_L s hs j c u hdj hlj t h p d hf hg hp K (fun n' ty k' tx' n'' len' g1 g2 g3 => by rw [hw] at g3; cases g3; have := hk n' ty g1 g2; rw [← hj2] at this; exact this) (fun n' ty e' x g1 g2 g3 => by rw [hw] at g3; cases g3)
              rcases S.l with ⟨rfl, rfl⟩ | ⟨iq, vq, rfl, hti, hip, hi0, hin⟩
              · refine rl_tok_n p d s hs t v1 v3 v4 v5 v7 v8 v9 v10 Q h hf i hg hp hov hn0 j k n j2 tx hkk SP WD ?_
                intro q n' ty w3 w4 w5 w7 g1 g2 g3
                refine ih j2 _ hm2 hd2 hl2 _ _ _ _ _ _ _ ?_ ((S.upd (o' := lx s (j2 : Int) 0 t) (Nat.le_refl _) S.f.2).app0 (x := .agg [.int .i64 (k : Int), .str tx, .int .u64 (n : Int), .int .i64 (j : Int)]) (i := q) (n' := n') (ty := ty) g1 g2 g3) ?_ ?_
                · simp only [List.length_cons, List.length_nil]; omega
                · intro l w3 w4 w5 w6 w7 h' q v e0 e1 e2 e3 e4 e5
                  exact hk1 _ w3 w4 w5 w6 w7 h' q v (hrO l e0) e1 e2 e3 e4 (by (try dsimp only at e5); omega)
                · intro e k2 w3 w4 w5 w6 w7 h' e0 e1 e2 e3
                  exact hk2 e k2 w3 w4 w5 w6 w7 h' (hrE _ e0) e1 e2 (by (try dsimp only at e3); omega)
              · refine rl_tok_o p d s hs t v1 v3 v4 v5 v7 v8 v9 v10 Q h hf i hg hp hov hn0 iq vq ts (by omega) hti hip hi0 hin j k n j2 tx hkk SP WD ?_
                intro n' ty w3 w4 w5 w7 g1 g3
                have Su := S.upd (o' := lx s (j2 : Int) 0 t) (n' := h.next) (ty := h.tys) (Nat.le_refl _) S.f.2
                refine ih j2 _ hm2 hd2 hl2 _ _ _ _ _ _ _ ?_ (Su.app1 (x := .agg [.int .i64 (k : Int), .str tx, .int .u64 (n : Int), .int .i64 (j : Int)]) (n' := n') (ty := ty) ((zA2 hip).trans hti) hip hi0 hin g1 g3) ?_ ?_
                · rw [List.length_append]; simp only [List.length_cons, List.length_nil]; omega
                · intro l w3 w4 w5 w6 w7 h' q v e0 e1 e2 e3 e4 e5
                  have := hk1 _ w3 w4 w5 w6 w7 h' q v (hrO l e0) e1 e2 e3 e4 (by (try dsimp only at e5); omega)
                  simpa [List.append_assoc] using this
                · intro e k2 w3 w4 w5 w6 w7 h' e0 e1 e2 e3
                  exact hk2 e k2 w3 w4 w5 w6 w7 h' (hrE _ e0) e1 e2 (by (try dsimp only at e3); omega)
theorem Sr.mk0 {h : CHeap} {p n' : Nat} {o : CObj} {ty : List (Nat × Nat)} (hf : Fit h) (hp : h.next ≤ p) (hn : p < n') (ht : zA4 ty n') : Sr h.next h.ents p o .nils [] ⟨(p, o) :: h.ents, n', ty⟩ where
  g := by simp [zA3]
  l := .inl ⟨rfl, rfl⟩
  d := ⟨[(p, o)], rfl, fun x hx => by simp at hx; subst hx; exact hp, hf.1⟩
  n := hp
  lt := hn
  f := ⟨Under.cons hn (hf.1.le (by (try dsimp only); omega)), ht⟩

theorem rlex_long (s : List UInt8) (hl : 3000 < s.length) : Pu tree.getF 8 [.str s] (.tup [.nils, .int .i64 3, .int .i64 0]) := by
  intro h hf K hk
  obtain ⟨hu, hut, hX⟩ := fx4 hf

  refine Wc.mkG 8 c8 (by kernel_rfl) rfl ?_
  generalize e : zA9 _ _ _ = r
  simp (disch := omega) [hX, c8] at e
  subst e
  repeat (first | refine sq_ ?_ | refine bl_ ?_ | ((first | refine rg_ ?_ | refine go_ ?_); generalize e : goR _ _ _ _ _ _ _ _ = r; simp (disch := omega) [hX, c8] at e; replace e : some _ = _ := e; subst e; (try dsimp only [goW])) | refine ct_ rfl ?_ | refine cf_ rfl ?_ | refine sk_ ?_ | refine ex_ ?_ | (refine W.loop ?_; try (generalize e : dropped _ _ _ = r; simp (disch := omega) [hX, c8] at e; subst e; try dsimp only)) | ((first | (refine W.ret ?_; (try simp only [zAg, zA1, zA7]); refine endW.of (.inl rfl) rfl ?_) | refine endW.of (.inr rfl) rfl ?_); generalize e : zAj _ _ _ = r; simp (disch := omega) [hX, c8] at e; subst e; (try dsimp only [goW]); (refine hk _ _ ?_ ?_; omega; exact ut_)))

theorem restR_lexF (s : List UInt8) (hl : ¬ 3000 < s.length) : lexF s = match zH7 s.length (s.length + 1) s with
    | .error x => .error x
    | .ok l => .ok (l ++ [(5, [], 0, s.length)]) := by
  unfold lexF zH7
  rw [if_neg hl]
  cases zBd s with
  | mk w b => cases b <;> rfl
theorem lex_R (s : List UInt8) (hs : s.length < 60000) : Pu tree.getF 8 [.str s] (lexV s) := by
  by_cases hlong : 3000 < s.length
  · have : lexV s = .tup [.nils, .int .i64 3, .int .i64 0] := by unfold lexV lexF; rw [if_pos hlong]; rfl
    rw [this]; exact rlex_long s hlong
  · have hV : lexV s = lexV s := rfl
    conv at hV => rhs; unfold lexV; rw [restR_lexF s hlong]
    intro h hf K hk
    obtain ⟨hu, hut, hX⟩ := fx4 hf
    refine Wc.mkG 8 c8 (by kernel_rfl) rfl ?_
    generalize e : zA9 _ _ _ = r
    simp (disch := omega) [hX, c8] at e
    subst e
    repeat (first | refine sq_ ?_ | refine bl_ ?_ | ((first | refine rg_ ?_ | refine go_ ?_); generalize e : goR _ _ _ _ _ _ _ _ = r; simp (disch := omega) [hX] at e; replace e : some _ = _ := e; subst e; (try dsimp only [goW])) | refine ct_ rfl ?_ | refine cf_ rfl ?_ | refine sk_ ?_ | refine ex_ ?_)
    refine rlex_loop (n0 := h.next) (E0 := h.ents) _ _ s hs 0 _ _ _ _ _ (s.length + 1) 0 s (by omega) rfl (by simp) _ [] _ _ _ _ _ (by simp only [List.length_nil]; omega) (Sr.mk0 ⟨hu, hut⟩ ?_ ?_ ?_) ?_ ?_
    · (try dsimp only); omega
    · (try dsimp only); omega
    · exact ut_
    · intro l w3 w4 w5 w6 w7 h' q v e0 e1 e2 e3 e4 e5
      try dsimp only at e5
      rw [e0] at hV
      dsimp only at hV
      rw [hV, List.map_append] at hk
      have hd := e1.drop
      (try simp only [zAg, zA1, zA7])
      refine endW.of (.inl rfl) rfl ?_
      generalize e : zAj _ _ _ = r0
      simp (disch := omega) [hd, e2, c8] at e
      subst e
      (try dsimp only)
      refine hk _ _ ?_ ?_
      · omega
      · exact e4
    · intro e k w3 w4 w5 w6 w7 h' e0 e1 e2 e3
      try dsimp only at e3
      rw [e0] at hV
      dsimp only at hV
      rw [hV] at hk
      have hd := e1.drop
      (try simp only [zAg, zA1, zA7])
      refine endW.of (.inl rfl) rfl ?_
      generalize e9 : zAj _ _ _ = r0
      simp (disch := omega) [hd, c8] at e9
      subst e9
      (try dsimp only)
      refine hk _ _ ?_ ?_
      · omega
      · exact e2
theorem lexF_lenR {s : List UInt8} {xs : List Tok} (h : lexF s = .ok xs) : xs.length ≤ s.length + 2 := by
  unfold lexF at h
  split at h
  · cases h
  · split at h
    · cases h
    · split at h
      · cases h
      · rename_i l e
        cases h
        have := zLh _ _ _ _ e
        simp; omega

end Go.Proofs.YtnllehllomllcaaDoor.IrM
