/- What the functions of the law 'WordAll' do: part 3 of 7. -/
import Derived.Test.YthblmflngjofjaaDoorLx2
namespace Go.Proofs.YthblmflngjofjaaDoor.IrW
open Go Go.CI
open Go.LexF hiding spacesB lettersB
set_option maxRecDepth 100000
set_option linter.unusedVariables false
set_option linter.unusedSimpArgs false
attribute [local irreducible] W Wo Wc WoR
theorem head_A (p d : Nat) (s r0 : List UInt8) (c0 : UInt8) (a : Nat) (L : CVal) (hL : L.whole = true) (e to : Int) (hs : s.length < 60000) (hda : s.drop a = c0 :: r0) (hlen : a + (c0 :: r0).length = s.length) (h1 : (decide (2 ≤ (c0 :: r0).length) && ((c0 :: r0).take 2 == [48, 120])) = true) (hk0 : 0 < (fr hexesB ((c0 :: r0).drop 2)).length) (h : CHeap) (hg : getEnt h.ents p = some (rdr s a L e to)) (hf : Fit h) (hp : p < h.next) (K : CVal → CHeap → Prop)
    (hk : ∀ n' ty v2 v3 v6 v8 v9 v10, h.next ≤ n' → UnderT ty n' → W tree.getF numTail ⟨[.ptr p d 0, .str (c0 :: r0), v2, v3, .int .i64 ((2 : Nat) : Int), .str hexesB, v6, .int .i64 16, v8, v9, v10], ⟨h.ents, n', ty⟩, []⟩ (endW c20 h.next K)) : Wc tree.getF 20 [.ptr p d 0] h K := by
  obtain ⟨hu, hut, hX⟩ := fx4 hf
  have hY := fx5 hf hg
  have htk : s.take s.length = s := List.take_length
  have htr : (c0 :: r0).take (r0.length + 1) = c0 :: r0 := List.take_of_length_le (by simp)
  have hl2 : r0.length + 1 = s.length - a := by simp at hlen; omega
  have F0 := front_16 ((c0 :: r0).drop 2) (by simp at hlen ⊢; omega)
  have h22 : 2 ≤ r0.length + 1 := by
    have := h1
    simp only [Bool.and_eq_true, decide_eq_true_eq] at this; simpa using this.1
  obtain ⟨k, hkk⟩ : ∃ k, (fr hexesB ((c0 :: r0).drop 2)).length = k := ⟨_, rfl⟩
  rw [hkk] at F0 hk0
  have hkp : (0 : Int) < (k : Int) := by omega
  rw [show (c0 :: r0).drop 2 = r0.tail by simp] at F0
  refine Wc.mkG 20 c20 (by kernel_rfl) rfl ?_
  generalize e : entryC _ _ _ = r
  simp (disch := omega) [hX, hg, hY, htk, hda, htr, hL, c20] at e
  subst e
  repeat (first | (refine hk _ _ _ _ _ _ _ _ ?_ ?_; omega; exact ut_) | refine sq_ ?_ | refine bl_ ?_ | ((first | refine rg_ ?_ | refine go_ ?_); generalize e : goR _ _ _ _ _ _ _ _ = r; simp (disch := omega) [hX, hg, hY, htk, hda, htr, hL, c20] at e; replace e : some _ = _ := e; subst e; (try dsimp only [goW])) | refine ct_ rfl ?_ | refine cf_ rfl ?_ | refine sk_ ?_ | refine ex_ ?_ | (refine prefix_F (c0 :: r0) [48, 120] true ?_ _ ?_ _ fun n1 tyn1 hn1 hun1 => ⟨rfl, ?_⟩; (focus ((exact h1); done)); exact fit_; (try dsimp only at hn1)) | (refine F0 _ ?_ _ fun n3 tyn3 hn3 hun3 => ⟨rfl, ?_⟩; exact fit_; (try dsimp only at hn3)))

theorem head_B (p d : Nat) (s r0 : List UInt8) (c0 : UInt8) (a : Nat) (L : CVal) (hL : L.whole = true) (e to : Int) (hs : s.length < 60000) (hda : s.drop a = c0 :: r0) (hlen : a + (c0 :: r0).length = s.length) (h1 : (decide (2 ≤ (c0 :: r0).length) && ((c0 :: r0).take 2 == [48, 120])) = false) (h2 : (decide (2 ≤ (c0 :: r0).length) && ((c0 :: r0).take 2 == [48, 88])) = true) (hk0 : 0 < (fr hexesB ((c0 :: r0).drop 2)).length) (h : CHeap) (hg : getEnt h.ents p = some (rdr s a L e to)) (hf : Fit h) (hp : p < h.next) (K : CVal → CHeap → Prop)
    (hk : ∀ n' ty v2 v3 v6 v8 v9 v10, h.next ≤ n' → UnderT ty n' → W tree.getF numTail ⟨[.ptr p d 0, .str (c0 :: r0), v2, v3, .int .i64 ((2 : Nat) : Int), .str hexesB, v6, .int .i64 16, v8, v9, v10], ⟨h.ents, n', ty⟩, []⟩ (endW c20 h.next K)) : Wc tree.getF 20 [.ptr p d 0] h K := by
  obtain ⟨hu, hut, hX⟩ := fx4 hf
  have hY := fx5 hf hg
  have htk : s.take s.length = s := List.take_length
  have htr : (c0 :: r0).take (r0.length + 1) = c0 :: r0 := List.take_of_length_le (by simp)
  have hl2 : r0.length + 1 = s.length - a := by simp at hlen; omega
  have F0 := front_16 ((c0 :: r0).drop 2) (by simp at hlen ⊢; omega)
  have h22 : 2 ≤ r0.length + 1 := by
    have := h2
    simp only [Bool.and_eq_true, decide_eq_true_eq] at this; simpa using this.1
  obtain ⟨k, hkk⟩ : ∃ k, (fr hexesB ((c0 :: r0).drop 2)).length = k := ⟨_, rfl⟩
  rw [hkk] at F0 hk0
  have hkp : (0 : Int) < (k : Int) := by omega
  rw [show (c0 :: r0).drop 2 = r0.tail by simp] at F0
  refine Wc.mkG 20 c20 (by kernel_rfl) rfl ?_
  generalize e : entryC _ _ _ = r
  simp (disch := omega) [hX, hg, hY, htk, hda, htr, hL, c20] at e
  subst e
  repeat (first | (refine hk _ _ _ _ _ _ _ _ ?_ ?_; omega; exact ut_) | refine sq_ ?_ | refine bl_ ?_ | ((first | refine rg_ ?_ | refine go_ ?_); generalize e : goR _ _ _ _ _ _ _ _ = r; simp (disch := omega) [hX, hg, hY, htk, hda, htr, hL, c20] at e; replace e : some _ = _ := e; subst e; (try dsimp only [goW])) | refine ct_ rfl ?_ | refine cf_ rfl ?_ | refine sk_ ?_ | refine ex_ ?_ | (refine prefix_F (c0 :: r0) [48, 120] false ?_ _ ?_ _ fun n1 tyn1 hn1 hun1 => ⟨rfl, ?_⟩; (focus ((exact h1); done)); exact fit_; (try dsimp only at hn1)) | (refine prefix_F (c0 :: r0) [48, 88] true ?_ _ ?_ _ fun n2 tyn2 hn2 hun2 => ⟨rfl, ?_⟩; (focus ((exact h2); done)); exact fit_; (try dsimp only at hn2)) | (refine F0 _ ?_ _ fun n3 tyn3 hn3 hun3 => ⟨rfl, ?_⟩; exact fit_; (try dsimp only at hn3)))

theorem head_C (p d : Nat) (s r0 : List UInt8) (c0 : UInt8) (a : Nat) (L : CVal) (hL : L.whole = true) (e to : Int) (hs : s.length < 60000) (hda : s.drop a = c0 :: r0) (hlen : a + (c0 :: r0).length = s.length) (h1 : (decide (2 ≤ (c0 :: r0).length) && ((c0 :: r0).take 2 == [48, 120])) = true) (hk0 : (fr hexesB ((c0 :: r0).drop 2)).length = 0) (hc0 : c0 = 48) (h : CHeap) (hg : getEnt h.ents p = some (rdr s a L e to)) (hf : Fit h) (hp : p < h.next) (K : CVal → CHeap → Prop)
    (hk : ∀ n' ty v2 v3 v6 v8 v9 v10, h.next ≤ n' → UnderT ty n' → W tree.getF numTail ⟨[.ptr p d 0, .str (c0 :: r0), v2, v3, .int .i64 ((0 : Nat) : Int), .str D8, v6, .int .i64 8, v8, v9, v10], ⟨h.ents, n', ty⟩, []⟩ (endW c20 h.next K)) : Wc tree.getF 20 [.ptr p d 0] h K := by
  obtain ⟨hu, hut, hX⟩ := fx4 hf
  have hY := fx5 hf hg
  have htk : s.take s.length = s := List.take_length
  have htr : (c0 :: r0).take (r0.length + 1) = c0 :: r0 := List.take_of_length_le (by simp)
  have hl2 : r0.length + 1 = s.length - a := by simp at hlen; omega
  have F0 := front_16 ((c0 :: r0).drop 2) (by simp at hlen ⊢; omega)
  have h22 : 2 ≤ r0.length + 1 := by
    have := h1
    simp only [Bool.and_eq_true, decide_eq_true_eq] at this; simpa using this.1
  rw [hk0] at F0
  rw [show (c0 :: r0).drop 2 = r0.tail by simp] at F0
  have hc1 : (c0.toNat : Int) = 48 := by rw [hc0]; rfl
  refine Wc.mkG 20 c20 (by kernel_rfl) rfl ?_
  generalize e : entryC _ _ _ = r
  simp (disch := omega) [hX, hg, hY, htk, hda, htr, hL, hc1, c20] at e
  subst e
  repeat (first | (refine hk _ _ _ _ _ _ _ _ ?_ ?_; omega; exact ut_) | refine sq_ ?_ | refine bl_ ?_ | ((first | refine rg_ ?_ | refine go_ ?_); generalize e : goR _ _ _ _ _ _ _ _ = r; simp (disch := omega) [hX, hg, hY, htk, hda, htr, hL, hc1, c20] at e; replace e : some _ = _ := e; subst e; (try dsimp only [goW])) | refine ct_ rfl ?_ | refine cf_ rfl ?_ | refine sk_ ?_ | refine ex_ ?_ | (refine prefix_F (c0 :: r0) [48, 120] true ?_ _ ?_ _ fun n1 tyn1 hn1 hun1 => ⟨rfl, ?_⟩; (focus ((exact h1); done)); exact fit_; (try dsimp only at hn1)) | (refine F0 _ ?_ _ fun n3 tyn3 hn3 hun3 => ⟨rfl, ?_⟩; exact fit_; (try dsimp only at hn3)))

theorem head_D (p d : Nat) (s r0 : List UInt8) (c0 : UInt8) (a : Nat) (L : CVal) (hL : L.whole = true) (e to : Int) (hs : s.length < 60000) (hda : s.drop a = c0 :: r0) (hlen : a + (c0 :: r0).length = s.length) (h1 : (decide (2 ≤ (c0 :: r0).length) && ((c0 :: r0).take 2 == [48, 120])) = false) (h2 : (decide (2 ≤ (c0 :: r0).length) && ((c0 :: r0).take 2 == [48, 88])) = true) (hk0 : (fr hexesB ((c0 :: r0).drop 2)).length = 0) (hc0 : c0 = 48) (h : CHeap) (hg : getEnt h.ents p = some (rdr s a L e to)) (hf : Fit h) (hp : p < h.next) (K : CVal → CHeap → Prop)
    (hk : ∀ n' ty v2 v3 v6 v8 v9 v10, h.next ≤ n' → UnderT ty n' → W tree.getF numTail ⟨[.ptr p d 0, .str (c0 :: r0), v2, v3, .int .i64 ((0 : Nat) : Int), .str D8, v6, .int .i64 8, v8, v9, v10], ⟨h.ents, n', ty⟩, []⟩ (endW c20 h.next K)) : Wc tree.getF 20 [.ptr p d 0] h K := by
  obtain ⟨hu, hut, hX⟩ := fx4 hf
  have hY := fx5 hf hg
  have htk : s.take s.length = s := List.take_length
  have htr : (c0 :: r0).take (r0.length + 1) = c0 :: r0 := List.take_of_length_le (by simp)
  have hl2 : r0.length + 1 = s.length - a := by simp at hlen; omega
  have F0 := front_16 ((c0 :: r0).drop 2) (by simp at hlen ⊢; omega)
  have h22 : 2 ≤ r0.length + 1 := by
    have := h2
    simp only [Bool.and_eq_true, decide_eq_true_eq] at this; simpa using this.1
  rw [hk0] at F0
  rw [show (c0 :: r0).drop 2 = r0.tail by simp] at F0
  have hc1 : (c0.toNat : Int) = 48 := by rw [hc0]; rfl
  refine Wc.mkG 20 c20 (by kernel_rfl) rfl ?_
  generalize e : entryC _ _ _ = r
  simp (disch := omega) [hX, hg, hY, htk, hda, htr, hL, hc1, c20] at e
  subst e
  repeat (first | (refine hk _ _ _ _ _ _ _ _ ?_ ?_; omega; exact ut_) | refine sq_ ?_ | refine bl_ ?_ | ((first | refine rg_ ?_ | refine go_ ?_); generalize e : goR _ _ _ _ _ _ _ _ = r; simp (disch := omega) [hX, hg, hY, htk, hda, htr, hL, hc1, c20] at e; replace e : some _ = _ := e; subst e; (try dsimp only [goW])) | refine ct_ rfl ?_ | refine cf_ rfl ?_ | refine sk_ ?_ | refine ex_ ?_ | (refine prefix_F (c0 :: r0) [48, 120] false ?_ _ ?_ _ fun n1 tyn1 hn1 hun1 => ⟨rfl, ?_⟩; (focus ((exact h1); done)); exact fit_; (try dsimp only at hn1)) | (refine prefix_F (c0 :: r0) [48, 88] true ?_ _ ?_ _ fun n2 tyn2 hn2 hun2 => ⟨rfl, ?_⟩; (focus ((exact h2); done)); exact fit_; (try dsimp only at hn2)) | (refine F0 _ ?_ _ fun n3 tyn3 hn3 hun3 => ⟨rfl, ?_⟩; exact fit_; (try dsimp only at hn3)))

theorem head_E (p d : Nat) (s r0 : List UInt8) (c0 : UInt8) (a : Nat) (L : CVal) (hL : L.whole = true) (e to : Int) (hs : s.length < 60000) (hda : s.drop a = c0 :: r0) (hlen : a + (c0 :: r0).length = s.length) (h1 : (decide (2 ≤ (c0 :: r0).length) && ((c0 :: r0).take 2 == [48, 120])) = false) (h2 : (decide (2 ≤ (c0 :: r0).length) && ((c0 :: r0).take 2 == [48, 88])) = false) (hc0 : c0 = 48) (h : CHeap) (hg : getEnt h.ents p = some (rdr s a L e to)) (hf : Fit h) (hp : p < h.next) (K : CVal → CHeap → Prop)
    (hk : ∀ n' ty v2 v3 v6 v8 v9 v10, h.next ≤ n' → UnderT ty n' → W tree.getF numTail ⟨[.ptr p d 0, .str (c0 :: r0), v2, v3, .int .i64 ((0 : Nat) : Int), .str D8, v6, .int .i64 8, v8, v9, v10], ⟨h.ents, n', ty⟩, []⟩ (endW c20 h.next K)) : Wc tree.getF 20 [.ptr p d 0] h K := by
  obtain ⟨hu, hut, hX⟩ := fx4 hf
  have hY := fx5 hf hg
  have htk : s.take s.length = s := List.take_length
  have htr : (c0 :: r0).take (r0.length + 1) = c0 :: r0 := List.take_of_length_le (by simp)
  have hl2 : r0.length + 1 = s.length - a := by simp at hlen; omega
  have hc1 : (c0.toNat : Int) = 48 := by rw [hc0]; rfl
  refine Wc.mkG 20 c20 (by kernel_rfl) rfl ?_
  generalize e : entryC _ _ _ = r
  simp (disch := omega) [hX, hg, hY, htk, hda, htr, hL, hc1, c20] at e
  subst e
  repeat (first | (refine hk _ _ _ _ _ _ _ _ ?_ ?_; omega; exact ut_) | refine sq_ ?_ | refine bl_ ?_ | ((first | refine rg_ ?_ | refine go_ ?_); generalize e : goR _ _ _ _ _ _ _ _ = r; simp (disch := omega) [hX, hg, hY, htk, hda, htr, hL, hc1, c20] at e; replace e : some _ = _ := e; subst e; (try dsimp only [goW])) | refine ct_ rfl ?_ | refine cf_ rfl ?_ | refine sk_ ?_ | refine ex_ ?_ | (refine prefix_F (c0 :: r0) [48, 120] false ?_ _ ?_ _ fun n1 tyn1 hn1 hun1 => ⟨rfl, ?_⟩; (focus ((exact h1); done)); exact fit_; (try dsimp only at hn1)) | (refine prefix_F (c0 :: r0) [48, 88] false ?_ _ ?_ _ fun n2 tyn2 hn2 hun2 => ⟨rfl, ?_⟩; (focus ((exact h2); done)); exact fit_; (try dsimp only at hn2)))

theorem head_F (p d : Nat) (s r0 : List UInt8) (c0 : UInt8) (a : Nat) (L : CVal) (hL : L.whole = true) (e to : Int) (hs : s.length < 60000) (hda : s.drop a = c0 :: r0) (hlen : a + (c0 :: r0).length = s.length) (h1 : (decide (2 ≤ (c0 :: r0).length) && ((c0 :: r0).take 2 == [48, 120])) = false) (h2 : (decide (2 ≤ (c0 :: r0).length) && ((c0 :: r0).take 2 == [48, 88])) = false) (hc0 : c0 ≠ 48) (h : CHeap) (hg : getEnt h.ents p = some (rdr s a L e to)) (hf : Fit h) (hp : p < h.next) (K : CVal → CHeap → Prop)
    (hk : ∀ n' ty v2 v3 v6 v8 v9 v10, h.next ≤ n' → UnderT ty n' → W tree.getF numTail ⟨[.ptr p d 0, .str (c0 :: r0), v2, v3, .int .i64 ((0 : Nat) : Int), .str D10, v6, .int .i64 10, v8, v9, v10], ⟨h.ents, n', ty⟩, []⟩ (endW c20 h.next K)) : Wc tree.getF 20 [.ptr p d 0] h K := by
  obtain ⟨hu, hut, hX⟩ := fx4 hf
  have hY := fx5 hf hg
  have htk : s.take s.length = s := List.take_length
  have htr : (c0 :: r0).take (r0.length + 1) = c0 :: r0 := List.take_of_length_le (by simp)
  have hl2 : r0.length + 1 = s.length - a := by simp at hlen; omega
  have hc1 : ¬ ((c0.toNat : Int) = 48) := by
    intro e
    apply hc0
    apply UInt8.toNat_inj.1
    have h48 : c0.toNat = 48 := by omega
    rw [h48]; rfl
  refine Wc.mkG 20 c20 (by kernel_rfl) rfl ?_
  generalize e : entryC _ _ _ = r
  simp (disch := omega) [hX, hg, hY, htk, hda, htr, hL, hc1, c20] at e
  subst e
  repeat (first | (refine hk _ _ _ _ _ _ _ _ ?_ ?_; omega; exact ut_) | refine sq_ ?_ | refine bl_ ?_ | ((first | refine rg_ ?_ | refine go_ ?_); generalize e : goR _ _ _ _ _ _ _ _ = r; simp (disch := omega) [hX, hg, hY, htk, hda, htr, hL, hc1, c20] at e; replace e : some _ = _ := e; subst e; (try dsimp only [goW])) | refine ct_ rfl ?_ | refine cf_ rfl ?_ | refine sk_ ?_ | refine ex_ ?_ | (refine prefix_F (c0 :: r0) [48, 120] false ?_ _ ?_ _ fun n1 tyn1 hn1 hun1 => ⟨rfl, ?_⟩; (focus ((exact h1); done)); exact fit_; (try dsimp only at hn1)) | (refine prefix_F (c0 :: r0) [48, 88] false ?_ _ ?_ _ fun n2 tyn2 hn2 hun2 => ⟨rfl, ?_⟩; (focus ((exact h2); done)); exact fit_; (try dsimp only at hn2)))
theorem St.mv {n0 : Nat} {E0 : List (Nat × CObj)} {p : Nat} {s : List UInt8} {a : Int} {L : CVal} {ts : List CVal} {e to : Int} {h : CHeap} {n' : Nat} {ty : List (Nat × Nat)} (S : St n0 E0 p s a L ts e to h) (hn : h.next ≤ n') (ht : UnderT ty n') : St n0 E0 p s a L ts e to ⟨h.ents, n', ty⟩ where
  g := S.g
  l := by
    rcases S.l with h1 | ⟨i, v, h1, h2, h3, h4, h5⟩
    · exact .inl h1
    · exact .inr ⟨i, v, h1, h2, h3, h4, by (try dsimp only); omega⟩
  d := S.d
  n := S.n
  lt := by have := S.lt; (try dsimp only); omega
  f := ⟨S.f.1.le hn, ht⟩
theorem num_rest {n0 n1 : Nat} {E0 : List (Nat × CObj)} (p d : Nat) (s r : List UInt8) (a n k B : Nat) (set ds : List UInt8) (L : CVal) (ts : List CVal) (hts : ts.length ≤ 100000) (to : Int) (hs : s.length < 60000) (hda : s.drop a = r) (hlen : a + r.length = s.length) (hnr : n ≤ r.length)
    (hF : numF r = (B, n, ds)) (hds : ds = fr set (r.drop n)) (hk0 : ds.length = k) (FR : Pu tree.getF 13 [.str (r.drop n), .str set] (.int .i64 (k : Int)))
    (PO : valF B 0 ds < 18446744073709551616 → Pu tree.getF 34 [.str ds, .int .i64 B, .int .i64 64] (.tup [.int .u64 (valF B 0 ds : Nat), .nili]))
    (PB : 18446744073709551616 ≤ valF B 0 ds → ∀ (h : CHeap), Fit h → ∀ (K : CVal → CHeap → Prop), (∀ n' ty m d, h.next ≤ n' → UnderT ty n' → K (.tup [.int .u64 ((18446744073709551615 : Nat) : Int), .ifc 80 (.ptr m d 0)]) ⟨h.ents, n', ty⟩) → Wc tree.getF 34 [.str ds, .int .i64 B, .int .i64 64] h K)
    (h : CHeap) (S : St n0 E0 p s (a : Int) L ts 0 to h) (hn1 : n1 ≤ h.next) (hu1 : Under h.ents n1) (v2 v3 v6 v8 v9 v10 : CVal) (K : CVal → CHeap → Prop)
    (hk1 : ∀ v len, numW r = .tok 2 [] v len → ∀ h' L', St n0 E0 p s ((a + len : Nat) : Int) L' (ts ++ [tokC 2 [] v a]) 0 to h' → h.next ≤ h'.next → K (.tup []) h')
    (hk2 : ∀ e, numW r = .err e → ∀ h' at' L' ts', St n0 E0 p s at' L' ts' (e : Int) (a : Int) h' → h.next ≤ h'.next → K (.tup []) h') :
    W tree.getF numTail ⟨[.ptr p d 0, .str r, v2, v3, .int .i64 (n : Int), .str set, v6, .int .i64 B, v8, v9, v10], h, []⟩ (endW c20 n1 K) := by
  have hfl := fr_len set (r.drop n)
  rw [← hds, List.length_drop] at hfl
  have hnk : n + k ≤ r.length := by omega
  have hdsE : (r.take (n + k)).drop n = ds := by
    rw [List.drop_take, show n + k - n = k by omega, ← hk0, hds, take_fr]
  have hpos : (a : Int) + ((n : Int) + (k : Int)) = ((a + (n + k) : Nat) : Int) := by omega
  unfold numW at hk1 hk2
  rw [hF] at hk1 hk2
  dsimp only at hk1 hk2
  rw [hk0] at hk1 hk2
  have hSL := S.l
  by_cases hv : valF B 0 ds < 18446744073709551616
  · have hv' : ¬ 18446744073709551616 ≤ valF B 0 ds := by omega
    rw [if_neg hv'] at hk1 hk2
    cases hc : r.drop (n + k) with
    | nil =>
      have hend : n + k = r.length := by have := congrArg List.length hc; simp at this; omega
      rw [hc] at hk1
      dsimp only at hk1
      rcases hSL with ⟨rfl, rfl⟩ | ⟨i, v, rfl, ht, hip, hi0, hin⟩
      · refine tail_ok_end0 p d s r a n k B (valF B 0 ds) set ds [] (by simp) to hs hda hlen hnk hdsE FR (PO hv) hend h S hn1 hu1 _ _ _ _ _ _ K fun h' L' S' hn' => ?_
        rw [hpos] at S'; exact hk1 _ _ rfl h' L' S' hn'
      · refine tail_ok_end1 p d s r a n k B (valF B 0 ds) set ds ts hts to hs hda hlen hnk hdsE FR (PO hv) hend h i v ht hip hi0 hin S hn1 hu1 _ _ _ _ _ _ K fun h' L' S' hn' => ?_
        rw [hpos] at S'; exact hk1 _ _ rfl h' L' S' hn'
    | cons c t =>
      rw [hc] at hk1 hk2
      dsimp only at hk1 hk2
      cases hcc : (namesB ++ [46]).contains c with
      | false =>
        rw [hcc] at hk1
        simp only [Bool.false_eq_true, if_false] at hk1
        rcases hSL with ⟨rfl, rfl⟩ | ⟨i, v, rfl, ht, hip, hi0, hin⟩
        · refine tail_ok_good0 p d s r a n k B (valF B 0 ds) set ds [] (by simp) to hs hda hlen hnk hdsE FR (PO hv) c t hc hcc h S hn1 hu1 _ _ _ _ _ _ K fun h' L' S' hn' => ?_
          rw [hpos] at S'; exact hk1 _ _ rfl h' L' S' hn'
        · refine tail_ok_good1 p d s r a n k B (valF B 0 ds) set ds ts hts to hs hda hlen hnk hdsE FR (PO hv) c t hc hcc h i v ht hip hi0 hin S hn1 hu1 _ _ _ _ _ _ K fun h' L' S' hn' => ?_
          rw [hpos] at S'; exact hk1 _ _ rfl h' L' S' hn'
      | true =>
        rw [hcc] at hk2
        simp only [if_true] at hk2
        rcases hSL with ⟨rfl, rfl⟩ | ⟨i, v, rfl, ht, hip, hi0, hin⟩
        · exact tail_ok_bad0 p d s r a n k B (valF B 0 ds) set ds [] (by simp) to hs hda hlen hnk hdsE FR (PO hv) c t hc hcc h S hn1 hu1 _ _ _ _ _ _ K fun h' L' S' hn' => hk2 2 rfl h' _ L' _ S' hn'
        · exact tail_ok_bad1 p d s r a n k B (valF B 0 ds) set ds ts hts to hs hda hlen hnk hdsE FR (PO hv) c t hc hcc h i v ht hip hi0 hin S hn1 hu1 _ _ _ _ _ _ K fun h' L' S' hn' => hk2 2 rfl h' _ L' _ S' hn'
  · have hv : 18446744073709551616 ≤ valF B 0 ds := by omega
    rw [if_pos hv] at hk2
    cases hc : r.drop (n + k) with
    | nil =>
      have hend : n + k = r.length := by have := congrArg List.length hc; simp at this; omega
      rcases hSL with ⟨rfl, rfl⟩ | ⟨i, v, rfl, ht, hip, hi0, hin⟩
      · exact tail_ovf_end0 p d s r a n k B 18446744073709551615 set ds [] (by simp) to hs hda hlen hnk hdsE FR (PB hv) hend h S hn1 hu1 _ _ _ _ _ _ K fun h' L' S' hn' => hk2 3 rfl h' _ L' _ S' hn'
      · exact tail_ovf_end1 p d s r a n k B 18446744073709551615 set ds ts hts to hs hda hlen hnk hdsE FR (PB hv) hend h i v ht hip hi0 hin S hn1 hu1 _ _ _ _ _ _ K fun h' L' S' hn' => hk2 3 rfl h' _ L' _ S' hn'
    | cons c t =>
      cases hcc : (namesB ++ [46]).contains c with
      | false =>
        rcases hSL with ⟨rfl, rfl⟩ | ⟨i, v, rfl, ht, hip, hi0, hin⟩
        · exact tail_ovf_good0 p d s r a n k B 18446744073709551615 set ds [] (by simp) to hs hda hlen hnk hdsE FR (PB hv) c t hc hcc h S hn1 hu1 _ _ _ _ _ _ K fun h' L' S' hn' => hk2 3 rfl h' _ L' _ S' hn'
        · exact tail_ovf_good1 p d s r a n k B 18446744073709551615 set ds ts hts to hs hda hlen hnk hdsE FR (PB hv) c t hc hcc h i v ht hip hi0 hin S hn1 hu1 _ _ _ _ _ _ K fun h' L' S' hn' => hk2 3 rfl h' _ L' _ S' hn'
      | true =>
        rcases hSL with ⟨rfl, rfl⟩ | ⟨i, v, rfl, ht, hip, hi0, hin⟩
        · exact tail_ovf_bad0 p d s r a n k B 18446744073709551615 set ds [] (by simp) to hs hda hlen hnk hdsE FR (PB hv) c t hc hcc h S hn1 hu1 _ _ _ _ _ _ K fun h' L' S' hn' => hk2 3 rfl h' _ L' _ S' hn'
        · exact tail_ovf_bad1 p d s r a n k B 18446744073709551615 set ds ts hts to hs hda hlen hnk hdsE FR (PB hv) c t hc hcc h i v ht hip hi0 hin S hn1 hu1 _ _ _ _ _ _ K fun h' L' S' hn' => hk2 3 rfl h' _ L' _ S' hn'
def okB (B : Nat) (c : UInt8) : Bool := (decide (48 ≤ c.toNat ∧ c.toNat ≤ 57 ∨ 65 ≤ c.toNat ∧ c.toNat ≤ 70 ∨ 97 ≤ c.toNat ∧ c.toNat ≤ 102)) && decide (digF c < B)
theorem ok_of {B : Nat} {set : List UInt8} (h : set.all (okB B) = true) {c : UInt8} (hc : set.contains c = true) : okF B c := by
  have := List.all_eq_true.1 h c (by simpa using hc)
  simp only [okB, Bool.and_eq_true, decide_eq_true_eq] at this
  exact this
theorem number_F {n0 : Nat} {E0 : List (Nat × CObj)} (p d : Nat) (s r0 : List UInt8) (c0 : UInt8) (a : Nat) (L : CVal) (ts : List CVal) (hts : ts.length ≤ 100000) (to : Int) (hs : s.length < 60000) (hda : s.drop a = c0 :: r0) (hlen : a + (c0 :: r0).length = s.length) (hcd : D10.contains c0 = true)
    (h : CHeap) (S : St n0 E0 p s (a : Int) L ts 0 to h) (K : CVal → CHeap → Prop)
    (hk1 : ∀ v len, numW (c0 :: r0) = .tok 2 [] v len → ∀ h' L', St n0 E0 p s ((a + len : Nat) : Int) L' (ts ++ [tokC 2 [] v a]) 0 to h' → h.next ≤ h'.next → K (.tup []) h')
    (hk2 : ∀ e, numW (c0 :: r0) = .err e → ∀ h' at' L' ts', St n0 E0 p s at' L' ts' (e : Int) (a : Int) h' → h.next ≤ h'.next → K (.tup []) h') : Wc tree.getF 20 [.ptr p d 0] h K := by
  have hL := S.whole
  have hu1 := S.f.1
  have hll : (c0 :: r0).length ≤ s.length := by omega
  have h2 : ∀ q : List UInt8, (decide (2 ≤ (c0 :: r0).length) && ((c0 :: r0).take 2 == q)) = true ∨ (decide (2 ≤ (c0 :: r0).length) && ((c0 :: r0).take 2 == q)) = false := fun q => by cases (decide (2 ≤ (c0 :: r0).length) && ((c0 :: r0).take 2 == q)) <;> simp
  have take2 : ∀ q : List UInt8, q.length = 2 → ((decide (2 ≤ (c0 :: r0).length) && ((c0 :: r0).take 2 == q)) = true ↔ (c0 :: r0).take 2 = q) := fun q hq => by
    simp only [Bool.and_eq_true, decide_eq_true_eq, beq_iff_eq]
    refine ⟨fun h => h.2, fun h => ⟨?_, h⟩⟩
    have := congrArg List.length h
    rw [List.length_take, hq] at this; omega
  have t1 := take2 [48, 120] rfl
  have t2 := take2 [48, 88] rfl
  have head48 : (c0 :: r0).take 2 = [48, 120] ∨ (c0 :: r0).take 2 = [48, 88] → c0 = 48 := fun h => by
    rcases h with h | h <;> (cases r0 <;> simp at h; exact h.1)
  by_cases hP : ((c0 :: r0).take 2 = [48, 120] ∨ (c0 :: r0).take 2 = [48, 88]) ∧ 0 < (fr hexesB ((c0 :: r0).drop 2)).length
  · have hF : numF (c0 :: r0) = (16, 2, fr hexesB ((c0 :: r0).drop 2)) := by unfold numF; rw [if_pos hP]
    have hne : fr hexesB ((c0 :: r0).drop 2) ≠ [] := fun e => by have := hP.2; rw [e] at this; simp at this
    have hfl := fr_len hexesB ((c0 :: r0).drop 2)
    rw [List.length_drop] at hfl
    have hdl : ∀ c ∈ fr hexesB ((c0 :: r0).drop 2), okF 16 c := fun c hc => ok_of (by decide) (fr_mem hc)
    have fin : ∀ n' ty v2 v3 v6 v8 v9 v10, h.next ≤ n' → UnderT ty n' → W tree.getF numTail ⟨[.ptr p d 0, .str (c0 :: r0), v2, v3, .int .i64 ((2 : Nat) : Int), .str hexesB, v6, .int .i64 16, v8, v9, v10], ⟨h.ents, n', ty⟩, []⟩ (endW c20 h.next K) := by
      intro n' ty v2 v3 v6 v8 v9 v10 g1 g2
      exact num_rest p d s (c0 :: r0) a 2 _ 16 hexesB _ L ts hts to hs hda hlen (by have := hP.2; omega) hF rfl rfl (front_16 _ (by simp at hll ⊢; omega)) (fun hv => p_ok16 _ hne (by omega) hdl hv) (fun hv => p_bad16 _ hne (by omega) hdl hv) _ (S.mv g1 g2) g1 hu1 _ _ _ _ _ _ K (fun v len e h' L' S' g => hk1 v len e h' L' S' (Nat.le_trans g1 g)) (fun e' e h' at' L' ts' S' g => hk2 e' e h' at' L' ts' S' (Nat.le_trans g1 g))
    rcases h2 [48, 120] with h1 | h1
    · exact head_A p d s r0 c0 a L hL.1 0 to hs hda hlen h1 hP.2 h S.g S.f S.lt K fin
    · have h3 : (c0 :: r0).take 2 = [48, 88] := by
        rcases hP.1 with h | h
        · rw [t1.2 h] at h1; cases h1
        · exact h
      exact head_B p d s r0 c0 a L hL.1 0 to hs hda hlen h1 (t2.2 h3) hP.2 h S.g S.f S.lt K fin
  · by_cases h48 : c0 = 48
    · have hF : numF (c0 :: r0) = (8, 0, fr D8 (c0 :: r0)) := by unfold numF; rw [if_neg hP, if_pos (by rw [h48]; rfl)]
      have hfr : fr D8 (c0 :: r0) = c0 :: fr D8 r0 := by unfold fr; rw [List.takeWhile_cons, if_pos (by rw [h48]; decide)]
      have hne : fr D8 (c0 :: r0) ≠ [] := by rw [hfr]; simp
      have hfl := fr_len D8 (c0 :: r0)
      have hdl : ∀ c ∈ fr D8 (c0 :: r0), okF 8 c := fun c hc => ok_of (by decide) (fr_mem hc)
      have fin : ∀ n' ty v2 v3 v6 v8 v9 v10, h.next ≤ n' → UnderT ty n' → W tree.getF numTail ⟨[.ptr p d 0, .str (c0 :: r0), v2, v3, .int .i64 ((0 : Nat) : Int), .str D8, v6, .int .i64 8, v8, v9, v10], ⟨h.ents, n', ty⟩, []⟩ (endW c20 h.next K) := by
        intro n' ty v2 v3 v6 v8 v9 v10 g1 g2
        exact num_rest p d s (c0 :: r0) a 0 _ 8 D8 _ L ts hts to hs hda hlen (by omega) hF rfl rfl (front_8 _ (by simp at hll ⊢; omega)) (fun hv => p_ok8 _ hne (by omega) hdl hv) (fun hv => p_bad8 _ hne (by omega) hdl hv) _ (S.mv g1 g2) g1 hu1 _ _ _ _ _ _ K (fun v len e h' L' S' g => hk1 v len e h' L' S' (Nat.le_trans g1 g)) (fun e' e h' at' L' ts' S' g => hk2 e' e h' at' L' ts' S' (Nat.le_trans g1 g))
      have hk0 : (c0 :: r0).take 2 = [48, 120] ∨ (c0 :: r0).take 2 = [48, 88] → (fr hexesB ((c0 :: r0).drop 2)).length = 0 := fun e => by
        rcases Nat.eq_zero_or_pos (fr hexesB ((c0 :: r0).drop 2)).length with h | h
        · exact h
        · exact absurd ⟨e, h⟩ hP
      rcases h2 [48, 120] with h1 | h1
      · exact head_C p d s r0 c0 a L hL.1 0 to hs hda hlen h1 (hk0 (.inl (t1.1 h1))) h48 h S.g S.f S.lt K fin
      · rcases h2 [48, 88] with h3 | h3
        · exact head_D p d s r0 c0 a L hL.1 0 to hs hda hlen h1 h3 (hk0 (.inr (t2.1 h3))) h48 h S.g S.f S.lt K fin
        · exact head_E p d s r0 c0 a L hL.1 0 to hs hda hlen h1 h3 h48 h S.g S.f S.lt K fin
    · have hF : numF (c0 :: r0) = (10, 0, fr D10 (c0 :: r0)) := by
        unfold numF; rw [if_neg hP, if_neg (by simpa using h48)]
      have hfr : fr D10 (c0 :: r0) = c0 :: fr D10 r0 := by unfold fr; rw [List.takeWhile_cons, if_pos hcd]
      have hne : fr D10 (c0 :: r0) ≠ [] := by rw [hfr]; simp
      have hfl := fr_len D10 (c0 :: r0)
      have hdl : ∀ c ∈ fr D10 (c0 :: r0), okF 10 c := fun c hc => ok_of (by decide) (fr_mem hc)
      have fin : ∀ n' ty v2 v3 v6 v8 v9 v10, h.next ≤ n' → UnderT ty n' → W tree.getF numTail ⟨[.ptr p d 0, .str (c0 :: r0), v2, v3, .int .i64 ((0 : Nat) : Int), .str D10, v6, .int .i64 10, v8, v9, v10], ⟨h.ents, n', ty⟩, []⟩ (endW c20 h.next K) := by
        intro n' ty v2 v3 v6 v8 v9 v10 g1 g2
        exact num_rest p d s (c0 :: r0) a 0 _ 10 D10 _ L ts hts to hs hda hlen (by omega) hF rfl rfl (front_10 _ (by simp at hll ⊢; omega)) (fun hv => p_ok10 _ hne (by omega) hdl hv) (fun hv => p_bad10 _ hne (by omega) hdl hv) _ (S.mv g1 g2) g1 hu1 _ _ _ _ _ _ K (fun v len e h' L' S' g => hk1 v len e h' L' S' (Nat.le_trans g1 g)) (fun e' e h' at' L' ts' S' g => hk2 e' e h' at' L' ts' S' (Nat.le_trans g1 g))
      have no : ∀ q : List UInt8, (q = [48, 120] ∨ q = [48, 88]) → (decide (2 ≤ (c0 :: r0).length) && ((c0 :: r0).take 2 == q)) = false := fun q hq => by
        rcases h2 q with h | h
        · exfalso; apply h48; apply head48
          rcases hq with rfl | rfl
          · exact .inl (t1.1 h)
          · exact .inr (t2.1 h)
        · exact h
      exact head_F p d s r0 c0 a L hL.1 0 to hs hda hlen (no _ (.inl rfl)) (no _ (.inr rfl)) h48 h S.g S.f S.lt K fin
abbrev bv (b : UInt8) : CVal := .int .u8 b.toNat
theorem byteVals_map : ∀ l : List UInt8, byteVals (l.map bv) = some l
  | [] => rfl
  | c :: l => by
    have hc := c.toNat_lt
    have ih := byteVals_map l
    have e : UInt8.ofNat (c.toNat : Int).toNat = c := by simp
    simp only [List.map_cons, byteVals]
    rw [if_pos (by simp; omega), ih]
    simp
theorem St.cons {n0 : Nat} {E0 : List (Nat × CObj)} {p : Nat} {s : List UInt8} {a : Int} {L : CVal} {ts : List CVal} {e to : Int} {h : CHeap} {n' r : Nat} {o : CObj} {ty : List (Nat × Nat)} (S : St n0 E0 p s a L ts e to h) (hr : h.next ≤ r) (hn : r < n') (ht : UnderT ty n') : St n0 E0 p s a L ts e to ⟨(r, o) :: h.ents, n', ty⟩ := by
  have hlt := S.lt
  have hn0 := S.n
  have hrp : (r == p) = false := by simp; omega
  exact {
    g := by simp only [getEnt, hrp, Bool.false_eq_true, if_false]; exact S.g
    l := by
      rcases S.l with h1 | ⟨i, v, h1, h2, h3, h4, h5⟩
      · exact .inl h1
      · have hri : (r == i) = false := by simp; omega
        exact .inr ⟨i, v, h1, by simp only [getEnt, hri, Bool.false_eq_true, if_false]; exact h2, h3, h4, by (try dsimp only); omega⟩
    d := S.d.cons (by omega)
    n := hn0
    lt := by (try dsimp only); omega
    f := ⟨Under.cons hn (S.f.1.le (by (try dsimp only); omega)), ht⟩ }
abbrev textLoop : CCode := (.loop true (.seq (.seq (.region [⟨.mv (.var 2), none⟩, ⟨.mv (.var 0), none⟩, ⟨.nilck (.loc 0), none⟩, ⟨.fieldAddr 0 (.loc 0), none⟩, ⟨.load none (.loc 0), none⟩, ⟨.len true (.loc 0), none⟩, ⟨.bin .lss (.loc 5) (.loc 0), none⟩] [(3, 6)] [] []) (.cond (.var 3) .skip (.exit 0))) (.seq (.block 1 (.seq (.region [⟨.mv (.var 0), none⟩, ⟨.nilck (.loc 0), none⟩, ⟨.fieldAddr 0 (.loc 0), none⟩, ⟨.load none (.loc 0), none⟩, ⟨.mv (.var 2), none⟩, ⟨.idxStr (.loc 1) (.loc 0), none⟩, ⟨.mv (.loc 0), none⟩] [(4, 6)] [] []) (.block 2 (.seq (.region [⟨.mv (.var 4), none⟩, ⟨.mv (.var 5), none⟩, ⟨.bin .eql (.loc 1) (.loc 0), none⟩, ⟨.mv (.loc 0), none⟩] [(6, 3)] [] []) (.cond (.var 6) (.seq (.region [⟨.mv (.var 0), none⟩, ⟨.call false 36 [(.var 7)], none⟩, ⟨.call false 35 [(.loc 0)], none⟩, ⟨.not (.loc 0), none⟩, ⟨.mv (.var 1), none⟩, ⟨.call false 17 [(.loc 4), (.loc 1), (.const (.int .i64 2)), (.loc 0)], none⟩] [] [] []) (.seq (.region [⟨.mv (.var 0), none⟩, ⟨.mv (.var 0), none⟩, ⟨.nilck (.loc 0), none⟩, ⟨.fieldAddr 2 (.loc 0), none⟩, ⟨.load none (.loc 0), none⟩, ⟨.call false 36 [(.var 7)], none⟩, ⟨.mv (.var 1), none⟩, ⟨.build [(.int .i64 0), (.str []), (.int .u64 0), (.int .i64 0)] [(0, 1, (.const (.int .i64 3))), (1, 1, (.loc 1)), (3, 1, (.loc 0))], none⟩, ⟨.lit .imm true [(.int .i64 0), (.str []), (.int .u64 0), (.int .i64 0)] 1 [(0, (.loc 0))], none⟩, ⟨.append .imm 0 4 (.loc 4) (.loc 0), none⟩, ⟨.nilck (.loc 9), none⟩, ⟨.fieldAddr 2 (.loc 0), none⟩, ⟨.store 1 (.loc 0) (.loc 2), none⟩] [] [(4, 0, 1)] []) (.seq (.region [⟨.mv (.var 0), none⟩, ⟨.mv (.var 2), none⟩, ⟨.bin .add (.loc 0) (.const (.int .i64 1)), none⟩, ⟨.nilck (.loc 2), none⟩, ⟨.fieldAddr 1 (.loc 0), none⟩, ⟨.store 1 (.loc 0) (.loc 2), none⟩] [] [] []) .ret))) (.seq (.region [⟨.mv (.var 4), none⟩, ⟨.bin .eql (.loc 0) (.const (.int .u8 10)), none⟩, ⟨.mv (.loc 0), none⟩] [(8, 2)] [] []) (.cond (.var 8) (.seq (.region [⟨.mv (.var 0), none⟩, ⟨.mv (.var 1), none⟩, ⟨.call false 17 [(.loc 1), (.const (.bool true)), (.const (.int .i64 2)), (.loc 0)], none⟩] [] [] []) .ret) (.seq (.region [⟨.mv (.var 4), none⟩, ⟨.bin .eql (.loc 0) (.const (.int .u8 92)), none⟩, ⟨.mv (.loc 0), none⟩] [(9, 2)] [] []) (.cond (.var 9) (.seq (.region [⟨.mv (.var 2), none⟩, ⟨.bin .add (.loc 0) (.const (.int .i64 1)), none⟩, ⟨.mv (.loc 0), none⟩] [(2, 2)] [] []) (.seq (.region [⟨.mv (.const (.int .i64 (-1))), none⟩] [(11, 0)] [] []) (.seq (.seq (.region [⟨.mv (.var 2), none⟩, ⟨.mv (.var 0), none⟩, ⟨.nilck (.loc 0), none⟩, ⟨.fieldAddr 0 (.loc 0), none⟩, ⟨.load none (.loc 0), none⟩, ⟨.len true (.loc 0), none⟩, ⟨.bin .lss (.loc 5) (.loc 0), none⟩] [(10, 6)] [] []) (.cond (.var 10) (.region [⟨.mv (.var 0), none⟩, ⟨.nilck (.loc 0), none⟩, ⟨.fieldAddr 0 (.loc 0), none⟩, ⟨.load none (.loc 0), none⟩, ⟨.mv (.var 2), none⟩, ⟨.idxStr (.loc 1) (.loc 0), none⟩, ⟨.call false 15 [(.const (.str [92, 34, 39, 110])), (.loc 0)], none⟩, ⟨.mv (.loc 0), none⟩] [(11, 7)] [] []) .skip)) (.seq (.seq (.region [⟨.mv (.var 11), none⟩, ⟨.bin .lss (.loc 0) (.const (.int .i64 0)), none⟩] [(12, 1)] [] []) (.cond (.var 12) (.seq (.region [⟨.mv (.var 0), none⟩, ⟨.mv (.var 1), none⟩, ⟨.call false 17 [(.loc 1), (.const (.bool true)), (.const (.int .i64 2)), (.loc 0)], none⟩] [] [] []) .ret) .skip)) (.region [⟨.mv (.var 11), none⟩, ⟨.idxStr (.const (.str [92, 34, 39, 10])) (.loc 0), none⟩, ⟨.call false 37 [(.var 7), (.loc 0)], none⟩] [] [] []))))) (.region [⟨.mv (.var 4), none⟩, ⟨.call false 37 [(.var 7), (.loc 0)], none⟩] [] [] [])))))))))) (.region [⟨.mv (.var 2), none⟩, ⟨.bin .add (.loc 0) (.const (.int .i64 1)), none⟩, ⟨.mv (.loc 0), none⟩] [(2, 2)] [] []))))
abbrev textRest : CCode := (.region [⟨.mv (.var 0), none⟩, ⟨.mv (.var 1), none⟩, ⟨.call false 17 [(.loc 1), (.const (.bool true)), (.const (.int .i64 2)), (.loc 0)], none⟩] [] [] [])
theorem wPN1 {P : Prop} (h : P := by repeat (first | refine sq_ ?_ | refine bl_ ?_ | ((first | refine rg_ ?_ | refine go_ ?_); generalize e : goR _ _ _ _ _ _ _ _ = r; simp (disch := omega) [hX, hg, hY, hql, hEb, hTr, hcut, hbv, hal, hll, hil, c17, c37, c21] at e; replace e : some _ = _ := e; subst e; (try dsimp only [goW])) | refine ct_ rfl ?_ | refine cf_ rfl ?_ | refine sk_ ?_ | refine ex_ ?_ | (refine Wc.mkG 17 c17 (by kernel_rfl) rfl ?_; generalize e : entryC _ _ _ = r; simp (disch := omega) [hX, hg, hY, hql, hEb, hTr, hcut, hbv, hal, hll, hil, c17, c37, c21] at e; subst e) | (refine Wc.mkG 37 c37 (by kernel_rfl) rfl ?_; generalize e : entryC _ _ _ = r; simp (disch := omega) [hX, hg, hY, hql, hEb, hTr, hcut, hbv, hal, hll, hil, c17, c37, c21] at e; subst e) | (refine Wc.primM (f := 36) (p := (pBString 5)) (by kernel_rfl) ?_; generalize e : (pBString 5) _ _ = r; simp (disch := omega) [hX, hg, hY, hql, hEb, hTr, hcut, hbv, hal, hll, hil, c17, c37, c21] at e; subst e; (try dsimp only); refine ⟨rfl, ?_⟩) | (refine Wc.primM (f := 51) (p := (pCopyCheck [(58720258, 0)])) (by kernel_rfl) ?_; generalize e : (pCopyCheck [(58720258, 0)]) _ _ = r; simp (disch := omega) [hX, hg, hY, hql, hEb, hTr, hcut, hbv, hal, hll, hil, c17, c37, c21] at e; subst e; (try dsimp only); refine ⟨rfl, ?_⟩) | ((first | (refine W.ret ?_; (try simp only [outOf, thenW_ret, roundW]); refine endW.of (.inl rfl) rfl ?_) | refine endW.of (.inr rfl) rfl ?_); generalize e : endsC _ _ _ = r; simp (disch := omega) [hX, hg, hY, hql, hEb, hTr, hcut, hbv, hal, hll, hil, c17, c37, c21] at e; subst e; (try dsimp only [goW]); (first | refine ⟨rfl, ?_⟩ | (refine hk2 ?_ _ _ _ _ (S.updc ?_ ?_ ?_) ?_; (focus ((exact herr); done)); (try dsimp only); omega; (try dsimp only); omega; exact ut_; (try dsimp only); omega))))) : P := h

/-- .. and notes no rows. -/
def Pe (f : Nat) (args : List CVal) (v : CVal) : Prop := ∀ (h : CHeap), Fit h → ∀ (K : CVal → CHeap → Prop), (∀ n', h.next ≤ n' → K v ⟨h.ents, n', h.tys⟩) → Wc tree.getF f args h K

theorem indexb_G (s : List UInt8) (c : UInt8) (hl : s.length < 100000) : Pe 15 [.str s, .int .u8 (c.toNat : Int)] (.int .i64 (idxFrom c s 0)) := by
  intro h hf K hk
  obtain ⟨hu, hut, hX⟩ := fx4 hf
  have hcc : ((c.toNat : Int).toNat).toUInt8 = c := by simp

  refine Wc.mkG 15 c15 (by kernel_rfl) rfl ?_
  generalize e : entryC _ _ _ = r
  simp (disch := omega) [hX, hcc, c15] at e
  subst e
  repeat (first | refine sq_ ?_ | refine bl_ ?_ | ((first | refine rg_ ?_ | refine go_ ?_); generalize e : goR _ _ _ _ _ _ _ _ = r; simp (disch := omega) [hX, hcc, c31, c15] at e; replace e : some _ = _ := e; subst e; (try dsimp only [goW])) | refine ct_ rfl ?_ | refine cf_ rfl ?_ | refine sk_ ?_ | refine ex_ ?_ | (refine W.loop ?_; try (generalize e : dropped _ _ _ = r; simp (disch := omega) [hX, hcc, c31, c15] at e; subst e; try dsimp only)) | (refine Wc.mkG 31 c31 (by kernel_rfl) rfl ?_; generalize e : entryC _ _ _ = r; simp (disch := omega) [hX, hcc, c31, c15] at e; subst e) | (refine Wc.primM (f := 44) (p := pIndexByte) (by kernel_rfl) ?_; generalize e : pIndexByte _ _ = r; simp (disch := omega) [hX, hcc, c31, c15] at e; subst e; (try dsimp only); refine ⟨rfl, ?_⟩) | ((first | (refine W.ret ?_; (try simp only [outOf, thenW_ret, roundW]); refine endW.of (.inl rfl) rfl ?_) | refine endW.of (.inr rfl) rfl ?_); generalize e : endsC _ _ _ = r; simp (disch := omega) [hX, hcc, c31, c15] at e; subst e; (try dsimp only [goW]); (first | refine ⟨rfl, ?_⟩ | (refine hk _ ?_; omega))))

theorem setEnt_cons_ne {r p : Nat} {o x : CObj} {l : List (Nat × CObj)} (h : r ≠ p) : setEnt ((r, o) :: l) p x = (r, o) :: setEnt l p x := by simp [setEnt, h]
theorem St.app0c {n0 : Nat} {E0 : List (Nat × CObj)} {p : Nat} {s : List UInt8} {a a' : Int} {e to e' to' : Int} {h : CHeap} {n' i r : Nat} {o : CObj} {ty : List (Nat × Nat)} {x : CVal} {ts : List CVal} (S : St n0 E0 p s a .nils ts e to h) (hr : h.next ≤ r) (hi : r < i) (hn : i < n') (ht : UnderT ty n') :
    St n0 E0 p s a' (.imm (.own i 0) 4 [x]) [x] e' to' ⟨(i, .tok 0) :: (r, o) :: setEnt h.ents p (rdr s a' (.imm (.own i 0) 4 [x]) e' to'), n', ty⟩ := by
  have hlt := S.lt
  have h1 := (S.cons (o := o) hr hi (UnderT.le S.f.2 (by omega))).app0 (a' := a') (e' := e') (to' := to') (x := x) (i := i) (n' := n') (ty := ty) (Nat.le_refl _) hn ht
  rw [setEnt_cons_ne (by omega)] at h1
  exact h1
theorem St.app1c {n0 : Nat} {E0 : List (Nat × CObj)} {p : Nat} {s : List UInt8} {a a' : Int} {e to e' to' : Int} {h : CHeap} {n' i v r : Nat} {o : CObj} {ty : List (Nat × Nat)} {x : CVal} {ts : List CVal} {L : CVal} (S : St n0 E0 p s a L ts e to h) (ht : getEnt h.ents i = some (.tok v)) (hip : i ≠ p) (hi0 : n0 ≤ i) (hin : i < h.next) (hr : h.next ≤ r) (hn : r < n') (hty : UnderT ty n') :
    St n0 E0 p s a' (.imm (.own i (v + 1)) 4 (ts ++ [x])) (ts ++ [x]) e' to' ⟨(r, o) :: setEnt (setEnt h.ents i (.tok (v + 1))) p (rdr s a' (.imm (.own i (v + 1)) 4 (ts ++ [x])) e' to'), n', ty⟩ :=
  (S.app1 ht hip hi0 hin (Nat.le_refl _) S.f.2).cons hr hn hty
theorem St.updc {n0 : Nat} {E0 : List (Nat × CObj)} {p : Nat} {s : List UInt8} {a a' : Int} {L : CVal} {ts : List CVal} {e to e' to' : Int} {h : CHeap} {n' r : Nat} {o : CObj} {ty : List (Nat × Nat)} (S : St n0 E0 p s a L ts e to h) (hr : h.next ≤ r) (hn : r < n') (ht : UnderT ty n') :
    St n0 E0 p s a' L ts e' to' ⟨(r, o) :: setEnt h.ents p (rdr s a' L e' to'), n', ty⟩ := (S.upd (Nat.le_refl _) S.f.2).cons hr hn ht
theorem esc_no (x : UInt8) (h : meantF x = none) : idxFrom x [92, 34, 39, 110] 0 = -1 := by
  unfold meantF at h
  have h1 : ¬ x = 92 := fun e => by simp [e] at h
  have h2 : ¬ x = 34 := fun e => by simp [e] at h
  have h3 : ¬ x = 39 := fun e => by simp [e] at h
  have h4 : ¬ x = 110 := fun e => by simp [e] at h
  have g1 : (92 == x) = false := by simp; exact fun e => h1 e.symm
  have g2 : (34 == x) = false := by simp; exact fun e => h2 e.symm
  have g3 : (39 == x) = false := by simp; exact fun e => h3 e.symm
  have g4 : (110 == x) = false := by simp; exact fun e => h4 e.symm
  simp [idxFrom, g1, g2, g3, g4]

set_option maxHeartbeats 4000000 in
theorem text_loop1 (valid : Bytes → Bool) (hV : ∀ t : Bytes, t.length ≤ 60000 → Pe 35 [.str t] (.bool (valid t))) {n0 : Nat} {E0 : List (Nat × CObj)} (p d : Nat) (s : List UInt8) (q : UInt8) (a : Nat) (L : CVal) (ts : List CVal) (hts : ts.length ≤ 100000) (to : Int) (hs : s.length < 50000) (h : CHeap) (S : St n0 E0 p s (a : Int) L ts 0 to h) (K : CVal → CHeap → Prop) (bq : Nat) (r : Nat) (hb : h.next ≤ bq) (hbr : bq < r) : ∀ (m : Nat) (t acc : List UInt8) (i k v : Nat) (n : Nat) (ty : List (Nat × Nat)) (v3 v4 v6 v8 v9 v10 v11 v12 : CVal), t.length ≤ m → s.drop i = t → i + t.length = s.length → acc ≠ [] → acc.length ≤ i → r < n → UnderT ty n → lookupN ty r = some 5 → i = a + (k + 1) →
    (∀ txt kk, textF q t acc k = some (txt, kk) → valid txt = true → ∀ h' L', St n0 E0 p s ((a + (kk + 1) : Nat) : Int) L' (ts ++ [tokC 3 txt 0 a]) 0 to h' → h.next ≤ h'.next → K (.tup []) h')
    → ((textF q t acc k = none ∨ ∃ txt kk, textF q t acc k = some (txt, kk) ∧ valid txt = false) → ∀ h' at' L' ts', St n0 E0 p s at' L' ts' 2 (a : Int) h' → h.next ≤ h'.next → K (.tup []) h') →
    W tree.getF textLoop ⟨[.ptr p d 0, .int .i64 (a : Int), .int .i64 (i : Int), v3, v4, .int .u8 (q.toNat : Int), v6, .ptr bq 58720258 0, v8, v9, v10, v11, v12], ⟨((r, .row v (acc.map bv)) :: (bq, .cells [.ptr bq 58720258 0, .ref r v 1 0 acc.length]) :: h.ents), n, ty⟩, []⟩ (fun x st' => thenW tree.getF textRest (endW c21 h.next K) (outOf 0 x) st') := by
  intro m
  induction m with
  | zero =>
    intro t acc i k v n ty v3 v4 v6 v8 v9 v10 v11 v12 hm hd hlen hne hal hrn hut2 hty hia hk1 hk2
    have hg := S.g
    have hf := S.f
    have hp := S.lt
    have hql := q.toNat_lt
    have hll : s.length < 4611686018427387904 := by omega
    have hil : i + t.length = s.length := hlen
    have hEb : ∀ x, getEnt (setEnt h.ents p x) bq = none := fun x => getEnt_under hf.1.set hb
    obtain ⟨hu, hut, hX⟩ := fx4 hf
    have hY := fx5 hf hg
    have hTr : lookupN ty r = some 5 := hty
    have hcut : (acc.map bv).take acc.length = acc.map bv := List.take_of_length_le (by simp)
    have hbv := byteVals_map acc
    have hap : 0 < acc.length := by cases acc with | nil => exact absurd rfl hne | cons => simp
    obtain rfl : t = [] := List.length_eq_zero_iff.1 (by omega)
    simp only [List.length_nil, Nat.add_zero] at hil
    have herr : textF q [] acc k = none ∨ ∃ txt kk, textF q [] acc k = some (txt, kk) ∧ valid txt = false := .inl rfl
    refine W.loop ?_
    exact wPN1
  | succ m ih =>
    intro t acc i k v n ty v3 v4 v6 v8 v9 v10 v11 v12 hm hd hlen hne hal hrn hut2 hty hia hk1 hk2
    have hg := S.g
    have hf := S.f
    have hp := S.lt
    have hql := q.toNat_lt
    have hll : s.length < 4611686018427387904 := by omega
    have hil : i + t.length = s.length := hlen
    have hEb : ∀ x, getEnt (setEnt h.ents p x) bq = none := fun x => getEnt_under hf.1.set hb
    obtain ⟨hu, hut, hX⟩ := fx4 hf
    have hY := fx5 hf hg
    have hTr : lookupN ty r = some 5 := hty
    have hcut : (acc.map bv).take acc.length = acc.map bv := List.take_of_length_le (by simp)
    have hbv := byteVals_map acc
    have hap : 0 < acc.length := by cases acc with | nil => exact absurd rfl hne | cons => simp
    cases t with
    | nil =>
      simp only [List.length_nil, Nat.add_zero] at hil
      have herr : textF q [] acc k = none ∨ ∃ txt kk, textF q [] acc k = some (txt, kk) ∧ valid txt = false := .inl rfl
      refine W.loop ?_
      exact wPN1
    | cons c t1 =>
      obtain ⟨hlt, hget, hd1⟩ := get_of_dropG hd
      have hge : s[i] = c := by rw [List.getElem?_eq_getElem hlt] at hget; exact Option.some.inj hget
      have hacc1 : (acc ++ [c]).map bv = acc.map bv ++ [bv c] := by simp
      simp only [List.length_cons] at hlen hm
      have hcl := c.toNat_lt
      by_cases hq : c = q
      · subst hq
        have htx : textF c (c :: t1) acc k = some (acc, k + 1) := by unfold textF; rw [if_pos rfl]
        have hps : ((a + (k + 1 + 1) : Nat) : Int) = (i : Int) + 1 := by omega
        cases hvt : valid acc with
        | true =>
          replace hk1 := hk1 _ _ htx hvt
          rw [hps] at hk1
          rcases S.l with ⟨rfl, rfl⟩ | ⟨i2, v2', rfl, ht, hip, hi0, hin⟩
          ·
            refine W.loop ?_
            repeat (first | refine sq_ ?_ | refine bl_ ?_ | ((first | refine rg_ ?_ | refine go_ ?_); generalize e : goR _ _ _ _ _ _ _ _ = r; simp (disch := omega) [hX, hg, hY, hql, hEb, hTr, hcut, hbv, hal, hll, hge, hget, hvt, c17, c37, c21] at e; replace e : some _ = _ := e; subst e; (try dsimp only [goW])) | refine ct_ rfl ?_ | refine cf_ rfl ?_ | refine sk_ ?_ | refine ex_ ?_ | (refine hV (acc) (by (try simp) <;> omega) _ ?_ _ fun n7 hn7 => ⟨rfl, ?_⟩; exact fit_; (try dsimp only at hn7)) | (refine Wc.mkG 17 c17 (by kernel_rfl) rfl ?_; generalize e : entryC _ _ _ = r; simp (disch := omega) [hX, hg, hY, hql, hEb, hTr, hcut, hbv, hal, hll, hge, hget, hvt, c17, c37, c21] at e; subst e) | (refine Wc.mkG 37 c37 (by kernel_rfl) rfl ?_; generalize e : entryC _ _ _ = r; simp (disch := omega) [hX, hg, hY, hql, hEb, hTr, hcut, hbv, hal, hll, hge, hget, hvt, c17, c37, c21] at e; subst e) | (refine Wc.primM (f := 36) (p := (pBString 5)) (by kernel_rfl) ?_; generalize e : (pBString 5) _ _ = r; simp (disch := omega) [hX, hg, hY, hql, hEb, hTr, hcut, hbv, hal, hll, hge, hget, hvt, c17, c37, c21] at e; subst e; (try dsimp only); refine ⟨rfl, ?_⟩) | (refine Wc.primM (f := 51) (p := (pCopyCheck [(58720258, 0)])) (by kernel_rfl) ?_; generalize e : (pCopyCheck [(58720258, 0)]) _ _ = r; simp (disch := omega) [hX, hg, hY, hql, hEb, hTr, hcut, hbv, hal, hll, hge, hget, hvt, c17, c37, c21] at e; subst e; (try dsimp only); refine ⟨rfl, ?_⟩) | ((first | (refine W.ret ?_; (try simp only [outOf, thenW_ret, roundW]); refine endW.of (.inl rfl) rfl ?_) | refine endW.of (.inr rfl) rfl ?_); generalize e : endsC _ _ _ = r; simp (disch := omega) [hX, hg, hY, hql, hEb, hTr, hcut, hbv, hal, hll, hge, hget, hvt, c17, c37, c21] at e; subst e; (try dsimp only [goW]); (first | refine ⟨rfl, ?_⟩ | (refine hk1 _ _ (S.app0c ?_ ?_ ?_ ?_) ?_; (try dsimp only); omega; (try dsimp only); omega; (try dsimp only); omega; exact ut_; (try dsimp only); omega))))
          ·
            have htP : ∀ x, getEnt (setEnt h.ents p x) i2 = some (.tok v2') := fun x => (getEnt_setEnt_ne hip).trans ht
            have hPt : ∀ x y, getEnt (setEnt (setEnt h.ents i2 x) p y) p = some y := fun x y => sy_getEnt_setEnt ((getEnt_setEnt_ne (Ne.symm hip)).trans hg)
            have hTT : ∀ x y, getEnt (setEnt (setEnt h.ents i2 x) p y) i2 = some x := fun x y => (getEnt_setEnt_ne hip).trans (sy_getEnt_setEnt ht)
            have hiP : ∀ x, getEnt (setEnt h.ents i2 x) p = _ := fun x => (getEnt_setEnt_ne (Ne.symm hip)).trans hg
            have hcomm : ∀ x y, setEnt (setEnt h.ents p y) i2 x = setEnt (setEnt h.ents i2 x) p y := fun x y => setEnt_comm (Ne.symm hip)
            have hC3 : ∀ x y m, h.next ≤ m → dropCells (setEnt (setEnt h.ents i2 x) p y) m = setEnt (setEnt h.ents i2 x) p y := fun x y m hm => dropCells_under (hu.set.set.le hm)
            have hD3 : ∀ x y m, h.next ≤ m → dropEnts (setEnt (setEnt h.ents i2 x) p y) m = setEnt (setEnt h.ents i2 x) p y := fun x y m hm => dropEnts_under (hu.set.set.le hm)
            refine W.loop ?_
            repeat (first | refine sq_ ?_ | refine bl_ ?_ | ((first | refine rg_ ?_ | refine go_ ?_); generalize e : goR _ _ _ _ _ _ _ _ = r; simp (disch := omega) [hX, hg, hY, hql, hEb, hTr, hcut, hbv, hal, hll, ht, htP, hPt, hTT, hiP, hcomm, hC3, hD3, hts, beqs_refl, hge, hget, hvt, c17, c37, c21] at e; replace e : some _ = _ := e; subst e; (try dsimp only [goW])) | refine ct_ rfl ?_ | refine cf_ rfl ?_ | refine sk_ ?_ | refine ex_ ?_ | (refine hV (acc) (by (try simp) <;> omega) _ ?_ _ fun n7 hn7 => ⟨rfl, ?_⟩; exact fit_; (try dsimp only at hn7)) | (refine Wc.mkG 17 c17 (by kernel_rfl) rfl ?_; generalize e : entryC _ _ _ = r; simp (disch := omega) [hX, hg, hY, hql, hEb, hTr, hcut, hbv, hal, hll, ht, htP, hPt, hTT, hiP, hcomm, hC3, hD3, hts, beqs_refl, hge, hget, hvt, c17, c37, c21] at e; subst e) | (refine Wc.mkG 37 c37 (by kernel_rfl) rfl ?_; generalize e : entryC _ _ _ = r; simp (disch := omega) [hX, hg, hY, hql, hEb, hTr, hcut, hbv, hal, hll, ht, htP, hPt, hTT, hiP, hcomm, hC3, hD3, hts, beqs_refl, hge, hget, hvt, c17, c37, c21] at e; subst e) | (refine Wc.primM (f := 36) (p := (pBString 5)) (by kernel_rfl) ?_; generalize e : (pBString 5) _ _ = r; simp (disch := omega) [hX, hg, hY, hql, hEb, hTr, hcut, hbv, hal, hll, ht, htP, hPt, hTT, hiP, hcomm, hC3, hD3, hts, beqs_refl, hge, hget, hvt, c17, c37, c21] at e; subst e; (try dsimp only); refine ⟨rfl, ?_⟩) | (refine Wc.primM (f := 51) (p := (pCopyCheck [(58720258, 0)])) (by kernel_rfl) ?_; generalize e : (pCopyCheck [(58720258, 0)]) _ _ = r; simp (disch := omega) [hX, hg, hY, hql, hEb, hTr, hcut, hbv, hal, hll, ht, htP, hPt, hTT, hiP, hcomm, hC3, hD3, hts, beqs_refl, hge, hget, hvt, c17, c37, c21] at e; subst e; (try dsimp only); refine ⟨rfl, ?_⟩) | ((first | (refine W.ret ?_; (try simp only [outOf, thenW_ret, roundW]); refine endW.of (.inl rfl) rfl ?_) | refine endW.of (.inr rfl) rfl ?_); generalize e : endsC _ _ _ = r; simp (disch := omega) [hX, hg, hY, hql, hEb, hTr, hcut, hbv, hal, hll, ht, htP, hPt, hTT, hiP, hcomm, hC3, hD3, hts, beqs_refl, hge, hget, hvt, c17, c37, c21] at e; subst e; (try dsimp only [goW]); (first | refine ⟨rfl, ?_⟩ | (refine hk1 _ _ (S.app1c ht hip hi0 hin ?_ ?_ ?_) ?_; (try dsimp only); omega; (try dsimp only); omega; exact ut_; (try dsimp only); omega))))
        | false =>
          have herr : textF c (c :: t1) acc k = none ∨ ∃ txt kk, textF c (c :: t1) acc k = some (txt, kk) ∧ valid txt = false := .inr ⟨_, _, htx, hvt⟩
          rcases S.l with ⟨rfl, rfl⟩ | ⟨i2, v2', rfl, ht, hip, hi0, hin⟩
          ·
            refine W.loop ?_
            repeat (first | refine sq_ ?_ | refine bl_ ?_ | ((first | refine rg_ ?_ | refine go_ ?_); generalize e : goR _ _ _ _ _ _ _ _ = r; simp (disch := omega) [hX, hg, hY, hql, hEb, hTr, hcut, hbv, hal, hll, hge, hget, hvt, c17, c37, c21] at e; replace e : some _ = _ := e; subst e; (try dsimp only [goW])) | refine ct_ rfl ?_ | refine cf_ rfl ?_ | refine sk_ ?_ | refine ex_ ?_ | (refine hV (acc) (by (try simp) <;> omega) _ ?_ _ fun n7 hn7 => ⟨rfl, ?_⟩; exact fit_; (try dsimp only at hn7)) | (refine Wc.mkG 17 c17 (by kernel_rfl) rfl ?_; generalize e : entryC _ _ _ = r; simp (disch := omega) [hX, hg, hY, hql, hEb, hTr, hcut, hbv, hal, hll, hge, hget, hvt, c17, c37, c21] at e; subst e) | (refine Wc.mkG 37 c37 (by kernel_rfl) rfl ?_; generalize e : entryC _ _ _ = r; simp (disch := omega) [hX, hg, hY, hql, hEb, hTr, hcut, hbv, hal, hll, hge, hget, hvt, c17, c37, c21] at e; subst e) | (refine Wc.primM (f := 36) (p := (pBString 5)) (by kernel_rfl) ?_; generalize e : (pBString 5) _ _ = r; simp (disch := omega) [hX, hg, hY, hql, hEb, hTr, hcut, hbv, hal, hll, hge, hget, hvt, c17, c37, c21] at e; subst e; (try dsimp only); refine ⟨rfl, ?_⟩) | (refine Wc.primM (f := 51) (p := (pCopyCheck [(58720258, 0)])) (by kernel_rfl) ?_; generalize e : (pCopyCheck [(58720258, 0)]) _ _ = r; simp (disch := omega) [hX, hg, hY, hql, hEb, hTr, hcut, hbv, hal, hll, hge, hget, hvt, c17, c37, c21] at e; subst e; (try dsimp only); refine ⟨rfl, ?_⟩) | ((first | (refine W.ret ?_; (try simp only [outOf, thenW_ret, roundW]); refine endW.of (.inl rfl) rfl ?_) | refine endW.of (.inr rfl) rfl ?_); generalize e : endsC _ _ _ = r; simp (disch := omega) [hX, hg, hY, hql, hEb, hTr, hcut, hbv, hal, hll, hge, hget, hvt, c17, c37, c21] at e; subst e; (try dsimp only [goW]); (first | refine ⟨rfl, ?_⟩ | (refine hk2 herr _ _ _ _ (S.app0c ?_ ?_ ?_ ?_) ?_; (try dsimp only); omega; (try dsimp only); omega; (try dsimp only); omega; exact ut_; (try dsimp only); omega))))
          ·
            have htP : ∀ x, getEnt (setEnt h.ents p x) i2 = some (.tok v2') := fun x => (getEnt_setEnt_ne hip).trans ht
            have hPt : ∀ x y, getEnt (setEnt (setEnt h.ents i2 x) p y) p = some y := fun x y => sy_getEnt_setEnt ((getEnt_setEnt_ne (Ne.symm hip)).trans hg)
            have hTT : ∀ x y, getEnt (setEnt (setEnt h.ents i2 x) p y) i2 = some x := fun x y => (getEnt_setEnt_ne hip).trans (sy_getEnt_setEnt ht)
            have hiP : ∀ x, getEnt (setEnt h.ents i2 x) p = _ := fun x => (getEnt_setEnt_ne (Ne.symm hip)).trans hg
            have hcomm : ∀ x y, setEnt (setEnt h.ents p y) i2 x = setEnt (setEnt h.ents i2 x) p y := fun x y => setEnt_comm (Ne.symm hip)
            have hC3 : ∀ x y m, h.next ≤ m → dropCells (setEnt (setEnt h.ents i2 x) p y) m = setEnt (setEnt h.ents i2 x) p y := fun x y m hm => dropCells_under (hu.set.set.le hm)
            have hD3 : ∀ x y m, h.next ≤ m → dropEnts (setEnt (setEnt h.ents i2 x) p y) m = setEnt (setEnt h.ents i2 x) p y := fun x y m hm => dropEnts_under (hu.set.set.le hm)
            refine W.loop ?_
            repeat (first | refine sq_ ?_ | refine bl_ ?_ | ((first | refine rg_ ?_ | refine go_ ?_); generalize e : goR _ _ _ _ _ _ _ _ = r; simp (disch := omega) [hX, hg, hY, hql, hEb, hTr, hcut, hbv, hal, hll, ht, htP, hPt, hTT, hiP, hcomm, hC3, hD3, hts, beqs_refl, hge, hget, hvt, c17, c37, c21] at e; replace e : some _ = _ := e; subst e; (try dsimp only [goW])) | refine ct_ rfl ?_ | refine cf_ rfl ?_ | refine sk_ ?_ | refine ex_ ?_ | (refine hV (acc) (by (try simp) <;> omega) _ ?_ _ fun n7 hn7 => ⟨rfl, ?_⟩; exact fit_; (try dsimp only at hn7)) | (refine Wc.mkG 17 c17 (by kernel_rfl) rfl ?_; generalize e : entryC _ _ _ = r; simp (disch := omega) [hX, hg, hY, hql, hEb, hTr, hcut, hbv, hal, hll, ht, htP, hPt, hTT, hiP, hcomm, hC3, hD3, hts, beqs_refl, hge, hget, hvt, c17, c37, c21] at e; subst e) | (refine Wc.mkG 37 c37 (by kernel_rfl) rfl ?_; generalize e : entryC _ _ _ = r; simp (disch := omega) [hX, hg, hY, hql, hEb, hTr, hcut, hbv, hal, hll, ht, htP, hPt, hTT, hiP, hcomm, hC3, hD3, hts, beqs_refl, hge, hget, hvt, c17, c37, c21] at e; subst e) | (refine Wc.primM (f := 36) (p := (pBString 5)) (by kernel_rfl) ?_; generalize e : (pBString 5) _ _ = r; simp (disch := omega) [hX, hg, hY, hql, hEb, hTr, hcut, hbv, hal, hll, ht, htP, hPt, hTT, hiP, hcomm, hC3, hD3, hts, beqs_refl, hge, hget, hvt, c17, c37, c21] at e; subst e; (try dsimp only); refine ⟨rfl, ?_⟩) | (refine Wc.primM (f := 51) (p := (pCopyCheck [(58720258, 0)])) (by kernel_rfl) ?_; generalize e : (pCopyCheck [(58720258, 0)]) _ _ = r; simp (disch := omega) [hX, hg, hY, hql, hEb, hTr, hcut, hbv, hal, hll, ht, htP, hPt, hTT, hiP, hcomm, hC3, hD3, hts, beqs_refl, hge, hget, hvt, c17, c37, c21] at e; subst e; (try dsimp only); refine ⟨rfl, ?_⟩) | ((first | (refine W.ret ?_; (try simp only [outOf, thenW_ret, roundW]); refine endW.of (.inl rfl) rfl ?_) | refine endW.of (.inr rfl) rfl ?_); generalize e : endsC _ _ _ = r; simp (disch := omega) [hX, hg, hY, hql, hEb, hTr, hcut, hbv, hal, hll, ht, htP, hPt, hTT, hiP, hcomm, hC3, hD3, hts, beqs_refl, hge, hget, hvt, c17, c37, c21] at e; subst e; (try dsimp only [goW]); (first | refine ⟨rfl, ?_⟩ | (refine hk2 herr _ _ _ _ (S.app1c ht hip hi0 hin ?_ ?_ ?_) ?_; (try dsimp only); omega; (try dsimp only); omega; exact ut_; (try dsimp only); omega))))
      · have hqn : ¬ ((c.toNat : Int) = (q.toNat : Int)) := fun e => hq (UInt8.toNat_inj.1 (by omega))
        by_cases h10 : c = 10
        · have hc10 : (c.toNat : Int) = 10 := by rw [h10]; rfl
          have hqn2 : ¬ ((10 : Int) = (q.toNat : Int)) := by omega
          have herr : textF q (c :: t1) acc k = none ∨ ∃ txt kk, textF q (c :: t1) acc k = some (txt, kk) ∧ valid txt = false := .inl (by unfold textF; rw [if_neg hq, if_pos h10])
          refine W.loop ?_
          repeat (first | refine sq_ ?_ | refine bl_ ?_ | ((first | refine rg_ ?_ | refine go_ ?_); generalize e : goR _ _ _ _ _ _ _ _ = r; simp (disch := omega) [hX, hg, hY, hql, hEb, hTr, hcut, hbv, hal, hll, hge, hget, hc10, hqn, hqn2, c17, c37, c21] at e; replace e : some _ = _ := e; subst e; (try dsimp only [goW])) | refine ct_ rfl ?_ | refine cf_ rfl ?_ | refine sk_ ?_ | refine ex_ ?_ | (refine Wc.mkG 17 c17 (by kernel_rfl) rfl ?_; generalize e : entryC _ _ _ = r; simp (disch := omega) [hX, hg, hY, hql, hEb, hTr, hcut, hbv, hal, hll, hge, hget, hc10, hqn, hqn2, c17, c37, c21] at e; subst e) | (refine Wc.mkG 37 c37 (by kernel_rfl) rfl ?_; generalize e : entryC _ _ _ = r; simp (disch := omega) [hX, hg, hY, hql, hEb, hTr, hcut, hbv, hal, hll, hge, hget, hc10, hqn, hqn2, c17, c37, c21] at e; subst e) | (refine Wc.primM (f := 36) (p := (pBString 5)) (by kernel_rfl) ?_; generalize e : (pBString 5) _ _ = r; simp (disch := omega) [hX, hg, hY, hql, hEb, hTr, hcut, hbv, hal, hll, hge, hget, hc10, hqn, hqn2, c17, c37, c21] at e; subst e; (try dsimp only); refine ⟨rfl, ?_⟩) | (refine Wc.primM (f := 51) (p := (pCopyCheck [(58720258, 0)])) (by kernel_rfl) ?_; generalize e : (pCopyCheck [(58720258, 0)]) _ _ = r; simp (disch := omega) [hX, hg, hY, hql, hEb, hTr, hcut, hbv, hal, hll, hge, hget, hc10, hqn, hqn2, c17, c37, c21] at e; subst e; (try dsimp only); refine ⟨rfl, ?_⟩) | ((first | (refine W.ret ?_; (try simp only [outOf, thenW_ret, roundW]); refine endW.of (.inl rfl) rfl ?_) | refine endW.of (.inr rfl) rfl ?_); generalize e : endsC _ _ _ = r; simp (disch := omega) [hX, hg, hY, hql, hEb, hTr, hcut, hbv, hal, hll, hge, hget, hc10, hqn, hqn2, c17, c37, c21] at e; subst e; (try dsimp only [goW]); (first | refine ⟨rfl, ?_⟩ | (refine hk2 ?_ _ _ _ _ (S.updc ?_ ?_ ?_) ?_; (focus ((exact herr); done)); (try dsimp only); omega; (try dsimp only); omega; exact ut_; (try dsimp only); omega))))
        · have hn10 : ¬ ((c.toNat : Int) = 10) := fun e => h10 (UInt8.toNat_inj.1 (by
              have h9 : c.toNat = 10 := by omega
              rw [h9]; rfl))
          by_cases h92 : c = 92
          · have hc92 : (c.toNat : Int) = 92 := by rw [h92]; rfl
            have hqn2 : ¬ ((92 : Int) = (q.toNat : Int)) := by omega
            cases t1 with
            | nil =>
              have herr : textF q [c] acc k = none ∨ ∃ txt kk, textF q [c] acc k = some (txt, kk) ∧ valid txt = false := .inl (by unfold textF; rw [if_neg hq, if_neg h10, if_pos h92])
              have hil2 : s.length = i + 1 := by simpa using hlen.symm
              refine W.loop ?_
              repeat (first | refine sq_ ?_ | refine bl_ ?_ | ((first | refine rg_ ?_ | refine go_ ?_); generalize e : goR _ _ _ _ _ _ _ _ = r; simp (disch := omega) [hX, hg, hY, hql, hEb, hTr, hcut, hbv, hal, hll, hge, hget, hc92, hqn, hqn2, hil2, c17, c37, c21] at e; replace e : some _ = _ := e; subst e; (try dsimp only [goW])) | refine ct_ rfl ?_ | refine cf_ rfl ?_ | refine sk_ ?_ | refine ex_ ?_ | (refine Wc.mkG 17 c17 (by kernel_rfl) rfl ?_; generalize e : entryC _ _ _ = r; simp (disch := omega) [hX, hg, hY, hql, hEb, hTr, hcut, hbv, hal, hll, hge, hget, hc92, hqn, hqn2, hil2, c17, c37, c21] at e; subst e) | (refine Wc.mkG 37 c37 (by kernel_rfl) rfl ?_; generalize e : entryC _ _ _ = r; simp (disch := omega) [hX, hg, hY, hql, hEb, hTr, hcut, hbv, hal, hll, hge, hget, hc92, hqn, hqn2, hil2, c17, c37, c21] at e; subst e) | (refine Wc.primM (f := 36) (p := (pBString 5)) (by kernel_rfl) ?_; generalize e : (pBString 5) _ _ = r; simp (disch := omega) [hX, hg, hY, hql, hEb, hTr, hcut, hbv, hal, hll, hge, hget, hc92, hqn, hqn2, hil2, c17, c37, c21] at e; subst e; (try dsimp only); refine ⟨rfl, ?_⟩) | (refine Wc.primM (f := 51) (p := (pCopyCheck [(58720258, 0)])) (by kernel_rfl) ?_; generalize e : (pCopyCheck [(58720258, 0)]) _ _ = r; simp (disch := omega) [hX, hg, hY, hql, hEb, hTr, hcut, hbv, hal, hll, hge, hget, hc92, hqn, hqn2, hil2, c17, c37, c21] at e; subst e; (try dsimp only); refine ⟨rfl, ?_⟩) | ((first | (refine W.ret ?_; (try simp only [outOf, thenW_ret, roundW]); refine endW.of (.inl rfl) rfl ?_) | refine endW.of (.inr rfl) rfl ?_); generalize e : endsC _ _ _ = r; simp (disch := omega) [hX, hg, hY, hql, hEb, hTr, hcut, hbv, hal, hll, hge, hget, hc92, hqn, hqn2, hil2, c17, c37, c21] at e; subst e; (try dsimp only [goW]); (first | refine ⟨rfl, ?_⟩ | (refine hk2 ?_ _ _ _ _ (S.updc ?_ ?_ ?_) ?_; (focus ((exact herr); done)); (try dsimp only); omega; (try dsimp only); omega; exact ut_; (try dsimp only); omega))))
            | cons x u =>
              obtain ⟨hlt2, hget2, hd2⟩ := get_of_dropG hd1
              have hge2 : s[i + 1] = x := by rw [List.getElem?_eq_getElem hlt2] at hget2; exact Option.some.inj hget2
              simp only [List.length_cons] at hlen hm
              have I0 := indexb_G [92, 34, 39, 110] x (by decide)
              have hto1 : ((i : Int) + 1).toNat = i + 1 := by omega
              cases hme : meantF x with
              | none =>
                rw [esc_no x hme] at I0
                have herr : textF q (c :: x :: u) acc k = none ∨ ∃ txt kk, textF q (c :: x :: u) acc k = some (txt, kk) ∧ valid txt = false := .inl (by unfold textF; rw [if_neg hq, if_neg h10, if_pos h92]; dsimp only; rw [hme])
                refine W.loop ?_
                repeat (first | refine sq_ ?_ | refine bl_ ?_ | ((first | refine rg_ ?_ | refine go_ ?_); generalize e : goR _ _ _ _ _ _ _ _ = r; simp (disch := omega) [hX, hg, hY, hql, hEb, hTr, hcut, hbv, hal, hll, hge, hge2, hget, hget2, hto1, hc92, hqn, hqn2, c17, c37, c21] at e; replace e : some _ = _ := e; subst e; (try dsimp only [goW])) | refine ct_ rfl ?_ | refine cf_ rfl ?_ | refine sk_ ?_ | refine ex_ ?_ | (refine I0 _ ?_ _ fun n5 hn5 => ⟨rfl, ?_⟩; exact fit_; (try dsimp only at hn5)) | (refine Wc.mkG 17 c17 (by kernel_rfl) rfl ?_; generalize e : entryC _ _ _ = r; simp (disch := omega) [hX, hg, hY, hql, hEb, hTr, hcut, hbv, hal, hll, hge, hge2, hget, hget2, hto1, hc92, hqn, hqn2, c17, c37, c21] at e; subst e) | (refine Wc.mkG 37 c37 (by kernel_rfl) rfl ?_; generalize e : entryC _ _ _ = r; simp (disch := omega) [hX, hg, hY, hql, hEb, hTr, hcut, hbv, hal, hll, hge, hge2, hget, hget2, hto1, hc92, hqn, hqn2, c17, c37, c21] at e; subst e) | (refine Wc.primM (f := 36) (p := (pBString 5)) (by kernel_rfl) ?_; generalize e : (pBString 5) _ _ = r; simp (disch := omega) [hX, hg, hY, hql, hEb, hTr, hcut, hbv, hal, hll, hge, hge2, hget, hget2, hto1, hc92, hqn, hqn2, c17, c37, c21] at e; subst e; (try dsimp only); refine ⟨rfl, ?_⟩) | (refine Wc.primM (f := 51) (p := (pCopyCheck [(58720258, 0)])) (by kernel_rfl) ?_; generalize e : (pCopyCheck [(58720258, 0)]) _ _ = r; simp (disch := omega) [hX, hg, hY, hql, hEb, hTr, hcut, hbv, hal, hll, hge, hge2, hget, hget2, hto1, hc92, hqn, hqn2, c17, c37, c21] at e; subst e; (try dsimp only); refine ⟨rfl, ?_⟩) | ((first | (refine W.ret ?_; (try simp only [outOf, thenW_ret, roundW]); refine endW.of (.inl rfl) rfl ?_) | refine endW.of (.inr rfl) rfl ?_); generalize e : endsC _ _ _ = r; simp (disch := omega) [hX, hg, hY, hql, hEb, hTr, hcut, hbv, hal, hll, hge, hge2, hget, hget2, hto1, hc92, hqn, hqn2, c17, c37, c21] at e; subst e; (try dsimp only [goW]); (first | refine ⟨rfl, ?_⟩ | (refine hk2 ?_ _ _ _ _ (S.updc ?_ ?_ ?_) ?_; (focus ((exact herr); done)); (try dsimp only); omega; (try dsimp only); omega; exact ut_; (try dsimp only); omega))))
              | some m =>
                have htx2 : textF q (c :: x :: u) acc k = textF q u (acc ++ [m]) (k + 2) := by
                  conv => lhs; unfold textF
                  rw [if_neg hq, if_neg h10, if_pos h92]
                  dsimp only
                  rw [hme]
                rw [htx2] at hk1 hk2
                have hxm : (x = 92 ∧ m = 92) ∨ (x = 34 ∧ m = 34) ∨ (x = 39 ∧ m = 39) ∨ (x = 110 ∧ m = 10) := by
                  unfold meantF at hme
                  split at hme
                  · cases hme; exact .inl ⟨by assumption, rfl⟩
                  · split at hme
                    · cases hme; exact .inr (.inl ⟨by assumption, rfl⟩)
                    · split at hme
                      · cases hme; exact .inr (.inr (.inl ⟨by assumption, rfl⟩))
                      · split at hme
                        · cases hme; exact .inr (.inr (.inr ⟨by assumption, rfl⟩))
                        · cases hme
                rcases hxm with ⟨hx, rfl⟩ | ⟨hx, rfl⟩ | ⟨hx, rfl⟩ | ⟨hx, rfl⟩
                · rw [show idxFrom x [92, 34, 39, 110] 0 = 0 by rw [hx]; rfl] at I0
                  refine W.loop ?_
                  repeat (first | refine sq_ ?_ | refine bl_ ?_ | ((first | refine rg_ ?_ | refine go_ ?_); generalize e : goR _ _ _ _ _ _ _ _ = r; simp (disch := omega) [hX, hg, hY, hql, hEb, hTr, hcut, hbv, hal, hll, hge, hge2, hget, hget2, hto1, hc92, hqn, hqn2, c17, c37, c21] at e; replace e : some _ = _ := e; subst e; (try dsimp only [goW])) | refine ct_ rfl ?_ | refine cf_ rfl ?_ | refine sk_ ?_ | refine ex_ ?_ | (refine I0 _ ?_ _ fun n5 hn5 => ⟨rfl, ?_⟩; exact fit_; (try dsimp only at hn5)) | (refine Wc.mkG 17 c17 (by kernel_rfl) rfl ?_; generalize e : entryC _ _ _ = r; simp (disch := omega) [hX, hg, hY, hql, hEb, hTr, hcut, hbv, hal, hll, hge, hge2, hget, hget2, hto1, hc92, hqn, hqn2, c17, c37, c21] at e; subst e) | (refine Wc.mkG 37 c37 (by kernel_rfl) rfl ?_; generalize e : entryC _ _ _ = r; simp (disch := omega) [hX, hg, hY, hql, hEb, hTr, hcut, hbv, hal, hll, hge, hge2, hget, hget2, hto1, hc92, hqn, hqn2, c17, c37, c21] at e; subst e) | (refine Wc.primM (f := 36) (p := (pBString 5)) (by kernel_rfl) ?_; generalize e : (pBString 5) _ _ = r; simp (disch := omega) [hX, hg, hY, hql, hEb, hTr, hcut, hbv, hal, hll, hge, hge2, hget, hget2, hto1, hc92, hqn, hqn2, c17, c37, c21] at e; subst e; (try dsimp only); refine ⟨rfl, ?_⟩) | (refine Wc.primM (f := 51) (p := (pCopyCheck [(58720258, 0)])) (by kernel_rfl) ?_; generalize e : (pCopyCheck [(58720258, 0)]) _ _ = r; simp (disch := omega) [hX, hg, hY, hql, hEb, hTr, hcut, hbv, hal, hll, hge, hge2, hget, hget2, hto1, hc92, hqn, hqn2, c17, c37, c21] at e; subst e; (try dsimp only); refine ⟨rfl, ?_⟩) | ((first | (refine W.ret ?_; (try simp only [outOf, thenW_ret, roundW]); refine endW.of (.inl rfl) rfl ?_) | refine endW.of (.inr rfl) rfl ?_); generalize e : endsC _ _ _ = r; simp (disch := omega) [hX, hg, hY, hql, hEb, hTr, hcut, hbv, hal, hll, hge, hge2, hget, hget2, hto1, hc92, hqn, hqn2, c17, c37, c21] at e; subst e; (try dsimp only [goW]); refine ⟨rfl, ?_⟩))
                  show W tree.getF textLoop (dropped true _ _) _
                  generalize e : dropped _ _ _ = r9
                  simp (disch := omega) [hX, hg, hY, hql, hEb, hTr, hcut, hbv, hal, hll] at e
                  subst e
                  rw [show acc.map bv ++ [CVal.int .u8 92] = (acc ++ [(92 : UInt8)]).map bv by rw [List.map_append]; rfl, show acc.length + 1 = (acc ++ [(92 : UInt8)]).length by simp]
                  refine ih u (acc ++ [(92 : UInt8)]) (i + 2) (k + 2) (v + 1) _ _ _ _ _ _ _ _ _ _ (by omega) (by simpa using hd2) (by omega) (by simp) (by simp; omega) ?_ ?_ ?_ (by omega) hk1 hk2
                  · ((try dsimp only); omega)
                  · exact ut_
                  · exact hty
                · rw [show idxFrom x [92, 34, 39, 110] 0 = 1 by rw [hx]; rfl] at I0
                  refine W.loop ?_
                  repeat (first | refine sq_ ?_ | refine bl_ ?_ | ((first | refine rg_ ?_ | refine go_ ?_); generalize e : goR _ _ _ _ _ _ _ _ = r; simp (disch := omega) [hX, hg, hY, hql, hEb, hTr, hcut, hbv, hal, hll, hge, hge2, hget, hget2, hto1, hc92, hqn, hqn2, c17, c37, c21] at e; replace e : some _ = _ := e; subst e; (try dsimp only [goW])) | refine ct_ rfl ?_ | refine cf_ rfl ?_ | refine sk_ ?_ | refine ex_ ?_ | (refine I0 _ ?_ _ fun n5 hn5 => ⟨rfl, ?_⟩; exact fit_; (try dsimp only at hn5)) | (refine Wc.mkG 17 c17 (by kernel_rfl) rfl ?_; generalize e : entryC _ _ _ = r; simp (disch := omega) [hX, hg, hY, hql, hEb, hTr, hcut, hbv, hal, hll, hge, hge2, hget, hget2, hto1, hc92, hqn, hqn2, c17, c37, c21] at e; subst e) | (refine Wc.mkG 37 c37 (by kernel_rfl) rfl ?_; generalize e : entryC _ _ _ = r; simp (disch := omega) [hX, hg, hY, hql, hEb, hTr, hcut, hbv, hal, hll, hge, hge2, hget, hget2, hto1, hc92, hqn, hqn2, c17, c37, c21] at e; subst e) | (refine Wc.primM (f := 36) (p := (pBString 5)) (by kernel_rfl) ?_; generalize e : (pBString 5) _ _ = r; simp (disch := omega) [hX, hg, hY, hql, hEb, hTr, hcut, hbv, hal, hll, hge, hge2, hget, hget2, hto1, hc92, hqn, hqn2, c17, c37, c21] at e; subst e; (try dsimp only); refine ⟨rfl, ?_⟩) | (refine Wc.primM (f := 51) (p := (pCopyCheck [(58720258, 0)])) (by kernel_rfl) ?_; generalize e : (pCopyCheck [(58720258, 0)]) _ _ = r; simp (disch := omega) [hX, hg, hY, hql, hEb, hTr, hcut, hbv, hal, hll, hge, hge2, hget, hget2, hto1, hc92, hqn, hqn2, c17, c37, c21] at e; subst e; (try dsimp only); refine ⟨rfl, ?_⟩) | ((first | (refine W.ret ?_; (try simp only [outOf, thenW_ret, roundW]); refine endW.of (.inl rfl) rfl ?_) | refine endW.of (.inr rfl) rfl ?_); generalize e : endsC _ _ _ = r; simp (disch := omega) [hX, hg, hY, hql, hEb, hTr, hcut, hbv, hal, hll, hge, hge2, hget, hget2, hto1, hc92, hqn, hqn2, c17, c37, c21] at e; subst e; (try dsimp only [goW]); refine ⟨rfl, ?_⟩))
                  show W tree.getF textLoop (dropped true _ _) _
                  generalize e : dropped _ _ _ = r9
                  simp (disch := omega) [hX, hg, hY, hql, hEb, hTr, hcut, hbv, hal, hll] at e
                  subst e
                  rw [show acc.map bv ++ [CVal.int .u8 34] = (acc ++ [(34 : UInt8)]).map bv by rw [List.map_append]; rfl, show acc.length + 1 = (acc ++ [(34 : UInt8)]).length by simp]
                  refine ih u (acc ++ [(34 : UInt8)]) (i + 2) (k + 2) (v + 1) _ _ _ _ _ _ _ _ _ _ (by omega) (by simpa using hd2) (by omega) (by simp) (by simp; omega) ?_ ?_ ?_ (by omega) hk1 hk2
                  · ((try dsimp only); omega)
                  · exact ut_
                  · exact hty
                · rw [show idxFrom x [92, 34, 39, 110] 0 = 2 by rw [hx]; rfl] at I0
                  refine W.loop ?_
                  repeat (first | refine sq_ ?_ | refine bl_ ?_ | ((first | refine rg_ ?_ | refine go_ ?_); generalize e : goR _ _ _ _ _ _ _ _ = r; simp (disch := omega) [hX, hg, hY, hql, hEb, hTr, hcut, hbv, hal, hll, hge, hge2, hget, hget2, hto1, hc92, hqn, hqn2, c17, c37, c21] at e; replace e : some _ = _ := e; subst e; (try dsimp only [goW])) | refine ct_ rfl ?_ | refine cf_ rfl ?_ | refine sk_ ?_ | refine ex_ ?_ | (refine I0 _ ?_ _ fun n5 hn5 => ⟨rfl, ?_⟩; exact fit_; (try dsimp only at hn5)) | (refine Wc.mkG 17 c17 (by kernel_rfl) rfl ?_; generalize e : entryC _ _ _ = r; simp (disch := omega) [hX, hg, hY, hql, hEb, hTr, hcut, hbv, hal, hll, hge, hge2, hget, hget2, hto1, hc92, hqn, hqn2, c17, c37, c21] at e; subst e) | (refine Wc.mkG 37 c37 (by kernel_rfl) rfl ?_; generalize e : entryC _ _ _ = r; simp (disch := omega) [hX, hg, hY, hql, hEb, hTr, hcut, hbv, hal, hll, hge, hge2, hget, hget2, hto1, hc92, hqn, hqn2, c17, c37, c21] at e; subst e) | (refine Wc.primM (f := 36) (p := (pBString 5)) (by kernel_rfl) ?_; generalize e : (pBString 5) _ _ = r; simp (disch := omega) [hX, hg, hY, hql, hEb, hTr, hcut, hbv, hal, hll, hge, hge2, hget, hget2, hto1, hc92, hqn, hqn2, c17, c37, c21] at e; subst e; (try dsimp only); refine ⟨rfl, ?_⟩) | (refine Wc.primM (f := 51) (p := (pCopyCheck [(58720258, 0)])) (by kernel_rfl) ?_; generalize e : (pCopyCheck [(58720258, 0)]) _ _ = r; simp (disch := omega) [hX, hg, hY, hql, hEb, hTr, hcut, hbv, hal, hll, hge, hge2, hget, hget2, hto1, hc92, hqn, hqn2, c17, c37, c21] at e; subst e; (try dsimp only); refine ⟨rfl, ?_⟩) | ((first | (refine W.ret ?_; (try simp only [outOf, thenW_ret, roundW]); refine endW.of (.inl rfl) rfl ?_) | refine endW.of (.inr rfl) rfl ?_); generalize e : endsC _ _ _ = r; simp (disch := omega) [hX, hg, hY, hql, hEb, hTr, hcut, hbv, hal, hll, hge, hge2, hget, hget2, hto1, hc92, hqn, hqn2, c17, c37, c21] at e; subst e; (try dsimp only [goW]); refine ⟨rfl, ?_⟩))
                  show W tree.getF textLoop (dropped true _ _) _
                  generalize e : dropped _ _ _ = r9
                  simp (disch := omega) [hX, hg, hY, hql, hEb, hTr, hcut, hbv, hal, hll] at e
                  subst e
                  rw [show acc.map bv ++ [CVal.int .u8 39] = (acc ++ [(39 : UInt8)]).map bv by rw [List.map_append]; rfl, show acc.length + 1 = (acc ++ [(39 : UInt8)]).length by simp]
                  refine ih u (acc ++ [(39 : UInt8)]) (i + 2) (k + 2) (v + 1) _ _ _ _ _ _ _ _ _ _ (by omega) (by simpa using hd2) (by omega) (by simp) (by simp; omega) ?_ ?_ ?_ (by omega) hk1 hk2
                  · ((try dsimp only); omega)
                  · exact ut_
                  · exact hty
                · rw [show idxFrom x [92, 34, 39, 110] 0 = 3 by rw [hx]; rfl] at I0
                  refine W.loop ?_
                  repeat (first | refine sq_ ?_ | refine bl_ ?_ | ((first | refine rg_ ?_ | refine go_ ?_); generalize e : goR _ _ _ _ _ _ _ _ = r; simp (disch := omega) [hX, hg, hY, hql, hEb, hTr, hcut, hbv, hal, hll, hge, hge2, hget, hget2, hto1, hc92, hqn, hqn2, c17, c37, c21] at e; replace e : some _ = _ := e; subst e; (try dsimp only [goW])) | refine ct_ rfl ?_ | refine cf_ rfl ?_ | refine sk_ ?_ | refine ex_ ?_ | (refine I0 _ ?_ _ fun n5 hn5 => ⟨rfl, ?_⟩; exact fit_; (try dsimp only at hn5)) | (refine Wc.mkG 17 c17 (by kernel_rfl) rfl ?_; generalize e : entryC _ _ _ = r; simp (disch := omega) [hX, hg, hY, hql, hEb, hTr, hcut, hbv, hal, hll, hge, hge2, hget, hget2, hto1, hc92, hqn, hqn2, c17, c37, c21] at e; subst e) | (refine Wc.mkG 37 c37 (by kernel_rfl) rfl ?_; generalize e : entryC _ _ _ = r; simp (disch := omega) [hX, hg, hY, hql, hEb, hTr, hcut, hbv, hal, hll, hge, hge2, hget, hget2, hto1, hc92, hqn, hqn2, c17, c37, c21] at e; subst e) | (refine Wc.primM (f := 36) (p := (pBString 5)) (by kernel_rfl) ?_; generalize e : (pBString 5) _ _ = r; simp (disch := omega) [hX, hg, hY, hql, hEb, hTr, hcut, hbv, hal, hll, hge, hge2, hget, hget2, hto1, hc92, hqn, hqn2, c17, c37, c21] at e; subst e; (try dsimp only); refine ⟨rfl, ?_⟩) | (refine Wc.primM (f := 51) (p := (pCopyCheck [(58720258, 0)])) (by kernel_rfl) ?_; generalize e : (pCopyCheck [(58720258, 0)]) _ _ = r; simp (disch := omega) [hX, hg, hY, hql, hEb, hTr, hcut, hbv, hal, hll, hge, hge2, hget, hget2, hto1, hc92, hqn, hqn2, c17, c37, c21] at e; subst e; (try dsimp only); refine ⟨rfl, ?_⟩) | ((first | (refine W.ret ?_; (try simp only [outOf, thenW_ret, roundW]); refine endW.of (.inl rfl) rfl ?_) | refine endW.of (.inr rfl) rfl ?_); generalize e : endsC _ _ _ = r; simp (disch := omega) [hX, hg, hY, hql, hEb, hTr, hcut, hbv, hal, hll, hge, hge2, hget, hget2, hto1, hc92, hqn, hqn2, c17, c37, c21] at e; subst e; (try dsimp only [goW]); refine ⟨rfl, ?_⟩))
                  show W tree.getF textLoop (dropped true _ _) _
                  generalize e : dropped _ _ _ = r9
                  simp (disch := omega) [hX, hg, hY, hql, hEb, hTr, hcut, hbv, hal, hll] at e
                  subst e
                  rw [show acc.map bv ++ [CVal.int .u8 10] = (acc ++ [(10 : UInt8)]).map bv by rw [List.map_append]; rfl, show acc.length + 1 = (acc ++ [(10 : UInt8)]).length by simp]
                  refine ih u (acc ++ [(10 : UInt8)]) (i + 2) (k + 2) (v + 1) _ _ _ _ _ _ _ _ _ _ (by omega) (by simpa using hd2) (by omega) (by simp) (by simp; omega) ?_ ?_ ?_ (by omega) hk1 hk2
                  · ((try dsimp only); omega)
                  · exact ut_
                  · exact hty
          · have hn92 : ¬ ((c.toNat : Int) = 92) := fun e => h92 (UInt8.toNat_inj.1 (by
              have h9 : c.toNat = 92 := by omega
              rw [h9]; rfl))
            have htx2 : textF q (c :: t1) acc k = textF q t1 (acc ++ [c]) (k + 1) := by
              conv => lhs; unfold textF
              rw [if_neg hq, if_neg h10, if_neg h92]
            rw [htx2] at hk1 hk2
            refine W.loop ?_
            repeat (first | refine sq_ ?_ | refine bl_ ?_ | ((first | refine rg_ ?_ | refine go_ ?_); generalize e : goR _ _ _ _ _ _ _ _ = r; simp (disch := omega) [hX, hg, hY, hql, hEb, hTr, hcut, hbv, hal, hll, hge, hget, hqn, hn10, hn92, c17, c37, c21] at e; replace e : some _ = _ := e; subst e; (try dsimp only [goW])) | refine ct_ rfl ?_ | refine cf_ rfl ?_ | refine sk_ ?_ | refine ex_ ?_ | (refine Wc.mkG 17 c17 (by kernel_rfl) rfl ?_; generalize e : entryC _ _ _ = r; simp (disch := omega) [hX, hg, hY, hql, hEb, hTr, hcut, hbv, hal, hll, hge, hget, hqn, hn10, hn92, c17, c37, c21] at e; subst e) | (refine Wc.mkG 37 c37 (by kernel_rfl) rfl ?_; generalize e : entryC _ _ _ = r; simp (disch := omega) [hX, hg, hY, hql, hEb, hTr, hcut, hbv, hal, hll, hge, hget, hqn, hn10, hn92, c17, c37, c21] at e; subst e) | (refine Wc.primM (f := 36) (p := (pBString 5)) (by kernel_rfl) ?_; generalize e : (pBString 5) _ _ = r; simp (disch := omega) [hX, hg, hY, hql, hEb, hTr, hcut, hbv, hal, hll, hge, hget, hqn, hn10, hn92, c17, c37, c21] at e; subst e; (try dsimp only); refine ⟨rfl, ?_⟩) | (refine Wc.primM (f := 51) (p := (pCopyCheck [(58720258, 0)])) (by kernel_rfl) ?_; generalize e : (pCopyCheck [(58720258, 0)]) _ _ = r; simp (disch := omega) [hX, hg, hY, hql, hEb, hTr, hcut, hbv, hal, hll, hge, hget, hqn, hn10, hn92, c17, c37, c21] at e; subst e; (try dsimp only); refine ⟨rfl, ?_⟩) | ((first | (refine W.ret ?_; (try simp only [outOf, thenW_ret, roundW]); refine endW.of (.inl rfl) rfl ?_) | refine endW.of (.inr rfl) rfl ?_); generalize e : endsC _ _ _ = r; simp (disch := omega) [hX, hg, hY, hql, hEb, hTr, hcut, hbv, hal, hll, hge, hget, hqn, hn10, hn92, c17, c37, c21] at e; subst e; (try dsimp only [goW]); refine ⟨rfl, ?_⟩))
            show W tree.getF textLoop (dropped true _ _) _
            generalize e : dropped _ _ _ = r9
            simp (disch := omega) [hX, hg, hY, hql, hEb, hTr, hcut, hbv, hal, hll] at e
            subst e
            rw [show acc.map bv ++ [CVal.int .u8 (c.toNat : Int)] = (acc ++ [c]).map bv by rw [List.map_append]; rfl, show acc.length + 1 = (acc ++ [c]).length by simp]
            refine ih t1 (acc ++ [c]) (i + 1) (k + 1) (v + 1) _ _ _ _ _ _ _ _ _ _ (by omega) (by simpa using hd1) (by omega) (by simp) (by simp; omega) ?_ ?_ ?_ (by omega) hk1 hk2
            · ((try dsimp only); omega)
            · exact ut_
            · exact hty

end Go.Proofs.YthblmflngjofjaaDoor.IrW
namespace Go.Proofs.YthblmflngjofjaaDoor.IrW
open Go Go.CI
open Go.LexF hiding spacesB lettersB
set_option maxRecDepth 100000
set_option linter.unusedVariables false
set_option linter.unusedSimpArgs false
attribute [local irreducible] W Wo Wc WoR
set_option maxHeartbeats 4000000 in
theorem text_loop0 (valid : Bytes → Bool) (hV : ∀ t : Bytes, t.length ≤ 60000 → Pe 35 [.str t] (.bool (valid t))) {n0 : Nat} {E0 : List (Nat × CObj)} (p d : Nat) (s : List UInt8) (q : UInt8) (a : Nat) (L : CVal) (ts : List CVal) (hts : ts.length ≤ 100000) (to : Int) (hs : s.length < 50000) (h : CHeap) (S : St n0 E0 p s (a : Int) L ts 0 to h) (K : CVal → CHeap → Prop) (bq : Nat) (hb : h.next ≤ bq) (t : List UInt8) (i k : Nat) (n : Nat) (ty : List (Nat × Nat)) (v3 v4 v6 v8 v9 v10 v11 v12 : CVal) (hd : s.drop i = t) (hlen : i + t.length = s.length) (hrn : bq < n) (hut2 : UnderT ty n) (hia : i = a + (k + 1))
    (hk1 : ∀ txt kk, textF q t [] k = some (txt, kk) → valid txt = true → ∀ h' L', St n0 E0 p s ((a + (kk + 1) : Nat) : Int) L' (ts ++ [tokC 3 txt 0 a]) 0 to h' → h.next ≤ h'.next → K (.tup []) h')
    (hk2 : (textF q t [] k = none ∨ ∃ txt kk, textF q t [] k = some (txt, kk) ∧ valid txt = false) → ∀ h' at' L' ts', St n0 E0 p s at' L' ts' 2 (a : Int) h' → h.next ≤ h'.next → K (.tup []) h') :
    W tree.getF textLoop ⟨[.ptr p d 0, .int .i64 (a : Int), .int .i64 (i : Int), v3, v4, .int .u8 (q.toNat : Int), v6, .ptr bq 58720258 0, v8, v9, v10, v11, v12], ⟨((bq, .cells [.nilp, .nils]) :: h.ents), n, ty⟩, []⟩ (fun x st' => thenW tree.getF textRest (endW c21 h.next K) (outOf 0 x) st') := by
  have hm : t.length ≤ t.length := Nat.le_refl _
  have hg := S.g
  have hf := S.f
  have hp := S.lt
  have hql := q.toNat_lt
  have hll : s.length < 4611686018427387904 := by omega
  have hil : i + t.length = s.length := hlen
  have hEb : ∀ x, getEnt (setEnt h.ents p x) bq = none := fun x => getEnt_under hf.1.set hb
  obtain ⟨hu, hut, hX⟩ := fx4 hf
  have hY := fx5 hf hg
  cases t with
  | nil =>
    simp only [List.length_nil, Nat.add_zero] at hil
    have herr : textF q [] ([] : List UInt8) k = none ∨ ∃ txt kk, textF q [] ([] : List UInt8) k = some (txt, kk) ∧ valid txt = false := .inl rfl
    refine W.loop ?_
    repeat (first | refine sq_ ?_ | refine bl_ ?_ | ((first | refine rg_ ?_ | refine go_ ?_); generalize e : goR _ _ _ _ _ _ _ _ = r; simp (disch := omega) [hX, hg, hY, hql, hEb, hll, hil, c17, c37, c21] at e; replace e : some _ = _ := e; subst e; (try dsimp only [goW])) | refine ct_ rfl ?_ | refine cf_ rfl ?_ | refine sk_ ?_ | refine ex_ ?_ | (refine Wc.mkG 17 c17 (by kernel_rfl) rfl ?_; generalize e : entryC _ _ _ = r; simp (disch := omega) [hX, hg, hY, hql, hEb, hll, hil, c17, c37, c21] at e; subst e) | (refine Wc.mkG 37 c37 (by kernel_rfl) rfl ?_; generalize e : entryC _ _ _ = r; simp (disch := omega) [hX, hg, hY, hql, hEb, hll, hil, c17, c37, c21] at e; subst e) | (refine Wc.primM (f := 36) (p := (pBString 5)) (by kernel_rfl) ?_; generalize e : (pBString 5) _ _ = r; simp (disch := omega) [hX, hg, hY, hql, hEb, hll, hil, c17, c37, c21] at e; subst e; (try dsimp only); refine ⟨rfl, ?_⟩) | (refine Wc.primM (f := 51) (p := (pCopyCheck [(58720258, 0)])) (by kernel_rfl) ?_; generalize e : (pCopyCheck [(58720258, 0)]) _ _ = r; simp (disch := omega) [hX, hg, hY, hql, hEb, hll, hil, c17, c37, c21] at e; subst e; (try dsimp only); refine ⟨rfl, ?_⟩) | ((first | (refine W.ret ?_; (try simp only [outOf, thenW_ret, roundW]); refine endW.of (.inl rfl) rfl ?_) | refine endW.of (.inr rfl) rfl ?_); generalize e : endsC _ _ _ = r; simp (disch := omega) [hX, hg, hY, hql, hEb, hll, hil, c17, c37, c21] at e; subst e; (try dsimp only [goW]); (first | refine ⟨rfl, ?_⟩ | (refine hk2 ?_ _ _ _ _ (S.upd ?_ ?_) ?_; (focus ((exact herr); done)); (try dsimp only); omega; exact ut_; (try dsimp only); omega))))
  | cons c t1 =>
    obtain ⟨hlt, hget, hd1⟩ := get_of_dropG hd
    have hge : s[i] = c := by rw [List.getElem?_eq_getElem hlt] at hget; exact Option.some.inj hget
    simp only [List.length_cons] at hlen hm
    have hcl := c.toNat_lt
    by_cases hq : c = q
    · subst hq
      have htx : textF c (c :: t1) ([] : List UInt8) k = some (([] : List UInt8), k + 1) := by unfold textF; rw [if_pos rfl]
      have hps : ((a + (k + 1 + 1) : Nat) : Int) = (i : Int) + 1 := by omega
      cases hvt : valid ([] : List UInt8) with
      | true =>
        replace hk1 := hk1 _ _ htx hvt
        rw [hps] at hk1
        rcases S.l with ⟨rfl, rfl⟩ | ⟨i2, v2', rfl, ht, hip, hi0, hin⟩
        ·
          refine W.loop ?_
          repeat (first | refine sq_ ?_ | refine bl_ ?_ | ((first | refine rg_ ?_ | refine go_ ?_); generalize e : goR _ _ _ _ _ _ _ _ = r; simp (disch := omega) [hX, hg, hY, hql, hEb, hll, hge, hget, hvt, c17, c37, c21] at e; replace e : some _ = _ := e; subst e; (try dsimp only [goW])) | refine ct_ rfl ?_ | refine cf_ rfl ?_ | refine sk_ ?_ | refine ex_ ?_ | (refine hV ([]) (by (try simp) <;> omega) _ ?_ _ fun n7 hn7 => ⟨rfl, ?_⟩; exact fit_; (try dsimp only at hn7)) | (refine Wc.mkG 17 c17 (by kernel_rfl) rfl ?_; generalize e : entryC _ _ _ = r; simp (disch := omega) [hX, hg, hY, hql, hEb, hll, hge, hget, hvt, c17, c37, c21] at e; subst e) | (refine Wc.mkG 37 c37 (by kernel_rfl) rfl ?_; generalize e : entryC _ _ _ = r; simp (disch := omega) [hX, hg, hY, hql, hEb, hll, hge, hget, hvt, c17, c37, c21] at e; subst e) | (refine Wc.primM (f := 36) (p := (pBString 5)) (by kernel_rfl) ?_; generalize e : (pBString 5) _ _ = r; simp (disch := omega) [hX, hg, hY, hql, hEb, hll, hge, hget, hvt, c17, c37, c21] at e; subst e; (try dsimp only); refine ⟨rfl, ?_⟩) | (refine Wc.primM (f := 51) (p := (pCopyCheck [(58720258, 0)])) (by kernel_rfl) ?_; generalize e : (pCopyCheck [(58720258, 0)]) _ _ = r; simp (disch := omega) [hX, hg, hY, hql, hEb, hll, hge, hget, hvt, c17, c37, c21] at e; subst e; (try dsimp only); refine ⟨rfl, ?_⟩) | ((first | (refine W.ret ?_; (try simp only [outOf, thenW_ret, roundW]); refine endW.of (.inl rfl) rfl ?_) | refine endW.of (.inr rfl) rfl ?_); generalize e : endsC _ _ _ = r; simp (disch := omega) [hX, hg, hY, hql, hEb, hll, hge, hget, hvt, c17, c37, c21] at e; subst e; (try dsimp only [goW]); (first | refine ⟨rfl, ?_⟩ | (refine hk1 _ _ (S.app0 ?_ ?_ ?_) ?_; (try dsimp only); omega; (try dsimp only); omega; exact ut_; (try dsimp only); omega))))
        ·
          have htP : ∀ x, getEnt (setEnt h.ents p x) i2 = some (.tok v2') := fun x => (getEnt_setEnt_ne hip).trans ht
          have hPt : ∀ x y, getEnt (setEnt (setEnt h.ents i2 x) p y) p = some y := fun x y => sy_getEnt_setEnt ((getEnt_setEnt_ne (Ne.symm hip)).trans hg)
          have hTT : ∀ x y, getEnt (setEnt (setEnt h.ents i2 x) p y) i2 = some x := fun x y => (getEnt_setEnt_ne hip).trans (sy_getEnt_setEnt ht)
          have hiP : ∀ x, getEnt (setEnt h.ents i2 x) p = _ := fun x => (getEnt_setEnt_ne (Ne.symm hip)).trans hg
          have hcomm : ∀ x y, setEnt (setEnt h.ents p y) i2 x = setEnt (setEnt h.ents i2 x) p y := fun x y => setEnt_comm (Ne.symm hip)
          have hC3 : ∀ x y m, h.next ≤ m → dropCells (setEnt (setEnt h.ents i2 x) p y) m = setEnt (setEnt h.ents i2 x) p y := fun x y m hm => dropCells_under (hu.set.set.le hm)
          have hD3 : ∀ x y m, h.next ≤ m → dropEnts (setEnt (setEnt h.ents i2 x) p y) m = setEnt (setEnt h.ents i2 x) p y := fun x y m hm => dropEnts_under (hu.set.set.le hm)
          refine W.loop ?_
          repeat (first | refine sq_ ?_ | refine bl_ ?_ | ((first | refine rg_ ?_ | refine go_ ?_); generalize e : goR _ _ _ _ _ _ _ _ = r; simp (disch := omega) [hX, hg, hY, hql, hEb, hll, ht, htP, hPt, hTT, hiP, hcomm, hC3, hD3, hts, beqs_refl, hge, hget, hvt, c17, c37, c21] at e; replace e : some _ = _ := e; subst e; (try dsimp only [goW])) | refine ct_ rfl ?_ | refine cf_ rfl ?_ | refine sk_ ?_ | refine ex_ ?_ | (refine hV ([]) (by (try simp) <;> omega) _ ?_ _ fun n7 hn7 => ⟨rfl, ?_⟩; exact fit_; (try dsimp only at hn7)) | (refine Wc.mkG 17 c17 (by kernel_rfl) rfl ?_; generalize e : entryC _ _ _ = r; simp (disch := omega) [hX, hg, hY, hql, hEb, hll, ht, htP, hPt, hTT, hiP, hcomm, hC3, hD3, hts, beqs_refl, hge, hget, hvt, c17, c37, c21] at e; subst e) | (refine Wc.mkG 37 c37 (by kernel_rfl) rfl ?_; generalize e : entryC _ _ _ = r; simp (disch := omega) [hX, hg, hY, hql, hEb, hll, ht, htP, hPt, hTT, hiP, hcomm, hC3, hD3, hts, beqs_refl, hge, hget, hvt, c17, c37, c21] at e; subst e) | (refine Wc.primM (f := 36) (p := (pBString 5)) (by kernel_rfl) ?_; generalize e : (pBString 5) _ _ = r; simp (disch := omega) [hX, hg, hY, hql, hEb, hll, ht, htP, hPt, hTT, hiP, hcomm, hC3, hD3, hts, beqs_refl, hge, hget, hvt, c17, c37, c21] at e; subst e; (try dsimp only); refine ⟨rfl, ?_⟩) | (refine Wc.primM (f := 51) (p := (pCopyCheck [(58720258, 0)])) (by kernel_rfl) ?_; generalize e : (pCopyCheck [(58720258, 0)]) _ _ = r; simp (disch := omega) [hX, hg, hY, hql, hEb, hll, ht, htP, hPt, hTT, hiP, hcomm, hC3, hD3, hts, beqs_refl, hge, hget, hvt, c17, c37, c21] at e; subst e; (try dsimp only); refine ⟨rfl, ?_⟩) | ((first | (refine W.ret ?_; (try simp only [outOf, thenW_ret, roundW]); refine endW.of (.inl rfl) rfl ?_) | refine endW.of (.inr rfl) rfl ?_); generalize e : endsC _ _ _ = r; simp (disch := omega) [hX, hg, hY, hql, hEb, hll, ht, htP, hPt, hTT, hiP, hcomm, hC3, hD3, hts, beqs_refl, hge, hget, hvt, c17, c37, c21] at e; subst e; (try dsimp only [goW]); (first | refine ⟨rfl, ?_⟩ | (refine hk1 _ _ (S.app1 ht hip hi0 hin ?_ ?_) ?_; (try dsimp only); omega; exact ut_; (try dsimp only); omega))))
      | false =>
        have herr : textF c (c :: t1) ([] : List UInt8) k = none ∨ ∃ txt kk, textF c (c :: t1) ([] : List UInt8) k = some (txt, kk) ∧ valid txt = false := .inr ⟨_, _, htx, hvt⟩
        rcases S.l with ⟨rfl, rfl⟩ | ⟨i2, v2', rfl, ht, hip, hi0, hin⟩
        ·
          refine W.loop ?_
          repeat (first | refine sq_ ?_ | refine bl_ ?_ | ((first | refine rg_ ?_ | refine go_ ?_); generalize e : goR _ _ _ _ _ _ _ _ = r; simp (disch := omega) [hX, hg, hY, hql, hEb, hll, hge, hget, hvt, c17, c37, c21] at e; replace e : some _ = _ := e; subst e; (try dsimp only [goW])) | refine ct_ rfl ?_ | refine cf_ rfl ?_ | refine sk_ ?_ | refine ex_ ?_ | (refine hV ([]) (by (try simp) <;> omega) _ ?_ _ fun n7 hn7 => ⟨rfl, ?_⟩; exact fit_; (try dsimp only at hn7)) | (refine Wc.mkG 17 c17 (by kernel_rfl) rfl ?_; generalize e : entryC _ _ _ = r; simp (disch := omega) [hX, hg, hY, hql, hEb, hll, hge, hget, hvt, c17, c37, c21] at e; subst e) | (refine Wc.mkG 37 c37 (by kernel_rfl) rfl ?_; generalize e : entryC _ _ _ = r; simp (disch := omega) [hX, hg, hY, hql, hEb, hll, hge, hget, hvt, c17, c37, c21] at e; subst e) | (refine Wc.primM (f := 36) (p := (pBString 5)) (by kernel_rfl) ?_; generalize e : (pBString 5) _ _ = r; simp (disch := omega) [hX, hg, hY, hql, hEb, hll, hge, hget, hvt, c17, c37, c21] at e; subst e; (try dsimp only); refine ⟨rfl, ?_⟩) | (refine Wc.primM (f := 51) (p := (pCopyCheck [(58720258, 0)])) (by kernel_rfl) ?_; generalize e : (pCopyCheck [(58720258, 0)]) _ _ = r; simp (disch := omega) [hX, hg, hY, hql, hEb, hll, hge, hget, hvt, c17, c37, c21] at e; subst e; (try dsimp only); refine ⟨rfl, ?_⟩) | ((first | (refine W.ret ?_; (try simp only [outOf, thenW_ret, roundW]); refine endW.of (.inl rfl) rfl ?_) | refine endW.of (.inr rfl) rfl ?_); generalize e : endsC _ _ _ = r; simp (disch := omega) [hX, hg, hY, hql, hEb, hll, hge, hget, hvt, c17, c37, c21] at e; subst e; (try dsimp only [goW]); (first | refine ⟨rfl, ?_⟩ | (refine hk2 herr _ _ _ _ (S.app0 ?_ ?_ ?_) ?_; (try dsimp only); omega; (try dsimp only); omega; exact ut_; (try dsimp only); omega))))
        ·
          have htP : ∀ x, getEnt (setEnt h.ents p x) i2 = some (.tok v2') := fun x => (getEnt_setEnt_ne hip).trans ht
          have hPt : ∀ x y, getEnt (setEnt (setEnt h.ents i2 x) p y) p = some y := fun x y => sy_getEnt_setEnt ((getEnt_setEnt_ne (Ne.symm hip)).trans hg)
          have hTT : ∀ x y, getEnt (setEnt (setEnt h.ents i2 x) p y) i2 = some x := fun x y => (getEnt_setEnt_ne hip).trans (sy_getEnt_setEnt ht)
          have hiP : ∀ x, getEnt (setEnt h.ents i2 x) p = _ := fun x => (getEnt_setEnt_ne (Ne.symm hip)).trans hg
          have hcomm : ∀ x y, setEnt (setEnt h.ents p y) i2 x = setEnt (setEnt h.ents i2 x) p y := fun x y => setEnt_comm (Ne.symm hip)
          have hC3 : ∀ x y m, h.next ≤ m → dropCells (setEnt (setEnt h.ents i2 x) p y) m = setEnt (setEnt h.ents i2 x) p y := fun x y m hm => dropCells_under (hu.set.set.le hm)
          have hD3 : ∀ x y m, h.next ≤ m → dropEnts (setEnt (setEnt h.ents i2 x) p y) m = setEnt (setEnt h.ents i2 x) p y := fun x y m hm => dropEnts_under (hu.set.set.le hm)
          refine W.loop ?_
          repeat (first | refine sq_ ?_ | refine bl_ ?_ | ((first | refine rg_ ?_ | refine go_ ?_); generalize e : goR _ _ _ _ _ _ _ _ = r; simp (disch := omega) [hX, hg, hY, hql, hEb, hll, ht, htP, hPt, hTT, hiP, hcomm, hC3, hD3, hts, beqs_refl, hge, hget, hvt, c17, c37, c21] at e; replace e : some _ = _ := e; subst e; (try dsimp only [goW])) | refine ct_ rfl ?_ | refine cf_ rfl ?_ | refine sk_ ?_ | refine ex_ ?_ | (refine hV ([]) (by (try simp) <;> omega) _ ?_ _ fun n7 hn7 => ⟨rfl, ?_⟩; exact fit_; (try dsimp only at hn7)) | (refine Wc.mkG 17 c17 (by kernel_rfl) rfl ?_; generalize e : entryC _ _ _ = r; simp (disch := omega) [hX, hg, hY, hql, hEb, hll, ht, htP, hPt, hTT, hiP, hcomm, hC3, hD3, hts, beqs_refl, hge, hget, hvt, c17, c37, c21] at e; subst e) | (refine Wc.mkG 37 c37 (by kernel_rfl) rfl ?_; generalize e : entryC _ _ _ = r; simp (disch := omega) [hX, hg, hY, hql, hEb, hll, ht, htP, hPt, hTT, hiP, hcomm, hC3, hD3, hts, beqs_refl, hge, hget, hvt, c17, c37, c21] at e; subst e) | (refine Wc.primM (f := 36) (p := (pBString 5)) (by kernel_rfl) ?_; generalize e : (pBString 5) _ _ = r; simp (disch := omega) [hX, hg, hY, hql, hEb, hll, ht, htP, hPt, hTT, hiP, hcomm, hC3, hD3, hts, beqs_refl, hge, hget, hvt, c17, c37, c21] at e; subst e; (try dsimp only); refine ⟨rfl, ?_⟩) | (refine Wc.primM (f := 51) (p := (pCopyCheck [(58720258, 0)])) (by kernel_rfl) ?_; generalize e : (pCopyCheck [(58720258, 0)]) _ _ = r; simp (disch := omega) [hX, hg, hY, hql, hEb, hll, ht, htP, hPt, hTT, hiP, hcomm, hC3, hD3, hts, beqs_refl, hge, hget, hvt, c17, c37, c21] at e; subst e; (try dsimp only); refine ⟨rfl, ?_⟩) | ((first | (refine W.ret ?_; (try simp only [outOf, thenW_ret, roundW]); refine endW.of (.inl rfl) rfl ?_) | refine endW.of (.inr rfl) rfl ?_); generalize e : endsC _ _ _ = r; simp (disch := omega) [hX, hg, hY, hql, hEb, hll, ht, htP, hPt, hTT, hiP, hcomm, hC3, hD3, hts, beqs_refl, hge, hget, hvt, c17, c37, c21] at e; subst e; (try dsimp only [goW]); (first | refine ⟨rfl, ?_⟩ | (refine hk2 herr _ _ _ _ (S.app1 ht hip hi0 hin ?_ ?_) ?_; (try dsimp only); omega; exact ut_; (try dsimp only); omega))))
    · have hqn : ¬ ((c.toNat : Int) = (q.toNat : Int)) := fun e => hq (UInt8.toNat_inj.1 (by omega))
      by_cases h10 : c = 10
      · have hc10 : (c.toNat : Int) = 10 := by rw [h10]; rfl
        have hqn2 : ¬ ((10 : Int) = (q.toNat : Int)) := by omega
        have herr : textF q (c :: t1) ([] : List UInt8) k = none ∨ ∃ txt kk, textF q (c :: t1) ([] : List UInt8) k = some (txt, kk) ∧ valid txt = false := .inl (by unfold textF; rw [if_neg hq, if_pos h10])
        refine W.loop ?_
        repeat (first | refine sq_ ?_ | refine bl_ ?_ | ((first | refine rg_ ?_ | refine go_ ?_); generalize e : goR _ _ _ _ _ _ _ _ = r; simp (disch := omega) [hX, hg, hY, hql, hEb, hll, hge, hget, hc10, hqn, hqn2, c17, c37, c21] at e; replace e : some _ = _ := e; subst e; (try dsimp only [goW])) | refine ct_ rfl ?_ | refine cf_ rfl ?_ | refine sk_ ?_ | refine ex_ ?_ | (refine Wc.mkG 17 c17 (by kernel_rfl) rfl ?_; generalize e : entryC _ _ _ = r; simp (disch := omega) [hX, hg, hY, hql, hEb, hll, hge, hget, hc10, hqn, hqn2, c17, c37, c21] at e; subst e) | (refine Wc.mkG 37 c37 (by kernel_rfl) rfl ?_; generalize e : entryC _ _ _ = r; simp (disch := omega) [hX, hg, hY, hql, hEb, hll, hge, hget, hc10, hqn, hqn2, c17, c37, c21] at e; subst e) | (refine Wc.primM (f := 36) (p := (pBString 5)) (by kernel_rfl) ?_; generalize e : (pBString 5) _ _ = r; simp (disch := omega) [hX, hg, hY, hql, hEb, hll, hge, hget, hc10, hqn, hqn2, c17, c37, c21] at e; subst e; (try dsimp only); refine ⟨rfl, ?_⟩) | (refine Wc.primM (f := 51) (p := (pCopyCheck [(58720258, 0)])) (by kernel_rfl) ?_; generalize e : (pCopyCheck [(58720258, 0)]) _ _ = r; simp (disch := omega) [hX, hg, hY, hql, hEb, hll, hge, hget, hc10, hqn, hqn2, c17, c37, c21] at e; subst e; (try dsimp only); refine ⟨rfl, ?_⟩) | ((first | (refine W.ret ?_; (try simp only [outOf, thenW_ret, roundW]); refine endW.of (.inl rfl) rfl ?_) | refine endW.of (.inr rfl) rfl ?_); generalize e : endsC _ _ _ = r; simp (disch := omega) [hX, hg, hY, hql, hEb, hll, hge, hget, hc10, hqn, hqn2, c17, c37, c21] at e; subst e; (try dsimp only [goW]); (first | refine ⟨rfl, ?_⟩ | (refine hk2 ?_ _ _ _ _ (S.upd ?_ ?_) ?_; (focus ((exact herr); done)); (try dsimp only); omega; exact ut_; (try dsimp only); omega))))
      · have hn10 : ¬ ((c.toNat : Int) = 10) := fun e => h10 (UInt8.toNat_inj.1 (by
            have h9 : c.toNat = 10 := by omega
            rw [h9]; rfl))
        by_cases h92 : c = 92
        · have hc92 : (c.toNat : Int) = 92 := by rw [h92]; rfl
          have hqn2 : ¬ ((92 : Int) = (q.toNat : Int)) := by omega
          cases t1 with
          | nil =>
            have herr : textF q [c] ([] : List UInt8) k = none ∨ ∃ txt kk, textF q [c] ([] : List UInt8) k = some (txt, kk) ∧ valid txt = false := .inl (by unfold textF; rw [if_neg hq, if_neg h10, if_pos h92])
            have hil2 : s.length = i + 1 := by simpa using hlen.symm
            refine W.loop ?_
            repeat (first | refine sq_ ?_ | refine bl_ ?_ | ((first | refine rg_ ?_ | refine go_ ?_); generalize e : goR _ _ _ _ _ _ _ _ = r; simp (disch := omega) [hX, hg, hY, hql, hEb, hll, hge, hget, hc92, hqn, hqn2, hil2, c17, c37, c21] at e; replace e : some _ = _ := e; subst e; (try dsimp only [goW])) | refine ct_ rfl ?_ | refine cf_ rfl ?_ | refine sk_ ?_ | refine ex_ ?_ | (refine Wc.mkG 17 c17 (by kernel_rfl) rfl ?_; generalize e : entryC _ _ _ = r; simp (disch := omega) [hX, hg, hY, hql, hEb, hll, hge, hget, hc92, hqn, hqn2, hil2, c17, c37, c21] at e; subst e) | (refine Wc.mkG 37 c37 (by kernel_rfl) rfl ?_; generalize e : entryC _ _ _ = r; simp (disch := omega) [hX, hg, hY, hql, hEb, hll, hge, hget, hc92, hqn, hqn2, hil2, c17, c37, c21] at e; subst e) | (refine Wc.primM (f := 36) (p := (pBString 5)) (by kernel_rfl) ?_; generalize e : (pBString 5) _ _ = r; simp (disch := omega) [hX, hg, hY, hql, hEb, hll, hge, hget, hc92, hqn, hqn2, hil2, c17, c37, c21] at e; subst e; (try dsimp only); refine ⟨rfl, ?_⟩) | (refine Wc.primM (f := 51) (p := (pCopyCheck [(58720258, 0)])) (by kernel_rfl) ?_; generalize e : (pCopyCheck [(58720258, 0)]) _ _ = r; simp (disch := omega) [hX, hg, hY, hql, hEb, hll, hge, hget, hc92, hqn, hqn2, hil2, c17, c37, c21] at e; subst e; (try dsimp only); refine ⟨rfl, ?_⟩) | ((first | (refine W.ret ?_; (try simp only [outOf, thenW_ret, roundW]); refine endW.of (.inl rfl) rfl ?_) | refine endW.of (.inr rfl) rfl ?_); generalize e : endsC _ _ _ = r; simp (disch := omega) [hX, hg, hY, hql, hEb, hll, hge, hget, hc92, hqn, hqn2, hil2, c17, c37, c21] at e; subst e; (try dsimp only [goW]); (first | refine ⟨rfl, ?_⟩ | (refine hk2 ?_ _ _ _ _ (S.upd ?_ ?_) ?_; (focus ((exact herr); done)); (try dsimp only); omega; exact ut_; (try dsimp only); omega))))
          | cons x u =>
            obtain ⟨hlt2, hget2, hd2⟩ := get_of_dropG hd1
            have hge2 : s[i + 1] = x := by rw [List.getElem?_eq_getElem hlt2] at hget2; exact Option.some.inj hget2
            simp only [List.length_cons] at hlen hm
            have I0 := indexb_G [92, 34, 39, 110] x (by decide)
            have hto1 : ((i : Int) + 1).toNat = i + 1 := by omega
            cases hme : meantF x with
            | none =>
              rw [esc_no x hme] at I0
              have herr : textF q (c :: x :: u) ([] : List UInt8) k = none ∨ ∃ txt kk, textF q (c :: x :: u) ([] : List UInt8) k = some (txt, kk) ∧ valid txt = false := .inl (by unfold textF; rw [if_neg hq, if_neg h10, if_pos h92]; dsimp only; rw [hme])
              refine W.loop ?_
              repeat (first | refine sq_ ?_ | refine bl_ ?_ | ((first | refine rg_ ?_ | refine go_ ?_); generalize e : goR _ _ _ _ _ _ _ _ = r; simp (disch := omega) [hX, hg, hY, hql, hEb, hll, hge, hge2, hget, hget2, hto1, hc92, hqn, hqn2, c17, c37, c21] at e; replace e : some _ = _ := e; subst e; (try dsimp only [goW])) | refine ct_ rfl ?_ | refine cf_ rfl ?_ | refine sk_ ?_ | refine ex_ ?_ | (refine I0 _ ?_ _ fun n5 hn5 => ⟨rfl, ?_⟩; exact fit_; (try dsimp only at hn5)) | (refine Wc.mkG 17 c17 (by kernel_rfl) rfl ?_; generalize e : entryC _ _ _ = r; simp (disch := omega) [hX, hg, hY, hql, hEb, hll, hge, hge2, hget, hget2, hto1, hc92, hqn, hqn2, c17, c37, c21] at e; subst e) | (refine Wc.mkG 37 c37 (by kernel_rfl) rfl ?_; generalize e : entryC _ _ _ = r; simp (disch := omega) [hX, hg, hY, hql, hEb, hll, hge, hge2, hget, hget2, hto1, hc92, hqn, hqn2, c17, c37, c21] at e; subst e) | (refine Wc.primM (f := 36) (p := (pBString 5)) (by kernel_rfl) ?_; generalize e : (pBString 5) _ _ = r; simp (disch := omega) [hX, hg, hY, hql, hEb, hll, hge, hge2, hget, hget2, hto1, hc92, hqn, hqn2, c17, c37, c21] at e; subst e; (try dsimp only); refine ⟨rfl, ?_⟩) | (refine Wc.primM (f := 51) (p := (pCopyCheck [(58720258, 0)])) (by kernel_rfl) ?_; generalize e : (pCopyCheck [(58720258, 0)]) _ _ = r; simp (disch := omega) [hX, hg, hY, hql, hEb, hll, hge, hge2, hget, hget2, hto1, hc92, hqn, hqn2, c17, c37, c21] at e; subst e; (try dsimp only); refine ⟨rfl, ?_⟩) | ((first | (refine W.ret ?_; (try simp only [outOf, thenW_ret, roundW]); refine endW.of (.inl rfl) rfl ?_) | refine endW.of (.inr rfl) rfl ?_); generalize e : endsC _ _ _ = r; simp (disch := omega) [hX, hg, hY, hql, hEb, hll, hge, hge2, hget, hget2, hto1, hc92, hqn, hqn2, c17, c37, c21] at e; subst e; (try dsimp only [goW]); (first | refine ⟨rfl, ?_⟩ | (refine hk2 ?_ _ _ _ _ (S.upd ?_ ?_) ?_; (focus ((exact herr); done)); (try dsimp only); omega; exact ut_; (try dsimp only); omega))))
            | some m =>
              have htx2 : textF q (c :: x :: u) ([] : List UInt8) k = textF q u (([] : List UInt8) ++ [m]) (k + 2) := by
                conv => lhs; unfold textF
                rw [if_neg hq, if_neg h10, if_pos h92]
                dsimp only
                rw [hme]
              rw [htx2] at hk1 hk2
              have hxm : (x = 92 ∧ m = 92) ∨ (x = 34 ∧ m = 34) ∨ (x = 39 ∧ m = 39) ∨ (x = 110 ∧ m = 10) := by
                unfold meantF at hme
                split at hme
                · cases hme; exact .inl ⟨by assumption, rfl⟩
                · split at hme
                  · cases hme; exact .inr (.inl ⟨by assumption, rfl⟩)
                  · split at hme
                    · cases hme; exact .inr (.inr (.inl ⟨by assumption, rfl⟩))
                    · split at hme
                      · cases hme; exact .inr (.inr (.inr ⟨by assumption, rfl⟩))
                      · cases hme
              rcases hxm with ⟨hx, rfl⟩ | ⟨hx, rfl⟩ | ⟨hx, rfl⟩ | ⟨hx, rfl⟩
              · rw [show idxFrom x [92, 34, 39, 110] 0 = 0 by rw [hx]; rfl] at I0
                refine W.loop ?_
                repeat (first | refine sq_ ?_ | refine bl_ ?_ | ((first | refine rg_ ?_ | refine go_ ?_); generalize e : goR _ _ _ _ _ _ _ _ = r; simp (disch := omega) [hX, hg, hY, hql, hEb, hll, hge, hge2, hget, hget2, hto1, hc92, hqn, hqn2, c17, c37, c21] at e; replace e : some _ = _ := e; subst e; (try dsimp only [goW])) | refine ct_ rfl ?_ | refine cf_ rfl ?_ | refine sk_ ?_ | refine ex_ ?_ | (refine I0 _ ?_ _ fun n5 hn5 => ⟨rfl, ?_⟩; exact fit_; (try dsimp only at hn5)) | (refine Wc.mkG 17 c17 (by kernel_rfl) rfl ?_; generalize e : entryC _ _ _ = r; simp (disch := omega) [hX, hg, hY, hql, hEb, hll, hge, hge2, hget, hget2, hto1, hc92, hqn, hqn2, c17, c37, c21] at e; subst e) | (refine Wc.mkG 37 c37 (by kernel_rfl) rfl ?_; generalize e : entryC _ _ _ = r; simp (disch := omega) [hX, hg, hY, hql, hEb, hll, hge, hge2, hget, hget2, hto1, hc92, hqn, hqn2, c17, c37, c21] at e; subst e) | (refine Wc.primM (f := 36) (p := (pBString 5)) (by kernel_rfl) ?_; generalize e : (pBString 5) _ _ = r; simp (disch := omega) [hX, hg, hY, hql, hEb, hll, hge, hge2, hget, hget2, hto1, hc92, hqn, hqn2, c17, c37, c21] at e; subst e; (try dsimp only); refine ⟨rfl, ?_⟩) | (refine Wc.primM (f := 51) (p := (pCopyCheck [(58720258, 0)])) (by kernel_rfl) ?_; generalize e : (pCopyCheck [(58720258, 0)]) _ _ = r; simp (disch := omega) [hX, hg, hY, hql, hEb, hll, hge, hge2, hget, hget2, hto1, hc92, hqn, hqn2, c17, c37, c21] at e; subst e; (try dsimp only); refine ⟨rfl, ?_⟩) | ((first | (refine W.ret ?_; (try simp only [outOf, thenW_ret, roundW]); refine endW.of (.inl rfl) rfl ?_) | refine endW.of (.inr rfl) rfl ?_); generalize e : endsC _ _ _ = r; simp (disch := omega) [hX, hg, hY, hql, hEb, hll, hge, hge2, hget, hget2, hto1, hc92, hqn, hqn2, c17, c37, c21] at e; subst e; (try dsimp only [goW]); refine ⟨rfl, ?_⟩))
                show W tree.getF textLoop (dropped true _ _) _
                generalize e : dropped _ _ _ = r9
                simp (disch := omega) [hX, hg, hY, hql, hEb, hll] at e
                subst e
                simp only [List.nil_append] at hk1 hk2
                refine text_loop1 valid hV p d s q a L ts hts to hs h S K bq _ hb ?_ _ u [(92 : UInt8)] (i + 2) (k + 2) 0 _ _ _ _ _ _ _ _ _ _ (Nat.le_refl _) (by simpa using hd2) (by omega) (by simp) (by (try simp) <;> omega) ?_ ?_ ?_ (by omega) hk1 hk2
                · ((try dsimp only); omega)
                · ((try dsimp only); omega)
                · exact ut_
                · simp [lookupN]
              · rw [show idxFrom x [92, 34, 39, 110] 0 = 1 by rw [hx]; rfl] at I0
                refine W.loop ?_
                repeat (first | refine sq_ ?_ | refine bl_ ?_ | ((first | refine rg_ ?_ | refine go_ ?_); generalize e : goR _ _ _ _ _ _ _ _ = r; simp (disch := omega) [hX, hg, hY, hql, hEb, hll, hge, hge2, hget, hget2, hto1, hc92, hqn, hqn2, c17, c37, c21] at e; replace e : some _ = _ := e; subst e; (try dsimp only [goW])) | refine ct_ rfl ?_ | refine cf_ rfl ?_ | refine sk_ ?_ | refine ex_ ?_ | (refine I0 _ ?_ _ fun n5 hn5 => ⟨rfl, ?_⟩; exact fit_; (try dsimp only at hn5)) | (refine Wc.mkG 17 c17 (by kernel_rfl) rfl ?_; generalize e : entryC _ _ _ = r; simp (disch := omega) [hX, hg, hY, hql, hEb, hll, hge, hge2, hget, hget2, hto1, hc92, hqn, hqn2, c17, c37, c21] at e; subst e) | (refine Wc.mkG 37 c37 (by kernel_rfl) rfl ?_; generalize e : entryC _ _ _ = r; simp (disch := omega) [hX, hg, hY, hql, hEb, hll, hge, hge2, hget, hget2, hto1, hc92, hqn, hqn2, c17, c37, c21] at e; subst e) | (refine Wc.primM (f := 36) (p := (pBString 5)) (by kernel_rfl) ?_; generalize e : (pBString 5) _ _ = r; simp (disch := omega) [hX, hg, hY, hql, hEb, hll, hge, hge2, hget, hget2, hto1, hc92, hqn, hqn2, c17, c37, c21] at e; subst e; (try dsimp only); refine ⟨rfl, ?_⟩) | (refine Wc.primM (f := 51) (p := (pCopyCheck [(58720258, 0)])) (by kernel_rfl) ?_; generalize e : (pCopyCheck [(58720258, 0)]) _ _ = r; simp (disch := omega) [hX, hg, hY, hql, hEb, hll, hge, hge2, hget, hget2, hto1, hc92, hqn, hqn2, c17, c37, c21] at e; subst e; (try dsimp only); refine ⟨rfl, ?_⟩) | ((first | (refine W.ret ?_; (try simp only [outOf, thenW_ret, roundW]); refine endW.of (.inl rfl) rfl ?_) | refine endW.of (.inr rfl) rfl ?_); generalize e : endsC _ _ _ = r; simp (disch := omega) [hX, hg, hY, hql, hEb, hll, hge, hge2, hget, hget2, hto1, hc92, hqn, hqn2, c17, c37, c21] at e; subst e; (try dsimp only [goW]); refine ⟨rfl, ?_⟩))
                show W tree.getF textLoop (dropped true _ _) _
                generalize e : dropped _ _ _ = r9
                simp (disch := omega) [hX, hg, hY, hql, hEb, hll] at e
                subst e
                simp only [List.nil_append] at hk1 hk2
                refine text_loop1 valid hV p d s q a L ts hts to hs h S K bq _ hb ?_ _ u [(34 : UInt8)] (i + 2) (k + 2) 0 _ _ _ _ _ _ _ _ _ _ (Nat.le_refl _) (by simpa using hd2) (by omega) (by simp) (by (try simp) <;> omega) ?_ ?_ ?_ (by omega) hk1 hk2
                · ((try dsimp only); omega)
                · ((try dsimp only); omega)
                · exact ut_
                · simp [lookupN]
              · rw [show idxFrom x [92, 34, 39, 110] 0 = 2 by rw [hx]; rfl] at I0
                refine W.loop ?_
                repeat (first | refine sq_ ?_ | refine bl_ ?_ | ((first | refine rg_ ?_ | refine go_ ?_); generalize e : goR _ _ _ _ _ _ _ _ = r; simp (disch := omega) [hX, hg, hY, hql, hEb, hll, hge, hge2, hget, hget2, hto1, hc92, hqn, hqn2, c17, c37, c21] at e; replace e : some _ = _ := e; subst e; (try dsimp only [goW])) | refine ct_ rfl ?_ | refine cf_ rfl ?_ | refine sk_ ?_ | refine ex_ ?_ | (refine I0 _ ?_ _ fun n5 hn5 => ⟨rfl, ?_⟩; exact fit_; (try dsimp only at hn5)) | (refine Wc.mkG 17 c17 (by kernel_rfl) rfl ?_; generalize e : entryC _ _ _ = r; simp (disch := omega) [hX, hg, hY, hql, hEb, hll, hge, hge2, hget, hget2, hto1, hc92, hqn, hqn2, c17, c37, c21] at e; subst e) | (refine Wc.mkG 37 c37 (by kernel_rfl) rfl ?_; generalize e : entryC _ _ _ = r; simp (disch := omega) [hX, hg, hY, hql, hEb, hll, hge, hge2, hget, hget2, hto1, hc92, hqn, hqn2, c17, c37, c21] at e; subst e) | (refine Wc.primM (f := 36) (p := (pBString 5)) (by kernel_rfl) ?_; generalize e : (pBString 5) _ _ = r; simp (disch := omega) [hX, hg, hY, hql, hEb, hll, hge, hge2, hget, hget2, hto1, hc92, hqn, hqn2, c17, c37, c21] at e; subst e; (try dsimp only); refine ⟨rfl, ?_⟩) | (refine Wc.primM (f := 51) (p := (pCopyCheck [(58720258, 0)])) (by kernel_rfl) ?_; generalize e : (pCopyCheck [(58720258, 0)]) _ _ = r; simp (disch := omega) [hX, hg, hY, hql, hEb, hll, hge, hge2, hget, hget2, hto1, hc92, hqn, hqn2, c17, c37, c21] at e; subst e; (try dsimp only); refine ⟨rfl, ?_⟩) | ((first | (refine W.ret ?_; (try simp only [outOf, thenW_ret, roundW]); refine endW.of (.inl rfl) rfl ?_) | refine endW.of (.inr rfl) rfl ?_); generalize e : endsC _ _ _ = r; simp (disch := omega) [hX, hg, hY, hql, hEb, hll, hge, hge2, hget, hget2, hto1, hc92, hqn, hqn2, c17, c37, c21] at e; subst e; (try dsimp only [goW]); refine ⟨rfl, ?_⟩))
                show W tree.getF textLoop (dropped true _ _) _
                generalize e : dropped _ _ _ = r9
                simp (disch := omega) [hX, hg, hY, hql, hEb, hll] at e
                subst e
                simp only [List.nil_append] at hk1 hk2
                refine text_loop1 valid hV p d s q a L ts hts to hs h S K bq _ hb ?_ _ u [(39 : UInt8)] (i + 2) (k + 2) 0 _ _ _ _ _ _ _ _ _ _ (Nat.le_refl _) (by simpa using hd2) (by omega) (by simp) (by (try simp) <;> omega) ?_ ?_ ?_ (by omega) hk1 hk2
                · ((try dsimp only); omega)
                · ((try dsimp only); omega)
                · exact ut_
                · simp [lookupN]
              · rw [show idxFrom x [92, 34, 39, 110] 0 = 3 by rw [hx]; rfl] at I0
                refine W.loop ?_
                repeat (first | refine sq_ ?_ | refine bl_ ?_ | ((first | refine rg_ ?_ | refine go_ ?_); generalize e : goR _ _ _ _ _ _ _ _ = r; simp (disch := omega) [hX, hg, hY, hql, hEb, hll, hge, hge2, hget, hget2, hto1, hc92, hqn, hqn2, c17, c37, c21] at e; replace e : some _ = _ := e; subst e; (try dsimp only [goW])) | refine ct_ rfl ?_ | refine cf_ rfl ?_ | refine sk_ ?_ | refine ex_ ?_ | (refine I0 _ ?_ _ fun n5 hn5 => ⟨rfl, ?_⟩; exact fit_; (try dsimp only at hn5)) | (refine Wc.mkG 17 c17 (by kernel_rfl) rfl ?_; generalize e : entryC _ _ _ = r; simp (disch := omega) [hX, hg, hY, hql, hEb, hll, hge, hge2, hget, hget2, hto1, hc92, hqn, hqn2, c17, c37, c21] at e; subst e) | (refine Wc.mkG 37 c37 (by kernel_rfl) rfl ?_; generalize e : entryC _ _ _ = r; simp (disch := omega) [hX, hg, hY, hql, hEb, hll, hge, hge2, hget, hget2, hto1, hc92, hqn, hqn2, c17, c37, c21] at e; subst e) | (refine Wc.primM (f := 36) (p := (pBString 5)) (by kernel_rfl) ?_; generalize e : (pBString 5) _ _ = r; simp (disch := omega) [hX, hg, hY, hql, hEb, hll, hge, hge2, hget, hget2, hto1, hc92, hqn, hqn2, c17, c37, c21] at e; subst e; (try dsimp only); refine ⟨rfl, ?_⟩) | (refine Wc.primM (f := 51) (p := (pCopyCheck [(58720258, 0)])) (by kernel_rfl) ?_; generalize e : (pCopyCheck [(58720258, 0)]) _ _ = r; simp (disch := omega) [hX, hg, hY, hql, hEb, hll, hge, hge2, hget, hget2, hto1, hc92, hqn, hqn2, c17, c37, c21] at e; subst e; (try dsimp only); refine ⟨rfl, ?_⟩) | ((first | (refine W.ret ?_; (try simp only [outOf, thenW_ret, roundW]); refine endW.of (.inl rfl) rfl ?_) | refine endW.of (.inr rfl) rfl ?_); generalize e : endsC _ _ _ = r; simp (disch := omega) [hX, hg, hY, hql, hEb, hll, hge, hge2, hget, hget2, hto1, hc92, hqn, hqn2, c17, c37, c21] at e; subst e; (try dsimp only [goW]); refine ⟨rfl, ?_⟩))
                show W tree.getF textLoop (dropped true _ _) _
                generalize e : dropped _ _ _ = r9
                simp (disch := omega) [hX, hg, hY, hql, hEb, hll] at e
                subst e
                simp only [List.nil_append] at hk1 hk2
                refine text_loop1 valid hV p d s q a L ts hts to hs h S K bq _ hb ?_ _ u [(10 : UInt8)] (i + 2) (k + 2) 0 _ _ _ _ _ _ _ _ _ _ (Nat.le_refl _) (by simpa using hd2) (by omega) (by simp) (by (try simp) <;> omega) ?_ ?_ ?_ (by omega) hk1 hk2
                · ((try dsimp only); omega)
                · ((try dsimp only); omega)
                · exact ut_
                · simp [lookupN]
        · have hn92 : ¬ ((c.toNat : Int) = 92) := fun e => h92 (UInt8.toNat_inj.1 (by
            have h9 : c.toNat = 92 := by omega
            rw [h9]; rfl))
          have htx2 : textF q (c :: t1) ([] : List UInt8) k = textF q t1 (([] : List UInt8) ++ [c]) (k + 1) := by
            conv => lhs; unfold textF
            rw [if_neg hq, if_neg h10, if_neg h92]
          rw [htx2] at hk1 hk2
          refine W.loop ?_
          repeat (first | refine sq_ ?_ | refine bl_ ?_ | ((first | refine rg_ ?_ | refine go_ ?_); generalize e : goR _ _ _ _ _ _ _ _ = r; simp (disch := omega) [hX, hg, hY, hql, hEb, hll, hge, hget, hqn, hn10, hn92, c17, c37, c21] at e; replace e : some _ = _ := e; subst e; (try dsimp only [goW])) | refine ct_ rfl ?_ | refine cf_ rfl ?_ | refine sk_ ?_ | refine ex_ ?_ | (refine Wc.mkG 17 c17 (by kernel_rfl) rfl ?_; generalize e : entryC _ _ _ = r; simp (disch := omega) [hX, hg, hY, hql, hEb, hll, hge, hget, hqn, hn10, hn92, c17, c37, c21] at e; subst e) | (refine Wc.mkG 37 c37 (by kernel_rfl) rfl ?_; generalize e : entryC _ _ _ = r; simp (disch := omega) [hX, hg, hY, hql, hEb, hll, hge, hget, hqn, hn10, hn92, c17, c37, c21] at e; subst e) | (refine Wc.primM (f := 36) (p := (pBString 5)) (by kernel_rfl) ?_; generalize e : (pBString 5) _ _ = r; simp (disch := omega) [hX, hg, hY, hql, hEb, hll, hge, hget, hqn, hn10, hn92, c17, c37, c21] at e; subst e; (try dsimp only); refine ⟨rfl, ?_⟩) | (refine Wc.primM (f := 51) (p := (pCopyCheck [(58720258, 0)])) (by kernel_rfl) ?_; generalize e : (pCopyCheck [(58720258, 0)]) _ _ = r; simp (disch := omega) [hX, hg, hY, hql, hEb, hll, hge, hget, hqn, hn10, hn92, c17, c37, c21] at e; subst e; (try dsimp only); refine ⟨rfl, ?_⟩) | ((first | (refine W.ret ?_; (try simp only [outOf, thenW_ret, roundW]); refine endW.of (.inl rfl) rfl ?_) | refine endW.of (.inr rfl) rfl ?_); generalize e : endsC _ _ _ = r; simp (disch := omega) [hX, hg, hY, hql, hEb, hll, hge, hget, hqn, hn10, hn92, c17, c37, c21] at e; subst e; (try dsimp only [goW]); refine ⟨rfl, ?_⟩))
          show W tree.getF textLoop (dropped true _ _) _
          generalize e : dropped _ _ _ = r9
          simp (disch := omega) [hX, hg, hY, hql, hEb, hll] at e
          subst e
          simp only [List.nil_append] at hk1 hk2
          refine text_loop1 valid hV p d s q a L ts hts to hs h S K bq _ hb ?_ _ t1 [c] (i + 1) (k + 1) 0 _ _ _ _ _ _ _ _ _ _ (Nat.le_refl _) (by simpa using hd1) (by omega) (by simp) (by (try simp) <;> omega) ?_ ?_ ?_ (by omega) hk1 hk2
          · ((try dsimp only); omega)
          · ((try dsimp only); omega)
          · exact ut_
          · simp [lookupN]

theorem text_F (valid : Bytes → Bool) (hV : ∀ t : Bytes, t.length ≤ 60000 → Pe 35 [.str t] (.bool (valid t))) {n0 : Nat} {E0 : List (Nat × CObj)} (p d : Nat) (s : List UInt8) (q : UInt8) (t : List UInt8) (a : Nat) (L : CVal) (ts : List CVal) (hts : ts.length ≤ 100000) (to : Int) (hs : s.length < 50000) (hda : s.drop a = q :: t) (hlen : a + (q :: t).length = s.length) (h : CHeap) (S : St n0 E0 p s (a : Int) L ts 0 to h) (K : CVal → CHeap → Prop)
    (hk1 : ∀ txt kk, textF q t [] 0 = some (txt, kk) → valid txt = true → ∀ h' L', St n0 E0 p s ((a + (kk + 1) : Nat) : Int) L' (ts ++ [tokC 3 txt 0 a]) 0 to h' → h.next ≤ h'.next → K (.tup []) h')
    (hk2 : (textF q t [] 0 = none ∨ ∃ txt kk, textF q t [] 0 = some (txt, kk) ∧ valid txt = false) → ∀ h' at' L' ts', St n0 E0 p s at' L' ts' 2 (a : Int) h' → h.next ≤ h'.next → K (.tup []) h') : Wc tree.getF 21 [.ptr p d 0] h K := by
  have hg := S.g
  have hf := S.f
  have hp := S.lt
  obtain ⟨hlt, hget, hd1⟩ := get_of_dropG hda
  have hge : s[a] = q := by rw [List.getElem?_eq_getElem hlt] at hget; exact Option.some.inj hget
  simp only [List.length_cons] at hlen
  obtain ⟨hu, hut, hX⟩ := fx4 hf
  have hY := fx5 hf hg
  refine Wc.mkG 21 c21 (by kernel_rfl) rfl ?_
  generalize e : entryC _ _ _ = r
  simp (disch := omega) [hX, hg, hY, c21] at e
  subst e
  repeat (first | refine sq_ ?_ | refine bl_ ?_ | ((first | refine rg_ ?_ | refine go_ ?_); generalize e : goR _ _ _ _ _ _ _ _ = r; simp (disch := omega) [hX, hg, hY, hge, hget, c21] at e; replace e : some _ = _ := e; subst e; (try dsimp only [goW])) | refine ct_ rfl ?_ | refine cf_ rfl ?_ | refine sk_ ?_ | refine ex_ ?_)
  refine text_loop0 valid hV p d s q a L ts hts to hs h S K _ ?_ t (a + 1) 0 _ _ _ _ _ _ _ _ _ _ hd1 (by omega) ?_ ?_ rfl hk1 hk2
  · (try dsimp only); omega
  · (try dsimp only); omega
  · exact ut_

end Go.Proofs.YthblmflngjofjaaDoor.IrW
