/- What the functions of the law 'WordMade' do: part 8 of 8. -/
import Derived.Test.YtnllehllomllcaaDoorLx7
namespace Go.Proofs.YtnllehllomllcaaDoor.IrM
open Go Go.CI
set_option maxRecDepth 100000
set_option linter.unusedVariables false
set_option linter.unusedSimpArgs false
attribute [local irreducible] W Wo Wc WoR
theorem wMA1 {P : Prop} (h : P := by refine Wc.mkG 15 c15 (by kernel_rfl) rfl ?_; generalize e : zA9 _ _ _ = r; simp (disch := omega) [hX, hg, hY, c15] at e; subst e; repeat (first | refine sq_ ?_ | refine bl_ ?_ | ((first | refine rg_ ?_ | refine go_ ?_); generalize e : goR _ _ _ _ _ _ _ _ = r; simp (disch := omega) [hX, hg, hY, List.length_map, c15] at e; replace e : some _ = _ := e; subst e; (try dsimp only [goW])) | refine ct_ rfl ?_ | refine cf_ rfl ?_ | refine sk_ ?_ | refine ex_ ?_ | ((first | (refine W.ret ?_; (try simp only [zAg, zA1, zA7]); refine endW.of (.inl rfl) rfl ?_) | refine endW.of (.inr rfl) rfl ?_); generalize e : zAj _ _ _ = r; simp (disch := omega) [hX, hg, hY, List.length_map, c15] at e; subst e; (try dsimp only [goW]); (refine hk _ _ ?_ ?_; omega; exact ut_)))) : P := h

/-- A list of bytes, nil or not. -/
def Nums (L : CVal) (len : Nat) : Prop := L = .nils ∧ len = 0 ∨ ∃ xs : List Int, L = .imm .none 1 (xs.map (CVal.int .u8)) ∧ xs.length = len ∧ ∀ x ∈ xs, 0 ≤ x ∧ x < 256
abbrev pk (L : CVal) (n : Int) : CObj := .cells [L, .int .i64 n]
theorem num_nil (n m : Int) (hm : 1 ≤ m) (hm2 : m ≤ 200) (hn0 : 0 ≤ n)  (h : CHeap) (p d : Nat) (hf : Fit h) (hg : zA3 h.ents p = some (pk (.nils) n)) (hp : p < h.next) (K : CVal → CHeap → Prop) (hk : ∀ n2 ty, h.next ≤ n2 → zA4 ty n2 → K (.int .i64 0) ⟨h.ents, n2, ty⟩) : Wc tree.getF 15 [.ptr p d 0, .int .i64 m] h K := by
  obtain ⟨hu, hut, hX⟩ := fx4 hf
  have hY := fx5 hf hg
  exact wMA1

theorem num_end (n m : Int) (hm : 1 ≤ m) (hm2 : m ≤ 200)  (xs : List Int) (hxl : xs.length ≤ 1000) (hn : (xs.length : Int) ≤ n) (h : CHeap) (p d : Nat) (hf : Fit h) (hg : zA3 h.ents p = some (pk (.imm .none 1 (xs.map (CVal.int .u8))) n)) (hp : p < h.next) (K : CVal → CHeap → Prop) (hk : ∀ n2 ty, h.next ≤ n2 → zA4 ty n2 → K (.int .i64 0) ⟨h.ents, n2, ty⟩) : Wc tree.getF 15 [.ptr p d 0, .int .i64 m] h K := by
  obtain ⟨hu, hut, hX⟩ := fx4 hf
  have hY := fx5 hf hg
  exact wMA1

theorem num_more (n m : Int) (hm : 1 ≤ m) (hm2 : m ≤ 200)  (xs : List Int) (hxl : xs.length ≤ 1000) (j : Nat) (hj : n = (j : Int)) (x : Int) (hx : xs[j]? = some x) (hx0 : 0 ≤ x ∧ x < 256) (v : Int) (hv : x.tmod m = v) (h : CHeap) (p d : Nat) (hf : Fit h) (hg : zA3 h.ents p = some (pk (.imm .none 1 (xs.map (CVal.int .u8))) n)) (hp : p < h.next) (K : CVal → CHeap → Prop) (hk : ∀ n2 ty, h.next ≤ n2 → zA4 ty n2 → K (.int .i64 v) ⟨zA0 h.ents p (pk (.imm .none 1 (xs.map (CVal.int .u8))) (n + 1)), n2, ty⟩) : Wc tree.getF 15 [.ptr p d 0, .int .i64 m] h K := by
  obtain ⟨hu, hut, hX⟩ := fx4 hf
  have hY := fx5 hf hg
  obtain ⟨hjl, hjx⟩ := List.getElem?_eq_some_iff.1 hx
  have hn := zG3 (CVal.int .u8) xs j _ hx
  have hm0 : ¬ m = 0 := by omega
  have hjn : n.toNat = j := by omega
  have hj1 : (n + 1 - 1).toNat = j := by omega
  have hjj : ((j : Nat) : Int).toNat = j := by omega
  have hnw : n + 1 - 1 = n := by omega
  refine Wc.mkG 15 c15 (by kernel_rfl) rfl ?_
  generalize e : zA9 _ _ _ = r
  simp (disch := omega) [hX, hg, hY, c15] at e
  subst e
  repeat (first | refine sq_ ?_ | refine bl_ ?_ | ((first | refine rg_ ?_ | refine go_ ?_); generalize e : goR _ _ _ _ _ _ _ _ = r; simp (disch := omega) [hX, hg, hY, List.length_map, hn, hv, hm0, hjn, hj1, hjj, hnw, c15] at e; replace e : some _ = _ := e; subst e; (try dsimp only [goW])) | refine ct_ rfl ?_ | refine cf_ rfl ?_ | refine sk_ ?_ | refine ex_ ?_ | ((first | (refine W.ret ?_; (try simp only [zAg, zA1, zA7]); refine endW.of (.inl rfl) rfl ?_) | refine endW.of (.inr rfl) rfl ?_); generalize e : zAj _ _ _ = r; simp (disch := omega) [hX, hg, hY, List.length_map, hn, hv, hm0, hjn, hj1, hjj, hnw, c15] at e; subst e; (try dsimp only [goW]); (refine hk _ _ ?_ ?_; omega; exact ut_)))

theorem num_L (L : CVal) (len : Nat) (hL : Nums L len) (hlen : len ≤ 1000) (n m : Int) (hn0 : 0 ≤ n) (hm : 1 ≤ m) (hm2 : m ≤ 200) (h : CHeap) (p d : Nat) (hf : Fit h) (hg : zA3 h.ents p = some (pk L n)) (hp : p < h.next) (K : CVal → CHeap → Prop)
    (hk : ∀ n2 ty v n', h.next ≤ n2 → zA4 ty n2 → 0 ≤ v → v < m → 0 ≤ n' → K (.int .i64 v) ⟨zA0 h.ents p (pk L n'), n2, ty⟩) : Wc tree.getF 15 [.ptr p d 0, .int .i64 m] h K := by
  have same : ∀ n2 ty, h.next ≤ n2 → zA4 ty n2 → K (.int .i64 0) ⟨h.ents, n2, ty⟩ := by
    intro n2 ty h1 h2
    have := hk n2 ty 0 n h1 h2 (by omega) (by omega) hn0
    rwa [zAm hg] at this
  rcases hL with ⟨rfl, rfl⟩ | ⟨xs, rfl, rfl, hxs⟩
  · exact num_nil n m hm hm2 hn0 h p d hf hg hp K same
  · by_cases hn : (xs.length : Int) ≤ n
    · exact num_end n m hm hm2 xs (by omega) hn h p d hf hg hp K same
    · obtain ⟨j, hj⟩ : ∃ j : Nat, n = (j : Int) := ⟨n.toNat, by omega⟩
      have hjl : j < xs.length := by omega
      have hx : xs[j]? = some xs[j] := List.getElem?_eq_getElem hjl
      have hx0 := hxs _ (List.getElem_mem hjl)
      refine num_more n m hm hm2 xs (by omega) j hj _ hx hx0 _ rfl h p d hf hg hp K ?_
      intro n2 ty h1 h2
      exact hk n2 ty _ _ h1 h2 (Int.tmod_nonneg _ hx0.1) (Int.tmod_lt_of_pos _ (by omega)) (by omega)
theorem plain_1 (n : Int) (q1 r1 : Int) (hq1 : (n).tdiv 10 = q1) (hr1 : (n).tmod 10 = r1) (hb1 : 0 ≤ r1 ∧ r1 < 10) (hc1 : 0 ≤ q1 ∧ q1 < 1000) (hz : q1 = 0) : Pu tree.getF 36 [.int .u64 n] (.str [UInt8.ofNat (48 + r1).toNat]) := by
  intro h hf K hk
  obtain ⟨hu, hut, hX⟩ := fx4 hf

  refine Wc.mkG 36 c36 (by kernel_rfl) rfl ?_
  generalize e : zA9 _ _ _ = r
  simp (disch := omega) [hX, zAa, zA6, hq1, hr1, hz, c36] at e
  subst e
  repeat (first | refine sq_ ?_ | refine bl_ ?_ | ((first | refine rg_ ?_ | refine go_ ?_); generalize e : goR _ _ _ _ _ _ _ _ = r; simp (disch := omega) [hX, zAa, zA6, hq1, hr1, hz, c36] at e; replace e : some _ = _ := e; subst e; (try dsimp only [goW])) | refine ct_ rfl ?_ | refine cf_ rfl ?_ | refine sk_ ?_ | refine ex_ ?_ | (refine W.loop ?_; try (generalize e : dropped _ _ _ = r; simp (disch := omega) [hX, zAa, zA6, hq1, hr1, hz, c36] at e; subst e; try dsimp only)) | ((first | (refine W.ret ?_; (try simp only [zAg, zA1, zA7]); refine endW.of (.inl rfl) rfl ?_) | refine endW.of (.inr rfl) rfl ?_); generalize e : zAj _ _ _ = r; simp (disch := omega) [hX, zAa, zA6, hq1, hr1, hz, c36] at e; subst e; (try dsimp only [goW]); (refine hk _ _ ?_ ?_; omega; exact ut_)))

theorem plain_2 (n : Int) (q1 r1 : Int) (hq1 : (n).tdiv 10 = q1) (hr1 : (n).tmod 10 = r1) (hb1 : 0 ≤ r1 ∧ r1 < 10) (hc1 : 0 ≤ q1 ∧ q1 < 1000) (hy1 : ¬ q1 = 0) (q2 r2 : Int) (hq2 : (q1).tdiv 10 = q2) (hr2 : (q1).tmod 10 = r2) (hb2 : 0 ≤ r2 ∧ r2 < 10) (hc2 : 0 ≤ q2 ∧ q2 < 1000) (hz : q2 = 0) : Pu tree.getF 36 [.int .u64 n] (.str [UInt8.ofNat (48 + r2).toNat, UInt8.ofNat (48 + r1).toNat]) := by
  intro h hf K hk
  obtain ⟨hu, hut, hX⟩ := fx4 hf

  refine Wc.mkG 36 c36 (by kernel_rfl) rfl ?_
  generalize e : zA9 _ _ _ = r
  simp (disch := omega) [hX, zAa, zA6, hq1, hr1, hq2, hr2, hz, c36] at e
  subst e
  repeat (first | refine sq_ ?_ | refine bl_ ?_ | ((first | refine rg_ ?_ | refine go_ ?_); generalize e : goR _ _ _ _ _ _ _ _ = r; simp (disch := omega) [hX, zAa, zA6, hq1, hr1, hq2, hr2, hz, c36] at e; replace e : some _ = _ := e; subst e; (try dsimp only [goW])) | refine ct_ rfl ?_ | refine cf_ rfl ?_ | refine sk_ ?_ | refine ex_ ?_ | (refine W.loop ?_; try (generalize e : dropped _ _ _ = r; simp (disch := omega) [hX, zAa, zA6, hq1, hr1, hq2, hr2, hz, c36] at e; subst e; try dsimp only)) | ((first | (refine W.ret ?_; (try simp only [zAg, zA1, zA7]); refine endW.of (.inl rfl) rfl ?_) | refine endW.of (.inr rfl) rfl ?_); generalize e : zAj _ _ _ = r; simp (disch := omega) [hX, zAa, zA6, hq1, hr1, hq2, hr2, hz, c36] at e; subst e; (try dsimp only [goW]); (refine hk _ _ ?_ ?_; omega; exact ut_)))

theorem plain_3 (n : Int) (q1 r1 : Int) (hq1 : (n).tdiv 10 = q1) (hr1 : (n).tmod 10 = r1) (hb1 : 0 ≤ r1 ∧ r1 < 10) (hc1 : 0 ≤ q1 ∧ q1 < 1000) (hy1 : ¬ q1 = 0) (q2 r2 : Int) (hq2 : (q1).tdiv 10 = q2) (hr2 : (q1).tmod 10 = r2) (hb2 : 0 ≤ r2 ∧ r2 < 10) (hc2 : 0 ≤ q2 ∧ q2 < 1000) (hy2 : ¬ q2 = 0) (q3 r3 : Int) (hq3 : (q2).tdiv 10 = q3) (hr3 : (q2).tmod 10 = r3) (hb3 : 0 ≤ r3 ∧ r3 < 10) (hc3 : 0 ≤ q3 ∧ q3 < 1000) (hz : q3 = 0) : Pu tree.getF 36 [.int .u64 n] (.str [UInt8.ofNat (48 + r3).toNat, UInt8.ofNat (48 + r2).toNat, UInt8.ofNat (48 + r1).toNat]) := by
  intro h hf K hk
  obtain ⟨hu, hut, hX⟩ := fx4 hf

  refine Wc.mkG 36 c36 (by kernel_rfl) rfl ?_
  generalize e : zA9 _ _ _ = r
  simp (disch := omega) [hX, zAa, zA6, hq1, hr1, hq2, hr2, hq3, hr3, hz, c36] at e
  subst e
  repeat (first | refine sq_ ?_ | refine bl_ ?_ | ((first | refine rg_ ?_ | refine go_ ?_); generalize e : goR _ _ _ _ _ _ _ _ = r; simp (disch := omega) [hX, zAa, zA6, hq1, hr1, hq2, hr2, hq3, hr3, hz, c36] at e; replace e : some _ = _ := e; subst e; (try dsimp only [goW])) | refine ct_ rfl ?_ | refine cf_ rfl ?_ | refine sk_ ?_ | refine ex_ ?_ | (refine W.loop ?_; try (generalize e : dropped _ _ _ = r; simp (disch := omega) [hX, zAa, zA6, hq1, hr1, hq2, hr2, hq3, hr3, hz, c36] at e; subst e; try dsimp only)) | ((first | (refine W.ret ?_; (try simp only [zAg, zA1, zA7]); refine endW.of (.inl rfl) rfl ?_) | refine endW.of (.inr rfl) rfl ?_); generalize e : zAj _ _ _ = r; simp (disch := omega) [hX, zAa, zA6, hq1, hr1, hq2, hr2, hq3, hr3, hz, c36] at e; subst e; (try dsimp only [goW]); (refine hk _ _ ?_ ?_; omega; exact ut_)))

/-- Of small numbers: three digits at most. -/
theorem plain_L (n : Int) (h0 : 0 ≤ n) (h1 : n < 1000) : ∃ S : List UInt8, 1 ≤ S.length ∧ S.length ≤ 3 ∧ Pu tree.getF 36 [.int .u64 n] (.str S) := by
  have f : ∀ x : Int, 0 ≤ x → x < 1000 → (0 ≤ x.tmod 10 ∧ x.tmod 10 < 10) ∧ (0 ≤ x.tdiv 10 ∧ x.tdiv 10 < 1000) ∧ 10 * x.tdiv 10 ≤ x := by
    intro x g0 g1
    have h1 := Int.tmod_nonneg 10 g0
    have h2 := Int.tmod_lt_of_pos x (show (0 : Int) < 10 by omega)
    have h3 := Int.mul_tdiv_add_tmod x 10
    have h4 := Int.tdiv_nonneg g0 (show (0 : Int) ≤ 10 by omega)
    omega
  have f1 := f n h0 h1
  by_cases z1 : n.tdiv 10 = 0
  · exact ⟨_, by simp, by simp, plain_1 n _ _ rfl rfl f1.1 f1.2.1 z1⟩
  have f2 := f (n.tdiv 10) (by omega) (by omega)
  by_cases z2 : (n.tdiv 10).tdiv 10 = 0
  · exact ⟨_, by simp, by simp, plain_2 n _ _ rfl rfl f1.1 f1.2.1 z1 _ _ rfl rfl f2.1 f2.2.1 z2⟩
  have f3 := f ((n.tdiv 10).tdiv 10) (by omega) (by omega)
  by_cases z3 : ((n.tdiv 10).tdiv 10).tdiv 10 = 0
  · exact ⟨_, by simp, by simp, plain_3 n _ _ rfl rfl f1.1 f1.2.1 z1 _ _ rfl rfl f2.1 f2.2.1 z2 _ _ rfl rfl f3.1 f3.2.1 z3⟩
  exfalso
  omega

theorem tens_P (n : Int) (h0 : 0 ≤ n) (h1 : n < 1000) (S : List UInt8) (PL : Pu tree.getF 36 [.int .u64 n] (.str S)) : Pu tree.getF 18 [.int .i64 n] (.str S) := by
  intro h hf K hk
  obtain ⟨hu, hut, hX⟩ := fx4 hf

  refine Wc.mkG 18 c18 (by kernel_rfl) rfl ?_
  generalize e : zA9 _ _ _ = r
  simp (disch := omega) [hX, zAa, c18] at e
  subst e
  repeat (first | refine sq_ ?_ | refine bl_ ?_ | ((first | refine rg_ ?_ | refine go_ ?_); generalize e : goR _ _ _ _ _ _ _ _ = r; simp (disch := omega) [hX, zAa, c18] at e; replace e : some _ = _ := e; subst e; (try dsimp only [goW])) | refine ct_ rfl ?_ | refine cf_ rfl ?_ | refine sk_ ?_ | refine ex_ ?_ | (refine W.loop ?_; try (generalize e : dropped _ _ _ = r; simp (disch := omega) [hX, zAa, c18] at e; subst e; try dsimp only)) | (refine PL _ ?_ _ fun n1 tyn1 hn1 hun1 => ⟨rfl, ?_⟩; exact fit_; (try dsimp only at hn1)) | ((first | (refine W.ret ?_; (try simp only [zAg, zA1, zA7]); refine endW.of (.inl rfl) rfl ?_) | refine endW.of (.inr rfl) rfl ?_); generalize e : zAj _ _ _ = r; simp (disch := omega) [hX, zAa, c18] at e; subst e; (try dsimp only [goW]); (refine hk _ _ ?_ ?_; omega; exact ut_)))

theorem tens_L (n : Int) (h0 : 0 ≤ n) (h1 : n < 1000) : ∃ S : List UInt8, 1 ≤ S.length ∧ S.length ≤ 3 ∧ Pu tree.getF 18 [.int .i64 n] (.str S) := by
  obtain ⟨S, h2, h3, P⟩ := plain_L n h0 h1
  exact ⟨S, h2, h3, tens_P n h0 h1 S P⟩

theorem word_P (L : CVal) (len : Nat) (hL : Nums L len) (hlen : len ≤ 1000) (n : Int) (hn0 : 0 ≤ n) (h : CHeap) (p d : Nat) (hf : Fit h) (hg : zA3 h.ents p = some (pk L n)) (hp : p < h.next) (K : CVal → CHeap → Prop)
    (hk : ∀ n2 ty t j, h.next ≤ n2 → zA4 ty n2 → 1 ≤ t.length → t.length ≤ 8 → 0 ≤ j → K (.str t) ⟨zA0 h.ents p (pk L j), n2, ty⟩) : Wc tree.getF 16 [.ptr p d 0] h K := by
  obtain ⟨hu, hut, hX⟩ := fx4 hf
  have hY := fx5 hf hg
  refine Wc.mkG 16 c16 (by kernel_rfl) rfl ?_
  generalize e : zA9 _ _ _ = r
  simp (disch := omega) [hX, hg, hY, c16] at e
  subst e
  repeat' (first
    | refine sq_ ?_
    | refine bl_ ?_
    | ((first | refine rg_ ?_ | refine go_ ?_); generalize e : goR _ _ _ _ _ _ _ _ = r; simp (disch := omega) [hX, hg, hY, c16] at e; replace e : some _ = _ := e; subst e; (try dsimp only [goW]))
    | refine ct_ rfl ?_
    | refine cf_ rfl ?_
    | refine sk_ ?_
    | refine ex_ ?_
    | (refine num_L L len hL hlen _ 18 hn0 (by omega) (by omega) _ p d ?_ ?_ ?_ _ fun n1 ty1 v1 j1 hn1 hun1 hv1 hw1 hj1 => ⟨rfl, ?_⟩; exact fit_; exact ge_; (try dsimp only); omega; (try dsimp only at hn1); (rcases (show v1 = 0 ∨ v1 = 1 ∨ v1 = 2 ∨ v1 = 3 ∨ v1 = 4 ∨ v1 = 5 ∨ v1 = 6 ∨ v1 = 7 ∨ v1 = 8 ∨ v1 = 9 ∨ v1 = 10 ∨ v1 = 11 ∨ v1 = 12 ∨ v1 = 13 ∨ v1 = 14 ∨ v1 = 15 ∨ v1 = 16 ∨ v1 = 17 by omega) with rfl | rfl | rfl | rfl | rfl | rfl | rfl | rfl | rfl | rfl | rfl | rfl | rfl | rfl | rfl | rfl | rfl | rfl))
    | ((first | (refine W.ret ?_; (try simp only [zAg, zA1, zA7]); refine endW.of (.inl rfl) rfl ?_) | refine endW.of (.inr rfl) rfl ?_); generalize e : zAj _ _ _ = r; simp (disch := omega) [hX, hg, hY, c16] at e; subst e; (try dsimp only [goW]); (refine hk _ _ _ j1 ?_ ?_ ?_ ?_ ?_; omega; exact ut_; (focus (simp; done)); (focus (simp; done)); assumption)))

end Go.Proofs.YtnllehllomllcaaDoor.IrM
namespace Go.Proofs.YtnllehllomllcaaDoor.IrM
open Go Go.CI
set_option maxRecDepth 100000
set_option maxHeartbeats 4000000
set_option linter.unusedVariables false
set_option linter.unusedSimpArgs false
attribute [local irreducible] W Wo Wc WoR
theorem cls (t : List UInt8) : ∃ c1 c2 c3 c4, (t == [115, 116, 114, 105, 110, 103]) = c1 ∧ (t == [98, 121, 116, 101, 115]) = c2 ∧ (t == [73]) = c3 ∧ (t == [77]) = c4 ∧
    ((c1, c2, c3, c4) = (true, false, false, false) ∨ (c1, c2, c3, c4) = (false, true, false, false) ∨ (c1, c2, c3, c4) = (false, false, true, false) ∨ (c1, c2, c3, c4) = (false, false, false, true) ∨ (c1, c2, c3, c4) = (false, false, false, false)) := by
  refine ⟨_, _, _, _, rfl, rfl, rfl, rfl, ?_⟩
  by_cases h1 : t = [115, 116, 114, 105, 110, 103]
  · subst h1; exact .inl rfl
  by_cases h2 : t = [98, 121, 116, 101, 115]
  · subst h2; exact .inr (.inl rfl)
  by_cases h3 : t = [73]
  · subst h3; exact .inr (.inr (.inl rfl))
  by_cases h4 : t = [77]
  · subst h4; exact .inr (.inr (.inr (.inl rfl)))
  have e1 : (t == [115, 116, 114, 105, 110, 103]) = false := by simpa using h1
  have e2 : (t == [98, 121, 116, 101, 115]) = false := by simpa using h2
  have e3 : (t == [73]) = false := by simpa using h3
  have e4 : (t == [77]) = false := by simpa using h4
  rw [e1, e2, e3, e4]
  exact .inr (.inr (.inr (.inr rfl)))

theorem field_P (L : CVal) (len : Nat) (hL : Nums L len) (hlen : len ≤ 1000) (n : Int) (hn0 : 0 ≤ n) (h : CHeap) (p d : Nat) (hf : Fit h) (hg : zA3 h.ents p = some (pk L n)) (hp : p < h.next) (K : CVal → CHeap → Prop) (num : Int) (hm0 : 0 ≤ num) (hm1 : num < 1000)
    (hk : ∀ n2 ty t j, h.next ≤ n2 → zA4 ty n2 → 1 ≤ t.length → t.length ≤ 100 → 0 ≤ j → K (.str t) ⟨zA0 h.ents p (pk L j), n2, ty⟩) : Wc tree.getF 19 [.ptr p d 0, .int .i64 num, .bool false] h K := by
  obtain ⟨hu, hut, hX⟩ := fx4 hf
  have hY := fx5 hf hg
  obtain ⟨S, hS1, hS2, TN⟩ := tens_L num hm0 hm1
  refine Wc.mkG 19 c19 (by kernel_rfl) rfl ?_
  generalize e : zA9 _ _ _ = r
  simp (disch := omega) [hX, hg, hY, c19] at e
  subst e
  repeat (first | refine sq_ ?_ | refine bl_ ?_ | ((first | refine rg_ ?_ | refine go_ ?_); generalize e : goR _ _ _ _ _ _ _ _ = r; simp (disch := omega) [hX, hg, hY] at e; replace e : some _ = _ := e; subst e; (try dsimp only [goW])) | refine ct_ rfl ?_ | refine cf_ rfl ?_ | refine sk_ ?_ | refine ex_ ?_ | (refine word_P L len hL hlen n hn0 _ p d ?_ ?_ ?_ _ fun n1 ty1 t1 j1 hn1 hun1 ha1 hb1 hj1 => ⟨rfl, ?_⟩; exact fit_; exact ge_; (try dsimp only); omega; (try dsimp only at hn1)))
  (obtain ⟨c1, c2, c3, c4, b1, b2, b3, b4, hcc⟩ := cls t1; rcases hcc with hcc | hcc | hcc | hcc | hcc <;> cases hcc)
  all_goals
    repeat' (first
      | refine sq_ ?_
      | refine bl_ ?_
      | ((first | refine rg_ ?_ | refine go_ ?_); generalize e : goR _ _ _ _ _ _ _ _ = r; simp (disch := omega) [hX, hg, hY, b1, b2, b3, b4, c19] at e; replace e : some _ = _ := e; subst e; (try dsimp only [goW]))
      | refine ct_ rfl ?_
      | refine cf_ rfl ?_
      | refine sk_ ?_
      | refine ex_ ?_
      | (refine TN _ ?_ _ fun n2 tyn2 hn2 hun2 => ⟨rfl, ?_⟩; exact fit_; (try dsimp only at hn2))
      | (refine num_L L len hL hlen j1 8 hj1 (by omega) (by omega) _ p d ?_ ?_ ?_ _ fun n8 ty8 v8 j8 hn8 hun8 hv8 hw8 hj8 => ⟨rfl, ?_⟩; exact fit_; exact ge_; (try dsimp only); omega; (try dsimp only at hn8); (rcases (show v8 = 0 ∨ v8 = 1 ∨ v8 = 2 ∨ v8 = 3 ∨ 4 ≤ v8 by omega) with rfl | rfl | rfl | rfl | hge))
      | (refine num_L L len hL hlen j8 4 hj8 (by omega) (by omega) _ p d ?_ ?_ ?_ _ fun n4 ty4 v4 j4 hn4 hun4 hv4 hw4 hj4 => ⟨rfl, ?_⟩; exact fit_; exact ge_; (try dsimp only); omega; (try dsimp only at hn4); (rcases (show v4 = 0 ∨ v4 = 1 ∨ v4 = 2 ∨ v4 = 3 by omega) with rfl | rfl | rfl | rfl))
      | (refine num_L L len hL hlen j8 6 hj8 (by omega) (by omega) _ p d ?_ ?_ ?_ _ fun n6 ty6 v6 j6 hn6 hun6 hv6 hw6 hj6 => ⟨rfl, ?_⟩; exact fit_; exact ge_; (try dsimp only); omega; (try dsimp only at hn6); (rcases (show v6 = 0 ∨ v6 = 1 ∨ v6 = 2 ∨ v6 = 3 ∨ v6 = 4 ∨ v6 = 5 by omega) with rfl | rfl | rfl | rfl | rfl | rfl))
      | ((first | (refine W.ret ?_; (try simp only [zAg, zA1, zA7]); refine endW.of (.inl rfl) rfl ?_) | refine endW.of (.inr rfl) rfl ?_); generalize e : zAj _ _ _ = r; simp (disch := omega) [hX, hg, hY, b1, b2, b3, b4, c19] at e; subst e; (try dsimp only [goW]); (refine hk _ _ _ _ ?_ ?_ ?_ ?_ ?_; omega; exact ut_; (focus (((try simp) <;> omega); done)); (focus (((try simp) <;> omega); done)); assumption)))
theorem tens_K (n : Int) (h0 : 0 ≤ n) (h1 : n < 1000) (h : CHeap) (hf : Fit h) (K : CVal → CHeap → Prop) (hk : ∀ n2 ty S, h.next ≤ n2 → zA4 ty n2 → 1 ≤ S.length → S.length ≤ 3 → K (.str S) ⟨h.ents, n2, ty⟩) : Wc tree.getF 18 [.int .i64 n] h K := by
  obtain ⟨S, hS1, hS2, TN⟩ := tens_L n h0 h1
  exact TN h hf K fun n2 ty g1 g2 => hk n2 ty S g1 g2 hS1 hS2
abbrev zLg : CCode := (.loop true (.seq (.seq (.region [.v 2, .v 3, .g (.bin .lss (.loc 1) (.loc 0))] [(4, 2)] [] []) (.cond (.var 4) .skip (.exit 0))) (.seq (.block 1 (.seq (.region [.v 2, .g (.bin .add (.loc 0) (.const (.int .i64 1))), .v 0, .g (.call false 15 [(.loc 0), (.const (.int .i64 2))]), .g (.bin .mul (.const (.int .i64 14)) (.loc 0)), .v 2, .g (.bin .mul (.loc 1) (.loc 0)), .g (.bin .add (.loc 5) (.loc 0)), .m (.loc 0)] [(10, 8)] [] []) (.seq (.region [.v 0, .g (.call false 15 [(.loc 0), (.const (.int .i64 4))]), .g (.bin .eql (.loc 0) (.const (.int .i64 0)))] [(5, 2)] [] []) (.cond (.var 5) (.seq (.region [.v 0, .g (.call false 16 [(.loc 0)]), .m (.loc 0)] [(9, 2)] [] []) (.seq (.seq (.region [.v 6] [(7, 0)] [] []) (.cond (.var 7) (.region [.v 0, .g (.call false 17 [(.loc 0)]), .m (.loc 0)] [(9, 2)] [] []) .skip)) (.region [.v 8, .v 9, .g (.bin .add (.loc 1) (.loc 0)), .g (.bin .add (.loc 0) (.const (.str [32, 111]))), .v 10, .g (.bin .add (.loc 0) (.const (.int .i64 100))), .g (.call false 18 [(.loc 0)]), .g (.bin .add (.loc 3) (.loc 0)), .g (.bin .add (.loc 0) (.const (.str [32, 61, 32]))), .v 10, .g (.bin .add (.loc 0) (.const (.int .i64 100))), .g (.call false 18 [(.loc 0)]), .g (.bin .add (.loc 3) (.loc 0)), .g (.bin .add (.loc 0) (.const (.str [59, 10]))), .m (.loc 0)] [(8, 14)] [] []))) (.region [.v 11, .v 0, .v 10, .v 6, .g (.call false 19 [(.loc 2), (.loc 1), (.loc 0)]), .g (.bin .add (.loc 4) (.loc 0)), .m (.loc 0)] [(11, 6)] [] []))))) (.region [.v 2, .g (.bin .add (.loc 0) (.const (.int .i64 1))), .m (.loc 0)] [(2, 2)] [] []))))

theorem body_loop (L : CVal) (len : Nat) (hL : Nums L len) (hlen : len ≤ 1000) (p d : Nat) (nn : Int) (hnn : nn ≤ 10) (v1 v13 : CVal) (Q : CExit → CSt → Prop) : ∀ (m : Nat) (i n : Int) (s one : List UInt8), nn - i ≤ m → 0 ≤ i → i ≤ 10 → (s.length : Int) ≤ 110 * i → (one.length : Int) ≤ 110 * i → 0 ≤ n → ∀ (h : CHeap) (v4 v5 v7 v9 v10 v12 : CVal), zA3 h.ents p = some (pk L n) → Fit h → p < h.next →
    (∀ n' ty j s' one' w2 w4 w5 w7 w9 w10 w12, h.next ≤ n' → zA4 ty n' → 0 ≤ j → s'.length ≤ 1100 → one'.length ≤ 1100 → Q (.exit 0) ⟨[.ptr p d 0, v1, w2, .int .i64 nn, w4, w5, .bool false, w7, .str one', w9, w10, .str s', w12, v13], ⟨zA0 h.ents p (pk L j), n', ty⟩, []⟩) →
    W tree.getF zLg ⟨[.ptr p d 0, v1, .int .i64 i, .int .i64 nn, v4, v5, .bool false, v7, .str one, v9, v10, .str s, v12, v13], h, []⟩ Q := by
  intro m
  induction m with
  | zero =>
    intro i n s one hm hi0 hi1 hs ho hn0 h v4 v5 v7 v9 v10 v12 hg hf hp hk
    have hk' := fun n' ty w2 w4 w5 w7 w9 w10 w12 g1 g2 => hk n' ty n s one w2 w4 w5 w7 w9 w10 w12 g1 g2 hn0 (by omega) (by omega)
    simp only [zAm hg] at hk'
    have hno : ¬ i < nn := by omega
    obtain ⟨hu, hut, hX⟩ := fx4 hf
    have hY := fx5 hf hg
    refine W.loop ?_
    repeat (first | refine sq_ ?_ | refine bl_ ?_ | ((first | refine rg_ ?_ | refine go_ ?_); generalize e : goR _ _ _ _ _ _ _ _ = r; simp (disch := omega) [hX, hg, hY] at e; replace e : some _ = _ := e; subst e; (try dsimp only [goW])) | refine ct_ rfl ?_ | refine cf_ rfl ?_ | refine sk_ ?_ | refine ex_ ?_)
    all_goals ((try simp only [zAg, zA1, zA7]); refine hk' _ _ _ _ _ _ _ _ _ ?_ ?_; (focus (omega; done)); exact ut_)
  | succ m ih =>
    intro i n s one hm hi0 hi1 hs ho hn0 h v4 v5 v7 v9 v10 v12 hg hf hp hk
    by_cases hlt : i < nn
    · have hnext : ∀ (s2 one2 : List UInt8) (j : Int) (h' : CHeap) (v4 v5 v7 v9 v10 v12 : CVal), (s2.length : Int) ≤ 110 * (i + 1) → (one2.length : Int) ≤ 110 * (i + 1) → 0 ≤ j → h'.ents = zA0 h.ents p (pk L j) → h.next ≤ h'.next → zA4 h'.tys h'.next →
          W tree.getF zLg ⟨[.ptr p d 0, v1, .int .i64 (i + 1), .int .i64 nn, v4, v5, .bool false, v7, .str one2, v9, v10, .str s2, v12, v13], h', []⟩ Q := by
        intro s2 one2 j h' v4 v5 v7 v9 v10 v12 e1 e2 e3 e4 e5 e6
        refine ih (i + 1) j s2 one2 (by omega) (by omega) (by omega) e1 e2 e3 h' _ _ _ _ _ _ (by rw [e4]; exact zAb hg) ⟨by rw [e4]; exact hf.1.set.le e5, e6⟩ (by omega) ?_
        intro n' ty j s' one' w2 w4 w5 w7 w9 w10 w12 g1 g2
        rw [e4, zA5]
        exact hk n' ty j s' one' w2 w4 w5 w7 w9 w10 w12 (by omega) g2
      obtain ⟨hu, hut, hX⟩ := fx4 hf
      have hY := fx5 hf hg
      refine W.loop ?_
      repeat' (first
        | refine sq_ ?_
        | refine bl_ ?_
        | ((first | refine rg_ ?_ | refine go_ ?_); generalize e : goR _ _ _ _ _ _ _ _ = r; simp (disch := omega) [hX, hg, hY] at e; replace e : some _ = _ := e; subst e; (try dsimp only [goW]))
        | refine ct_ rfl ?_
        | refine cf_ rfl ?_
        | refine sk_ ?_
        | refine ex_ ?_
        | (refine num_L L len hL hlen n 2 hn0 (by omega) (by omega) _ p d ?_ ?_ ?_ _ fun n2 ty2 v2 j2 hn2 hun2 hv2 hw2 hj2 => ⟨rfl, ?_⟩; exact fit_; exact ge_; (try dsimp only); omega; (try dsimp only at hn2); (rcases (show v2 = 0 ∨ v2 = 1 by omega) with rfl | rfl))
        | (refine num_L L len hL hlen j2 4 hj2 (by omega) (by omega) _ p d ?_ ?_ ?_ _ fun n4 ty4 v4' j4 hn4 hun4 hv4 hw4 hj4 => ⟨rfl, ?_⟩; exact fit_; exact ge_; (try dsimp only); omega; (try dsimp only at hn4); (rcases (show v4' = 0 ∨ 1 ≤ v4' by omega) with rfl | hge))
        | (refine word_P L len hL hlen j4 hj4 _ p d ?_ ?_ ?_ _ fun n1 ty1 t1 j1 hn1 hun1 ha1 hb1 hj1 => ⟨rfl, ?_⟩; exact fit_; exact ge_; (try dsimp only); omega; (try dsimp only at hn1))
        | (refine tens_K _ ?_ ?_ _ ?_ _ fun n5 ty5 S5 hn5 hun5 ha5 hb5 => ⟨rfl, ?_⟩; omega; omega; exact fit_; (try dsimp only at hn5))
        | (refine field_P L len hL hlen j4 hj4 _ p d ?_ ?_ ?_ _ _ ?_ ?_ fun n6 ty6 t6 j6 hn6 hun6 ha6 hb6 hj6 => ⟨rfl, ?_⟩; exact fit_; exact ge_; (try dsimp only); omega; omega; omega; (try dsimp only at hn6)))
      all_goals
        show W tree.getF zLg (dropped true _ _) Q
        generalize e : dropped _ _ _ = r0
        simp (disch := omega) [hX, hg, hY] at e
        subst e
        try dsimp only
        refine hnext _ _ _ _ _ _ _ _ _ _ ?_ ?_ ?_ rfl ?_ ?_
        · ((try simp) <;> omega)
        · ((try simp) <;> omega)
        · assumption
        · (try dsimp only); omega
        · exact ut_
    · have hk' := fun n' ty w2 w4 w5 w7 w9 w10 w12 g1 g2 => hk n' ty n s one w2 w4 w5 w7 w9 w10 w12 g1 g2 hn0 (by omega) (by omega)
      simp only [zAm hg] at hk'
      obtain ⟨hu, hut, hX⟩ := fx4 hf
      have hY := fx5 hf hg
      refine W.loop ?_
      repeat (first | refine sq_ ?_ | refine bl_ ?_ | ((first | refine rg_ ?_ | refine go_ ?_); generalize e : goR _ _ _ _ _ _ _ _ = r; simp (disch := omega) [hX, hg, hY] at e; replace e : some _ = _ := e; subst e; (try dsimp only [goW])) | refine ct_ rfl ?_ | refine cf_ rfl ?_ | refine sk_ ?_ | refine ex_ ?_)
      all_goals ((try simp only [zAg, zA1, zA7]); refine hk' _ _ _ _ _ _ _ _ _ ?_ ?_; (focus (omega; done)); exact ut_)

end Go.Proofs.YtnllehllomllcaaDoor.IrM
namespace Go.Proofs.YtnllehllomllcaaDoor.IrM
open Go Go.CI
set_option maxRecDepth 100000
set_option linter.unusedVariables false
set_option linter.unusedSimpArgs false
attribute [local irreducible] W Wo Wc WoR
theorem wME1 {P : Prop} (h : P := by repeat (first | refine sq_ ?_ | refine bl_ ?_ | ((first | refine rg_ ?_ | refine go_ ?_); generalize e : goR _ _ _ _ _ _ _ _ = r; simp (disch := omega) [hX, hg, hY, c10] at e; replace e : some _ = _ := e; subst e; (try dsimp only [goW])) | refine ct_ rfl ?_ | refine cf_ rfl ?_ | refine sk_ ?_ | refine ex_ ?_ | ((first | (refine W.ret ?_; (try simp only [zAg, zA1, zA7]); refine endW.of (.inl rfl) rfl ?_) | refine endW.of (.inr rfl) rfl ?_); generalize e : zAj _ _ _ = r; simp (disch := omega) [hX, hg, hY, c10] at e; subst e; (try dsimp only [goW]); (refine hk _ _ _ j ?_ ?_ ?_ ?_; omega; exact ut_; (focus (((try simp) <;> omega); done)); assumption)))) : P := h

theorem body_P (L : CVal) (len : Nat) (hL : Nums L len) (hlen : len ≤ 1000) (n : Int) (hn0 : 0 ≤ n) (h : CHeap) (p d : Nat) (hf : Fit h) (hg : zA3 h.ents p = some (pk L n)) (hp : p < h.next) (K : CVal → CHeap → Prop) (most : Int) (hm0 : 0 ≤ most) (hm1 : most ≤ 9)
    (hk : ∀ n2 ty t j, h.next ≤ n2 → zA4 ty n2 → t.length ≤ 3000 → 0 ≤ j → K (.str t) ⟨zA0 h.ents p (pk L j), n2, ty⟩) : Wc tree.getF 10 [.ptr p d 0, .int .i64 most, .bool false] h K := by
  obtain ⟨hu, hut, hX⟩ := fx4 hf
  have hY := fx5 hf hg; have ⟨hG, hD2, hC2, hN2⟩ := hY
  refine Wc.mkG 10 c10 (by kernel_rfl) rfl ?_
  generalize e : zA9 _ _ _ = r
  simp (disch := omega) [hX, hg, hY, c10] at e
  subst e
  repeat (first | refine sq_ ?_ | refine bl_ ?_ | ((first | refine rg_ ?_ | refine go_ ?_); generalize e : goR _ _ _ _ _ _ _ _ = r; simp (disch := omega) [hX, hg, hY] at e; replace e : some _ = _ := e; subst e; (try dsimp only [goW])) | refine ct_ rfl ?_ | refine cf_ rfl ?_ | refine sk_ ?_ | refine ex_ ?_ | (refine num_L L len hL hlen n (most + 1) hn0 (by omega) (by omega) _ p d ?_ ?_ ?_ _ fun n1 ty1 v1 j1 hn1 hun1 hv1 hw1 hj1 => ⟨rfl, ?_⟩; exact fit_; exact ge_; (try dsimp only); omega; (try dsimp only at hn1)))
  refine body_loop L len hL hlen p d v1 (by omega) _ _ _ 10 0 j1 [] [] (by omega) (by omega) (by omega) (by simp) (by simp) hj1 _ _ _ _ _ _ _ ?_ ?_ ?_ ?_
  · (first | exact hg | exact hG _ | ((try dsimp only); exact hg) | ((try dsimp only); exact hG _) | (simp (disch := omega) [zA3, zA0, zBj, zBk, zA5, hg, hG]))
  · exact fit_
  · (try dsimp only); omega
  · intro n' ty j s' one' w2 w4 w5 w7 w9 w10 w12 g1 g2 g3 g4 g5
    try dsimp only at g1
    cases one' with
    | nil =>
      exact wME1
    | cons c0 r0 =>
      simp only [List.length_cons] at g5
      exact wME1

theorem text_P (L : CVal) (len : Nat) (hL : Nums L len) (hlen : len ≤ 1000) (n : Int) (hn0 : 0 ≤ n) (h : CHeap) (p d : Nat) (hf : Fit h) (hg : zA3 h.ents p = some (pk L n)) (hp : p < h.next) (K : CVal → CHeap → Prop)
    (hk : ∀ n2 ty t j, h.next ≤ n2 → zA4 ty n2 → 1 ≤ t.length → t.length ≤ 10000 → 0 ≤ j → K (.str t) ⟨zA0 h.ents p (pk L j), n2, ty⟩) : Wc tree.getF 6 [.ptr p d 0, .bool false] h K := by
  obtain ⟨hu, hut, hX⟩ := fx4 hf
  have hY := fx5 hf hg
  refine Wc.mkG 6 c6 (by kernel_rfl) rfl ?_
  generalize e : zA9 _ _ _ = r
  simp (disch := omega) [hX, hg, hY, c6] at e
  subst e
  repeat (first | refine sq_ ?_ | refine bl_ ?_ | ((first | refine rg_ ?_ | refine go_ ?_); generalize e : goR _ _ _ _ _ _ _ _ = r; simp (disch := omega) [hX, hg, hY, c6] at e; replace e : some _ = _ := e; subst e; (try dsimp only [goW])) | refine ct_ rfl ?_ | refine cf_ rfl ?_ | refine sk_ ?_ | refine ex_ ?_ | (refine body_P L len hL hlen n hn0 _ p d ?_ ?_ ?_ _ 4 (by omega) (by omega) fun n1 ty1 t1 j1 hn1 hun1 hb1 hj1 => ⟨rfl, ?_⟩; exact fit_; exact ge_; (try dsimp only); omega; (try dsimp only at hn1)) | (refine body_P L len hL hlen j1 hj1 _ p d ?_ ?_ ?_ _ 7 (by omega) (by omega) fun n2 ty2 t2 j2 hn2 hun2 hb2 hj2 => ⟨rfl, ?_⟩; exact fit_; exact ge_; (try dsimp only); omega; (try dsimp only at hn2)) | ((first | (refine W.ret ?_; (try simp only [zAg, zA1, zA7]); refine endW.of (.inl rfl) rfl ?_) | refine endW.of (.inr rfl) rfl ?_); generalize e : zAj _ _ _ = r; simp (disch := omega) [hX, hg, hY, c6] at e; subst e; (try dsimp only [goW]); (refine hk _ _ _ j2 ?_ ?_ ?_ ?_ ?_; omega; exact ut_; (focus (((try simp) <;> omega); done)); (focus (((try simp) <;> omega); done)); assumption)))
theorem wMF1 {P : Prop} (h : P := by repeat (first | refine sq_ ?_ | refine bl_ ?_ | ((first | refine rg_ ?_ | refine go_ ?_); generalize e : goR _ _ _ _ _ _ _ _ = r; simp (disch := omega) [zBz, List.length_map, zE0, hi, hn, hset, htk, hby, hlz, htn, ht2l, c3] at e; replace e : some _ = _ := e; subst e; (try dsimp only [goW])) | refine ct_ rfl ?_ | refine cf_ rfl ?_ | refine sk_ ?_ | refine ex_ ?_ | (refine LX _ ?_ _ fun n3 tyn3 hn3 hun3 => ⟨rfl, ?_⟩; (focus (((refine ⟨?_, ?_⟩; (focus ((repeat (first | refine Under.cons (by (try dsimp only); omega) ?_ | exact Under.nil)); done)); (focus ((repeat (first | refine zA4.cons (by (try dsimp only); omega) ?_ | exact zA4.nil | assumption | exact zA4.le (by assumption) (by (try dsimp only); omega))); done)))); done)); (try dsimp only at hn3)) | (refine LR _ ?_ _ fun n4 tyn4 hn4 hun4 => ⟨rfl, ?_⟩; (focus (((refine ⟨?_, ?_⟩; (focus ((repeat (first | refine Under.cons (by (try dsimp only); omega) ?_ | exact Under.nil)); done)); (focus ((repeat (first | refine zA4.cons (by (try dsimp only); omega) ?_ | exact zA4.nil | assumption | exact zA4.le (by assumption) (by (try dsimp only); omega))); done)))); done)); (try dsimp only at hn4)) | (refine LS _ ?_ _ fun n5 tyn5 hn5 hun5 => ⟨rfl, ?_⟩; (focus (((refine ⟨?_, ?_⟩; (focus ((repeat (first | refine Under.cons (by (try dsimp only); omega) ?_ | exact Under.nil)); done)); (focus ((repeat (first | refine zA4.cons (by (try dsimp only); omega) ?_ | exact zA4.nil | assumption | exact zA4.le (by assumption) (by (try dsimp only); omega))); done)))); done)); (try dsimp only at hn5)) | ((first | (refine W.ret ?_; (try simp only [zAg, zA1, zA7]); refine endW.of (.inl rfl) rfl ?_) | refine endW.of (.inr rfl) rfl ?_); generalize e : zAj _ _ _ = r; simp (disch := omega) [zBz, List.length_map, zE0, hi, hn, hset, htk, hby, hlz, htn, ht2l, c3] at e; subst e; (try dsimp only [goW]); (all_goals rfl)))) : P := h

abbrev u8c (c : UInt8) : CVal := .int .u8 (c.toNat : Int)
theorem zHq (f : UInt8 → CVal) : ∀ (t : List UInt8) (i : Nat) (c : UInt8), zC4 (t.map f) i (f c) = (t.set i c).map f
  | [], i, c => by cases i <;> rfl
  | a :: r, 0, c => rfl
  | a :: r, i + 1, c => by simp only [List.map_cons, zC4, List.set_cons_succ, zHq f r i c]
theorem bytesOf_map : ∀ t : List UInt8, bytesOf (t.map u8c) = some t
  | [] => rfl
  | a :: r => by simp only [List.map_cons, bytesOf, bytesOf_map r]; simp

theorem law_n (H : ∀ s : List UInt8, s.length < 60000 → ∃ e k L, (L = CVal.nils ∨ ∃ es, L = CVal.imm .none 4 es) ∧ Pu tree.getF 7 [.str s] (.tup [L, .int .i64 e, .int .i64 k]) ∧ Pu tree.getF 8 [.str s] (.tup [L, .int .i64 e, .int .i64 k]) ∧ Pu tree.getF 9 [L, L] (.bool true))
     (a b : Int) (ha : 0 ≤ a ∧ a < 65536) (hb : 0 ≤ b ∧ b < 256) : Wc tree.getF 3 [.nils, .int .u16 a, .int .u8 b] zBz fun v _ => v = .bool true := by
  refine Wc.mkG 3 c3 (by kernel_rfl) rfl ?_
  generalize e : zA9 _ _ _ = r
  simp (disch := omega) [zBz, List.length_map, c3] at e
  subst e
  repeat (first | refine sq_ ?_ | refine bl_ ?_ | ((first | refine rg_ ?_ | refine go_ ?_); generalize e : goR _ _ _ _ _ _ _ _ = r; simp (disch := omega) [zBz, List.length_map, c5] at e; replace e : some _ = _ := e; subst e; (try dsimp only [goW])) | refine ct_ rfl ?_ | refine cf_ rfl ?_ | refine sk_ ?_ | refine ex_ ?_ | (refine zL8 (m := 1000000) (by kernel_rfl) fun n1 ty1 hn1 hut1 => ⟨rfl, ?_⟩) | (refine Wc.mkG 5 c5 (by kernel_rfl) rfl ?_; generalize e : zA9 _ _ _ = r; simp (disch := omega) [zBz, List.length_map, c5] at e; subst e) | ((first | (refine W.ret ?_; (try simp only [zAg, zA1, zA7]); refine endW.of (.inl rfl) rfl ?_) | refine endW.of (.inr rfl) rfl ?_); generalize e : zAj _ _ _ = r; simp (disch := omega) [zBz, List.length_map, c5] at e; subst e; (try dsimp only [goW]); refine ⟨rfl, ?_⟩))
  refine text_P .nils 0 (.inl ⟨rfl, rfl⟩) (by omega) 0 (by omega) _ _ _ ?_ ?_ ?_ _ fun n2 ty2 t j2 hn2 hun2 ht1 ht2 hj2 => ⟨rfl, ?_⟩
  · (refine ⟨?_, ?_⟩; (focus ((repeat (first | refine Under.cons (by (try dsimp only); omega) ?_ | exact Under.nil)); done)); (focus ((repeat (first | refine zA4.cons (by (try dsimp only); omega) ?_ | exact zA4.nil | assumption | exact zA4.le (by assumption) (by (try dsimp only); omega))); done)))
  · simp (disch := omega) [zA3]
  · (try dsimp only); omega
  try dsimp only at hn2
  have hv0 := Int.tmod_nonneg (t.length : Int) ha.1
  have hv1 := Int.tmod_lt_of_pos a (show (0 : Int) < (t.length : Int) by omega)
  obtain ⟨i, hi⟩ : ∃ i : Nat, a.tmod (t.length : Int) = (i : Int) := ⟨(a.tmod (t.length : Int)).toNat, by omega⟩
  rw [hi] at hv1
  have hil : i < t.length := by omega
  have hx : t[i]? = some t[i] := List.getElem?_eq_getElem hil
  have hn := zG3 u8c t i _ hx
  have hbb : ((UInt8.ofNat b.toNat).toNat : Int) = b := by rw [UInt8.toNat_ofNat', Nat.mod_eq_of_lt (by omega)]; omega
  have hset : zC4 (t.map u8c) i (.int .u8 b) = (t.set i (UInt8.ofNat b.toNat)).map u8c := by
    have := zHq u8c t i (UInt8.ofNat b.toNat)
    rw [show u8c (UInt8.ofNat b.toNat) = CVal.int .u8 b by unfold u8c; rw [hbb]] at this
    exact this
  generalize ht2e : t.set i (UInt8.ofNat b.toNat) = t2 at hset
  have ht2l : t2.length = t.length := by rw [← ht2e]; simp
  have htk : (t2.map u8c).take t.length = t2.map u8c := List.take_of_length_le (by simp; omega)
  have hby := bytesOf_map t2
  have hlz : ¬ (t.length : Int) = 0 := by omega
  have htn : ((i : Nat) : Int).toNat = i := by omega
  obtain ⟨e9, k9, L9, hL9, LX, LR, LS⟩ := H t2 (by omega)
  rcases hL9 with rfl | ⟨es9, rfl⟩
  all_goals
    exact wMF1

theorem law_l (H : ∀ s : List UInt8, s.length < 60000 → ∃ e k L, (L = CVal.nils ∨ ∃ es, L = CVal.imm .none 4 es) ∧ Pu tree.getF 7 [.str s] (.tup [L, .int .i64 e, .int .i64 k]) ∧ Pu tree.getF 8 [.str s] (.tup [L, .int .i64 e, .int .i64 k]) ∧ Pu tree.getF 9 [L, L] (.bool true))
    (xs : List Int) (hxs : ∀ x ∈ xs, 0 ≤ x ∧ x < 256) (a b : Int) (ha : 0 ≤ a ∧ a < 65536) (hb : 0 ≤ b ∧ b < 256) : Wc tree.getF 3 [(.imm .none 1 (xs.map (CVal.int .u8))), .int .u16 a, .int .u8 b] zBz fun v _ => v = .bool true := by
  rcases Nat.lt_or_ge 100 xs.length with hlong | hsh
  ·
    refine Wc.mkG 3 c3 (by kernel_rfl) rfl ?_
    generalize e : zA9 _ _ _ = r
    simp (disch := omega) [zBz, List.length_map, c3] at e
    subst e
    repeat (first | refine sq_ ?_ | refine bl_ ?_ | ((first | refine rg_ ?_ | refine go_ ?_); generalize e : goR _ _ _ _ _ _ _ _ = r; simp (disch := omega) [zBz, List.length_map, c3] at e; replace e : some _ = _ := e; subst e; (try dsimp only [goW])) | refine ct_ rfl ?_ | refine cf_ rfl ?_ | refine sk_ ?_ | refine ex_ ?_ | (refine zL8 (m := 1000000) (by kernel_rfl) fun n1 ty1 hn1 hut1 => ⟨rfl, ?_⟩) | ((first | (refine W.ret ?_; (try simp only [zAg, zA1, zA7]); refine endW.of (.inl rfl) rfl ?_) | refine endW.of (.inr rfl) rfl ?_); generalize e : zAj _ _ _ = r; simp (disch := omega) [zBz, List.length_map, c3] at e; subst e; (try dsimp only [goW]); (all_goals rfl)))
  · have hlen0 : True := trivial
    refine Wc.mkG 3 c3 (by kernel_rfl) rfl ?_
    generalize e : zA9 _ _ _ = r
    simp (disch := omega) [zBz, List.length_map, c3] at e
    subst e
    repeat (first | refine sq_ ?_ | refine bl_ ?_ | ((first | refine rg_ ?_ | refine go_ ?_); generalize e : goR _ _ _ _ _ _ _ _ = r; simp (disch := omega) [zBz, List.length_map, c5] at e; replace e : some _ = _ := e; subst e; (try dsimp only [goW])) | refine ct_ rfl ?_ | refine cf_ rfl ?_ | refine sk_ ?_ | refine ex_ ?_ | (refine zL8 (m := 1000000) (by kernel_rfl) fun n1 ty1 hn1 hut1 => ⟨rfl, ?_⟩) | (refine Wc.mkG 5 c5 (by kernel_rfl) rfl ?_; generalize e : zA9 _ _ _ = r; simp (disch := omega) [zBz, List.length_map, c5] at e; subst e) | ((first | (refine W.ret ?_; (try simp only [zAg, zA1, zA7]); refine endW.of (.inl rfl) rfl ?_) | refine endW.of (.inr rfl) rfl ?_); generalize e : zAj _ _ _ = r; simp (disch := omega) [zBz, List.length_map, c5] at e; subst e; (try dsimp only [goW]); refine ⟨rfl, ?_⟩))
    refine text_P (.imm .none 1 (xs.map (CVal.int .u8))) xs.length (.inr ⟨xs, rfl, rfl, hxs⟩) (by omega) 0 (by omega) _ _ _ ?_ ?_ ?_ _ fun n2 ty2 t j2 hn2 hun2 ht1 ht2 hj2 => ⟨rfl, ?_⟩
    · (refine ⟨?_, ?_⟩; (focus ((repeat (first | refine Under.cons (by (try dsimp only); omega) ?_ | exact Under.nil)); done)); (focus ((repeat (first | refine zA4.cons (by (try dsimp only); omega) ?_ | exact zA4.nil | assumption | exact zA4.le (by assumption) (by (try dsimp only); omega))); done)))
    · simp (disch := omega) [zA3]
    · (try dsimp only); omega
    try dsimp only at hn2
    have hv0 := Int.tmod_nonneg (t.length : Int) ha.1
    have hv1 := Int.tmod_lt_of_pos a (show (0 : Int) < (t.length : Int) by omega)
    obtain ⟨i, hi⟩ : ∃ i : Nat, a.tmod (t.length : Int) = (i : Int) := ⟨(a.tmod (t.length : Int)).toNat, by omega⟩
    rw [hi] at hv1
    have hil : i < t.length := by omega
    have hx : t[i]? = some t[i] := List.getElem?_eq_getElem hil
    have hn := zG3 u8c t i _ hx
    have hbb : ((UInt8.ofNat b.toNat).toNat : Int) = b := by rw [UInt8.toNat_ofNat', Nat.mod_eq_of_lt (by omega)]; omega
    have hset : zC4 (t.map u8c) i (.int .u8 b) = (t.set i (UInt8.ofNat b.toNat)).map u8c := by
      have := zHq u8c t i (UInt8.ofNat b.toNat)
      rw [show u8c (UInt8.ofNat b.toNat) = CVal.int .u8 b by unfold u8c; rw [hbb]] at this
      exact this
    generalize ht2e : t.set i (UInt8.ofNat b.toNat) = t2 at hset
    have ht2l : t2.length = t.length := by rw [← ht2e]; simp
    have htk : (t2.map u8c).take t.length = t2.map u8c := List.take_of_length_le (by simp; omega)
    have hby := bytesOf_map t2
    have hlz : ¬ (t.length : Int) = 0 := by omega
    have htn : ((i : Nat) : Int).toNat = i := by omega
    obtain ⟨e9, k9, L9, hL9, LX, LR, LS⟩ := H t2 (by omega)
    rcases hL9 with rfl | ⟨es9, rfl⟩
    all_goals
      exact wMF1

theorem lawH (H : ∀ s : List UInt8, s.length < 60000 → ∃ e k L, (L = CVal.nils ∨ ∃ es, L = CVal.imm .none 4 es) ∧ Pu tree.getF 7 [.str s] (.tup [L, .int .i64 e, .int .i64 k]) ∧ Pu tree.getF 8 [.str s] (.tup [L, .int .i64 e, .int .i64 k]) ∧ Pu tree.getF 9 [L, L] (.bool true))
    (c : CVal) (xs : List Int) (hc : c = .nils ∧ xs = [] ∨ c = .imm .none 1 (xs.map (CVal.int .u8))) (hw : ∀ x ∈ xs, 0 ≤ x ∧ x < 256) (a b : Int) (ha : 0 ≤ a ∧ a < 65536) (hb : 0 ≤ b ∧ b < 256) : Wc tree.getF 3 [c, .int .u16 a, .int .u8 b] zBz fun v _ => v = .bool true := by
  rcases hc with ⟨rfl, rfl⟩ | rfl
  · exact law_n H a b ha hb
  · exact law_l H xs hw a b ha hb

end Go.Proofs.YtnllehllomllcaaDoor.IrM
namespace Go.Proofs.YtnllehllomllcaaDoor.IrM
open Go Go.CI
open Go.LexF hiding spacesB lettersB
set_option maxRecDepth 100000
set_option linter.unusedVariables false
set_option linter.unusedSimpArgs false
attribute [local irreducible] W Wo Wc WoR
theorem law (c : CVal) (xs : List Int) (hc : c = .nils ∧ xs = [] ∨ c = .imm .none 1 (xs.map (CVal.int .u8))) (hw : ∀ x ∈ xs, 0 ≤ x ∧ x < 256) (a b : Int) (ha : 0 ≤ a ∧ a < 65536) (hb : 0 ≤ b ∧ b < 256) : Wc tree.getF 3 [c, .int .u16 a, .int .u8 b] zBz fun v _ => v = .bool true := by
  refine lawH (fun s hs => ?_) c xs hc hw a b ha hb
  have P7 := lex_F s (by omega)
  have P8 := lex_R s hs
  unfold lexV at P7 P8
  cases hl : lexF s with
  | error x =>
    obtain ⟨e, k⟩ := x
    rw [hl] at P7 P8
    exact ⟨_, _, _, .inl rfl, P7, P8, same_N⟩
  | ok xs =>
    rw [hl] at P7 P8
    have := lexF_lenR hl
    exact ⟨_, _, _, .inr ⟨_, rfl⟩, P7, P8, same_L xs (by omega) .none .none⟩

end Go.Proofs.YtnllehllomllcaaDoor.IrM
