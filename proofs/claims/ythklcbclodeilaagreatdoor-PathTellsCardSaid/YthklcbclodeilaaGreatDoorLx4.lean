/- What the functions of the law 'PathTells' do: part 4 of 4. -/
import Derived.Test.YthklcbclodeilaaGreatDoorLx3
namespace Go.Proofs.YthklcbclodeilaaGreatDoor.IrT
open Go Go.CI
set_option maxRecDepth 100000
set_option maxHeartbeats 4000000
set_option linter.unusedVariables false
set_option linter.unusedSimpArgs false
attribute [local irreducible] W Wo Wc WoR

theorem law_tells {ys : List CVal} {D : List (List Nat)} (hyl : ys.length ≤ 10) (hyD : ys.length = D.length) (hye : ∀ i r, D[i]? = some r → RC (nth ys i) r) : Wc tree.getF 3 [.imm .none 1 ys] noHeap fun v _ => v = .bool true := by
  have hN0 : noHeap = ⟨[], 0, []⟩ := rfl
  have hl2 : ¬ (10 : Int) < (ys.length : Int) := by omega
  refine Wc.mkG 3 c3 (by kernel_rfl) rfl ?_
  generalize e : entryC .. = r
  simp (disch := omega) [hN0, c3] at e
  subst e
  repeat ((fail_if_success (show W tree.getF bL1 _ _)); first
    | refine st_ rfl ?_
    | ((first | refine W.regG ?_ | refine WoR.go ?_); generalize e : goR .. = r; simp (disch := omega) [hN0, hl2, c3] at e; replace e : some _ = _ := e; subst e; (try dsimp only [goW]))
    | (refine bgPT fun n1 ty1 hn1 hut1 => ⟨rfl, ?_⟩))
  have hu : Under ([] : List (Nat × CObj)) n1 := Under.nil
  have hut := hut1
  refine b1_loop (h := ⟨[], n1, ty1⟩) hyl hyD hye ⟨hu, hut⟩ _ _ _ _ _ _ _ _ _ _ _ _ _ _ _ _ _ (fun i S v4 v5 v6 v8 v9 v10 n' g => ?_) (fun hok v4 v5 v6 v8 v9 v10 n' g => ?_) D [] _ _ _ _ _ _ _ rfl (fun r hr => by cases hr) ?_
  · dsimp only at g
    (try simp only [outOf, thenW_ret, thenW_exit, roundW, reduceIte])
    repeat (first
      | refine st_ rfl ?_
      | ((first | refine W.regG ?_ | refine WoR.go ?_); generalize e : goR .. = r; simp (disch := omega) [hN0, c3] at e; replace e : some _ = _ := e; subst e; (try dsimp only [goW]))
      | ((first | (refine W.ret ?_; (try simp only [outOf, thenW_ret, thenW_exit, roundW, reduceIte]); refine endW.of (.inl rfl) rfl ?_) | refine endW.of (.inl rfl) rfl ?_ | refine endW.of (.inr rfl) rfl ?_); generalize e : endsC .. = r; simp (disch := omega) [hN0, c3] at e; subst e; rfl))
  · dsimp only at g
    (try simp only [outOf, thenW_ret, thenW_exit, roundW, reduceIte])
    have hD10 : D.length ≤ 10 := by omega
    obtain ⟨S, hS⟩ : ∃ S, S = tT D := ⟨_, rfl⟩
    have PD := fun (h : CHeap) (hf : Fit h) (K : CVal → CHeap → Prop) => parse_D hD10 hok hf (K := K)
    have MM := mT_may hD10 hok
    have MW := mT_walk hok
    rw [← hS] at PD ⊢
    generalize mT D = m at *
    have hX := (fx4 (h := ⟨[], n1, ty1⟩) ⟨hu, hut⟩).2.2
    repeat (first
      | refine st_ rfl ?_
      | ((first | refine W.regG ?_ | refine WoR.go ?_); generalize e : goR .. = r; simp (disch := omega) [hX, c3] at e; replace e : some _ = _ := e; subst e; (try dsimp only [goW])))
    refine PD ⟨_, _, _⟩ ?_ _ fun v h1 A => ?_
    · exact ft_
    obtain ⟨ids, M, nd, hid⟩ := A.mr
    obtain ⟨c0, c1, c2, rfl, y0, y1, y2⟩ := M.nr
    have e0 := y0.strip
    have e1 := y1.strip
    have e2 := y2.strip
    simp only [CVal.strip] at e0 e1 e2
    have hn1 := A.nx
    have hq1 := A.fr
    dsimp only at hn1 hq1
    have gz : ∀ j, n1 ≤ j → j < n' + 8 → getEnt h1.ents j = none := fun j h8 h9 => by
      rw [hq1 j (by omega) (by simp)]; rfl
    obtain ⟨hu1, hut1', hX1⟩ := fx4 A.fit
    refine ⟨rfl, ?_⟩
    repeat ((fail_if_success (show W tree.getF bL3 _ _)); first
      | refine st_ rfl ?_
      | ((first | refine W.regG ?_ | refine WoR.go ?_); generalize e : goR .. = r; simp (disch := omega) [hX1, gz, e0, e1, e2, c3] at e; replace e : some _ = _ := e; subst e; (try dsimp only [goW])))
    have hp0 := gz (n' + 1 + 1 + 1 + 1 + 1) (by omega) (by omega)
    have hp1 : n' + 1 + 1 + 1 + 1 + 1 < h1.next := by omega
    generalize n' + 1 + 1 + 1 + 1 + 1 = p at *
    have M2 : MR 5 m (.agg [c0, c1, c2]) ((p, CObj.cells [c0, c1, c2]) :: h1.ents) ids := M.rows fun j _ va es h9 => by rw [getEnt_skip (fun e => by subst e; rw [hp0] at h9; cases h9)]; exact h9
    refine May_F (h := ⟨_, _, _⟩) (ids := ids) ?_ ?_ MM (by omega) fun n2 g2 => ⟨rfl, ?_⟩
    · exact M2
    · exact ⟨Under.cons (by (try dsimp only); omega) (hu1.le (by (try dsimp only); omega)), hut1'.le (by (try dsimp only); omega)⟩
    dsimp only at g2
    repeat ((fail_if_success (show W tree.getF bL3 _ _)); first
      | refine st_ rfl ?_
      | ((first | refine W.regG ?_ | refine WoR.go ?_); generalize e : goR .. = r; simp (disch := omega) [hX1, hp0, e0, e1, e2, c3] at e; replace e : some _ = _ := e; subst e; (try dsimp only [goW])))
    refine b3_loop (m := m) (D := D) (p := p) hyl hyD (fun i r hr => ?_) MM y0 y1 y2 _ _ _ _ _ _ _ _ _ _ _ _ _ h1.next hp1 ((p, CObj.cells [c0, c1, c2]) :: h1.ents) h1.tys M2 (fun q hq => ?_) getEnt_hd (fun w15 w16 w17 w18 w19 w20 w21 w22 w23 w24 H f1 f2 f3 => ?_) D [] _ _ _ _ _ _ _ _ _ _ ⟨_, _, _⟩ rfl ?_ ?_ ?_ ?_
    · have hr1 := List.mem_of_getElem? hr
      have hr2 := hye i r hr
      rcases hr2 with ⟨_, h0⟩ | ⟨_, h0⟩ | ⟨h0, _⟩
      · exact absurd h0 (hok r hr1).1
      · exact absurd h0 (hok r hr1).1
      · exact ⟨h0, (hok r hr1).2, MW r hr1⟩
    · obtain ⟨va, es, h9⟩ := M.row q hq
      exact in_under hu1 h9
    · obtain ⟨hu2, hut2, hX2⟩ := fx4 f1
      (try simp only [outOf, thenW_ret, thenW_exit, roundW, reduceIte])
      repeat (first
        | refine st_ rfl ?_
        | ((first | refine W.regG ?_ | refine WoR.go ?_); generalize e : goR .. = r; simp (disch := omega) [hX2, c3] at e; replace e : some _ = _ := e; subst e; (try dsimp only [goW]))
        | ((first | (refine W.ret ?_; (try simp only [outOf, thenW_ret, thenW_exit, roundW, reduceIte]); refine endW.of (.inl rfl) rfl ?_) | refine endW.of (.inl rfl) rfl ?_ | refine endW.of (.inr rfl) rfl ?_); generalize e : endsC .. = r; simp (disch := omega) [hX2, c3] at e; subst e; rfl))
    · exact ⟨Under.cons (by (try dsimp only); omega) (hu1.le (by (try dsimp only); omega)), hut1'.le (by (try dsimp only); omega)⟩
    · (try dsimp only); omega
    · rfl
    · intro j _; rfl
  · (try dsimp only); omega
theorem law_nil : Wc tree.getF 3 [.nils] noHeap fun v _ => v = .bool true := by
  have hN0 : noHeap = ⟨[], 0, []⟩ := rfl
  have hu : Under ([] : List (Nat × CObj)) 3 := Under.nil
  refine Wc.mkG 3 c3 (by kernel_rfl) rfl ?_
  generalize e : entryC .. = r
  simp (disch := omega) [hN0, c3] at e
  subst e
  repeat (first
    | refine st_ rfl ?_
    | ((first | refine W.regG ?_ | refine WoR.go ?_); generalize e : goR .. = r; simp (disch := omega) [hN0, c3] at e; replace e : some _ = _ := e; subst e; (try dsimp only [goW]))
    | (refine W.loop ?_; try (generalize e : dropped .. = r; simp (disch := omega) [hN0, c3] at e; subst e; try dsimp only))
    | (refine bgPT fun n1 ty1 hn1 hut => ⟨rfl, ?_⟩))
  refine ps_nil 5 (h := ⟨_, _, _⟩) ?_ fun h1 A => ?_
  · exact ft_
  have hn1' := A.nx
  have hq1 := A.fr
  dsimp only at hn1' hq1
  have gz : ∀ j, n1 ≤ j → j < n1 + 16 → getEnt h1.ents j = none := fun j h8 h9 => by
    rw [hq1 j (by omega) (by simp)]; rfl
  obtain ⟨hu1, hut1', hX1⟩ := fx4 A.fit
  refine ⟨rfl, ?_⟩
  repeat (first
    | refine st_ rfl ?_
    | ((first | refine W.regG ?_ | refine WoR.go ?_); generalize e : goR .. = r; simp (disch := omega) [hX1, gz, c3] at e; replace e : some _ = _ := e; subst e; (try dsimp only [goW])))
  refine May_F (h := ⟨_, _, _⟩) (MR.emp 5 _) ?_ ((emp_good 5 0).may (by omega)) (by omega) fun n2 g2 => ⟨rfl, ?_⟩
  · exact ⟨Under.cons (by (try dsimp only); omega) (hu1.le (by (try dsimp only); omega)), hut1'.le (by (try dsimp only); omega)⟩
  dsimp only at g2
  repeat (first
    | refine st_ rfl ?_
    | ((first | refine W.regG ?_ | refine WoR.go ?_); generalize e : goR .. = r; simp (disch := omega) [hX1, gz, c3] at e; replace e : some _ = _ := e; subst e; (try dsimp only [goW]))
    | (refine W.loop ?_; try (generalize e : dropped .. = r; simp (disch := omega) [hX1, gz, c3] at e; subst e; try dsimp only))
    | ((first | (refine W.ret ?_; (try simp only [outOf, thenW_ret, thenW_exit, roundW, reduceIte]); refine endW.of (.inl rfl) rfl ?_) | refine endW.of (.inl rfl) rfl ?_ | refine endW.of (.inr rfl) rfl ?_); generalize e : endsC .. = r; simp (disch := omega) [hX1, gz, c3] at e; subst e; rfl))
/-- The law, whatever its argument. -/
theorem lawPT {D : List (List Nat)} {ys : List CVal} (hyD : ys.length = D.length) (hye : ∀ i r, D[i]? = some r → RC (nth ys i) r) {c : CVal} (hc : c = .nils ∧ ys = [] ∨ c = .imm .none 1 ys) : Wc tree.getF 3 [c] noHeap fun v _ => v = .bool true := by
  rcases hc with ⟨rfl, rfl⟩ | rfl
  · exact law_nil
  rcases Nat.lt_or_ge 10 ys.length with h | h
  · exact law_many h
  · exact law_tells h hyD hye
end Go.Proofs.YthklcbclodeilaaGreatDoor.IrT
namespace Go.Proofs.YthklcbclodeilaaGreatDoor.IrT
open Go Go.CI
theorem rowsN : ∀ {ys : List CVal} {xs : List (List Int)}, RowsC .u8 ys xs → (∀ r ∈ xs, ∀ x ∈ r, 0 ≤ x ∧ x < 256) → ∃ D : List (List Nat), ys.length = D.length ∧ ∀ i r, D[i]? = some r → RC (nth ys i) r
  | _, _, .nil, _ => ⟨[], rfl, fun i r h => by simp at h⟩
  | _, _, .cons (c := c) (r := r) (cs := cs) (rs := rs) hc hr, h => by
    obtain ⟨D, h1, h2⟩ := rowsN hr fun r hr => h r (by simp [hr])
    refine ⟨r.map Int.toNat :: D, by simp [h1], fun i x hx => ?_⟩
    cases i with
    | zero =>
      simp at hx
      subst hx
      show RC c _
      rcases hc with ⟨rfl, rfl⟩ | ⟨rfl, rfl⟩ | ⟨rfl, hne⟩
      · exact .inl ⟨rfl, rfl⟩
      · exact .inr (.inl ⟨rfl, rfl⟩)
      · refine .inr (.inr ⟨?_, by simpa using hne⟩)
        have hb := h r (by simp)
        unfold rowV
        rw [List.map_map]
        refine congrArg (CVal.imm .none 1) (List.map_congr_left fun x hx => ?_)
        have := (hb x hx).1
        simp only [Function.comp_apply]
        rw [Int.toNat_of_nonneg this]
    | succ i => exact h2 i x (by simpa using hx)
theorem law (c : CVal) (xs : List (List Int)) (ys : List CVal) (hR : RowsC .u8 ys xs) (hc : c = .nils ∧ ys = [] ∨ c = .imm .none 1 ys) (hw : ∀ r ∈ xs, ∀ x ∈ r, 0 ≤ x ∧ x < 256) : Wc tree.getF 3 [c] noHeap fun v _ => v = .bool true := by
  obtain ⟨D, h1, h2⟩ := rowsN hR hw
  exact lawPT h1 h2 hc
end Go.Proofs.YthklcbclodeilaaGreatDoor.IrT
