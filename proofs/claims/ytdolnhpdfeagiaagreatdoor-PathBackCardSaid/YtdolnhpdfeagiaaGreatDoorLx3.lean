/- What the functions of the law 'PathBack' do: part 3 of 4. -/
import Derived.Test.YtdolnhpdfeagiaaGreatDoorLx2
namespace Go.Proofs.YtdolnhpdfeagiaaGreatDoor.IrP
open Go Go.CI
set_option maxRecDepth 100000
set_option maxHeartbeats 4000000
set_option linter.unusedVariables false
set_option linter.unusedSimpArgs false
attribute [local irreducible] W Wo Wc WoR

abbrev eqL21 : CCode := (.loop true (.seq (.region [.g (.bin .lss (.var 3) (.var 4))] [(5, 0)] [] []) (.seq (.cond (.var 5) .skip (.exit 0)) (.seq (.block 1 (.seq (.region [.v 3, .m (.loc 0)] [(6, 1)] [] []) (.seq (.region [.v 0, .v 6, .g (.idxAddr 1 (.loc 1) (.loc 0)), .l 0, .v 1, .v 6, .g (.idxAddr 1 (.loc 1) (.loc 0)), .l 0, .h .neq 4 0] [(7, 8)] [] []) (.cond (.var 7) (.seq (.region [.m (.b false)] [(8, 0)] [] []) .ret) .skip)))) (.region [.g (.bin .add (.var 3) (.k 1)), .m (.loc 0)] [(3, 1)] [] [])))))
theorem eq21_go {a va b vb : Nat} {l : List (List UInt8)} (hl : l.length < 10000) {h : CHeap} (hf : Fit h) (hga : getEnt h.ents a = some (.row va (l.map .str))) (hgb : getEnt h.ents b = some (.row vb (l.map .str))) (i : Nat) (hi : i < l.length) (v2 : CVal) (v5 v6 v7 : CVal) {Q : CExit → CSt → Prop}
    (hk : ∀ (v5 v6 v7 : CVal) n', h.next ≤ n' → W tree.getF eqL21 ⟨[.ref a va 1 0 l.length, .ref b vb 1 0 l.length, v2, .int .i64 ((i : Int) + 1), .int .i64 (l.length : Int), v5, v6, v7, .bool false], ⟨h.ents, n', h.tys⟩, []⟩ Q) : W tree.getF eqL21 ⟨[.ref a va 1 0 l.length, .ref b vb 1 0 l.length, v2, .int .i64 (i : Int), .int .i64 (l.length : Int), v5, v6, v7, .bool false], h, []⟩ Q := by
  obtain ⟨hu, hut, hX⟩ := fx4 hf
  have hx3 : nth (l.map CVal.str) i = .str l[i] := nth_mapG CVal.str l i _ (List.getElem?_eq_getElem hi)
  have hdl : (i : Int) < (l.length : Int) := by omega
  have hi2 : (i : Int).toNat = i := by omega
  generalize l[i] = t at hx3
  refine W.loop ?_
  repeat (first
    | refine st_ rfl ?_
    | ((first | refine W.regG ?_ | refine WoR.go ?_); generalize e : goR .. = r; simp (disch := omega) [hX, hga, hgb, hx3, hi2, hdl, hi, hl] at e; replace e : some _ = _ := e; subst e; (try dsimp only [goW])))
  show W tree.getF eqL21 (dropped true _ _) Q
  generalize e : dropped _ _ _ = r
  simp (disch := omega) [hX] at e
  subst e
  refine hk _ _ _ _ ?_; omega
theorem eq21_end {a va b vb : Nat} {l : List (List UInt8)} (hl : l.length < 10000) {h : CHeap} (hf : Fit h) (hga : getEnt h.ents a = some (.row va (l.map .str))) (hgb : getEnt h.ents b = some (.row vb (l.map .str))) (v2 : CVal) (v5 v6 v7 : CVal) {Q : CExit → CSt → Prop}
    (hk : ∀ (v5 v6 v7 : CVal) n', h.next ≤ n' → Q (.exit 0) ⟨[.ref a va 1 0 l.length, .ref b vb 1 0 l.length, v2, .int .i64 (l.length : Int), .int .i64 (l.length : Int), v5, v6, v7, .bool false], ⟨h.ents, n', h.tys⟩, []⟩) : W tree.getF eqL21 ⟨[.ref a va 1 0 l.length, .ref b vb 1 0 l.length, v2, .int .i64 (l.length : Int), .int .i64 (l.length : Int), v5, v6, v7, .bool false], h, []⟩ Q := by
  obtain ⟨hu, hut, hX⟩ := fx4 hf
  refine W.loop ?_
  repeat (first
    | refine st_ rfl ?_
    | ((first | refine W.regG ?_ | refine WoR.go ?_); generalize e : goR .. = r; simp (disch := omega) [hX, Int.lt_irrefl] at e; replace e : some _ = _ := e; subst e; (try dsimp only [goW])))
  all_goals (refine hk _ _ _ _ ?_; ((try dsimp only); omega))
theorem eq21_loop {a va b vb : Nat} {l : List (List UInt8)} (hl : l.length < 10000) {h : CHeap} (hf : Fit h) (hga : getEnt h.ents a = some (.row va (l.map .str))) (hgb : getEnt h.ents b = some (.row vb (l.map .str))) (v2 : CVal) {Q : CExit → CSt → Prop}
    (hk : ∀ (v5 v6 v7 : CVal) n', h.next ≤ n' → Q (.exit 0) ⟨[.ref a va 1 0 l.length, .ref b vb 1 0 l.length, v2, .int .i64 (l.length : Int), .int .i64 (l.length : Int), v5, v6, v7, .bool false], ⟨h.ents, n', h.tys⟩, []⟩) :
    ∀ (k i nx : Nat) (v5 v6 v7 : CVal), i + k = l.length → h.next ≤ nx → W tree.getF eqL21 ⟨[.ref a va 1 0 l.length, .ref b vb 1 0 l.length, v2, .int .i64 (i : Int), .int .i64 (l.length : Int), v5, v6, v7, .bool false], ⟨h.ents, nx, h.tys⟩, []⟩ Q := by
  intro k
  induction k with
  | zero =>
    intro i nx v5 v6 v7 h1 h2
    rw [show i = l.length by omega]
    exact eq21_end hl (h := ⟨h.ents, nx, h.tys⟩) ⟨hf.1.le h2, hf.2.le h2⟩ hga hgb _ _ _ _ fun v5 v6 v7 n' g => hk v5 v6 v7 n' (Nat.le_trans h2 g)
  | succ k ih =>
    intro i nx v5 v6 v7 h1 h2
    refine eq21_go hl (h := ⟨h.ents, nx, h.tys⟩) ⟨hf.1.le h2, hf.2.le h2⟩ hga hgb i (by omega) _ _ _ _ fun v5 v6 v7 n' g => ?_
    have := ih (i + 1) n' v5 v6 v7 (by omega) (Nat.le_trans h2 g)
    rwa [show ((i + 1 : Nat) : Int) = (i : Int) + 1 by omega] at this
theorem eq21_F {a va b vb : Nat} {l : List (List UInt8)} (hl : l.length < 10000) {h : CHeap} (hf : Fit h) (hga : getEnt h.ents a = some (.row va (l.map .str))) (hgb : getEnt h.ents b = some (.row vb (l.map .str))) {K : CVal → CHeap → Prop} (hk : ∀ n', h.next ≤ n' → K (.bool true) ⟨h.ents, n', h.tys⟩) : Wc tree.getF 21 [.ref a va 1 0 l.length, .ref b vb 1 0 l.length] h K := by
  obtain ⟨hu, hut, hX⟩ := fx4 hf
  refine Wc.mkG 21 c21 (by kernel_rfl) rfl ?_
  generalize e : entryC .. = r
  simp (disch := omega) [c21] at e
  subst e
  repeat (fail_if_success (show W tree.getF eqL21 _ _)
          first
    | refine st_ rfl ?_
    | ((first | refine W.regG ?_ | refine WoR.go ?_); generalize e : goR .. = r; simp (disch := omega) [hX, hga, hgb, c21] at e; replace e : some _ = _ := e; subst e; (try dsimp only [goW])))
  refine eq21_loop hl hf hga hgb _ (fun v5 v6 v7 n' g1 => ?_) l.length 0 _ _ _ _ (by omega) (by (try dsimp only); omega)
  (try simp only [outOf, thenW_ret, thenW_exit, roundW, reduceIte])
  repeat (first
    | refine st_ rfl ?_
    | ((first | refine W.regG ?_ | refine WoR.go ?_); generalize e : goR .. = r; simp (disch := omega) [hX, c21] at e; replace e : some _ = _ := e; subst e; (try dsimp only [goW]))
    | ((first | (refine W.ret ?_; (try simp only [outOf, thenW_ret, thenW_exit, roundW, reduceIte]); refine endW.of (.inl rfl) rfl ?_) | refine endW.of (.inl rfl) rfl ?_ | refine endW.of (.inr rfl) rfl ?_); generalize e : endsC .. = r; simp (disch := omega) [hX, c21] at e; subst e; refine hk _ ?_; omega))

theorem eq21_nil  : Pe 21 [.nils, .nils] (.bool true) := by
  intro h hf K hk
  obtain ⟨hu, hut, hX⟩ := fx4 hf
  refine Wc.mkG 21 c21 (by kernel_rfl) rfl ?_
  generalize e : entryC .. = r
  simp (disch := omega) [c21] at e
  subst e
  repeat (first
    | refine st_ rfl ?_
    | ((first | refine W.regG ?_ | refine WoR.go ?_); generalize e : goR .. = r; simp (disch := omega) [hX, Int.lt_irrefl, c21] at e; replace e : some _ = _ := e; subst e; (try dsimp only [goW]))
    | (refine W.loop ?_; try (generalize e : dropped .. = r; simp (disch := omega) [hX, Int.lt_irrefl, c21] at e; subst e; try dsimp only))
    | ((first | (refine W.ret ?_; (try simp only [outOf, thenW_ret, thenW_exit, roundW, reduceIte]); refine endW.of (.inl rfl) rfl ?_) | refine endW.of (.inl rfl) rfl ?_ | refine endW.of (.inr rfl) rfl ?_); generalize e : endsC .. = r; simp (disch := omega) [hX, Int.lt_irrefl, c21] at e; subst e; refine hk _ ?_; omega))

abbrev eqL22 : CCode := (.loop true (.seq (.region [.g (.bin .lss (.var 3) (.var 4))] [(5, 0)] [] []) (.seq (.cond (.var 5) .skip (.exit 0)) (.seq (.block 1 (.seq (.region [.v 3, .m (.loc 0)] [(6, 1)] [] []) (.seq (.region [.v 0, .v 6, .g (.idxAddr 1 (.loc 1) (.loc 0)), .l 0, .v 1, .v 6, .g (.idxAddr 1 (.loc 1) (.loc 0)), .l 0, .g (.eqv .bool true (.loc 4) (.loc 0))] [(7, 8)] [] []) (.cond (.var 7) (.seq (.region [.m (.b false)] [(8, 0)] [] []) .ret) .skip)))) (.region [.g (.bin .add (.var 3) (.k 1)), .m (.loc 0)] [(3, 1)] [] [])))))
theorem eq22_go {a va b vb : Nat} {l : List Bool} (hl : l.length < 10000) {h : CHeap} (hf : Fit h) (hga : getEnt h.ents a = some (.row va (l.map .bool))) (hgb : getEnt h.ents b = some (.row vb (l.map .bool))) (i : Nat) (hi : i < l.length) (v2 : CVal) (v5 v6 v7 : CVal) {Q : CExit → CSt → Prop}
    (hk : ∀ (v5 v6 v7 : CVal) n', h.next ≤ n' → W tree.getF eqL22 ⟨[.ref a va 1 0 l.length, .ref b vb 1 0 l.length, v2, .int .i64 ((i : Int) + 1), .int .i64 (l.length : Int), v5, v6, v7, .bool false], ⟨h.ents, n', h.tys⟩, []⟩ Q) : W tree.getF eqL22 ⟨[.ref a va 1 0 l.length, .ref b vb 1 0 l.length, v2, .int .i64 (i : Int), .int .i64 (l.length : Int), v5, v6, v7, .bool false], h, []⟩ Q := by
  obtain ⟨hu, hut, hX⟩ := fx4 hf
  have hx3 : nth (l.map CVal.bool) i = .bool l[i] := nth_mapG CVal.bool l i _ (List.getElem?_eq_getElem hi)
  have hdl : (i : Int) < (l.length : Int) := by omega
  have hi2 : (i : Int).toNat = i := by omega
  generalize l[i] = t at hx3
  refine W.loop ?_
  repeat (first
    | refine st_ rfl ?_
    | ((first | refine W.regG ?_ | refine WoR.go ?_); generalize e : goR .. = r; simp (disch := omega) [hX, hga, hgb, hx3, hi2, hdl, hi, hl] at e; replace e : some _ = _ := e; subst e; (try dsimp only [goW])))
  show W tree.getF eqL22 (dropped true _ _) Q
  generalize e : dropped _ _ _ = r
  simp (disch := omega) [hX] at e
  subst e
  refine hk _ _ _ _ ?_; omega
theorem eq22_end {a va b vb : Nat} {l : List Bool} (hl : l.length < 10000) {h : CHeap} (hf : Fit h) (hga : getEnt h.ents a = some (.row va (l.map .bool))) (hgb : getEnt h.ents b = some (.row vb (l.map .bool))) (v2 : CVal) (v5 v6 v7 : CVal) {Q : CExit → CSt → Prop}
    (hk : ∀ (v5 v6 v7 : CVal) n', h.next ≤ n' → Q (.exit 0) ⟨[.ref a va 1 0 l.length, .ref b vb 1 0 l.length, v2, .int .i64 (l.length : Int), .int .i64 (l.length : Int), v5, v6, v7, .bool false], ⟨h.ents, n', h.tys⟩, []⟩) : W tree.getF eqL22 ⟨[.ref a va 1 0 l.length, .ref b vb 1 0 l.length, v2, .int .i64 (l.length : Int), .int .i64 (l.length : Int), v5, v6, v7, .bool false], h, []⟩ Q := by
  obtain ⟨hu, hut, hX⟩ := fx4 hf
  refine W.loop ?_
  repeat (first
    | refine st_ rfl ?_
    | ((first | refine W.regG ?_ | refine WoR.go ?_); generalize e : goR .. = r; simp (disch := omega) [hX, Int.lt_irrefl] at e; replace e : some _ = _ := e; subst e; (try dsimp only [goW])))
  all_goals (refine hk _ _ _ _ ?_; ((try dsimp only); omega))
theorem eq22_loop {a va b vb : Nat} {l : List Bool} (hl : l.length < 10000) {h : CHeap} (hf : Fit h) (hga : getEnt h.ents a = some (.row va (l.map .bool))) (hgb : getEnt h.ents b = some (.row vb (l.map .bool))) (v2 : CVal) {Q : CExit → CSt → Prop}
    (hk : ∀ (v5 v6 v7 : CVal) n', h.next ≤ n' → Q (.exit 0) ⟨[.ref a va 1 0 l.length, .ref b vb 1 0 l.length, v2, .int .i64 (l.length : Int), .int .i64 (l.length : Int), v5, v6, v7, .bool false], ⟨h.ents, n', h.tys⟩, []⟩) :
    ∀ (k i nx : Nat) (v5 v6 v7 : CVal), i + k = l.length → h.next ≤ nx → W tree.getF eqL22 ⟨[.ref a va 1 0 l.length, .ref b vb 1 0 l.length, v2, .int .i64 (i : Int), .int .i64 (l.length : Int), v5, v6, v7, .bool false], ⟨h.ents, nx, h.tys⟩, []⟩ Q := by
  intro k
  induction k with
  | zero =>
    intro i nx v5 v6 v7 h1 h2
    rw [show i = l.length by omega]
    exact eq22_end hl (h := ⟨h.ents, nx, h.tys⟩) ⟨hf.1.le h2, hf.2.le h2⟩ hga hgb _ _ _ _ fun v5 v6 v7 n' g => hk v5 v6 v7 n' (Nat.le_trans h2 g)
  | succ k ih =>
    intro i nx v5 v6 v7 h1 h2
    refine eq22_go hl (h := ⟨h.ents, nx, h.tys⟩) ⟨hf.1.le h2, hf.2.le h2⟩ hga hgb i (by omega) _ _ _ _ fun v5 v6 v7 n' g => ?_
    have := ih (i + 1) n' v5 v6 v7 (by omega) (Nat.le_trans h2 g)
    rwa [show ((i + 1 : Nat) : Int) = (i : Int) + 1 by omega] at this
theorem eq22_F {a va b vb : Nat} {l : List Bool} (hl : l.length < 10000) {h : CHeap} (hf : Fit h) (hga : getEnt h.ents a = some (.row va (l.map .bool))) (hgb : getEnt h.ents b = some (.row vb (l.map .bool))) {K : CVal → CHeap → Prop} (hk : ∀ n', h.next ≤ n' → K (.bool true) ⟨h.ents, n', h.tys⟩) : Wc tree.getF 22 [.ref a va 1 0 l.length, .ref b vb 1 0 l.length] h K := by
  obtain ⟨hu, hut, hX⟩ := fx4 hf
  refine Wc.mkG 22 c22 (by kernel_rfl) rfl ?_
  generalize e : entryC .. = r
  simp (disch := omega) [c22] at e
  subst e
  repeat (fail_if_success (show W tree.getF eqL22 _ _)
          first
    | refine st_ rfl ?_
    | ((first | refine W.regG ?_ | refine WoR.go ?_); generalize e : goR .. = r; simp (disch := omega) [hX, hga, hgb, c22] at e; replace e : some _ = _ := e; subst e; (try dsimp only [goW])))
  refine eq22_loop hl hf hga hgb _ (fun v5 v6 v7 n' g1 => ?_) l.length 0 _ _ _ _ (by omega) (by (try dsimp only); omega)
  (try simp only [outOf, thenW_ret, thenW_exit, roundW, reduceIte])
  repeat (first
    | refine st_ rfl ?_
    | ((first | refine W.regG ?_ | refine WoR.go ?_); generalize e : goR .. = r; simp (disch := omega) [hX, c22] at e; replace e : some _ = _ := e; subst e; (try dsimp only [goW]))
    | ((first | (refine W.ret ?_; (try simp only [outOf, thenW_ret, thenW_exit, roundW, reduceIte]); refine endW.of (.inl rfl) rfl ?_) | refine endW.of (.inl rfl) rfl ?_ | refine endW.of (.inr rfl) rfl ?_); generalize e : endsC .. = r; simp (disch := omega) [hX, c22] at e; subst e; refine hk _ ?_; omega))

theorem eq22_nil  : Pe 22 [.nils, .nils] (.bool true) := by
  intro h hf K hk
  obtain ⟨hu, hut, hX⟩ := fx4 hf
  refine Wc.mkG 22 c22 (by kernel_rfl) rfl ?_
  generalize e : entryC .. = r
  simp (disch := omega) [c22] at e
  subst e
  repeat (first
    | refine st_ rfl ?_
    | ((first | refine W.regG ?_ | refine WoR.go ?_); generalize e : goR .. = r; simp (disch := omega) [hX, Int.lt_irrefl, c22] at e; replace e : some _ = _ := e; subst e; (try dsimp only [goW]))
    | (refine W.loop ?_; try (generalize e : dropped .. = r; simp (disch := omega) [hX, Int.lt_irrefl, c22] at e; subst e; try dsimp only))
    | ((first | (refine W.ret ?_; (try simp only [outOf, thenW_ret, thenW_exit, roundW, reduceIte]); refine endW.of (.inl rfl) rfl ?_) | refine endW.of (.inl rfl) rfl ?_ | refine endW.of (.inr rfl) rfl ?_); generalize e : endsC .. = r; simp (disch := omega) [hX, Int.lt_irrefl, c22] at e; subst e; refine hk _ ?_; omega))
end Go.Proofs.YtdolnhpdfeagiaaGreatDoor.IrP
namespace Go.Proofs.YtdolnhpdfeagiaaGreatDoor.IrP
open Go Go.CI
set_option maxRecDepth 100000
set_option maxHeartbeats 4000000
set_option linter.unusedVariables false
set_option linter.unusedSimpArgs false
attribute [local irreducible] W Wo Wc WoR

abbrev efL : CCode := (.loop true (.seq (.region [.g (.bin .lss (.var 3) (.var 4))] [(5, 0)] [] []) (.seq (.cond (.var 5) .skip (.exit 0)) (.seq (.block 1 (.seq (.region [.v 3, .g (.idxAddr 3 (.var 6) (.var 3)), .g (.load (some 3) (.loc 0)), .g (.lazy 30408707), .m (.loc 3), .g (.init 3 (.loc 1) (.loc 2))] [(7, 4), (9, 3)] [] []) (.seq (.region [.v 1, .v 7, .g (.idxAddr 3 (.loc 1) (.loc 0)), .g (.load (some 3) (.loc 0)), .g (.lazy 30408707), .g (.init 3 (.loc 0) (.loc 1))] [(10, 4)] [] []) (.seq (.region [.v 8, .g (.load (some 3) (.var 9)), .g (.load (some 3) (.var 10)), .g (.callv false (.loc 2) [(.loc 1), (.loc 0)]), .g (.not (.loc 0))] [(11, 4)] [] []) (.cond (.var 11) (.seq (.region [.m (.b false)] [(12, 0)] [] []) .ret) .skip))))) (.region [.g (.bin .add (.var 3) (.k 1)), .m (.loc 0)] [(3, 1)] [] [])))))
/-- A heap in which all rows of another lie. -/
def Kp (h h2 : CHeap) : Prop := Fit h2 ∧ h2.tys = h.tys ∧ ∀ q va es, getEnt h.ents q = some (.row va es) → getEnt h2.ents q = some (.row va es)
theorem ef_go {a va b vb L : Nat} {S1 S2 : List CVal} (hl1 : S1.length = L) (hl2 : S2.length = L) (hl : L < 10000) {h : CHeap} (hf : Fit h) (hga : getEnt h.ents a = some (.row va S1)) (hgb : getEnt h.ents b = some (.row vb S2)) (i : Nat) (hi : i < L) {r0 r1 r2 s0 s1 s2 : CVal} (hn1 : nth S1 i = .agg [r0, r1, r2]) (hn2 : nth S2 i = .agg [s0, s1, s2]) (hr0 : NR r0) (hr1 : NR r1) (hr2 : NR r2) (hs0 : NR s0) (hs1 : NR s1) (hs2 : NR s2)
    (hS : ∀ h2 K, Kp h h2 → (∀ n', h2.next ≤ n' → K (.bool true) ⟨h2.ents, n', h2.tys⟩) → Wc tree.getF 9 [.agg [r0, r1, r2], .agg [s0, s1, s2]] h2 K) (v2 : CVal) (v5 v7 v9 v10 v11 : CVal) {Q : CExit → CSt → Prop}
    (hk : ∀ (v5 v7 v9 v10 v11 : CVal) n', h.next ≤ n' → W tree.getF efL ⟨[.ref a va 3 0 L, .ref b vb 3 0 L, v2, .int .i64 ((i : Int) + 1), .int .i64 (L : Int), v5, .ref a va 3 0 L, v7, .fn (.func 9) [] [], v9, v10, v11, .bool false], ⟨h.ents, n', h.tys⟩, []⟩ Q) : W tree.getF efL ⟨[.ref a va 3 0 L, .ref b vb 3 0 L, v2, .int .i64 (i : Int), .int .i64 (L : Int), v5, .ref a va 3 0 L, v7, .fn (.func 9) [] [], v9, v10, v11, .bool false], h, []⟩ Q := by
  obtain ⟨hu, hut, hX⟩ := fx4 hf
  have hdl : (i : Int) < (L : Int) := by omega
  have hi2 : (i : Int).toNat = i := by omega
  have e0 := hr0.strip
  have e1 := hr1.strip
  have e2 := hr2.strip
  have e3 := hs0.strip
  have e4 := hs1.strip
  have e5 := hs2.strip
  simp only [CVal.strip] at e0 e1 e2 e3 e4 e5
  have ja := in_under hu hga
  have jb := in_under hu hgb
  refine W.loop ?_
  repeat (first
    | refine st_ rfl ?_
    | ((first | refine W.regG ?_ | refine WoR.go ?_); generalize e : goR .. = r; simp (disch := omega) [hX, hga, hgb, hn1, hn2, hi2, hdl, hi, hl, hl1, hl2, e0, e1, e2, e3, e4, e5, getEnt_skip] at e; replace e : some _ = _ := e; subst e; (try dsimp only [goW]))
    | (refine hS _ _ ⟨ft_, rfl, fun q va es h9 => ?_⟩ fun _ g => ⟨rfl, ?_⟩; (focus (have := in_under hu h9; dsimp only; rw [getEnt_skip (by omega), getEnt_skip (by omega)]; exact h9)); (try dsimp only at g)))
  show W tree.getF efL (dropped true _ _) Q
  generalize e : dropped _ _ _ = r
  simp (disch := omega) [hX] at e
  subst e
  refine hk _ _ _ _ _ _ ?_; omega
theorem ef_end {a b va vb L : Nat} {h : CHeap} (hf : Fit h) (v2 : CVal) (v5 v7 v9 v10 v11 : CVal) {Q : CExit → CSt → Prop}
    (hk : ∀ (v5 v7 v9 v10 v11 : CVal) n', h.next ≤ n' → Q (.exit 0) ⟨[.ref a va 3 0 L, .ref b vb 3 0 L, v2, .int .i64 (L : Int), .int .i64 (L : Int), v5, .ref a va 3 0 L, v7, .fn (.func 9) [] [], v9, v10, v11, .bool false], ⟨h.ents, n', h.tys⟩, []⟩) : W tree.getF efL ⟨[.ref a va 3 0 L, .ref b vb 3 0 L, v2, .int .i64 (L : Int), .int .i64 (L : Int), v5, .ref a va 3 0 L, v7, .fn (.func 9) [] [], v9, v10, v11, .bool false], h, []⟩ Q := by
  obtain ⟨hu, hut, hX⟩ := fx4 hf
  refine W.loop ?_
  repeat (first
    | refine st_ rfl ?_
    | ((first | refine W.regG ?_ | refine WoR.go ?_); generalize e : goR .. = r; simp (disch := omega) [hX, Int.lt_irrefl] at e; replace e : some _ = _ := e; subst e; (try dsimp only [goW])))
  all_goals (refine hk _ _ _ _ _ _ ?_; ((try dsimp only); omega))
theorem ef_loop {a va b vb L : Nat} {S1 S2 : List CVal} (hl1 : S1.length = L) (hl2 : S2.length = L) (hl : L < 10000) {h : CHeap} (hf : Fit h) (hga : getEnt h.ents a = some (.row va S1)) (hgb : getEnt h.ents b = some (.row vb S2)) (hS : ∀ i, i < L → ∃ r0 r1 r2 s0 s1 s2, nth S1 i = .agg [r0, r1, r2] ∧ nth S2 i = .agg [s0, s1, s2] ∧ NR r0 ∧ NR r1 ∧ NR r2 ∧ NR s0 ∧ NR s1 ∧ NR s2 ∧ ∀ h2 K, Kp h h2 → (∀ n', h2.next ≤ n' → K (.bool true) ⟨h2.ents, n', h2.tys⟩) → Wc tree.getF 9 [.agg [r0, r1, r2], .agg [s0, s1, s2]] h2 K) (v2 : CVal) {Q : CExit → CSt → Prop}
    (hk : ∀ (v5 v7 v9 v10 v11 : CVal) n', h.next ≤ n' → Q (.exit 0) ⟨[.ref a va 3 0 L, .ref b vb 3 0 L, v2, .int .i64 (L : Int), .int .i64 (L : Int), v5, .ref a va 3 0 L, v7, .fn (.func 9) [] [], v9, v10, v11, .bool false], ⟨h.ents, n', h.tys⟩, []⟩) :
    ∀ (k i nx : Nat) (v5 v7 v9 v10 v11 : CVal), i + k = L → h.next ≤ nx → W tree.getF efL ⟨[.ref a va 3 0 L, .ref b vb 3 0 L, v2, .int .i64 (i : Int), .int .i64 (L : Int), v5, .ref a va 3 0 L, v7, .fn (.func 9) [] [], v9, v10, v11, .bool false], ⟨h.ents, nx, h.tys⟩, []⟩ Q := by
  intro k
  induction k with
  | zero =>
    intro i nx v5 v7 v9 v10 v11 h1 h2
    rw [show i = L by omega]
    exact ef_end (h := ⟨h.ents, nx, h.tys⟩) ⟨hf.1.le h2, hf.2.le h2⟩ _ _ _ _ _ _ fun v5 v7 v9 v10 v11 n' g => hk v5 v7 v9 v10 v11 n' (Nat.le_trans h2 g)
  | succ k ih =>
    intro i nx v5 v7 v9 v10 v11 h1 h2
    obtain ⟨r0, r1, r2, s0, s1, s2, k1, k2, y0, y1, y2, z0, z1, z2, kS⟩ := hS i (by omega)
    refine ef_go hl1 hl2 hl (h := ⟨h.ents, nx, h.tys⟩) ⟨hf.1.le h2, hf.2.le h2⟩ hga hgb i (by omega) k1 k2 y0 y1 y2 z0 z1 z2 (fun h3 K hKp hk3 => kS h3 K hKp hk3) _ _ _ _ _ _ fun v5 v7 v9 v10 v11 n' g => ?_
    have := ih (i + 1) n' v5 v7 v9 v10 v11 (by omega) (Nat.le_trans h2 g)
    rwa [show ((i + 1 : Nat) : Int) = (i : Int) + 1 by omega] at this
theorem ef_F {a va b vb L : Nat} {S1 S2 : List CVal} (hl1 : S1.length = L) (hl2 : S2.length = L) (hl : L < 10000) {h : CHeap} (hf : Fit h) (hga : getEnt h.ents a = some (.row va S1)) (hgb : getEnt h.ents b = some (.row vb S2)) (hS : ∀ i, i < L → ∃ r0 r1 r2 s0 s1 s2, nth S1 i = .agg [r0, r1, r2] ∧ nth S2 i = .agg [s0, s1, s2] ∧ NR r0 ∧ NR r1 ∧ NR r2 ∧ NR s0 ∧ NR s1 ∧ NR s2 ∧ ∀ h2 K, Kp h h2 → (∀ n', h2.next ≤ n' → K (.bool true) ⟨h2.ents, n', h2.tys⟩) → Wc tree.getF 9 [.agg [r0, r1, r2], .agg [s0, s1, s2]] h2 K) {K : CVal → CHeap → Prop} (hk : ∀ n', h.next ≤ n' → K (.bool true) ⟨h.ents, n', h.tys⟩) : Wc tree.getF 23 [.ref a va 3 0 L, .ref b vb 3 0 L, .fn (.func 9) [] []] h K := by
  obtain ⟨hu, hut, hX⟩ := fx4 hf
  refine Wc.mkG 23 c23 (by kernel_rfl) rfl ?_
  generalize e : entryC .. = r
  simp (disch := omega) [c23] at e
  subst e
  repeat (fail_if_success (show W tree.getF efL _ _)
          first
    | refine st_ rfl ?_
    | ((first | refine W.regG ?_ | refine WoR.go ?_); generalize e : goR .. = r; simp (disch := omega) [hX, hga, hgb, c23] at e; replace e : some _ = _ := e; subst e; (try dsimp only [goW])))
  refine ef_loop hl1 hl2 hl hf hga hgb hS _ (fun v5 v7 v9 v10 v11 n' g1 => ?_) L 0 _ _ _ _ _ _ (by omega) (by (try dsimp only); omega)
  (try simp only [outOf, thenW_ret, thenW_exit, roundW, reduceIte])
  repeat (first
    | refine st_ rfl ?_
    | ((first | refine W.regG ?_ | refine WoR.go ?_); generalize e : goR .. = r; simp (disch := omega) [hX, c23] at e; replace e : some _ = _ := e; subst e; (try dsimp only [goW]))
    | ((first | (refine W.ret ?_; (try simp only [outOf, thenW_ret, thenW_exit, roundW, reduceIte]); refine endW.of (.inl rfl) rfl ?_) | refine endW.of (.inl rfl) rfl ?_ | refine endW.of (.inr rfl) rfl ?_); generalize e : endsC .. = r; simp (disch := omega) [hX, c23] at e; subst e; refine hk _ ?_; omega))

theorem ef_nil  : Pe 23 [.nils, .nils, .fn (.func 9) [] []] (.bool true) := by
  intro h hf K hk
  obtain ⟨hu, hut, hX⟩ := fx4 hf
  refine Wc.mkG 23 c23 (by kernel_rfl) rfl ?_
  generalize e : entryC .. = r
  simp (disch := omega) [c23] at e
  subst e
  repeat (first
    | refine st_ rfl ?_
    | ((first | refine W.regG ?_ | refine WoR.go ?_); generalize e : goR .. = r; simp (disch := omega) [hX, Int.lt_irrefl, c23] at e; replace e : some _ = _ := e; subst e; (try dsimp only [goW]))
    | (refine W.loop ?_; try (generalize e : dropped .. = r; simp (disch := omega) [hX, Int.lt_irrefl, c23] at e; subst e; try dsimp only))
    | ((first | (refine W.ret ?_; (try simp only [outOf, thenW_ret, thenW_exit, roundW, reduceIte]); refine endW.of (.inl rfl) rfl ?_) | refine endW.of (.inl rfl) rfl ?_ | refine endW.of (.inr rfl) rfl ?_); generalize e : endsC .. = r; simp (disch := omega) [hX, Int.lt_irrefl, c23] at e; subst e; refine hk _ ?_; omega))

end Go.Proofs.YtdolnhpdfeagiaaGreatDoor.IrP
namespace Go.Proofs.YtdolnhpdfeagiaaGreatDoor.IrP
open Go Go.CI
set_option maxRecDepth 100000
set_option maxHeartbeats 4000000
set_option linter.unusedVariables false
set_option linter.unusedSimpArgs false
attribute [local irreducible] W Wo Wc WoR

theorem sm_nil  : Pe 9 [nil3, nil3] (.bool true) := by
  intro h hf K hk
  obtain ⟨hu, hut, hX⟩ := fx4 hf
  refine Wc.mkG 9 c9 (by kernel_rfl) rfl ?_
  generalize e : entryC .. = r
  simp (disch := omega) [c9] at e
  subst e
  repeat (first
    | refine st_ rfl ?_
    | ((first | refine W.regG ?_ | refine WoR.go ?_); generalize e : goR .. = r; simp (disch := omega) [hX, c9] at e; replace e : some _ = _ := e; subst e; (try dsimp only [goW]))
    | (refine pe_ (eq21_nil) fun _ g => ⟨rfl, ?_⟩; (try dsimp only at g))
    | (refine pe_ (eq22_nil) fun _ g => ⟨rfl, ?_⟩; (try dsimp only at g))
    | (refine pe_ (ef_nil) fun _ g => ⟨rfl, ?_⟩; (try dsimp only at g))
    | ((first | (refine W.ret ?_; (try simp only [outOf, thenW_ret, thenW_exit, roundW, reduceIte]); refine endW.of (.inl rfl) rfl ?_) | refine endW.of (.inl rfl) rfl ?_ | refine endW.of (.inr rfl) rfl ?_); generalize e : endsC .. = r; simp (disch := omega) [hX, c9] at e; subst e; refine hk _ ?_; omega))

theorem sm_rows {a1 b1 c1 a2 b2 c2 va1 vb1 vc1 va2 vb2 vc2 L : Nat} {h : CHeap} (hf : Fit h) (E1 : ∀ h2 K, Kp h h2 → (∀ n', h2.next ≤ n' → K (.bool true) ⟨h2.ents, n', h2.tys⟩) → Wc tree.getF 21 [.ref a1 va1 1 0 L, .ref a2 va2 1 0 L] h2 K) (E2 : ∀ h2 K, Kp h h2 → (∀ n', h2.next ≤ n' → K (.bool true) ⟨h2.ents, n', h2.tys⟩) → Wc tree.getF 22 [.ref b1 vb1 1 0 L, .ref b2 vb2 1 0 L] h2 K) (E3 : ∀ h2 K, Kp h h2 → (∀ n', h2.next ≤ n' → K (.bool true) ⟨h2.ents, n', h2.tys⟩) → Wc tree.getF 23 [.ref c1 vc1 3 0 L, .ref c2 vc2 3 0 L, .fn (.func 9) [] []] h2 K) {K : CVal → CHeap → Prop} (hk : ∀ n', h.next ≤ n' → K (.bool true) ⟨h.ents, n', h.tys⟩) : Wc tree.getF 9 [.agg [.ref a1 va1 1 0 L, .ref b1 vb1 1 0 L, .ref c1 vc1 3 0 L], .agg [.ref a2 va2 1 0 L, .ref b2 vb2 1 0 L, .ref c2 vc2 3 0 L]] h K := by
  obtain ⟨hu, hut, hX⟩ := fx4 hf
  refine Wc.mkG 9 c9 (by kernel_rfl) rfl ?_
  generalize e : entryC .. = r
  simp (disch := omega) [c9] at e
  subst e
  repeat (first
    | refine st_ rfl ?_
    | ((first | refine W.regG ?_ | refine WoR.go ?_); generalize e : goR .. = r; simp (disch := omega) [hX, c9] at e; replace e : some _ = _ := e; subst e; (try dsimp only [goW]))
    | (refine E1 _ _ ⟨ft_, rfl, fun q va es h9 => ?_⟩ fun _ g => ⟨rfl, ?_⟩; (focus (have := in_under hu h9; dsimp only; rw [getEnt_skip (by omega), getEnt_skip (by omega)]; exact h9)); (try dsimp only at g))
    | (refine E2 _ _ ⟨ft_, rfl, fun q va es h9 => ?_⟩ fun _ g => ⟨rfl, ?_⟩; (focus (have := in_under hu h9; dsimp only; rw [getEnt_skip (by omega), getEnt_skip (by omega)]; exact h9)); (try dsimp only at g))
    | (refine E3 _ _ ⟨ft_, rfl, fun q va es h9 => ?_⟩ fun _ g => ⟨rfl, ?_⟩; (focus (have := in_under hu h9; dsimp only; rw [getEnt_skip (by omega), getEnt_skip (by omega)]; exact h9)); (try dsimp only at g))
    | ((first | (refine W.ret ?_; (try simp only [outOf, thenW_ret, thenW_exit, roundW, reduceIte]); refine endW.of (.inl rfl) rfl ?_) | refine endW.of (.inl rfl) rfl ?_ | refine endW.of (.inr rfl) rfl ?_); generalize e : endsC .. = r; simp (disch := omega) [hX, c9] at e; subst e; refine hk _ ?_; omega))

def SC (n : Nat) : Prop := ∀ (m : MT n) (v1 v2 : CVal) (h : CHeap) (i1 i2 : List Nat), MR n m v1 h.ents i1 → MR n m v2 h.ents i2 → Fit h → mayT n m → neT n m → ∀ K : CVal → CHeap → Prop, (∀ n', h.next ≤ n' → K (.bool true) ⟨h.ents, n', h.tys⟩) → Wc tree.getF 9 [v1, v2] h K
theorem same_C : ∀ n, SC n
  | 0 => fun m v1 v2 h i1 i2 _ _ _ _ hn => by cases hn
  | n + 1 => fun m v1 v2 h i1 i2 hM1 hM2 hf hm hn K hk => by
    rcases hM1 with ⟨rfl, rfl, rfl⟩ | ⟨a1, va1, b1, vb1, c1, vc1, z1, rfl, rfl, g1, g2, g3, rfl, g7⟩
    · exact absurd rfl hn
    rcases hM2 with ⟨hmm, rfl, rfl⟩ | ⟨a2, va2, b2, vb2, c2, vc2, z2, hmm, rfl, k1, k2, k3, rfl, k7⟩
    · exact absurd hmm hn
    have hlen : z2.length = z1.length := by have := congrArg List.length hmm; simpa using this.symm
    have hl : z1.length < 2000 := by simpa using hm.1
    have hnm : z2.map (·.nm) = z1.map (·.nm) := by
      have := congrArg (List.map Prod.fst) hmm
      simpa [List.map_map, Function.comp_def] using this.symm
    have hwh : z2.map (·.o.isNone) = z1.map (·.o.isNone) := by
      have := congrArg (List.map fun e => e.2.isNone) hmm
      simpa [List.map_map, Function.comp_def] using this.symm
    rw [hlen]
    refine sm_rows hf (fun h2 K2 hK hk2 => ?_) (fun h2 K2 hK hk2 => ?_) (fun h2 K2 hK hk2 => ?_) hk
    · have := eq21_F (l := z1.map (·.nm)) (by rw [List.length_map]; omega) hK.1 ((hK.2.2 _ _ _ g1).trans (by rw [List.map_map]; rfl)) ((hK.2.2 _ _ _ k1).trans (by rw [← hnm, List.map_map]; rfl)) hk2
      rwa [List.length_map] at this
    · have := eq22_F (l := z1.map (·.o.isNone)) (by rw [List.length_map]; omega) hK.1 ((hK.2.2 _ _ _ g2).trans (by rw [List.map_map]; rfl)) ((hK.2.2 _ _ _ k2).trans (by rw [← hwh, List.map_map]; rfl)) hk2
      rwa [List.length_map] at this
    · refine ef_F (S1 := z1.map (·.v)) (S2 := z2.map (·.v)) (by simp) (by simp [hlen]) (by omega) hK.1 (hK.2.2 _ _ _ g3) (hK.2.2 _ _ _ k3) (fun i hi => ?_) hk2
      have w1 : z1[i]? = some z1[i] := List.getElem?_eq_getElem hi
      have w2 : z2[i]? = some (z2[i]'(by omega)) := List.getElem?_eq_getElem (by omega)
      have q1 := nth_mapG (fun z : Zr (MT n) => z.v) z1 i _ w1
      have q2 := nth_mapG (fun z : Zr (MT n) => z.v) z2 i _ w2
      have m1 : z1[i] ∈ z1 := List.getElem_mem hi
      have m2 : (z2[i]'(by omega)) ∈ z2 := List.getElem_mem _
      have heq : (z1[i].nm, z1[i].o) = ((z2[i]'(by omega)).nm, (z2[i]'(by omega)).o) := by
        have := congrArg (fun l : List (List UInt8 × Option (MT n)) => l[i]?) hmm
        simp only [List.getElem?_map, w1, w2, Option.map_some, Option.some.injEq] at this
        exact this
      generalize z1[i] = x1 at *
      generalize (z2[i]'(by omega)) = x2 at *
      have ho : x1.o = x2.o := congrArg Prod.snd heq
      have y1 := g7 x1 m1
      have y2 := k7 x2 m2
      have hmx := hm.2.1 (x1.nm, x1.o) (List.mem_map.2 ⟨x1, m1, rfl⟩)
      cases hox : x1.o with
      | none =>
        rw [hox] at ho
        simp only [hox] at y1
        simp only [← ho] at y2
        refine ⟨_, _, _, _, _, _, q1.trans y1.1, q2.trans y2.1, .inl rfl, .inl rfl, .inl rfl, .inl rfl, .inl rfl, .inl rfl, fun h3 K3 hK3 hk3 => sm_nil h3 hK3.1 K3 hk3⟩
      | some t =>
        rw [hox] at ho
        simp only [hox] at y1
        simp only [← ho] at y2
        obtain ⟨r0, r1, r2, hv1, p0, p1, p2⟩ := MR.nr y1
        obtain ⟨s0, s1, s2, hv2, t0, t1, t2⟩ := MR.nr y2
        have hmt := hmx.2 t hox
        refine ⟨_, _, _, _, _, _, q1.trans hv1, q2.trans hv2, p0, p1, p2, t0, t1, t2, fun h3 K3 hK3 hk3 => ?_⟩
        rw [← hv1, ← hv2]
        exact same_C n t _ _ h3 x1.ids x2.ids (MR.rows y1 fun q _ va es h9 => hK3.2.2 q va es (hK.2.2 q va es h9)) (MR.rows y2 fun q _ va es h9 => hK3.2.2 q va es (hK.2.2 q va es h9)) hK3.1 hmt.2 hmt.1 K3 hk3
end Go.Proofs.YtdolnhpdfeagiaaGreatDoor.IrP
namespace Go.Proofs.YtdolnhpdfeagiaaGreatDoor.IrP
open Go Go.CI
set_option maxRecDepth 100000
set_option maxHeartbeats 4000000
set_option linter.unusedVariables false
set_option linter.unusedSimpArgs false
attribute [local irreducible] W Wo Wc WoR

abbrev bv (b : UInt8) : CVal := .int .u8 b.toNat
theorem bv_bare (x : List UInt8) : (x.map bv).map CVal.bare = x.map bv := by rw [List.map_map]; rfl
theorem gr_F {p n d o_ : Nat} {h : CHeap} (hf : Fit h) (hg : getEnt h.ents p = some (.cells [.nilp, .nils])) (hn : n < 100000) (hn0 : 0 < n) {K : CVal → CHeap → Prop}
    (hk : ∀ r n', h.next ≤ r → r < n' → K (.tup []) ⟨(r, .row 0 []) :: setEnt h.ents p (.cells [.ptr p 102760450 0, .ref r 0 1 0 0]), n', (r, 5) :: h.tys⟩) : Wc tree.getF 41 [.ptr p 102760450 0, .int .i64 (n : Int)] h K := by
  obtain ⟨hu, hut, hX⟩ := fx4 hf
  have hgp : ∀ x, getEnt (setEnt h.ents p x) p = some x := fun x => sy_getEnt_setEnt hg
  have lp := in_under hu hg
  have hdc : ∀ x m, h.next ≤ m → dropCells (setEnt h.ents p x) m = setEnt h.ents p x := fun x m hm => dropCells_under (hu.set.le hm)
  refine Wc.mkG 41 c41 (by kernel_rfl) rfl ?_
  generalize e : entryC .. = r
  simp (disch := omega) [c41] at e
  subst e
  repeat (first
    | refine st_ rfl ?_
    | ((first | refine W.regG ?_ | refine WoR.go ?_); generalize e : goR .. = r; simp (disch := omega) [hX, hg, hgp, hn, hn0, getEnt_skip, getEnt_setEnt_ne, sy_setEnt_setEnt, hdc, c41, c81] at e; replace e : some _ = _ := e; subst e; (try dsimp only [goW]))
    | (refine Wc.mkG 81 c81 (by kernel_rfl) rfl ?_; generalize e : entryC .. = r; simp (disch := omega) [c81] at e; subst e)
    | (refine Wc.primM (f := 80) (p := (pCopyCheck [(102760450, 0)])) (by kernel_rfl) ?_; generalize e : (pCopyCheck [(102760450, 0)]) _ _ = r; simp (disch := omega) [hX, hg, hgp, hn, hn0, getEnt_skip, getEnt_setEnt_ne, sy_setEnt_setEnt, hdc, c41, c81] at e; subst e; (try dsimp only); refine ⟨rfl, ?_⟩)
    | (refine Wc.primM (f := 123) (p := (pMakeNoZero 5)) (by kernel_rfl) ?_; generalize e : (pMakeNoZero 5) _ _ = r; simp (disch := omega) [hX, hg, hgp, hn, hn0, getEnt_skip, getEnt_setEnt_ne, sy_setEnt_setEnt, hdc, c41, c81] at e; subst e; (try dsimp only); refine ⟨rfl, ?_⟩)
    | ((first | (refine W.ret ?_; (try simp only [outOf, thenW_ret, thenW_exit, roundW, reduceIte]); refine endW.of (.inl rfl) rfl ?_) | refine endW.of (.inl rfl) rfl ?_ | refine endW.of (.inr rfl) rfl ?_); generalize e : endsC .. = r; simp (disch := omega) [hX, hg, hgp, hn, hn0, getEnt_skip, getEnt_setEnt_ne, sy_setEnt_setEnt, hdc, c41, c81] at e; subst e; refine ⟨rfl, ?_⟩))
  (first | (refine W.ret ?_; (try simp only [outOf, thenW_ret, thenW_exit, roundW, reduceIte]); refine endW.of (.inl rfl) rfl ?_) | refine endW.of (.inl rfl) rfl ?_ | refine endW.of (.inr rfl) rfl ?_); generalize e : endsC .. = r; simp (disch := omega) [hX, hdc, c41] at e
  subst e
  refine hk _ _ ?_ ?_
  · omega
  · (try dsimp only); omega
end Go.Proofs.YtdolnhpdfeagiaaGreatDoor.IrP
namespace Go.Proofs.YtdolnhpdfeagiaaGreatDoor.IrP
open Go Go.CI
set_option maxRecDepth 100000
set_option maxHeartbeats 4000000
set_option linter.unusedVariables false
set_option linter.unusedSimpArgs false
attribute [local irreducible] W Wo Wc WoR

theorem ws_F {p r v : Nat} {acc : List UInt8} {y : UInt8} {ys : List UInt8} (hal : acc.length < 100000) (hyl : ys.length < 100000) {h : CHeap} (hf : Fit h) (hg : getEnt h.ents p = some (.cells [.ptr p 102760450 0, .ref r v 1 0 acc.length])) (hr : getEnt h.ents r = some (.row v (acc.map bv))) (hty : lookupN h.tys r = some 5) (hpr : p ≠ r) {K : CVal → CHeap → Prop}
    (hk : ∀ n', h.next ≤ n' → K (.tup [.int .i64 ((ys.length : Int) + 1), .nili]) ⟨setEnt (setEnt h.ents r (.row (v + 1) ((acc ++ y :: ys).map bv))) p (.cells [.ptr p 102760450 0, .ref r (v + 1) 1 0 (acc ++ y :: ys).length]), n', h.tys⟩) : Wc tree.getF 42 [.ptr p 102760450 0, .str (y :: ys)] h K := by
  obtain ⟨hu, hut, hX⟩ := fx4 hf
  have hgp : ∀ x, getEnt (setEnt h.ents p x) p = some x := fun x => sy_getEnt_setEnt hg
  have hgr : ∀ x, getEnt (setEnt h.ents r x) r = some x := fun x => sy_getEnt_setEnt hr
  have hgrp : ∀ x, getEnt (setEnt h.ents r x) p = getEnt h.ents p := fun x => getEnt_setEnt_ne hpr
  have lp := in_under hu hg
  have lr := in_under hu hr
  have htk : List.take acc.length (acc.map bv) = acc.map bv := List.take_of_length_le (by simp)
  have hdc : ∀ x y m, h.next ≤ m → dropEnts (setEnt (setEnt h.ents r x) p y) m = setEnt (setEnt h.ents r x) p y := fun x y m hm => dropEnts_under ((hu.set.set).le hm)
  have hse : setEnt h.ents p (.cells [.ptr p 102760450 0, .ref r v 1 0 acc.length]) = h.ents := setEnt_same hg
  simp only [List.map_append, List.map_cons, List.length_append, List.length_cons] at hk
  have hbb : ys.map (CVal.bare ∘ fun b : UInt8 => CVal.int .u8 (b.toNat : Int)) = ys.map bv := rfl
  refine Wc.mkG 42 c42 (by kernel_rfl) rfl ?_
  generalize e : entryC .. = r
  simp (disch := omega) [c42] at e
  subst e
  repeat (first
    | refine st_ rfl ?_
    | ((first | refine W.regG ?_ | refine WoR.go ?_); generalize e : goR .. = r; simp (disch := omega) [hX, hg, hr, hgp, hgr, hgrp, hty, hpr, htk, hdc, hse, hal, hyl, hbb, byteVals, c42] at e; replace e : some _ = _ := e; subst e; (try dsimp only [goW]))
    | (refine Wc.primM (f := 80) (p := (pCopyCheck [(102760450, 0)])) (by kernel_rfl) ?_; generalize e : (pCopyCheck [(102760450, 0)]) _ _ = r; simp (disch := omega) [hX, hg, hr, hgp, hgr, hgrp, hty, hpr, htk, hdc, hse, hal, hyl, hbb, byteVals, c42] at e; subst e; (try dsimp only); refine ⟨rfl, ?_⟩))
  (first | (refine W.ret ?_; (try simp only [outOf, thenW_ret, thenW_exit, roundW, reduceIte]); refine endW.of (.inl rfl) rfl ?_) | refine endW.of (.inl rfl) rfl ?_ | refine endW.of (.inr rfl) rfl ?_); generalize e : endsC .. = r0; simp (disch := omega) [hX, hdc, c42] at e
  subst e
  refine hk _ ?_
  (try dsimp only); omega
end Go.Proofs.YtdolnhpdfeagiaaGreatDoor.IrP
namespace Go.Proofs.YtdolnhpdfeagiaaGreatDoor.IrP
open Go Go.CI
set_option maxRecDepth 100000
set_option maxHeartbeats 4000000
set_option linter.unusedVariables false
set_option linter.unusedSimpArgs false
attribute [local irreducible] W Wo Wc WoR

theorem byteVals_bv : ∀ x : List UInt8, byteVals (x.map bv) = some x := by
  intro x
  induction x with
  | nil => rfl
  | cons a x ih =>
    simp only [List.map_cons, bv] at ih ⊢
    have := a.toNat_lt
    simp [byteVals, ih, UInt8.ofNat_toNat]
    omega
theorem bs_F {p r v : Nat} {acc : List UInt8} (hac : acc ≠ []) (hal : acc.length < 100000) {h : CHeap} (hg : getEnt h.ents p = some (.cells [.ptr p 102760450 0, .ref r v 1 0 acc.length])) (hr : getEnt h.ents r = some (.row v (acc.map bv))) (hty : lookupN h.tys r = some 5) {K : CVal → CHeap → Prop} (hk : K (.str acc) ⟨setEnt h.ents r (.frow v (acc.map bv)), h.next, h.tys⟩) : Wc tree.getF 43 [.ptr p 102760450 0] h K := by
  refine Wc.primM (f := 43) (p := pBString 5) (by kernel_rfl) ?_
  generalize e : pBString 5 _ _ = r0
  have hpos : 0 < acc.length := List.length_pos_iff.2 hac
  have htk : List.take acc.length (acc.map bv) = acc.map bv := List.take_of_length_le (by simp)
  simp (disch := omega) [pBString, hg, hr, hty, cut, hpos, htk, byteVals_bv, CHeap.ty] at e
  subst e
  exact hk
theorem quo_ok {d : Int} (h1 : 1 ≤ d) (h2 : d < 1000) : (IntKind.i64.wrap (Int.tdiv 9223372036854775807 d) ≤ 1) = False := by
  have e1 : Int.tdiv 9223372036854775807 d = 9223372036854775807 / d := Int.tdiv_eq_ediv_of_nonneg (by omega)
  have e2 : 2 ≤ 9223372036854775807 / d := Int.le_ediv_of_mul_le (by omega) (by omega)
  have e3 : 9223372036854775807 / d ≤ 9223372036854775807 := Int.ediv_le_self _ (by omega)
  rw [e1]
  generalize 9223372036854775807 / d = q at e2 e3
  have e4 : IntKind.i64.wrap q = q := by simp [IntKind.wrap, IntKind.bits, IntKind.signed]; omega
  rw [e4]
  simp; omega
abbrev j1L : CCode := (.loop true (.seq (.region [.g (.bin .lss (.var 8) (.var 9))] [(10, 0)] [] []) (.seq (.cond (.var 10) .skip (.exit 1)) (.seq (.block 2 (.seq (.region [.g (.idxAddr 1 (.var 11) (.var 8)), .l 0, .m (.loc 0)] [(12, 2)] [] []) (.seq (.seq (.region [.v 12, .g (.len true (.loc 0)), .v 7, .g (.bin .sub (.k 9223372036854775807) (.loc 0)), .h .gtr 2 0] [(13, 4)] [] []) (.cond (.var 13) (.region [.g (.ifc 9 (.const (.str [115, 116, 114, 105, 110, 103, 115, 58, 32, 74, 111, 105, 110, 32, 111, 117, 116, 112, 117, 116, 32, 108, 101, 110, 103, 116, 104, 32, 111, 118, 101, 114, 102, 108, 111, 119]))), ⟨.stuck, none⟩] [] [] []) .skip)) (.region [.v 7, .v 12, .g (.len true (.loc 0)), .h .add 2 0, .m (.loc 0)] [(7, 4)] [] [])))) (.region [.g (.bin .add (.var 8) (.k 1)), .m (.loc 0)] [(8, 1)] [] [])))))
abbrev j3L : CCode := (.loop true (.seq (.region [.g (.bin .lss (.var 15) (.var 16))] [(17, 0)] [] []) (.seq (.cond (.var 17) .skip (.exit 3)) (.seq (.block 4 (.seq (.region [.g (.idxAddr 1 (.var 18) (.var 15)), .l 0, .m (.loc 0)] [(19, 2)] [] []) (.seq (.region [.v 4, .g (.call false 42 [(.var 14), (.loc 0)])] [] [] []) (.region [.v 19, .g (.call false 42 [(.var 14), (.loc 0)])] [] [] [])))) (.region [.g (.bin .add (.var 15) (.k 1)), .m (.loc 0)] [(15, 1)] [] [])))))
theorem j1_go {l : List (List UInt8)} (hl2 : l.length < 1000) {h : CHeap} (hf : Fit h) (i t : Nat) {x : List UInt8} (hx : l[i]? = some x) (ht : t + x.length < 100000) (v1 v2 v3 v5 v6 v14 v15 v16 v17 v18 v19 : CVal) (v10 v12 v13 : CVal) {Q : CExit → CSt → Prop}
    (hk : ∀ (v10 v12 v13 : CVal) n', h.next ≤ n' → W tree.getF j1L ⟨[.imm .none 1 (l.map .str), v1, v2, v3, .str [44], v5, v6, .int .i64 ((t : Int) + (x.length : Int)), .int .i64 ((i : Int) + 1), .int .i64 (l.length : Int), v10, .imm .none 1 (l.map .str), v12, v13, v14, v15, v16, v17, v18, v19, .str []], ⟨h.ents, n', h.tys⟩, []⟩ Q) : W tree.getF j1L ⟨[.imm .none 1 (l.map .str), v1, v2, v3, .str [44], v5, v6, .int .i64 (t : Int), .int .i64 (i : Int), .int .i64 (l.length : Int), v10, .imm .none 1 (l.map .str), v12, v13, v14, v15, v16, v17, v18, v19, .str []], h, []⟩ Q := by
  obtain ⟨hu, hut, hX⟩ := fx4 hf
  obtain ⟨hi, hx2⟩ := List.getElem?_eq_some_iff.1 hx
  have hx3 : nth (l.map CVal.str) i = .str x := nth_mapG CVal.str l i _ hx
  have hdl : (i : Int) < (l.length : Int) := by omega
  have hi2 : (i : Int).toNat = i := by omega
  have hw : IntKind.i64.wrap (9223372036854775807 - (t : Int)) = 9223372036854775807 - (t : Int) := by simp [IntKind.wrap, IntKind.bits, IntKind.signed]; omega
  have hnl : ¬ (9223372036854775807 - (t : Int) < (x.length : Int)) := by omega
  refine W.loop ?_
  repeat (first
    | refine st_ rfl ?_
    | ((first | refine W.regG ?_ | refine WoR.go ?_); generalize e : goR .. = r; simp (disch := omega) [hX, hw, hnl, hx, hx2, hx3, hdl, hi2, hi, hl2, ht] at e; replace e : some _ = _ := e; subst e; (try dsimp only [goW])))
  show W tree.getF j1L (dropped true _ _) Q
  generalize e : dropped _ _ _ = r
  simp (disch := omega) [hX] at e
  subst e
  refine hk _ _ _ _ ?_; omega
theorem j1_end {l : List (List UInt8)} {h : CHeap} (hf : Fit h) (t : Nat) (v1 v2 v3 v5 v6 v14 v15 v16 v17 v18 v19 : CVal) (v10 v12 v13 : CVal) {Q : CExit → CSt → Prop}
    (hk : ∀ (v10 v12 v13 : CVal) n', h.next ≤ n' → Q (.exit 1) ⟨[.imm .none 1 (l.map .str), v1, v2, v3, .str [44], v5, v6, .int .i64 (t : Int), .int .i64 (l.length : Int), .int .i64 (l.length : Int), v10, .imm .none 1 (l.map .str), v12, v13, v14, v15, v16, v17, v18, v19, .str []], ⟨h.ents, n', h.tys⟩, []⟩) : W tree.getF j1L ⟨[.imm .none 1 (l.map .str), v1, v2, v3, .str [44], v5, v6, .int .i64 (t : Int), .int .i64 (l.length : Int), .int .i64 (l.length : Int), v10, .imm .none 1 (l.map .str), v12, v13, v14, v15, v16, v17, v18, v19, .str []], h, []⟩ Q := by
  obtain ⟨hu, hut, hX⟩ := fx4 hf
  refine W.loop ?_
  repeat (first
    | refine st_ rfl ?_
    | ((first | refine W.regG ?_ | refine WoR.go ?_); generalize e : goR .. = r; simp (disch := omega) [hX, Int.lt_irrefl] at e; replace e : some _ = _ := e; subst e; (try dsimp only [goW])))
  all_goals (refine hk _ _ _ _ ?_; ((try dsimp only); omega))
theorem j1_loop {l : List (List UInt8)} (hl2 : l.length < 1000) {h : CHeap} (hf : Fit h) (T : Nat) (hT : T < 100000) (v1 v2 v3 v5 v6 v14 v15 v16 v17 v18 v19 : CVal) {Q : CExit → CSt → Prop}
    (hk : ∀ (v10 v12 v13 : CVal) n', h.next ≤ n' → Q (.exit 1) ⟨[.imm .none 1 (l.map .str), v1, v2, v3, .str [44], v5, v6, .int .i64 (T : Int), .int .i64 (l.length : Int), .int .i64 (l.length : Int), v10, .imm .none 1 (l.map .str), v12, v13, v14, v15, v16, v17, v18, v19, .str []], ⟨h.ents, n', h.tys⟩, []⟩) :
    ∀ (R A : List (List UInt8)) (t nx : Nat) (v10 v12 v13 : CVal), l = A ++ R → t + (R.map List.length).sum = T → h.next ≤ nx → W tree.getF j1L ⟨[.imm .none 1 (l.map .str), v1, v2, v3, .str [44], v5, v6, .int .i64 (t : Int), .int .i64 (A.length : Int), .int .i64 (l.length : Int), v10, .imm .none 1 (l.map .str), v12, v13, v14, v15, v16, v17, v18, v19, .str []], ⟨h.ents, nx, h.tys⟩, []⟩ Q := by
  intro R
  induction R with
  | nil =>
    intro A t nx v10 v12 v13 h1 h2 h3
    rw [List.append_nil] at h1
    subst h1
    simp at h2
    subst h2
    exact j1_end (h := ⟨h.ents, nx, h.tys⟩) ⟨hf.1.le h3, hf.2.le h3⟩ t _ _ _ _ _ _ _ _ _ _ _ _ _ _ fun v10 v12 v13 n' g => hk v10 v12 v13 n' (Nat.le_trans h3 g)
  | cons x R ih =>
    intro A t nx v10 v12 v13 h1 h2 h3
    simp only [List.map_cons, List.sum_cons] at h2
    refine j1_go (h := ⟨h.ents, nx, h.tys⟩) hl2 ⟨hf.1.le h3, hf.2.le h3⟩ A.length t (x := x) (by rw [h1]; simp) (by omega) _ _ _ _ _ _ _ _ _ _ _ _ _ _ fun v10 v12 v13 n' g => ?_
    have := ih (A ++ [x]) (t + x.length) n' v10 v12 v13 (by rw [h1]; simp) (by omega) (Nat.le_trans h3 g)
    simp only [List.length_append, List.length_cons, List.length_nil, Nat.zero_add, Int.natCast_add, Int.natCast_one] at this
    exact this
end Go.Proofs.YtdolnhpdfeagiaaGreatDoor.IrP
namespace Go.Proofs.YtdolnhpdfeagiaaGreatDoor.IrP
open Go Go.CI
set_option maxRecDepth 100000
set_option maxHeartbeats 4000000
set_option linter.unusedVariables false
set_option linter.unusedSimpArgs false
attribute [local irreducible] W Wo Wc WoR

abbrev BE (p r v : Nat) (acc : List UInt8) (E0 : List (Nat × CObj)) : List (Nat × CObj) := (r, .row v (acc.map bv)) :: (p, .cells [.ptr p 102760450 0, .ref r v 1 0 acc.length]) :: E0
theorem ws_C {p r v nx n0 : Nat} {acc : List UInt8} {y : UInt8} {ys : List UInt8} {E0 : List (Nat × CObj)} {ty0 : List (Nat × Nat)} (hE : Under E0 n0) (hT : UnderT ty0 n0) (hp : n0 ≤ p) (hpr : p < r) (hr : r < nx) (hal : acc.length < 100000) (hyl : ys.length < 100000) {K : CVal → CHeap → Prop}
    (hk : ∀ n', nx ≤ n' → K (.tup [.int .i64 ((ys.length : Int) + 1), .nili]) ⟨BE p r (v + 1) (acc ++ y :: ys) E0, n', (r, 5) :: ty0⟩) : Wc tree.getF 42 [.ptr p 102760450 0, .str (y :: ys)] ⟨BE p r v acc E0, nx, (r, 5) :: ty0⟩ K := by
  have e1 : (r == p) = false := by simp; omega
  have hf : Fit ⟨BE p r v acc E0, nx, (r, 5) :: ty0⟩ := ⟨Under.cons (by (try dsimp only); omega) (Under.cons (by (try dsimp only); omega) (hE.le (by (try dsimp only); omega))), UnderT.cons (by (try dsimp only); omega) (hT.le (by (try dsimp only); omega))⟩
  have e2 : ¬ r = p := by omega
  refine ws_F hal hyl hf (v := v) (r := r) (acc := acc) (by simp [getEnt, e1, e2]) (by simp [getEnt]) (by simp [lookupN]) (by omega) fun n' g => ?_
  have := hk n' g
  simp only [BE] at this
  simpa [setEnt, e1, e2] using this
theorem j3_go {l : List (List UInt8)} (hl2 : l.length < 1000) {p r v nx n0 : Nat} {acc : List UInt8} {E0 : List (Nat × CObj)} {ty0 : List (Nat × Nat)} (hE : Under E0 n0) (hT : UnderT ty0 n0) (hp : n0 ≤ p) (hpr : p < r) (hr : r < nx) (i : Nat) {y : UInt8} {ys : List UInt8} (hx : l[i]? = some (y :: ys)) (hal : acc.length + ys.length < 90000) (v0 v1 v2 v3 v5 v6 v7 v8 v9 v10 v11 v12 v13 : CVal) (v17 v19 : CVal) {Q : CExit → CSt → Prop}
    (hk : ∀ (v17 v19 : CVal) n', nx ≤ n' → W tree.getF j3L ⟨[v0, v1, v2, v3, .str [44], v5, v6, v7, v8, v9, v10, v11, v12, v13, .ptr p 102760450 0, .int .i64 ((i : Int) + 1), .int .i64 (l.length : Int), v17, .imm .none 1 (l.map .str), v19, .str []], ⟨BE p r (v + 1 + 1) (acc ++ 44 :: y :: ys) E0, n', (r, 5) :: ty0⟩, []⟩ Q) : W tree.getF j3L ⟨[v0, v1, v2, v3, .str [44], v5, v6, v7, v8, v9, v10, v11, v12, v13, .ptr p 102760450 0, .int .i64 (i : Int), .int .i64 (l.length : Int), v17, .imm .none 1 (l.map .str), v19, .str []], ⟨BE p r v acc E0, nx, (r, 5) :: ty0⟩, []⟩ Q := by
  obtain ⟨hi, hx2⟩ := List.getElem?_eq_some_iff.1 hx
  have hx3 : nth (l.map CVal.str) i = .str (y :: ys) := nth_mapG CVal.str l i _ hx
  have hdl : (i : Int) < (l.length : Int) := by omega
  have hi2 : (i : Int).toNat = i := by omega
  have hd0 : ∀ m v acc, n0 ≤ m → r < m → dropCells (BE p r v acc E0) m = BE p r v acc E0 := fun m v acc h1 h2 => dropCells_under (Under.cons (by (try dsimp only); omega) (Under.cons (by (try dsimp only); omega) (hE.le (by (try dsimp only); omega))))
  refine W.loop ?_
  repeat (first
    | refine st_ rfl ?_
    | ((first | refine W.regG ?_ | refine WoR.go ?_); generalize e : goR .. = r; simp (disch := omega) [hx, hx2, hx3, hdl, hi2, hi, hl2] at e; replace e : some _ = _ := e; subst e; (try dsimp only [goW]))
    | (refine ws_C (ys := []) hE hT hp hpr (by omega) (by omega) (by simp) fun n1 g1 => ⟨rfl, ?_⟩; (try dsimp only at g1))
    | (refine ws_C (acc := acc ++ [44]) hE hT hp hpr (by omega) (by simp; omega) (by omega) fun n1 g2 => ⟨rfl, ?_⟩; (try dsimp only at g2)))
  show W tree.getF j3L (dropped true _ _) Q
  generalize e : dropped _ _ _ = r
  simp (disch := omega) [hd0] at e
  subst e
  have h9 := hk (.bool true) (.str (y :: ys)) (n1 + 2) (by omega)
  simpa [BE] using h9
theorem j3_end {l : List (List UInt8)} {p r v nx n0 : Nat} {acc : List UInt8} {E0 : List (Nat × CObj)} {ty0 : List (Nat × Nat)} (v0 v1 v2 v3 v5 v6 v7 v8 v9 v10 v11 v12 v13 : CVal) (v17 v19 : CVal) {Q : CExit → CSt → Prop}
    (hk : ∀ (v17 v19 : CVal) n', nx ≤ n' → Q (.exit 3) ⟨[v0, v1, v2, v3, .str [44], v5, v6, v7, v8, v9, v10, v11, v12, v13, .ptr p 102760450 0, .int .i64 (l.length : Int), .int .i64 (l.length : Int), v17, .imm .none 1 (l.map .str), v19, .str []], ⟨BE p r v acc E0, n', (r, 5) :: ty0⟩, []⟩) : W tree.getF j3L ⟨[v0, v1, v2, v3, .str [44], v5, v6, v7, v8, v9, v10, v11, v12, v13, .ptr p 102760450 0, .int .i64 (l.length : Int), .int .i64 (l.length : Int), v17, .imm .none 1 (l.map .str), v19, .str []], ⟨BE p r v acc E0, nx, (r, 5) :: ty0⟩, []⟩ Q := by
  refine W.loop ?_
  repeat (first
    | refine st_ rfl ?_
    | ((first | refine W.regG ?_ | refine WoR.go ?_); generalize e : goR .. = r; simp (disch := omega) [Int.lt_irrefl] at e; replace e : some _ = _ := e; subst e; (try dsimp only [goW])))
  all_goals (refine hk _ _ _ ?_; ((try dsimp only); omega))
/-- What Join adds: a comma and a text, again and again. -/
def tailJ (l : List (List UInt8)) : List UInt8 := l.flatMap fun x => 44 :: x
theorem j3_loop {l : List (List UInt8)} (hl2 : l.length < 1000) {p r n0 : Nat} {E0 : List (Nat × CObj)} {ty0 : List (Nat × Nat)} (hE : Under E0 n0) (hT : UnderT ty0 n0) (hp : n0 ≤ p) (hpr : p < r) (res : List UInt8) (hres : res.length < 90000) (v0 v1 v2 v3 v5 v6 v7 v8 v9 v10 v11 v12 v13 : CVal) {Q : CExit → CSt → Prop} (nx0 : Nat)
    (hk : ∀ v (v17 v19 : CVal) n', nx0 ≤ n' → r < n' → Q (.exit 3) ⟨[v0, v1, v2, v3, .str [44], v5, v6, v7, v8, v9, v10, v11, v12, v13, .ptr p 102760450 0, .int .i64 (l.length : Int), .int .i64 (l.length : Int), v17, .imm .none 1 (l.map .str), v19, .str []], ⟨BE p r v res E0, n', (r, 5) :: ty0⟩, []⟩) :
    ∀ (R A : List (List UInt8)) (acc : List UInt8) (v nx : Nat) (v17 v19 : CVal), l = A ++ R → (∀ x ∈ R, x ≠ []) → acc ++ tailJ R = res → nx0 ≤ nx → r < nx → W tree.getF j3L ⟨[v0, v1, v2, v3, .str [44], v5, v6, v7, v8, v9, v10, v11, v12, v13, .ptr p 102760450 0, .int .i64 (A.length : Int), .int .i64 (l.length : Int), v17, .imm .none 1 (l.map .str), v19, .str []], ⟨BE p r v acc E0, nx, (r, 5) :: ty0⟩, []⟩ Q := by
  intro R
  induction R with
  | nil =>
    intro A acc v nx v17 v19 h1 _ h2 h3 h4
    rw [List.append_nil] at h1
    subst h1
    rw [tailJ, List.flatMap_nil, List.append_nil] at h2
    subst h2
    exact j3_end (n0 := n0) _ _ _ _ _ _ _ _ _ _ _ _ _ _ _ fun v17 v19 n' g => hk v v17 v19 n' (by omega) (by omega)
  | cons x R ih =>
    intro A acc v nx v17 v19 h1 hne h2 h3 h4
    have h5 : acc ++ 44 :: x ++ tailJ R = res := by rw [← h2]; simp [tailJ]
    have h6 : acc.length + x.length < 90000 := by have := congrArg List.length h5; simp at this; omega
    cases hx : x with
    | nil => exact absurd hx (hne x (by simp))
    | cons y ys =>
      subst hx
      refine j3_go hl2 hE hT hp hpr h4 A.length (y := y) (ys := ys) (by rw [h1]; simp) (by simp at h6; omega) _ _ _ _ _ _ _ _ _ _ _ _ _ _ _ fun v17 v19 n' g => ?_
      have := ih (A ++ [y :: ys]) (acc ++ 44 :: y :: ys) (v + 1 + 1) n' v17 v19 (by rw [h1]; simp) (fun x hx => hne x (by simp [hx])) h5 (by omega) (by omega)
      simp only [List.length_append, List.length_cons, List.length_nil, Nat.zero_add, Int.natCast_add, Int.natCast_one] at this
      exact this
end Go.Proofs.YtdolnhpdfeagiaaGreatDoor.IrP
namespace Go.Proofs.YtdolnhpdfeagiaaGreatDoor.IrP
open Go Go.CI
set_option maxRecDepth 100000
set_option maxHeartbeats 4000000
set_option linter.unusedVariables false
set_option linter.unusedSimpArgs false
attribute [local irreducible] W Wo Wc WoR

theorem jn_0 : Pe 19 [.nils, .str [44]] (.str []) := by
  intro h hf K hk
  obtain ⟨hu, hut, hX⟩ := fx4 hf
  refine Wc.mkG 19 c19 (by kernel_rfl) rfl ?_
  generalize e : entryC .. = r
  simp (disch := omega) [c19] at e
  subst e
  repeat (first
    | refine st_ rfl ?_
    | ((first | refine W.regG ?_ | refine WoR.go ?_); generalize e : goR .. = r; simp (disch := omega) [hX, c19] at e; replace e : some _ = _ := e; subst e; (try dsimp only [goW]))
    | ((first | (refine W.ret ?_; (try simp only [outOf, thenW_ret, thenW_exit, roundW, reduceIte]); refine endW.of (.inl rfl) rfl ?_) | refine endW.of (.inl rfl) rfl ?_ | refine endW.of (.inr rfl) rfl ?_); generalize e : endsC .. = r; simp (disch := omega) [hX, c19] at e; subst e; refine hk _ ?_; omega))
theorem jn_1 {x : List UInt8} : Pe 19 [.imm .none 1 [.str x], .str [44]] (.str x) := by
  intro h hf K hk
  obtain ⟨hu, hut, hX⟩ := fx4 hf
  refine Wc.mkG 19 c19 (by kernel_rfl) rfl ?_
  generalize e : entryC .. = r
  simp (disch := omega) [c19] at e
  subst e
  repeat (first
    | refine st_ rfl ?_
    | ((first | refine W.regG ?_ | refine WoR.go ?_); generalize e : goR .. = r; simp (disch := omega) [hX, c19] at e; replace e : some _ = _ := e; subst e; (try dsimp only [goW]))
    | ((first | (refine W.ret ?_; (try simp only [outOf, thenW_ret, thenW_exit, roundW, reduceIte]); refine endW.of (.inl rfl) rfl ?_) | refine endW.of (.inl rfl) rfl ?_ | refine endW.of (.inr rfl) rfl ?_); generalize e : endsC .. = r; simp (disch := omega) [hX, c19] at e; subst e; refine hk _ ?_; omega))
theorem jn_2 {x : List UInt8} {R : List (List UInt8)} (hR : R ≠ []) (hl2 : R.length < 900) (hx : x ≠ []) (hne : ∀ y ∈ R, y ≠ []) (hsz : (x ++ tailJ R).length < 90000) (hsum : R.length + x.length + (R.map List.length).sum < 90000) {h : CHeap} (hf : Fit h) {K : CVal → CHeap → Prop} (hk : ∀ n' ty, h.next ≤ n' → UnderT ty n' → (∀ q, q < h.next → lookupN ty q = lookupN h.tys q) → K (.str (x ++ tailJ R)) ⟨h.ents, n', ty⟩) : Wc tree.getF 19 [.imm .none 1 ((x :: R).map .str), .str [44]] h K := by
  obtain ⟨hu, hut, hX⟩ := fx4 hf
  have hRl : 0 < R.length := List.length_pos_iff.2 hR
  have h1 : (((x :: R).length : Int) == 0) = false := beq_eq_false_iff_ne.2 (by simp; omega)
  have h2 : (((x :: R).length : Int) == 1) = false := beq_eq_false_iff_ne.2 (by simp; omega)
  have h3 := quo_ok (d := (R.length : Int)) (by omega) (by omega)
  obtain ⟨y, ys, rfl⟩ : ∃ y ys, x = y :: ys := by cases x with | nil => exact absurd rfl hx | cons y ys => exact ⟨y, ys, rfl⟩
  obtain ⟨l, hl⟩ : ∃ l, l = (y :: ys) :: R := ⟨_, rfl⟩
  have hll : l.length = R.length + 1 := by rw [hl]; rfl
  have hld : (l.map CVal.str).drop 1 = R.map CVal.str := by rw [hl]; rfl
  rw [← hl] at h1 h2 ⊢
  have hlm : (l.length : Int) - 1 = (R.length : Int) := by omega
  refine Wc.mkG 19 c19 (by kernel_rfl) rfl ?_
  generalize e : entryC .. = r
  simp (disch := omega) [c19] at e
  subst e
  repeat ((fail_if_success (first | show W tree.getF j1L _ _ | show W tree.getF j3L _ _)); first
    | refine st_ rfl ?_
    | ((first | refine W.regG ?_ | refine WoR.go ?_); generalize e : goR .. = r; simp (disch := omega) [hX, h1, h2, hlm, h3, hRl, c19] at e; replace e : some _ = _ := e; subst e; (try dsimp only [goW])))
  refine j1_loop (l := l) (by omega) hf (R.length + (l.map List.length).sum) ?_ _ _ _ _ _ _ _ _ _ _ _ (fun v10 v12 v13 n' g => ?_) l [] R.length _ _ _ _ rfl rfl ?_
  · rw [hl]; simp at hsum ⊢; omega
  · (try simp only [outOf, thenW_ret, thenW_exit, roundW, reduceIte])
    have hx3 : nth (l.map CVal.str) 0 = .str (y :: ys) := by rw [hl]; rfl
    have hl0 : 0 < l.length := by omega
    have hT2 : R.length + (l.map List.length).sum < 100000 := by rw [hl]; simp at hsum ⊢; omega
    have hT3 : 0 < R.length + (l.map List.length).sum := by omega
    generalize R.length + (l.map List.length).sum = T at hT2 hT3 ⊢
    have hyl : ys.length < 100000 := by simp at hsum; omega
    repeat ((fail_if_success (first | show W tree.getF j1L _ _ | show W tree.getF j3L _ _)); first
      | refine st_ rfl ?_
      | ((first | refine W.regG ?_ | refine WoR.go ?_); generalize e : goR .. = r; simp (disch := omega) [hX, hx3, hl0, hll, hT2, hT3, c19] at e; replace e : some _ = _ := e; subst e; (try dsimp only [goW]))
      | (refine gr_F (d := 0) (o_ := 0) (h := ⟨_, _, _⟩) ft_ (by simp [getEnt]) hT2 hT3 fun r n1 g1 g2 => ⟨rfl, ?_⟩; (try dsimp only at g1 g2); simp only [setEnt, reduceIte])
      | (refine ws_C (acc := []) (v := 0) (n0 := n') (hu.le g) (hut.le g) (by omega) (by omega) (by omega) (by simp) hyl fun n2 g3 => ⟨rfl, ?_⟩; (try dsimp only at g3)))
    have htl : (List.take (R.length + 1) (List.map CVal.str l)).tail = R.map .str := by rw [hl, List.take_of_length_le (by simp)]; rfl
    rw [htl]
    refine j3_loop (l := R) (by omega) (n0 := n') (E0 := h.ents) (ty0 := h.tys) (hu.le g) (hut.le g) (Nat.le_refl _) (by omega) _ hsz _ _ _ _ _ _ _ _ _ _ _ _ _ (n2 + 4) (fun v v17 v19 n3 g4 g5 => ?_) R [] (y :: ys) 1 _ _ _ rfl hne rfl (Nat.le_refl _) (by omega)
    (try simp only [outOf, thenW_ret, thenW_exit, roundW, reduceIte])
    generalize hac : y :: ys ++ tailJ R = acc at hsz
    have hac0 : acc ≠ [] := by rw [← hac]; simp
    have hpr : (r == n') = false := by simp; omega
    have hpr2 : ¬ r = n' := by omega
    have hpr3 : ¬ n' = r := by omega
    have dn : ∀ q, h.next ≤ q → dropEnts h.ents q = h.ents := hX.1
    repeat (first
      | refine st_ rfl ?_
      | ((first | refine W.regG ?_ | refine WoR.go ?_); generalize e : goR .. = r; simp (disch := omega) [hX, hpr, hpr2, hpr3, c19] at e; replace e : some _ = _ := e; subst e; (try dsimp only [goW]))
      | (refine bs_F (h := ⟨_, _, _⟩) (acc := acc) (r := r) (v := v) hac0 (by omega) (by simp [getEnt, hpr2]) (by simp [getEnt]) (by simp [lookupN]) ?_; refine ⟨rfl, ?_⟩))
    (first | (refine W.ret ?_; (try simp only [outOf, thenW_ret, thenW_exit, roundW, reduceIte]); refine endW.of (.inl rfl) rfl ?_) | refine endW.of (.inl rfl) rfl ?_ | refine endW.of (.inr rfl) rfl ?_); generalize e : endsC .. = r; simp (disch := omega) [hX, c19] at e; subst e
    rw [← hac] at *
    refine hk _ _ (by omega) (UnderT.cons (by omega) (hut.le (by omega))) fun q hq => ?_
    have hrq : (r == q) = false := by simp; omega
    simp [lookupN, hrq]
  · (try dsimp only); omega
/-- What stands below is as it was; a builder's row may be noted. -/
structure TyOk (h : CHeap) (n' : Nat) (ty : List (Nat × Nat)) : Prop where
  n : h.next ≤ n'
  u : UnderT ty n'
  k : ∀ q, q < h.next → lookupN ty q = lookupN h.tys q
def joinJ : List (List UInt8) → List UInt8
  | [] => []
  | x :: R => x ++ tailJ R
theorem jn_F (l : List (List UInt8)) (hl2 : l.length < 900) (hne : ∀ y ∈ l, y ≠ []) (hsz : (joinJ l).length < 90000) (hsum : (l.map List.length).sum < 80000) {h : CHeap} (hf : Fit h) {K : CVal → CHeap → Prop} (hk : ∀ n' ty, TyOk h n' ty → K (.str (joinJ l)) ⟨h.ents, n', ty⟩) : Wc tree.getF 19 [lV (l.map .str), .str [44]] h K := by
  rcases l with _ | ⟨x, _ | ⟨y, R⟩⟩
  · exact jn_0 h hf K fun n' g => hk n' _ ⟨g, hf.2.le g, fun _ _ => rfl⟩
  · have := jn_1 (x := x) h hf K fun n' g => by have := hk n' _ ⟨g, hf.2.le g, fun _ _ => rfl⟩; simpa [joinJ, tailJ] using this
    exact this
  · refine jn_2 (x := x) (R := y :: R) (by simp) (by simp at hl2 ⊢; omega) (hne _ (by simp)) (fun z hz => hne z (by simp [hz])) hsz (by simp at hsum hl2 ⊢; omega) hf fun n' ty g1 g2 g3 => hk n' ty ⟨g1, g2, g3⟩
end Go.Proofs.YtdolnhpdfeagiaaGreatDoor.IrP
namespace Go.Proofs.YtdolnhpdfeagiaaGreatDoor.IrP
open Go Go.CI
set_option maxRecDepth 100000
set_option maxHeartbeats 4000000
set_option linter.unusedVariables false
set_option linter.unusedSimpArgs false
attribute [local irreducible] W Wo Wc WoR

theorem Text_F {n : Nat} {m : MT n} {v : CVal} {h : CHeap} {ids : List Nat} (hM : MR n m v h.ents ids) (hf : Fit h) (hs : szT n m = true) (hn : n < 20) (hl : (pathsT n m []).length < 900) (hne : ∀ y ∈ pathsT n m [], y ≠ []) (hsz : (joinJ (pathsT n m [])).length < 90000) (hsum : ((pathsT n m []).map List.length).sum < 80000) {K : CVal → CHeap → Prop} (hk : ∀ n' ty, TyOk h n' ty → K (.str (joinJ (pathsT n m []))) ⟨h.ents, n', ty⟩) : Wc tree.getF 8 [v] h K := by
  obtain ⟨r0, r1, r2, rfl, y0, y1, y2⟩ := hM.nr
  have e0 := y0.strip
  have e1 := y1.strip
  have e2 := y2.strip
  simp only [CVal.strip] at e0 e1 e2
  obtain ⟨w, hw⟩ : ∃ w, w = lV ((pathsT n m []).map .str) := ⟨_, rfl⟩
  have e3 : w.bare = w := by rw [hw]; cases pathsT n m [] <;> rfl
  have e4 : w.isUndef = false := by rw [hw]; cases pathsT n m [] <;> rfl
  simp at e3
  obtain ⟨hu, hut, hX⟩ := fx4 hf
  refine Wc.mkG 8 c8 (by kernel_rfl) rfl ?_
  generalize e : entryC .. = r
  simp (disch := omega) [c8] at e
  subst e
  repeat (first
    | refine st_ rfl ?_
    | ((first | refine W.regG ?_ | refine WoR.go ?_); generalize e : goR .. = r; simp (disch := omega) [hX, e0, e1, e2, e3, c8] at e; replace e : some _ = _ := e; subst e; (try dsimp only [goW]))
    | (refine path_C n m _ _ ids [] ?_ ft_ hs (by simp; omega) (by omega) _ fun _ g => ⟨?_, ?_⟩; (focus (refine hM.rows fun q hq va es h9 => ?_; dsimp only; rw [getEnt_skip (by have := in_under hu h9; omega)]; exact h9)); (focus (rw [← hw]; exact e4)); (try dsimp only at g); rw [← hw])
    | (rw [hw]; refine jn_F _ hl hne hsz hsum ft_ fun n2 ty g2 => ⟨rfl, ?_⟩)
    | ((first | (refine W.ret ?_; (try simp only [outOf, thenW_ret, thenW_exit, roundW, reduceIte]); refine endW.of (.inl rfl) rfl ?_) | refine endW.of (.inl rfl) rfl ?_ | refine endW.of (.inr rfl) rfl ?_); generalize e : endsC .. = r; simp (disch := omega) [hX, e0, e1, e2, e3, c8] at e; subst e; have g3 := g2.n; (try dsimp only at g3); exact hk _ _ ⟨by omega, g2.u, fun q hq => g2.k q (by (try dsimp only); omega)⟩))

end Go.Proofs.YtdolnhpdfeagiaaGreatDoor.IrP
namespace Go.Proofs.YtdolnhpdfeagiaaGreatDoor.IrP
open Go Go.CI
set_option maxRecDepth 100000
set_option maxHeartbeats 4000000
set_option linter.unusedVariables false
set_option linter.unusedSimpArgs false
/- The nine paths, and the masks of them. -/
def all9 : List (List UInt8) := [[97], [97, 46, 98], [97, 46, 98, 46, 99], [98], [98, 46, 97], [99, 46, 100], [99, 46, 101], [99], [120, 95, 49, 46, 121]]
def tx (k : Nat) : List UInt8 := all9[k]?.getD []
def beqL {M : Type} (f : M → M → Bool) : List (List UInt8 × Option M) → List (List UInt8 × Option M) → Bool
  | [], [] => true
  | (x, none) :: a, (y, none) :: b => x == y && beqL f a b
  | (x, some s) :: a, (y, some t) :: b => x == y && (f s t && beqL f a b)
  | _, _ => false
def beqT : (n : Nat) → MT n → MT n → Bool
  | 0, _, _ => true
  | n + 1, a, b => beqL (beqT n) a b
theorem beqL_eq {M : Type} {f : M → M → Bool} (hf : ∀ a b, f a b = true → a = b) : ∀ a b, beqL f a b = true → a = b
  | [], [], _ => rfl
  | (x, none) :: a, (y, none) :: b, h => by
    simp only [beqL, Bool.and_eq_true, beq_iff_eq] at h
    rw [h.1, beqL_eq hf a b h.2]
  | (x, some s) :: a, (y, some t) :: b, h => by
    simp only [beqL, Bool.and_eq_true, beq_iff_eq] at h
    rw [h.1, hf _ _ h.2.1, beqL_eq hf a b h.2.2]
  | [], _ :: _, h => by simp [beqL] at h
  | (_, none) :: _, [], h => by simp [beqL] at h
  | (_, some _) :: _, [], h => by simp [beqL] at h
  | (_, none) :: _, (_, some _) :: _, h => by simp [beqL] at h
  | (_, some _) :: _, (_, none) :: _, h => by simp [beqL] at h
theorem beqT_eq : ∀ n (a b : MT n), beqT n a b = true → a = b
  | 0, _, _, _ => rfl
  | n + 1, a, b, h => beqL_eq (beqT_eq n) a b h
structure St where
  a : Nat
  b : Nat
  c : Nat
  x : Nat
def aT : Nat → List (List UInt8 × Option (MT 2))
  | 0 => []
  | 1 => [([97], some [([98], some [([99], none)])])]
  | 2 => [([97], some [([98], none)])]
  | _ => [([97], none)]
def bT : Nat → List (List UInt8 × Option (MT 2))
  | 0 => []
  | 1 => [([98], some [([97], none)])]
  | _ => [([98], none)]
def cT : Nat → List (List UInt8 × Option (MT 2))
  | 0 => []
  | 1 => [([99], some [([100], none)])]
  | 2 => [([99], some [([101], none)])]
  | 3 => [([99], some [([100], none), ([101], none)])]
  | _ => [([99], none)]
def xT : Nat → List (List UInt8 × Option (MT 2))
  | 0 => []
  | _ => [([120, 95, 49], some [([121], none)])]
def mk (s : St) : MT 3 := (aT s.a ++ (bT s.b ++ (cT s.c ++ xT s.x)) : List (List UInt8 × Option (MT 2)))
def step (s : St) : Nat → St
  | 0 => { s with a := 3 }
  | 1 => { s with a := max s.a 2 }
  | 2 => { s with a := max s.a 1 }
  | 3 => { s with b := 2 }
  | 4 => { s with b := max s.b 1 }
  | 5 => { s with c := if s.c = 0 then 1 else if s.c = 2 then 3 else s.c }
  | 6 => { s with c := if s.c = 0 then 2 else if s.c = 1 then 3 else s.c }
  | 7 => { s with c := 4 }
  | _ => { s with x := 1 }
def aI : Nat → List Nat
  | 0 => []
  | 1 => [2]
  | 2 => [1]
  | _ => [0]
def bI : Nat → List Nat
  | 0 => []
  | 1 => [4]
  | _ => [3]
def cI : Nat → List Nat
  | 0 => []
  | 1 => [5]
  | 2 => [6]
  | 3 => [5, 6]
  | _ => [7]
def xI : Nat → List Nat
  | 0 => []
  | _ => [8]
def idx (s : St) : List Nat := aI s.a ++ (bI s.b ++ (cI s.c ++ xI s.x))
def s0 : St := ⟨0, 0, 0, 0⟩
def Vs (s : St) : Prop := s.a < 4 ∧ s.b < 3 ∧ s.c < 5 ∧ s.x < 2
def allB (n : Nat) (f : Nat → Bool) : Bool := match n with
  | 0 => true
  | n + 1 => f n && allB n f
theorem allB_ok {f : Nat → Bool} : ∀ {n : Nat}, allB n f = true → ∀ k, k < n → f k = true
  | 0, _, _, hk => by omega
  | n + 1, h, k, hk => by
    simp only [allB, Bool.and_eq_true] at h
    rcases Nat.lt_or_ge k n with h1 | h1
    · exact allB_ok h.2 k h1
    · have : k = n := by omega
      subst this; exact h.1
def allS (f : St → Bool) : Bool := allB 4 fun a => allB 3 fun b => allB 5 fun c => allB 2 fun x => f ⟨a, b, c, x⟩
theorem allS_ok {f : St → Bool} (h : allS f = true) : ∀ s, Vs s → f s = true := fun ⟨a, b, c, x⟩ ⟨ha, hb, hc, hx⟩ =>
  allB_ok (allB_ok (allB_ok (allB_ok h a ha) b hb) c hc) x hx
def beqS (s t : St) : Bool := s.a == t.a && s.b == t.b && s.c == t.c && s.x == t.x
theorem beqS_eq {s t : St} (h : beqS s t = true) : s = t := by
  cases s; cases t
  simp [beqS] at h
  simp [h]
def vsB (s : St) : Bool := Nat.blt s.a 4 && Nat.blt s.b 3 && Nat.blt s.c 5 && Nat.blt s.x 2
theorem vs_of {s : St} (h : vsB s = true) : Vs s := by simpa [vsB, Vs, Nat.blt_eq, and_assoc] using h
def chkStep : Bool := allS fun s => allB 9 fun k => okT 3 (mk s) (splitF 46 (tx k)) && (beqT 3 (addT 3 (mk s) (splitF 46 (tx k))) (mk (step s k)) && (vsB (step s k) && (beqS (step (step s k) k) (step s k) && allB 9 fun j => beqS (step (step s k) j) (step (step s j) k))))
theorem chkStep_ok : chkStep = true := by kernel_rfl
theorem st_ok {s : St} (hs : Vs s) {k : Nat} (hk : k < 9) : okT 3 (mk s) (splitF 46 (tx k)) = true ∧ addT 3 (mk s) (splitF 46 (tx k)) = mk (step s k) ∧ Vs (step s k) ∧ step (step s k) k = step s k ∧ ∀ j, j < 9 → step (step s k) j = step (step s j) k := by
  have h := allB_ok (allS_ok chkStep_ok s hs) k hk
  simp only [Bool.and_eq_true] at h
  exact ⟨h.1, beqT_eq _ _ _ h.2.1, vs_of h.2.2.1, beqS_eq h.2.2.2.1, fun j hj => beqS_eq (allB_ok h.2.2.2.2 j hj)⟩
def run (s : St) (L : List Nat) : St := L.foldl step s
theorem run_vs : ∀ {L : List Nat} {s : St}, Vs s → (∀ k ∈ L, k < 9) → Vs (run s L)
  | [], _, h, _ => h
  | k :: L, s, h, hL => run_vs (L := L) (st_ok h (hL k (by simp))).2.2.1 fun j hj => hL j (by simp [hj])
theorem run_mk : ∀ {L : List Nat} {s : St}, Vs s → (∀ k ∈ L, k < 9) → (L.map tx).foldl (fun m t => addT 3 m (splitF 46 t)) (mk s) = mk (run s L)
  | [], _, _, _ => rfl
  | k :: L, s, h, hL => by
    have h1 := st_ok h (hL k (by simp))
    simp only [List.map_cons, List.foldl_cons, h1.2.1]
    exact run_mk (L := L) h1.2.2.1 fun j hj => hL j (by simp [hj])
/-- One more at the end may as well stand ahead. -/
theorem run_step : ∀ {L : List Nat} {s : St} {k : Nat}, Vs s → (∀ j ∈ L, j < 9) → k < 9 → run (step s k) L = step (run s L) k
  | [], _, _, _, _, _ => rfl
  | j :: L, s, k, h, hL, hk => by
    have hj := hL j (by simp)
    show run (step (step s k) j) L = step (run (step s j) L) k
    rw [(st_ok h hk).2.2.2.2 j hj]
    exact run_step (L := L) (st_ok h hj).2.2.1 (fun i hi => hL i (by simp [hi])) hk
theorem run_app (s : St) (A B : List Nat) : run s (A ++ B) = run (run s A) B := List.foldl_append ..
/-- The order is all one. -/
theorem run_swap {A B : List Nat} {s : St} (h : Vs s) (hA : ∀ j ∈ A, j < 9) (hB : ∀ j ∈ B, j < 9) : run s (A ++ B) = run s (B ++ A) := by
  induction A generalizing s with
  | nil => simp
  | cons k A ih =>
    have hk := hA k (by simp)
    have hA2 : ∀ j ∈ A, j < 9 := fun j hj => hA j (by simp [hj])
    rw [List.cons_append]
    show run (step s k) (A ++ B) = _
    rw [ih (st_ok h hk).2.2.1 hA2, run_app, run_app, run_step h hB hk]
    rfl
/-- What is there is not added twice. -/
theorem ran_in {L : List Nat} {s : St} {k : Nat} (h : Vs s) (hL : ∀ j ∈ L, j < 9) (hk : k ∈ L) : step (run s L) k = run s L := by
  induction L generalizing s with
  | nil => cases hk
  | cons j L ih =>
    have hj := hL j (by simp)
    have hL2 : ∀ i ∈ L, i < 9 := fun i hi => hL i (by simp [hi])
    show step (run (step s j) L) k = run (step s j) L
    rcases List.mem_cons.1 hk with rfl | hk
    · rw [← run_step (st_ok h hj).2.2.1 hL2 hj, (st_ok h hj).2.2.2.1]
    · exact ih (st_ok h hj).2.2.1 hL2 hk
theorem run_sub {L M : List Nat} {s : St} (h : Vs s) (hL : ∀ j ∈ L, j < 9) (hM : ∀ k ∈ M, k ∈ L) : run (run s L) M = run s L := by
  induction M with
  | nil => rfl
  | cons k M ih =>
    show run (step (run s L) k) M = _
    rw [ran_in h hL (hM k (by simp))]
    exact ih fun j hj => hM j (by simp [hj])
end Go.Proofs.YtdolnhpdfeagiaaGreatDoor.IrP
namespace Go.Proofs.YtdolnhpdfeagiaaGreatDoor.IrP
open Go Go.CI
set_option maxRecDepth 100000
set_option maxHeartbeats 4000000
set_option linter.unusedVariables false
set_option linter.unusedSimpArgs false
attribute [local irreducible] W Wo Wc WoR
/- A text that joins texts, taken apart again. -/
theorem split_one (c : UInt8) : ∀ (x : List UInt8), (∀ b ∈ x, b ≠ c) → splitF c x = [x]
  | [], _ => rfl
  | b :: x, h => by
    have h1 : b ≠ c := h b (by simp)
    have h2 := split_one c x fun a ha => h a (by simp [ha])
    simp [splitF, h1, h2]
theorem split_more (c : UInt8) (r : List UInt8) : ∀ (x : List UInt8), (∀ b ∈ x, b ≠ c) → splitF c (x ++ c :: r) = x :: splitF c r
  | [], _ => by simp [splitF]
  | b :: x, h => by
    have h1 : b ≠ c := h b (by simp)
    have h2 := split_more c r x fun a ha => h a (by simp [ha])
    simp [splitF, h1, h2]
theorem split_join : ∀ (R : List (List UInt8)) (x : List UInt8), (∀ b ∈ x, b ≠ 44) → (∀ y ∈ R, ∀ b ∈ y, b ≠ 44) → splitF 44 (x ++ tailJ R) = x :: R
  | [], x, hx, _ => by simp only [tailJ, List.flatMap_nil, List.append_nil]; exact split_one 44 x hx
  | y :: R, x, hx, hR => by
    have h2 := split_join R y (hR y (by simp)) fun z hz => hR z (by simp [hz])
    have h3 : tailJ (y :: R) = 44 :: (y ++ tailJ R) := by simp [tailJ]
    rw [h3, split_more 44 _ x hx, h2]
def pvB (s : List UInt8) : Bool := !s.isEmpty && (Nat.blt s.length 1000 && (s.all (fun c => CVal.beq (nth (marks marks0 csP) c.toNat) (.bool true) && (c != 46 && c != 44)) && match s with | [] => false | c :: _ => decide (0 ≤ idxFrom c ltP 0)))
theorem cbeq_true {v : CVal} (h : CVal.beq v (.bool true) = true) : v = .bool true := by
  cases v <;> simp [CVal.beq] at h
  rw [h]
theorem pvB_ok {s : List UInt8} (h : pvB s = true) : PV s := by
  unfold pvB at h
  cases s with
  | nil => simp at h
  | cons c s =>
    simp only [Bool.and_eq_true, List.all_eq_true, bne_iff_ne, ne_eq, decide_eq_true_eq] at h
    exact ⟨by simp, by simpa [Nat.blt_eq] using h.2.1, fun d hd => cbeq_true (h.2.2.1 d hd).1, fun d hd => by simp at hd; subst hd; exact h.2.2.2, fun d hd => (h.2.2.1 d hd).2⟩
def chkTx : Bool := allB 9 fun k => (tx k).all (fun b => b != 44) && (Nat.blt (tx k).length 8 && (!(tx k).isEmpty && (Nat.blt (splitF 46 (tx k)).length 21 && (splitF 46 (tx k)).all pvB)))
theorem chkTx_ok : chkTx = true := by kernel_rfl
structure TxOk (t : List UInt8) : Prop where
  c : ∀ b ∈ t, b ≠ 44
  l : t.length < 8
  n : t ≠ []
  p : (splitF 46 t).length ≤ 20
  v : ∀ x ∈ splitF 46 t, PV x
theorem tx_ok {k : Nat} (hk : k < 9) : TxOk (tx k) := by
  have h := allB_ok chkTx_ok k hk
  simp only [Bool.and_eq_true, List.all_eq_true, bne_iff_ne, ne_eq, Nat.blt_eq] at h
  exact ⟨h.1, h.2.1, fun e => by have h3 := h.2.2.1; rw [e] at h3; simp at h3, by have := h.2.2.2.1; omega, fun x hx => pvB_ok (h.2.2.2.2 x hx)⟩
theorem tailJ_len : ∀ {R : List (List UInt8)}, (∀ y ∈ R, y.length < 8) → (tailJ R).length ≤ 8 * R.length
  | [], _ => by simp [tailJ]
  | y :: R, h => by
    have h1 := h y (by simp)
    have h2 := tailJ_len (R := R) fun z hz => h z (by simp [hz])
    have h3 : tailJ (y :: R) = 44 :: (y ++ tailJ R) := by simp [tailJ]
    rw [h3]; simp only [List.length_cons, List.length_append]; omega
theorem joinJ_len {R : List (List UInt8)} (h : ∀ y ∈ R, y.length < 8) : (joinJ R).length ≤ 8 * R.length := by
  cases R with
  | nil => simp [joinJ]
  | cons x R =>
    have h1 := h x (by simp)
    have h2 := tailJ_len (R := R) fun z hz => h z (by simp [hz])
    simp only [joinJ, List.length_append, List.length_cons]; omega
theorem joinJ_split {R : List (List UInt8)} (hR : R ≠ []) (h : ∀ y ∈ R, TxOk y) : splitF 44 (joinJ R) = R := by
  cases R with
  | nil => exact absurd rfl hR
  | cons x R => exact split_join R x (h x (by simp)).c fun y hy => (h y (by simp [hy])).c
theorem txs_ok {L : List Nat} (hL : ∀ k ∈ L, k < 9) : ∀ t ∈ L.map tx, TxOk t := fun t ht => by
  obtain ⟨k, hk, rfl⟩ := List.mem_map.1 ht
  exact tx_ok (hL k hk)
theorem vs0 : Vs s0 := by simp [Vs, s0]
theorem fold_run {L : List Nat} (hL : ∀ k ∈ L, k < 9) : foldT 3 (L.map tx) = mk (run s0 L) := run_mk (s := s0) vs0 hL
/-- What Parse makes of joined paths. -/
theorem parse_L {L : List Nat} (hL : ∀ k ∈ L, k < 9) (hne : L ≠ []) (hl : L.length ≤ 20) {h : CHeap} (hf : Fit h) {K : CVal → CHeap → Prop} (hk : ∀ v' h', AR 3 (mk (run s0 L)) h [] v' h' → K (.tup [v', .int .i64 0]) h') : Wc tree.getF 7 [.str (joinJ (L.map tx))] h K := by
  have hT := txs_ok hL
  have hS := joinJ_split (by simpa using hne) hT
  have hlen := joinJ_len fun y hy => (hT y hy).l
  simp only [List.length_map] at hlen
  refine ps_F 3 _ (by omega) (fun e => ?_) (by rw [hS]; simpa using hl) (fun t ht => ?_) (fun k t hkt => ?_) hf fun v' h' A => hk v' h' ?_
  · rw [e] at hS
    cases L with
    | nil => exact hne rfl
    | cons k L =>
      have h1 := (hT (tx k) (by simp)).n
      simp [splitF] at hS
      exact absurd hS.1.symm (by simpa using h1)
  · rw [hS] at ht
    have := hT t ht
    exact ⟨by have := this.l; omega, this.p, this.v⟩
  · rw [hS] at hkt ⊢
    rw [← List.map_take, fold_run fun j hj => hL j (List.mem_of_mem_take hj)]
    rw [List.getElem?_map] at hkt
    cases hq : L[k]? with
    | none => rw [hq] at hkt; cases hkt
    | some j =>
      rw [hq] at hkt; cases hkt
      exact (st_ok (run_vs vs0 fun i hi => hL i (List.mem_of_mem_take hi)) (hL j (List.mem_of_getElem? hq))).1
  · rw [hS, fold_run hL] at A; exact A
/- What the masks tell, and that they may be. -/
def chkS : Bool := allS fun s => (pathsT 3 (mk s) [] == (idx s).map tx) && (szT 3 (mk s) && ((idx s).all (fun k => Nat.blt k 9) && (beqS (run s0 (idx s)) s && Nat.blt (idx s).length 21)))
theorem chkS_ok : chkS = true := by kernel_rfl
theorem idx_ok {s : St} (h : Vs s) : pathsT 3 (mk s) [] = (idx s).map tx ∧ szT 3 (mk s) = true ∧ (∀ k ∈ idx s, k < 9) ∧ run s0 (idx s) = s ∧ (idx s).length ≤ 20 := by
  have h := allS_ok chkS_ok s h
  simp only [Bool.and_eq_true, beq_iff_eq, List.all_eq_true, Nat.blt_eq] at h
  exact ⟨h.1, h.2.1, h.2.2.1, beqS_eq h.2.2.2.1, by have := h.2.2.2.2; omega⟩
theorem text_S {s : St} (hs : Vs s) {v : CVal} {h : CHeap} {ids : List Nat} (hM : MR 3 (mk s) v h.ents ids) (hf : Fit h) {K : CVal → CHeap → Prop} (hk : ∀ n' ty, TyOk h n' ty → K (.str (joinJ ((idx s).map tx))) ⟨h.ents, n', ty⟩) : Wc tree.getF 8 [v] h K := by
  obtain ⟨h1, h2, h3, h4, h5⟩ := idx_ok hs
  have hT := txs_ok h3
  have hlen := joinJ_len fun y hy => (hT y hy).l
  simp only [List.length_map] at hlen
  have hsum : ∀ (R : List (List UInt8)), (∀ y ∈ R, y.length < 8) → (R.map List.length).sum ≤ 8 * R.length := by
    intro R
    induction R with
    | nil => simp
    | cons y R ih =>
      intro hy
      have a1 := hy y (by simp)
      have a2 := ih fun z hz => hy z (by simp [hz])
      simp only [List.map_cons, List.sum_cons, List.length_cons]; omega
  have hs2 := hsum _ fun y hy => (hT y hy).l
  simp only [List.length_map] at hs2
  refine Text_F hM hf h2 (by omega) ?_ ?_ ?_ ?_ fun n' ty T => ?_
  · rw [h1]; simp; omega
  · rw [h1]; exact fun y hy => (hT y hy).n
  · rw [h1]; omega
  · rw [h1]; omega
  · rw [h1]; exact hk n' ty T
def neB : (n : Nat) → MT n → Bool
  | 0, _ => false
  | _ + 1, m => !List.isEmpty m
def sortB {M : Type} : List (List UInt8 × Option M) → Bool
  | [] => true
  | [_] => true
  | x :: y :: r => bytesLt x.1 y.1 && sortB (y :: r)
def mayB : (n : Nat) → MT n → Bool
  | 0, _ => true
  | n + 1, m => Nat.blt (List.length m) 2000 && (List.all m (fun e => pvB e.1 && match e.2 with | none => true | some t => neB n t && mayB n t) && sortB m)
theorem neB_ok : ∀ (n : Nat) (m : MT n), neB n m = true → neT n m
  | 0, _, h => by cases h
  | n + 1, m, h => fun e => by subst e; simp [neB] at h
theorem sortB_ok {M : Type} : ∀ (l : List (List UInt8 × Option M)), sortB l = true → ∀ (k : Nat) x y, l[k]? = some x → l[k + 1]? = some y → bytesLt x.1 y.1 = true
  | [], _, _, _, _, h, _ => by simp at h
  | [_], _, k, _, _, _, h => by simp at h
  | a :: b :: r, h, 0, x, y, hx, hy => by
    simp only [sortB, Bool.and_eq_true] at h
    simp at hx hy; subst hx hy; exact h.1
  | a :: b :: r, h, k + 1, x, y, hx, hy => by
    simp only [sortB, Bool.and_eq_true] at h
    exact sortB_ok (b :: r) h.2 k x y (by simpa using hx) (by simpa using hy)
theorem mayB_ok : ∀ (n : Nat) (m : MT n), mayB n m = true → mayT n m
  | 0, _, _ => trivial
  | n + 1, m, h => by
    simp only [mayB, Bool.and_eq_true, Nat.blt_eq] at h
    refine ⟨h.1, fun e he => ?_, sortB_ok _ h.2.2⟩
    have h1 := List.all_eq_true.1 h.2.1 e he
    simp only [Bool.and_eq_true] at h1
    refine ⟨pvB_ok h1.1, fun t ht => ?_⟩
    rw [ht] at h1
    simp only [Bool.and_eq_true] at h1
    exact ⟨neB_ok n t h1.2.1, mayB_ok n t h1.2.2⟩
def chkM : Bool := allS fun s => mayB 3 (mk s) && (beqS s s0 || neB 3 (mk s))
theorem chkM_ok : chkM = true := by kernel_rfl
theorem may_S {s : St} (h : Vs s) : mayT 3 (mk s) := by
  have h := allS_ok chkM_ok s h
  simp only [Bool.and_eq_true] at h
  exact mayB_ok _ _ h.1
theorem ne_S {s : St} (h : Vs s) (h0 : s ≠ s0) : neT 3 (mk s) := by
  have h := allS_ok chkM_ok s h
  simp only [Bool.and_eq_true, Bool.or_eq_true] at h
  rcases h.2 with h2 | h2
  · exact absurd (beqS_eq h2) h0
  · exact neB_ok _ _ h2
/-- Once there is something, it stays. -/
def chkZ : Bool := allS fun s => allB 9 fun k => !beqS (step s k) s0
theorem chkZ_ok : chkZ = true := by kernel_rfl
theorem beqS_refl (s : St) : beqS s s = true := by simp [beqS]
theorem run_ne : ∀ {L : List Nat} {s : St}, Vs s → (∀ k ∈ L, k < 9) → L ≠ [] → run s L ≠ s0
  | [], _, _, _, h => absurd rfl h
  | [k], s, h, hL, _ => fun e => by
    have h1 := allB_ok (allS_ok chkZ_ok s h) k (hL k (by simp))
    have : step s k = s0 := e
    rw [this, beqS_refl] at h1; cases h1
  | k :: j :: L, s, h, hL, _ => run_ne (L := j :: L) (st_ok h (hL k (by simp))).2.2.1 (fun i hi => hL i (by simp [hi])) (by simp)
end Go.Proofs.YtdolnhpdfeagiaaGreatDoor.IrP
namespace Go.Proofs.YtdolnhpdfeagiaaGreatDoor.IrP
open Go Go.CI
set_option maxRecDepth 100000
set_option maxHeartbeats 4000000
set_option linter.unusedVariables false
set_option linter.unusedSimpArgs false
attribute [local irreducible] W Wo Wc WoR

abbrev lbL : CCode := (.loop true (.seq (.seq (.region [.v 3, .v 1, .g (.len false (.loc 0)), .h .lss 2 0] [(4, 3)] [] []) (.cond (.var 4) .skip (.exit 0))) (.seq (.block 1 (.seq (.region [.v 3, .v 5, .g (.conv .i64 (.loc 0)), .h .add 2 0, .v 1, .g (.len false (.loc 0)), .h .rem 2 0, .m (.loc 0)] [(10, 7)] [] []) (.seq (.seq (.region [.v 3, .x .gtr 0 (.k 0)] [(6, 1)] [] []) (.cond (.var 6) (.region [.v 7, .g (.bin .add (.loc 0) (.const (.str [44]))), .v 8, .g (.bin .add (.loc 0) (.const (.str [44]))), .m (.loc 2), .m (.loc 1)] [(7, 4), (8, 5)] [] []) .skip)) (.region [.v 7, .v 9, .v 1, .v 3, .g (.idxAddr 1 (.loc 1) (.loc 0)), .l 0, .x .rem 0 (.u 9), .g (.idxAddr 1 (.loc 5) (.loc 0)), .l 0, .h .add 8 0, .v 8, .v 9, .v 1, .v 10, .g (.idxAddr 1 (.loc 1) (.loc 0)), .l 0, .x .rem 0 (.u 9), .g (.idxAddr 1 (.loc 5) (.loc 0)), .l 0, .h .add 8 0, .m (.loc 10), .m (.loc 1)] [(7, 20), (8, 21)] [] [])))) (.region [.v 3, .x .add 0 (.k 1), .m (.loc 0)] [(3, 2)] [] []))))
theorem tailJ_app (R : List (List UInt8)) (x : List UInt8) : tailJ (R ++ [x]) = tailJ R ++ 44 :: x := by simp [tailJ]
theorem joinJ_app {R : List (List UInt8)} (hR : R ≠ []) (x : List UInt8) : joinJ (R ++ [x]) = joinJ R ++ 44 :: x := by
  cases R with
  | nil => exact absurd rfl hR
  | cons y R => simp only [List.cons_append, joinJ, tailJ_app, List.append_assoc]
def Lk (ks : List Nat) : List Nat := ks.map (· % 9)
def Lt (ks : List Nat) (tn : Nat) : List Nat := (List.range ks.length).map fun i => (ks[(i + tn) % ks.length]?.getD 0) % 9
theorem nth_all (j : Nat) (hj : j < 9) : nth (all9.map CVal.str) j = .str (tx j) := nth_mapG CVal.str all9 j _ (by unfold tx; rw [List.getElem?_eq_getElem (show j < all9.length from hj)]; rfl)
theorem lb_go {ks : List Nat} {tn : Nat} {g9 : Tag} (hks : ∀ k ∈ ks, k < 256) (htn : tn < 256) (hl : ks.length ≤ 8) {i : Nat} (hi : i < ks.length) {S T : List UInt8} (hS : S.length < 1000) (hT : T.length < 1000) {h : CHeap} (hf : Fit h) (v4 v6 v10 : CVal) (v11 v12 v13 v14 v15 v16 v17 v18 v19 v20 : CVal) {Q : CExit → CSt → Prop}
    (hk : ∀ (v4 v6 v10 : CVal) n', h.next ≤ n' → W tree.getF lbL ⟨[.bool false, .imm .none 1 ((ks.map Int.ofNat).map (CVal.int .u8)), .bool false, .int .i64 ((i : Int) + 1), v4, .int .u8 (tn : Int), v6, .str ((if 0 < i then S ++ [44] else S) ++ tx ((ks[i]?.getD 0) % 9)), .str ((if 0 < i then T ++ [44] else T) ++ tx ((ks[(i + tn) % ks.length]?.getD 0) % 9)), .imm g9 1 (all9.map .str), v10, v11, v12, v13, v14, v15, v16, v17, v18, v19, v20], ⟨h.ents, n', h.tys⟩, []⟩ Q) : W tree.getF lbL ⟨[.bool false, .imm .none 1 ((ks.map Int.ofNat).map (CVal.int .u8)), .bool false, .int .i64 (i : Int), v4, .int .u8 (tn : Int), v6, .str S, .str T, .imm g9 1 (all9.map .str), v10, v11, v12, v13, v14, v15, v16, v17, v18, v19, v20], h, []⟩ Q := by
  obtain ⟨hu, hut, hX⟩ := fx4 hf
  have hn : 0 < ks.length := by omega
  have hlt : (i : Int) < (ks.length : Int) := by omega
  have hj : (i + tn) % ks.length < ks.length := Nat.mod_lt _ hn
  have hm : Int.tmod ((i : Int) + (tn : Int)) (ks.length : Int) = (((i + tn) % ks.length : Nat) : Int) := by
    rw [Int.tmod_eq_emod_of_nonneg (by omega)]; simp
  have hk1 : ks[i] < 256 := hks _ (List.getElem_mem hi)
  have hk2 : ks[(i + tn) % ks.length] < 256 := hks _ (List.getElem_mem hj)
  have e1 : ks[i]?.getD 0 = ks[i] := by rw [List.getElem?_eq_getElem hi]; rfl
  have e2 : ks[(i + tn) % ks.length]?.getD 0 = ks[(i + tn) % ks.length] := by rw [List.getElem?_eq_getElem hj]; rfl
  rw [e1, e2] at hk
  have n1 : nth ((ks.map Int.ofNat).map (CVal.int .u8)) i = .int .u8 (ks[i] : Int) := by
    rw [List.map_map]; exact nth_mapG _ ks i _ (List.getElem?_eq_getElem hi)
  generalize (i + tn) % ks.length = j at *
  have n2 : nth ((ks.map Int.ofNat).map (CVal.int .u8)) j = .int .u8 (ks[j] : Int) := by
    rw [List.map_map]; exact nth_mapG _ ks j _ (List.getElem?_eq_getElem hj)
  generalize ks[i] = a at *
  generalize ks[j] = b at *
  have m1 : Int.tmod (a : Int) 9 = ((a % 9 : Nat) : Int) := by rw [Int.tmod_eq_emod_of_nonneg (by omega)]; simp
  have m2 : Int.tmod (b : Int) 9 = ((b % 9 : Nat) : Int) := by rw [Int.tmod_eq_emod_of_nonneg (by omega)]; simp
  have a9 : a % 9 < 9 := Nat.mod_lt _ (by decide)
  have b9 : b % 9 < 9 := Nat.mod_lt _ (by decide)
  have t1 := (tx_ok a9).l
  have t2 := (tx_ok b9).l
  have x1 := nth_all _ a9
  have x2 := nth_all _ b9
  generalize a % 9 = p at *
  generalize b % 9 = q at *
  have l9 : all9.length = 9 := rfl
  generalize all9 = A9 at *
  have xs1 : ((ks.map Int.ofNat).map (CVal.int .u8)).length = ks.length := by simp
  generalize (ks.map Int.ofNat).map (CVal.int .u8) = XS at *
  have p9 : (p : Int) < 9 := by omega
  have q9 : (q : Int) < 9 := by omega
  have hj2 : (j : Int) < (ks.length : Int) := by omega
  have hi2 : (i : Int).toNat = i := by omega
  have wa : IntKind.u8.wrap (p : Int) = (p : Int) := by simp [IntKind.wrap, IntKind.bits, IntKind.signed]; omega
  have wb : IntKind.u8.wrap (q : Int) = (q : Int) := by simp [IntKind.wrap, IntKind.bits, IntKind.signed]; omega
  have w1 : IntKind.i64.wrap (tn : Int) = (tn : Int) := by simp [IntKind.wrap, IntKind.bits, IntKind.signed]; omega
  refine W.loop ?_
  rcases Nat.eq_zero_or_pos i with h0 | h0
  · have h1 : (i : Int) ≤ 0 := by omega
    rw [if_neg (by omega), if_neg (by omega)] at hk
    repeat (first
      | refine st_ rfl ?_
      | ((first | refine W.regG ?_ | refine WoR.go ?_); generalize e : goR .. = r; simp (disch := omega) [hX, hlt, hm, n1, n2, m1, m2, x1, x2, l9, xs1, hn, w1, hj, hi, p9, q9, hj2, hi2, wa, wb, hS, hT, t1, t2] at e; replace e : some _ = _ := e; subst e; (try dsimp only [goW])))
    show W tree.getF lbL (dropped true _ _) Q; generalize e : dropped _ _ _ = r; simp (disch := omega) [hX] at e; subst e
    refine hk _ _ _ _ ?_; (try dsimp only); omega
  · have h1 : (0 : Int) < (i : Int) := by omega
    rw [if_pos h0, if_pos h0] at hk
    simp only [List.append_assoc, List.singleton_append] at hk
    repeat (first
      | refine st_ rfl ?_
      | ((first | refine W.regG ?_ | refine WoR.go ?_); generalize e : goR .. = r; simp (disch := omega) [hX, hlt, hm, n1, n2, m1, m2, x1, x2, l9, xs1, hn, w1, hj, hi, p9, q9, hj2, hi2, wa, wb, hS, hT, t1, t2, h1] at e; replace e : some _ = _ := e; subst e; (try dsimp only [goW])))
    show W tree.getF lbL (dropped true _ _) Q; generalize e : dropped _ _ _ = r; simp (disch := omega) [hX] at e; subst e
    refine hk _ _ _ _ ?_; (try dsimp only); omega
theorem stepJ {L : List Nat} {i k : Nat} (h : L[i]? = some k) : (if 0 < i then joinJ ((L.take i).map tx) ++ [44] else joinJ ((L.take i).map tx)) ++ tx k = joinJ ((L.take (i + 1)).map tx) := by
  obtain ⟨hi, hk⟩ := List.getElem?_eq_some_iff.1 h
  have e : L.take (i + 1) = L.take i ++ [k] := by rw [List.take_add_one, h]; rfl
  rw [e, List.map_append]
  rcases Nat.eq_zero_or_pos i with rfl | h0
  · simp [joinJ, tailJ]
  · rw [if_pos h0]
    show _ = joinJ (_ ++ [tx k])
    rw [joinJ_app (by
      intro e2
      simp only [List.map_eq_nil_iff, List.take_eq_nil_iff] at e2
      rcases e2 with e2 | e2
      · omega
      · subst e2; simp at hi)]
    simp
theorem lk_len (ks : List Nat) : (Lk ks).length = ks.length := by simp [Lk]
theorem lt_len (ks : List Nat) (tn : Nat) : (Lt ks tn).length = ks.length := by simp [Lt]
theorem lk_lt (ks : List Nat) : ∀ k ∈ Lk ks, k < 9 := by simp only [Lk, List.mem_map]; rintro k ⟨j, _, rfl⟩; exact Nat.mod_lt _ (by decide)
theorem lt_lt (ks : List Nat) (tn : Nat) : ∀ k ∈ Lt ks tn, k < 9 := by simp only [Lt, List.mem_map]; rintro k ⟨j, _, rfl⟩; exact Nat.mod_lt _ (by decide)
theorem takes_len {L : List Nat} (hL : ∀ k ∈ L, k < 9) (hl : L.length ≤ 8) (i : Nat) : (joinJ ((L.take i).map tx)).length < 1000 := by
  have h1 := joinJ_len (R := (L.take i).map tx) fun y hy => (txs_ok (L := L.take i) (fun k hk => hL k (List.mem_of_mem_take hk)) y hy).l
  simp only [List.length_map, List.length_take] at h1
  omega
theorem lb_end {ks : List Nat} {tn : Nat} {g9 : Tag} {S T : List UInt8} {h : CHeap} (hf : Fit h) (v4 v6 v10 : CVal) (v11 v12 v13 v14 v15 v16 v17 v18 v19 v20 : CVal) {Q : CExit → CSt → Prop}
    (hk : ∀ (v4 v6 v10 : CVal) n', h.next ≤ n' → Q (.exit 0) ⟨[.bool false, .imm .none 1 ((ks.map Int.ofNat).map (CVal.int .u8)), .bool false, .int .i64 (ks.length : Int), v4, .int .u8 (tn : Int), v6, .str S, .str T, .imm g9 1 (all9.map .str), v10, v11, v12, v13, v14, v15, v16, v17, v18, v19, v20], ⟨h.ents, n', h.tys⟩, []⟩) : W tree.getF lbL ⟨[.bool false, .imm .none 1 ((ks.map Int.ofNat).map (CVal.int .u8)), .bool false, .int .i64 (ks.length : Int), v4, .int .u8 (tn : Int), v6, .str S, .str T, .imm g9 1 (all9.map .str), v10, v11, v12, v13, v14, v15, v16, v17, v18, v19, v20], h, []⟩ Q := by
  obtain ⟨hu, hut, hX⟩ := fx4 hf
  have xs1 : ((ks.map Int.ofNat).map (CVal.int .u8)).length = ks.length := by simp
  generalize (ks.map Int.ofNat).map (CVal.int .u8) = XS at *
  generalize all9 = A9 at *
  refine W.loop ?_
  repeat (first
    | refine st_ rfl ?_
    | ((first | refine W.regG ?_ | refine WoR.go ?_); generalize e : goR .. = r; simp (disch := omega) [hX, xs1, Int.lt_irrefl] at e; replace e : some _ = _ := e; subst e; (try dsimp only [goW])))
  all_goals (refine hk _ _ _ _ ?_; (try dsimp only); omega)
theorem lb_loop {ks : List Nat} {tn : Nat} {g9 : Tag} (hks : ∀ k ∈ ks, k < 256) (htn : tn < 256) (hl : ks.length ≤ 8) {h : CHeap} (hf : Fit h) (v11 v12 v13 v14 v15 v16 v17 v18 v19 v20 : CVal) {Q : CExit → CSt → Prop}
    (hk : ∀ (v4 v6 v10 : CVal) n', h.next ≤ n' → Q (.exit 0) ⟨[.bool false, .imm .none 1 ((ks.map Int.ofNat).map (CVal.int .u8)), .bool false, .int .i64 (ks.length : Int), v4, .int .u8 (tn : Int), v6, .str (joinJ ((Lk ks).map tx)), .str (joinJ ((Lt ks tn).map tx)), .imm g9 1 (all9.map .str), v10, v11, v12, v13, v14, v15, v16, v17, v18, v19, v20], ⟨h.ents, n', h.tys⟩, []⟩) :
    ∀ (m i nx : Nat) (v4 v6 v10 : CVal), i + m = ks.length → h.next ≤ nx → W tree.getF lbL ⟨[.bool false, .imm .none 1 ((ks.map Int.ofNat).map (CVal.int .u8)), .bool false, .int .i64 (i : Int), v4, .int .u8 (tn : Int), v6, .str (joinJ (((Lk ks).take i).map tx)), .str (joinJ (((Lt ks tn).take i).map tx)), .imm g9 1 (all9.map .str), v10, v11, v12, v13, v14, v15, v16, v17, v18, v19, v20], ⟨h.ents, nx, h.tys⟩, []⟩ Q := by
  intro m
  induction m with
  | zero =>
    intro i nx v4 v6 v10 h1 h2
    have h3 : i = ks.length := by omega
    subst h3
    rw [List.take_of_length_le (Nat.le_of_eq (lk_len ks)), List.take_of_length_le (Nat.le_of_eq (lt_len ks tn))]
    refine lb_end (h := ⟨h.ents, nx, h.tys⟩) ⟨hf.1.le h2, hf.2.le h2⟩ _ _ _ _ _ _ _ _ _ _ _ _ _ fun v4 v6 v10 n' g => hk _ _ _ _ ?_
    (try dsimp only at g); omega
  | succ m ih =>
    intro i nx v4 v6 v10 h1 h2
    have hi : i < ks.length := by omega
    refine lb_go (h := ⟨h.ents, nx, h.tys⟩) hks htn hl hi (takes_len (lk_lt ks) (by rw [lk_len]; exact hl) i) (takes_len (lt_lt ks tn) (by rw [lt_len]; exact hl) i) ⟨hf.1.le h2, hf.2.le h2⟩ _ _ _ _ _ _ _ _ _ _ _ _ _ fun v4 v6 v10 n' g => ?_
    have p1 : (Lk ks)[i]? = some ((ks[i]?.getD 0) % 9) := by simp [Lk, List.getElem?_map, List.getElem?_eq_getElem hi]
    have p2 : (Lt ks tn)[i]? = some ((ks[(i + tn) % ks.length]?.getD 0) % 9) := by simp [Lt, List.getElem?_map, List.getElem?_range hi]
    rw [stepJ p1, stepJ p2]
    (try dsimp only at g)
    have := ih (i + 1) n' v4 v6 v10 (by omega) (by omega)
    push_cast at this
    exact this
end Go.Proofs.YtdolnhpdfeagiaaGreatDoor.IrP
namespace Go.Proofs.YtdolnhpdfeagiaaGreatDoor.IrP
open Go Go.CI
set_option maxRecDepth 100000
set_option maxHeartbeats 4000000
set_option linter.unusedVariables false
set_option linter.unusedSimpArgs false
attribute [local irreducible] W Wo Wc WoR

theorem bgPB {K : CVal → CHeap → Prop} (hk : ∀ n' ty, 3 ≤ n' → UnderT ty n' → K (.bool true) ⟨[], n', ty⟩) : Wc tree.getF 6 [] ⟨[], 3, []⟩ K := wc_start (m := 1000000) (by kernel_rfl) hk
theorem AR.keep {n : Nat} {m : MT n} {h h' : CHeap} {v : CVal} (A : AR n m h [] v h') (hu : Under h.ents h.next) {q : Nat} {o : CObj} (hq : getEnt h.ents q = some o) : getEnt h'.ents q = some o := by
  rw [A.fr q (in_under hu hq) (by simp)]; exact hq
theorem AR.keepM {n k : Nat} {m : MT n} {h h' : CHeap} {v w : CVal} (A : AR n m h [] v h') (hu : Under h.ents h.next) {m2 : MT k} {ids : List Nat} (M : MR k m2 w h.ents ids) : MR k m2 w h'.ents ids :=
  M.rows fun q _ va es h9 => A.keep hu h9
theorem MR.box {k p : Nat} {m2 : MT k} {e : List (Nat × CObj)} {o : CObj} {w : CVal} {ids : List Nat} (M : MR k m2 w e ids) (hp : getEnt e p = none) : MR k m2 w ((p, o) :: e) ids :=
  M.rows fun q _ va es h9 => by rw [getEnt_skip (fun e => by subst e; rw [hp] at h9; cases h9)]; exact h9
theorem box_keep {p q : Nat} {e : List (Nat × CObj)} {o x : CObj} (h : getEnt e q = some x) (hp : getEnt e p = none) : getEnt ((p, o) :: e) q = some x := by
  rw [getEnt_skip (fun e => by subst e; rw [hp] at h; cases h)]; exact h
theorem rot_mem1 {ks : List Nat} {tn : Nat} (hn : 0 < ks.length) : ∀ k ∈ Lt ks tn, k ∈ Lk ks := by
  simp only [Lt, Lk, List.mem_map, List.mem_range]
  rintro k ⟨i, hi, rfl⟩
  have hj : (i + tn) % ks.length < ks.length := Nat.mod_lt _ hn
  exact ⟨ks[(i + tn) % ks.length], List.getElem_mem hj, by rw [List.getElem?_eq_getElem hj]; rfl⟩
theorem rot_mem2 {ks : List Nat} {tn : Nat} (hn : 0 < ks.length) : ∀ k ∈ Lk ks, k ∈ Lt ks tn := by
  simp only [Lt, Lk, List.mem_map, List.mem_range]
  rintro k ⟨x, hx, rfl⟩
  obtain ⟨j, hj, rfl⟩ := List.getElem_of_mem hx
  refine ⟨(j + (ks.length - tn % ks.length)) % ks.length, Nat.mod_lt _ hn, ?_⟩
  have h1 := Nat.div_add_mod tn ks.length
  have h2 := Nat.mod_lt tn hn
  have e : j + (ks.length - tn % ks.length) + tn = j + ks.length * (tn / ks.length + 1) := by rw [Nat.mul_add]; omega
  rw [Nat.mod_add_mod, e, Nat.add_mul_mod_self_left, Nat.mod_eq_of_lt hj, List.getElem?_eq_getElem hj]; rfl
theorem rot_run {ks : List Nat} {tn : Nat} (hn : 0 < ks.length) : run s0 (Lt ks tn) = run s0 (Lk ks) := by
  have a := run_sub vs0 (lk_lt ks) (rot_mem1 (tn := tn) hn)
  have b := run_sub vs0 (lt_lt ks tn) (rot_mem2 (tn := tn) hn)
  rw [← run_app] at a b
  rw [← b, ← a, run_swap vs0 (lt_lt ks tn) (lk_lt ks)]
theorem two_run {ks : List Nat} : run s0 (Lk ks ++ Lk ks) = run s0 (Lk ks) := by
  rw [run_app]; exact run_sub vs0 (lk_lt ks) fun k h => h
theorem joinJ_two {A B : List (List UInt8)} (hA : A ≠ []) (hB : B ≠ []) : joinJ A ++ 44 :: joinJ B = joinJ (A ++ B) := by
  cases A with
  | nil => exact absurd rfl hA
  | cons a A => cases B with
    | nil => exact absurd rfl hB
    | cons b B => simp [joinJ, tailJ]
theorem law_mid {ks : List Nat} {tn : Nat} (hks : ∀ k ∈ ks, k < 256) (htn : tn < 256) (hl : ks.length ≤ 8) (hn : 0 < ks.length) : Wc tree.getF 3 [.imm .none 1 ((ks.map Int.ofNat).map (CVal.int .u8)), .int .u8 (tn : Int)] noHeap fun v _ => v = .bool true := by
  have hl2 : (ks.length : Int) ≤ 8 := by omega
  have hN0 : noHeap = ⟨[], 0, []⟩ := rfl
  have xs1 : ((ks.map Int.ofNat).map (CVal.int .u8)).length = ks.length := by simp
  have hz : ((ks.length : Int) == 0) = false := beq_eq_false_iff_ne.2 (by omega)
  have hLn : Lk ks ≠ [] := fun e => by have := lk_len ks; rw [e] at this; simp at this; omega
  have hTn : Lt ks tn ≠ [] := fun e => by have := lt_len ks tn; rw [e] at this; simp at this; omega
  obtain ⟨XS, hXS⟩ : ∃ XS, XS = (ks.map Int.ofNat).map (CVal.int .u8) := ⟨_, rfl⟩
  rw [← hXS] at xs1 ⊢
  refine Wc.mkG 3 c3 (by kernel_rfl) rfl ?_
  generalize e : entryC .. = r
  simp (disch := omega) [hN0, c3] at e
  subst e
  repeat ((fail_if_success (show W tree.getF lbL _ _)); first
    | refine st_ rfl ?_
    | ((first | refine W.regG ?_ | refine WoR.go ?_); generalize e : goR .. = r; simp (disch := omega) [hl2, xs1, c3] at e; replace e : some _ = _ := e; subst e; (try dsimp only [goW]))
    | (refine bgPB fun n1 ty1 hn1 hut1 => ⟨rfl, ?_⟩))
  rw [hXS]
  have hu : Under ([] : List (Nat × CObj)) n1 := Under.nil
  have hut := hut1
  refine lb_loop (h := ⟨[], n1, ty1⟩) hks htn hl ⟨hu, hut⟩ _ _ _ _ _ _ _ _ _ _ (fun v4 v6 v10 n' g => ?_) ks.length 0 _ _ _ _ (by omega) ?_
  · (try simp only [outOf, thenW_ret, thenW_exit, roundW, reduceIte])
    obtain ⟨S, hS⟩ : ∃ S, S = joinJ ((Lk ks).map tx) := ⟨_, rfl⟩
    obtain ⟨T, hT⟩ : ∃ T, T = joinJ ((Lt ks tn).map tx) := ⟨_, rfl⟩
    have hS4 : S.length < 1000 := by have := takes_len (lk_lt ks) (by rw [lk_len]; exact hl) ks.length; rw [List.take_of_length_le (Nat.le_of_eq (lk_len ks))] at this; rw [hS]; exact this
    have hSS : S ++ 44 :: S = joinJ ((Lk ks ++ Lk ks).map tx) := by rw [hS, joinJ_two (by simpa using hLn) (by simpa using hLn), List.map_append]
    have hst : Vs (run s0 (Lk ks)) := run_vs vs0 (lk_lt ks)
    have hs0 : run s0 (Lk ks) ≠ s0 := run_ne vs0 (lk_lt ks) hLn
    have PS := fun (h : CHeap) (hf : Fit h) (K : CVal → CHeap → Prop) => parse_L (lk_lt ks) hLn (by rw [lk_len]; omega) hf (K := K)
    have PT := fun (h : CHeap) (hf : Fit h) (K : CVal → CHeap → Prop) => parse_L (lt_lt ks tn) hTn (by rw [lt_len]; omega) hf (K := K)
    have PQ := fun (h : CHeap) (hf : Fit h) (K : CVal → CHeap → Prop) => parse_L (L := Lk ks ++ Lk ks) (fun k hk => by rcases List.mem_append.1 hk with h | h <;> exact lk_lt ks k h) (by simp [hLn]) (by rw [List.length_append, lk_len]; omega) hf (K := K)
    rw [← hS] at PS ⊢
    rw [← hT, rot_run hn] at PT
    rw [← hT]
    rw [← hSS, two_run] at PQ
    generalize run s0 (Lk ks) = st at *
    have hix := idx_ok hst
    have PU := fun (h : CHeap) (hf : Fit h) (K : CVal → CHeap → Prop) => parse_L (L := idx st) hix.2.2.1 (fun e => hs0 (by rw [← hix.2.2.2.1, e]; rfl)) hix.2.2.2.2 hf (K := K)
    have TX := fun (v : CVal) (h : CHeap) (ids : List Nat) (M : MR 3 (mk st) v h.ents ids) (hf : Fit h) (K : CVal → CHeap → Prop) => text_S hst M hf (K := K)
    rw [hix.2.2.2.1] at PU
    generalize joinJ ((idx st).map tx) = U at *
    have SM := fun (v1 v2 : CVal) (h : CHeap) (i1 i2 : List Nat) M1 M2 (hf : Fit h) => same_C 3 (mk st) v1 v2 h i1 i2 M1 M2 hf (may_S hst) (ne_S hst hs0)
    have MY := fun (v : CVal) (h : CHeap) (ids : List Nat) (M : MR 3 (mk st) v h.ents ids) (hf : Fit h) (K : CVal → CHeap → Prop) => May_F M hf (may_S hst) (by omega) (K := K)
    generalize mk st = m at *
    rw [← hXS]
    clear hS hT hSS hix hs0 hst hXS hks hLn hTn hu hut
    generalize hH0 : CHeap.mk [] n' ty1 = H0
    have F0 : Fit H0 := by rw [← hH0]; exact ⟨Under.nil, hut1.le g⟩
    clear hH0
    obtain ⟨hu, hut, hX⟩ := fx4 F0
    repeat (first
      | refine st_ rfl ?_
      | ((first | refine W.regG ?_ | refine WoR.go ?_); generalize e : goR .. = r; simp (disch := omega) [hX, xs1, hz, hS4, c3] at e; replace e : some _ = _ := e; subst e; (try dsimp only [goW])))
    refine PS ⟨_, _, _⟩ ?_ _ fun v h1 A1 => ?_
    · exact ft_
    have Z1 : getEnt h1.ents (H0.next + 1 + 1 + 1 + 1 + 1) = none := by rw [A1.fr (H0.next + 1 + 1 + 1 + 1 + 1) (by (try dsimp only); omega) (by simp)]; exact hX.2.2.1 _ (by omega)
    have Q1 : (H0.next + 1 + 1 + 1 + 1 + 1) < h1.next := by have := A1.nx; (try dsimp only at this); omega
    obtain ⟨i1, Ma, nd1, id1⟩ := A1.mr
    obtain ⟨a0, a1, a2, rfl, y0, y1, y2⟩ := Ma.nr
    have ae0 := y0.strip
    have ae1 := y1.strip
    have ae2 := y2.strip
    simp only [CVal.strip] at ae0 ae1 ae2
    obtain ⟨hu, hut, hX⟩ := fx4 A1.fit
    refine ⟨rfl, ?_⟩
    repeat (first
      | refine st_ rfl ?_
      | ((first | refine W.regG ?_ | refine WoR.go ?_); generalize e : goR .. = r; simp (disch := omega) [hX, ae0, ae1, ae2, xs1, hz, Z1, c3] at e; replace e : some _ = _ := e; subst e; (try dsimp only [goW])))
    generalize hH : CHeap.mk (_ :: _) _ _ = H1
    have F1 : Fit H1 := by rw [← hH]; exact ft_
    have Ga : getEnt H1.ents (H0.next + 1 + 1 + 1 + 1 + 1) = some (.cells [a0, a1, a2]) := by rw [← hH]; simp [getEnt]
    have Ma : MR 3 m (.agg [a0, a1, a2]) H1.ents i1 := by rw [← hH]; exact Ma.box Z1
    have N1 : ∀ q, h1.next ≤ q → getEnt H1.ents q = none := fun q hq => by rw [← hH]; dsimp only; rw [getEnt_skip (by omega)]; exact hX.2.2.1 q hq
    have R1 : h1.next + 6 ≤ H1.next := by rw [← hH]; (try dsimp only); omega
    clear hH Z1 A1
    generalize (H0.next + 1 + 1 + 1 + 1 + 1) = pa at *
    obtain ⟨hu, hut, hX⟩ := fx4 F1
    repeat (first
      | refine st_ rfl ?_
      | ((first | refine W.regG ?_ | refine WoR.go ?_); generalize e : goR .. = r; simp (disch := omega) [hX, xs1, hz, hS4, Ga, ae0, ae1, ae2, c3] at e; replace e : some _ = _ := e; subst e; (try dsimp only [goW])))
    refine PT ⟨_, _, _⟩ ?_ _ fun v h2 A2 => ?_
    · exact ft_
    have Z2 : getEnt h2.ents (h1.next + 1 + 1 + 1 + 1 + 1) = none := by rw [A2.fr (h1.next + 1 + 1 + 1 + 1 + 1) (by (try dsimp only); omega) (by simp)]; exact N1 _ (by omega)
    have Q2 : (h1.next + 1 + 1 + 1 + 1 + 1) < h2.next := by have := A2.nx; (try dsimp only at this); omega
    obtain ⟨i2, Mb, nd2, id2⟩ := A2.mr
    obtain ⟨b0, b1, b2, rfl, y0, y1, y2⟩ := Mb.nr
    have be0 := y0.strip
    have be1 := y1.strip
    have be2 := y2.strip
    simp only [CVal.strip] at be0 be1 be2
    have Ma := A2.keepM (hu.le (by (try dsimp only); omega)) Ma
    have Ga := A2.keep (hu.le (by (try dsimp only); omega)) Ga
    obtain ⟨hu, hut, hX⟩ := fx4 A2.fit
    refine ⟨rfl, ?_⟩
    repeat (first
      | refine st_ rfl ?_
      | ((first | refine W.regG ?_ | refine WoR.go ?_); generalize e : goR .. = r; simp (disch := omega) [hX, be0, be1, be2, xs1, hz, Z2, c3] at e; replace e : some _ = _ := e; subst e; (try dsimp only [goW])))
    generalize hH : CHeap.mk (_ :: _) _ _ = H2
    have F2 : Fit H2 := by rw [← hH]; exact ft_
    have Gb : getEnt H2.ents (h1.next + 1 + 1 + 1 + 1 + 1) = some (.cells [b0, b1, b2]) := by rw [← hH]; simp [getEnt]
    have Mb : MR 3 m (.agg [b0, b1, b2]) H2.ents i2 := by rw [← hH]; exact Mb.box Z2
    have Ga := box_keep (o := .cells [b0, b1, b2]) Ga Z2
    have Ma := Ma.box (o := .cells [b0, b1, b2]) Z2
    rw [show ((h1.next + 1 + 1 + 1 + 1 + 1), CObj.cells [b0, b1, b2]) :: h2.ents = H2.ents by rw [← hH]] at Ga Ma
    have N2 : ∀ q, h2.next ≤ q → getEnt H2.ents q = none := fun q hq => by rw [← hH]; dsimp only; rw [getEnt_skip (by omega)]; exact hX.2.2.1 q hq
    have R2 : h2.next + 0 ≤ H2.next := by rw [← hH]; (try dsimp only); omega
    clear hH Z2 A2
    generalize (h1.next + 1 + 1 + 1 + 1 + 1) = pb at *
    obtain ⟨hu, hut, hX⟩ := fx4 F2
    repeat (first
      | refine st_ rfl ?_
      | ((first | refine W.regG ?_ | refine WoR.go ?_); generalize e : goR .. = r; simp (disch := omega) [hX, xs1, hz, hS4, Ga, ae0, ae1, ae2, Gb, be0, be1, be2, c3] at e; replace e : some _ = _ := e; subst e; (try dsimp only [goW]))
      | (refine TX _ ⟨_, _, _⟩ i1 ?_ ?_ _ fun nt tyt Tt => ⟨rfl, ?_⟩; (focus (exact Ma)); (focus (exact ft_)); (have hut := Tt.u); (have gt := Tt.n); (try dsimp only at gt)))
    refine PU ⟨_, _, _⟩ ?_ _ fun v h3 A3 => ?_
    · exact ft_
    have Z3 : getEnt h3.ents (H2.next + 1 + 1 + 1 + 1 + 1 + 1) = none := by rw [A3.fr (H2.next + 1 + 1 + 1 + 1 + 1 + 1) (by (try dsimp only); omega) (by simp)]; exact N2 _ (by omega)
    have Q3 : (H2.next + 1 + 1 + 1 + 1 + 1 + 1) < h3.next := by have := A3.nx; (try dsimp only at this); omega
    obtain ⟨i3, Mc, nd3, id3⟩ := A3.mr
    obtain ⟨c0, c1, c2, rfl, y0, y1, y2⟩ := Mc.nr
    have ce0 := y0.strip
    have ce1 := y1.strip
    have ce2 := y2.strip
    simp only [CVal.strip] at ce0 ce1 ce2
    have Ma := A3.keepM (hu.le (by (try dsimp only); omega)) Ma
    have Ga := A3.keep (hu.le (by (try dsimp only); omega)) Ga
    have Mb := A3.keepM (hu.le (by (try dsimp only); omega)) Mb
    have Gb := A3.keep (hu.le (by (try dsimp only); omega)) Gb
    obtain ⟨hu, hut, hX⟩ := fx4 A3.fit
    refine ⟨rfl, ?_⟩
    repeat (first
      | refine st_ rfl ?_
      | ((first | refine W.regG ?_ | refine WoR.go ?_); generalize e : goR .. = r; simp (disch := omega) [hX, ce0, ce1, ce2, xs1, hz, Z3, c3] at e; replace e : some _ = _ := e; subst e; (try dsimp only [goW])))
    generalize hH : CHeap.mk (_ :: _) _ _ = H3
    have F3 : Fit H3 := by rw [← hH]; exact ft_
    have Gc : getEnt H3.ents (H2.next + 1 + 1 + 1 + 1 + 1 + 1) = some (.cells [c0, c1, c2]) := by rw [← hH]; simp [getEnt]
    have Mc : MR 3 m (.agg [c0, c1, c2]) H3.ents i3 := by rw [← hH]; exact Mc.box Z3
    have Ga := box_keep (o := .cells [c0, c1, c2]) Ga Z3
    have Ma := Ma.box (o := .cells [c0, c1, c2]) Z3
    rw [show ((H2.next + 1 + 1 + 1 + 1 + 1 + 1), CObj.cells [c0, c1, c2]) :: h3.ents = H3.ents by rw [← hH]] at Ga Ma
    have Gb := box_keep (o := .cells [c0, c1, c2]) Gb Z3
    have Mb := Mb.box (o := .cells [c0, c1, c2]) Z3
    rw [show ((H2.next + 1 + 1 + 1 + 1 + 1 + 1), CObj.cells [c0, c1, c2]) :: h3.ents = H3.ents by rw [← hH]] at Gb Mb
    have N3 : ∀ q, h3.next ≤ q → getEnt H3.ents q = none := fun q hq => by rw [← hH]; dsimp only; rw [getEnt_skip (by omega)]; exact hX.2.2.1 q hq
    have R3 : h3.next + 9 ≤ H3.next := by rw [← hH]; (try dsimp only); omega
    clear hH Z3 A3
    generalize (H2.next + 1 + 1 + 1 + 1 + 1 + 1) = pc at *
    obtain ⟨hu, hut, hX⟩ := fx4 F3
    repeat (first
      | refine st_ rfl ?_
      | ((first | refine W.regG ?_ | refine WoR.go ?_); generalize e : goR .. = r; simp (disch := omega) [hX, xs1, hz, hS4, Ga, ae0, ae1, ae2, Gb, be0, be1, be2, Gc, ce0, ce1, ce2, c3] at e; replace e : some _ = _ := e; subst e; (try dsimp only [goW])))
    refine PQ ⟨_, _, _⟩ ?_ _ fun v h4 A4 => ?_
    · exact ft_
    have Z4 : getEnt h4.ents (h3.next + 1 + 1 + 1 + 1 + 1 + 1 + 1 + 1) = none := by rw [A4.fr (h3.next + 1 + 1 + 1 + 1 + 1 + 1 + 1 + 1) (by (try dsimp only); omega) (by simp)]; exact N3 _ (by omega)
    have Q4 : (h3.next + 1 + 1 + 1 + 1 + 1 + 1 + 1 + 1) < h4.next := by have := A4.nx; (try dsimp only at this); omega
    obtain ⟨i4, Md, nd4, id4⟩ := A4.mr
    obtain ⟨d0, d1, d2, rfl, y0, y1, y2⟩ := Md.nr
    have de0 := y0.strip
    have de1 := y1.strip
    have de2 := y2.strip
    simp only [CVal.strip] at de0 de1 de2
    have Ma := A4.keepM (hu.le (by (try dsimp only); omega)) Ma
    have Ga := A4.keep (hu.le (by (try dsimp only); omega)) Ga
    have Mb := A4.keepM (hu.le (by (try dsimp only); omega)) Mb
    have Gb := A4.keep (hu.le (by (try dsimp only); omega)) Gb
    have Mc := A4.keepM (hu.le (by (try dsimp only); omega)) Mc
    have Gc := A4.keep (hu.le (by (try dsimp only); omega)) Gc
    obtain ⟨hu, hut, hX⟩ := fx4 A4.fit
    refine ⟨rfl, ?_⟩
    repeat (first
      | refine st_ rfl ?_
      | ((first | refine W.regG ?_ | refine WoR.go ?_); generalize e : goR .. = r; simp (disch := omega) [hX, de0, de1, de2, xs1, hz, Z4, c3] at e; replace e : some _ = _ := e; subst e; (try dsimp only [goW])))
    generalize hH : CHeap.mk (_ :: _) _ _ = H4
    have F4 : Fit H4 := by rw [← hH]; exact ft_
    have Gd : getEnt H4.ents (h3.next + 1 + 1 + 1 + 1 + 1 + 1 + 1 + 1) = some (.cells [d0, d1, d2]) := by rw [← hH]; simp [getEnt]
    have Md : MR 3 m (.agg [d0, d1, d2]) H4.ents i4 := by rw [← hH]; exact Md.box Z4
    have Ga := box_keep (o := .cells [d0, d1, d2]) Ga Z4
    have Ma := Ma.box (o := .cells [d0, d1, d2]) Z4
    rw [show ((h3.next + 1 + 1 + 1 + 1 + 1 + 1 + 1 + 1), CObj.cells [d0, d1, d2]) :: h4.ents = H4.ents by rw [← hH]] at Ga Ma
    have Gb := box_keep (o := .cells [d0, d1, d2]) Gb Z4
    have Mb := Mb.box (o := .cells [d0, d1, d2]) Z4
    rw [show ((h3.next + 1 + 1 + 1 + 1 + 1 + 1 + 1 + 1), CObj.cells [d0, d1, d2]) :: h4.ents = H4.ents by rw [← hH]] at Gb Mb
    have Gc := box_keep (o := .cells [d0, d1, d2]) Gc Z4
    have Mc := Mc.box (o := .cells [d0, d1, d2]) Z4
    rw [show ((h3.next + 1 + 1 + 1 + 1 + 1 + 1 + 1 + 1), CObj.cells [d0, d1, d2]) :: h4.ents = H4.ents by rw [← hH]] at Gc Mc
    have N4 : ∀ q, h4.next ≤ q → getEnt H4.ents q = none := fun q hq => by rw [← hH]; dsimp only; rw [getEnt_skip (by omega)]; exact hX.2.2.1 q hq
    have R4 : h4.next + 0 ≤ H4.next := by rw [← hH]; (try dsimp only); omega
    clear hH Z4 A4
    generalize (h3.next + 1 + 1 + 1 + 1 + 1 + 1 + 1 + 1) = pd at *
    obtain ⟨hu, hut, hX⟩ := fx4 F4
    repeat (first
      | refine st_ rfl ?_
      | ((first | refine W.regG ?_ | refine WoR.go ?_); generalize e : goR .. = r; simp (disch := omega) [hX, hz, Ga, ae0, ae1, ae2, Gb, be0, be1, be2, Gc, ce0, ce1, ce2, Gd, de0, de1, de2, c3] at e; replace e : some _ = _ := e; subst e; (try dsimp only [goW]))
      | (refine SM _ _ ⟨_, _, _⟩ i1 i2 ?_ ?_ ?_ _ fun n2 g2 => ⟨rfl, ?_⟩; (focus (exact Ma)); (focus (exact Mb)); (focus (exact ft_)); (try dsimp only at g2))
      | (refine SM _ _ ⟨_, _, _⟩ i1 i3 ?_ ?_ ?_ _ fun n3 g3 => ⟨rfl, ?_⟩; (focus (exact Ma)); (focus (exact Mc)); (focus (exact ft_)); (try dsimp only at g3))
      | (refine SM _ _ ⟨_, _, _⟩ i1 i4 ?_ ?_ ?_ _ fun n4 g4 => ⟨rfl, ?_⟩; (focus (exact Ma)); (focus (exact Md)); (focus (exact ft_)); (try dsimp only at g4))
      | (refine MY _ ⟨_, _, _⟩ i1 ?_ ?_ _ fun n5 g5 => ⟨rfl, ?_⟩; (focus (exact Ma)); (focus (exact ft_)); (try dsimp only at g5))
      | ((first | (refine W.ret ?_; (try simp only [outOf, thenW_ret, thenW_exit, roundW, reduceIte]); refine endW.of (.inl rfl) rfl ?_) | refine endW.of (.inl rfl) rfl ?_ | refine endW.of (.inr rfl) rfl ?_); generalize e : endsC .. = r; simp (disch := omega) [hX, hz, Ga, ae0, ae1, ae2, Gb, be0, be1, be2, Gc, ce0, ce1, ce2, Gd, de0, de1, de2, c3] at e; subst e; rfl))
  · (try dsimp only); omega
end Go.Proofs.YtdolnhpdfeagiaaGreatDoor.IrP
