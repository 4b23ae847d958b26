/- What the functions of the law 'JsonNumbers' do: part 6. -/
import Derived.Test.YtehdeihlahjglaaGreatDoorJnE
namespace Go.Proofs.YtehdeihlahjglaaGreatDoor.IrJ
open Go Go.CI
set_option maxRecDepth 100000
set_option linter.unusedVariables false
set_option linter.unusedSimpArgs false
attribute [local irreducible] W Wo Wc

abbrev jint (v : Int) : CVal := .agg [.int .i64 3, .int .i64 v, .str [], .nils, .nils]
/-- What 'number' does to a text. -/
def NumAt (f : Nat) (s rest : List UInt8) (e v : Int) (more : List CVal) : Prop := ∀ (p d : Nat) (h : CHeap), getEnt h.ents p = some (rdr s 0) → Under h.ents h.next → p < h.next → ∀ (K : CVal → CHeap → Prop),
  (∀ n', h.next ≤ n' → K (jint v) { h with ents := setEnt h.ents p (rdr rest e), next := n' }) → Wc tree.getF f (.ptr p d 0 :: more) h K
abbrev FIRST : List UInt8 := 43 :: 45 :: D10
theorem first_out {c : UInt8} (hc : c ∈ FIRST) : inSet (marks marks0 spacesB) c false := inSet_all (l := FIRST) (by kernel_rfl) hc

set_option maxHeartbeats 2000000 in
theorem tree_num (s r rest : List UInt8) (c : UInt8) (e v : Int) (hsc : s = c :: r) (hc : c ∈ FIRST) (hlen : s.length < 90000) (N : NumAt 30 s rest e v []) : NumAt 13 s rest e v [.int .i64 0] := by
  intro p d h hg hu hp K hk
  have hD : ∀ x, dropEnts (setEnt h.ents p x) h.next = setEnt h.ents p x := fun x => dropEnts_under hu.set
  have hG : ∀ x, getEnt (setEnt h.ents p x) p = some x := fun x => sy_getEnt_setEnt hg
  have hN : ∀ q, h.next ≤ q → getEnt h.ents q = none := fun q hq => getEnt_under hu hq
  have hrs : ∀ c' r', s = c' :: r' → inSet (marks marks0 spacesB) c' false := fun c' r' ee => by
    rw [hsc] at ee; cases ee; exact first_out hc
  have hse : (s == []) = false := by rw [hsc]; rfl
  have hse2 : ¬ s = [] := by rw [hsc]; simp
  have hget : s[0]? = some c := by rw [hsc]; rfl
  have hlp : 0 < s.length := by rw [hsc]; simp
  have hget0 : ∀ hx, s[0]'hx = c := fun hx => by simp [hsc]
  have b34 : ((c.toNat : Int) == 34) = false := by
    have : ∀ c ∈ FIRST, ((c.toNat : Int) == 34) = false := by decide
    exact this c hc
  have b91 : ((c.toNat : Int) == 91) = false := by
    have : ∀ c ∈ FIRST, ((c.toNat : Int) == 91) = false := by decide
    exact this c hc
  have b123 : ((c.toNat : Int) == 123) = false := by
    have : ∀ c ∈ FIRST, ((c.toNat : Int) == 123) = false := by decide
    exact this c hc
  have n34 : ¬ (c.toNat : Int) = 34 := by simpa using b34
  have n91 : ¬ (c.toNat : Int) = 91 := by simpa using b91
  have n123 : ¬ (c.toNat : Int) = 123 := by simpa using b123
  have q : ∀ (w0 : UInt8) (w : List UInt8), c ≠ w0 → (decide ((w0 :: w).length ≤ s.length) && (s.take (w0 :: w).length == w0 :: w)) = false := fun w0 w hw => by
    rw [hsc]; simp [hw]
  have c110 : c ≠ 110 := by
    have : ∀ c ∈ FIRST, c ≠ 110 := by decide
    exact this c hc
  have c116 : c ≠ 116 := by
    have : ∀ c ∈ FIRST, c ≠ 116 := by decide
    exact this c hc
  have c102 : c ≠ 102 := by
    have : ∀ c ∈ FIRST, c ≠ 102 := by decide
    exact this c hc
  refine Wc.mk' (fn := c13) (by kernel_rfl) rfl ?_
  repeat (first
    | refine W.seq ?_
    | refine W.block ?_
    | (refine W.reg ?_; generalize e : stepR _ _ _ = r; simp (disch := omega) [stepR, evalOps, evalOper, evalE, evalP, evalL, evalOpnd, nth, setNth, COp.cls, COp.isStore, CVal.isUndef, CVal.whole, CVal.cells, CHeap.put, CHeap.get, CHeap.set, wantedC, getEnt, setEnt, partOf, writeBack, evalBin, evalInt, evalStr, blockMost, initVar, descOf, List.take, List.drop, CVal.lenOf, CVal.isStr, CVal.bare, CVal.strip, CVal.flat, endsC, resultsC, oneOrTuple, finishC, cut, fillCells, setCells, szOf, szOf_desc, elems, bytesOf, evalAppend, fillElems, mkElem, List.replicate, sy_nbeq, sy_neqF, sy_leT, sy_leF, sy_setEnt_setEnt, dropped, sy_wrap64, dropEnts, dropCells, sizeMost, callAt, callAtG, sy_ibeqF, sy_ieqF, sy_ileT, sy_ileF, sy_iltT, sy_iltF, sy_ltT, sy_ltF, evalSlc, optBound, eqVal, c13, hg, hG, hN, hD, hse, hse2, hget, hget0, hlp, b34, b91, b123, n34, n91, n123] at e; replace e : some _ = _ := e; subst e; try dsimp only [callAt, callAtG, List.drop, List.take])
    | refine W.cond_true rfl ?_
    | refine W.cond_false rfl ?_
    | refine W.skip ?_
    | refine W.exit ?_
    | (refine W.region (Wo.next ?_); generalize e : evalOps _ _ _ _ _ = r; simp (disch := omega) [stepR, evalOps, evalOper, evalE, evalP, evalL, evalOpnd, nth, setNth, COp.cls, COp.isStore, CVal.isUndef, CVal.whole, CVal.cells, CHeap.put, CHeap.get, CHeap.set, wantedC, getEnt, setEnt, partOf, writeBack, evalBin, evalInt, evalStr, blockMost, initVar, descOf, List.take, List.drop, CVal.lenOf, CVal.isStr, CVal.bare, CVal.strip, CVal.flat, endsC, resultsC, oneOrTuple, finishC, cut, fillCells, setCells, szOf, szOf_desc, elems, bytesOf, evalAppend, fillElems, mkElem, List.replicate, sy_nbeq, sy_neqF, sy_leT, sy_leF, sy_setEnt_setEnt, dropped, sy_wrap64, dropEnts, dropCells, sizeMost, callAt, callAtG, sy_ibeqF, sy_ieqF, sy_ileT, sy_ileF, sy_iltT, sy_iltF, sy_ltT, sy_ltF, evalSlc, optBound, eqVal, c13, hg, hG, hN, hD, hse, hse2, hget, hget0, hlp, b34, b91, b123, n34, n91, n123] at e; replace e : some _ = _ := e; subst e; try dsimp only [callAt, callAtG, List.drop, List.take]; refine Wo.call ?_)
    | (refine W.regionC (Wo.next ?_); generalize e : evalOps _ _ _ _ _ = r; simp (disch := omega) [stepR, evalOps, evalOper, evalE, evalP, evalL, evalOpnd, nth, setNth, COp.cls, COp.isStore, CVal.isUndef, CVal.whole, CVal.cells, CHeap.put, CHeap.get, CHeap.set, wantedC, getEnt, setEnt, partOf, writeBack, evalBin, evalInt, evalStr, blockMost, initVar, descOf, List.take, List.drop, CVal.lenOf, CVal.isStr, CVal.bare, CVal.strip, CVal.flat, endsC, resultsC, oneOrTuple, finishC, cut, fillCells, setCells, szOf, szOf_desc, elems, bytesOf, evalAppend, fillElems, mkElem, List.replicate, sy_nbeq, sy_neqF, sy_leT, sy_leF, sy_setEnt_setEnt, dropped, sy_wrap64, dropEnts, dropCells, sizeMost, callAt, callAtG, sy_ibeqF, sy_ieqF, sy_ileT, sy_ileF, sy_iltT, sy_iltF, sy_ltT, sy_ltF, evalSlc, optBound, eqVal, c13, hg, hG, hN, hD, hse, hse2, hget, hget0, hlp, b34, b91, b123, n34, n91, n123] at e; replace e : some _ = _ := e; subst e; try dsimp only [callAt, callAtG, List.drop, List.take]; refine Wo.call ?_)
    | (refine Wo.rest ?_; generalize e : evalOps _ _ _ _ _ = r; simp (disch := omega) [stepR, evalOps, evalOper, evalE, evalP, evalL, evalOpnd, nth, setNth, COp.cls, COp.isStore, CVal.isUndef, CVal.whole, CVal.cells, CHeap.put, CHeap.get, CHeap.set, wantedC, getEnt, setEnt, partOf, writeBack, evalBin, evalInt, evalStr, blockMost, initVar, descOf, List.take, List.drop, CVal.lenOf, CVal.isStr, CVal.bare, CVal.strip, CVal.flat, endsC, resultsC, oneOrTuple, finishC, cut, fillCells, setCells, szOf, szOf_desc, elems, bytesOf, evalAppend, fillElems, mkElem, List.replicate, sy_nbeq, sy_neqF, sy_leT, sy_leF, sy_setEnt_setEnt, dropped, sy_wrap64, dropEnts, dropCells, sizeMost, callAt, callAtG, sy_ibeqF, sy_ieqF, sy_ileT, sy_ileF, sy_iltT, sy_iltF, sy_ltT, sy_ltF, evalSlc, optBound, eqVal, c13, hg, hG, hN, hD, hse, hse2, hget, hget0, hlp, b34, b91, b123, n34, n91, n123] at e; replace e : some _ = _ := e; subst e; try dsimp only [callAt, callAtG, List.drop, List.take])
    | (refine Wo.next ?_; generalize e : evalOps _ _ _ _ _ = r; simp (disch := omega) [stepR, evalOps, evalOper, evalE, evalP, evalL, evalOpnd, nth, setNth, COp.cls, COp.isStore, CVal.isUndef, CVal.whole, CVal.cells, CHeap.put, CHeap.get, CHeap.set, wantedC, getEnt, setEnt, partOf, writeBack, evalBin, evalInt, evalStr, blockMost, initVar, descOf, List.take, List.drop, CVal.lenOf, CVal.isStr, CVal.bare, CVal.strip, CVal.flat, endsC, resultsC, oneOrTuple, finishC, cut, fillCells, setCells, szOf, szOf_desc, elems, bytesOf, evalAppend, fillElems, mkElem, List.replicate, sy_nbeq, sy_neqF, sy_leT, sy_leF, sy_setEnt_setEnt, dropped, sy_wrap64, dropEnts, dropCells, sizeMost, callAt, callAtG, sy_ibeqF, sy_ieqF, sy_ileT, sy_ileF, sy_iltT, sy_iltF, sy_ltT, sy_ltF, evalSlc, optBound, eqVal, c13, hg, hG, hN, hD, hse, hse2, hget, hget0, hlp, b34, b91, b123, n34, n91, n123] at e; replace e : some _ = _ := e; subst e; try dsimp only [callAt, callAtG, List.drop, List.take]; refine Wo.call ?_)
    | (refine skip_spec p d [] s 0 (by simp; omega) (by simp) hrs _ (by simp (disch := omega) [getEnt, setEnt, sy_nbeq, sy_neqF, sy_setEnt_setEnt, hg, hG]) (by repeat (first | exact hu.le (by (try dsimp only); omega) | exact hu.set.le (by (try dsimp only); omega) | refine Under.cons (by (try dsimp only); omega) ?_ | exact Under.nil)) (by (try dsimp only); omega) _ fun n1 hn1 => ⟨rfl, ?_⟩; try dsimp only at hn1)
    | (refine take_spec p d s [110, 117, 108, 108] 0 false (by omega) hrs (q _ _ c110) _ (by simp (disch := omega) [getEnt, setEnt, sy_nbeq, sy_neqF, sy_setEnt_setEnt, hg, hG]) (by repeat (first | exact hu.le (by (try dsimp only); omega) | exact hu.set.le (by (try dsimp only); omega) | refine Under.cons (by (try dsimp only); omega) ?_ | exact Under.nil)) (by (try dsimp only); omega) _ fun n2 hn2 => ⟨rfl, ?_⟩; try dsimp only at hn2)
    | (refine take_spec p d s [116, 114, 117, 101] 0 false (by omega) hrs (q _ _ c116) _ (by simp (disch := omega) [getEnt, setEnt, sy_nbeq, sy_neqF, sy_setEnt_setEnt, hg, hG]) (by repeat (first | exact hu.le (by (try dsimp only); omega) | exact hu.set.le (by (try dsimp only); omega) | refine Under.cons (by (try dsimp only); omega) ?_ | exact Under.nil)) (by (try dsimp only); omega) _ fun n3 hn3 => ⟨rfl, ?_⟩; try dsimp only at hn3)
    | (refine take_spec p d s [102, 97, 108, 115, 101] 0 false (by omega) hrs (q _ _ c102) _ (by simp (disch := omega) [getEnt, setEnt, sy_nbeq, sy_neqF, sy_setEnt_setEnt, hg, hG]) (by repeat (first | exact hu.le (by (try dsimp only); omega) | exact hu.set.le (by (try dsimp only); omega) | refine Under.cons (by (try dsimp only); omega) ?_ | exact Under.nil)) (by (try dsimp only); omega) _ fun n4 hn4 => ⟨rfl, ?_⟩; try dsimp only at hn4)
    | (refine N p d _ (by simp (disch := omega) [getEnt, setEnt, sy_nbeq, sy_neqF, sy_setEnt_setEnt, hg, hG]) (by repeat (first | exact hu.le (by (try dsimp only); omega) | exact hu.set.le (by (try dsimp only); omega) | refine Under.cons (by (try dsimp only); omega) ?_ | exact Under.nil)) (by (try dsimp only); omega) _ fun n5 hn5 => ⟨rfl, ?_⟩; try dsimp only at hn5))
  refine W.ret ?_
  try simp only [outOf, thenW_ret]
  refine endW.intro rfl ?_
  generalize e : endsC _ _ _ = r
  simp (disch := omega) [stepR, evalOps, evalOper, evalE, evalP, evalL, evalOpnd, nth, setNth, COp.cls, COp.isStore, CVal.isUndef, CVal.whole, CVal.cells, CHeap.put, CHeap.get, CHeap.set, wantedC, getEnt, setEnt, partOf, writeBack, evalBin, evalInt, evalStr, blockMost, initVar, descOf, List.take, List.drop, CVal.lenOf, CVal.isStr, CVal.bare, CVal.strip, CVal.flat, endsC, resultsC, oneOrTuple, finishC, cut, fillCells, setCells, szOf, szOf_desc, elems, bytesOf, evalAppend, fillElems, mkElem, List.replicate, sy_nbeq, sy_neqF, sy_leT, sy_leF, sy_setEnt_setEnt, dropped, sy_wrap64, dropEnts, dropCells, sizeMost, c13, hg, hG, hN, hD, hse, hse2, hget, hget0, hlp, b34, b91, b123, n34, n91, n123] at e
  subst e
  try dsimp only
  refine hk _ ?_; omega
end Go.Proofs.YtehdeihlahjglaaGreatDoor.IrJ
