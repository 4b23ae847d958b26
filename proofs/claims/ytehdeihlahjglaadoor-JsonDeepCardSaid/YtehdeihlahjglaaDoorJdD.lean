/- What the functions of the law 'JsonDeep' do: part 4. -/
import Derived.Test.YtehdeihlahjglaaDoorJdC
namespace Go.Proofs.YtehdeihlahjglaaDoor.IrJd
open Go Go.CI
set_option maxRecDepth 100000
set_option linter.unusedVariables false
set_option linter.unusedSimpArgs false
attribute [local irreducible] W Wo Wc

theorem wrap_full {x : Int} (h : -9223372036854775808 ≤ x) (h2 : x < 9223372036854775808) : IntKind.i64.wrap x = x := by
  simp [IntKind.wrap, IntKind.bits, IntKind.signed]; omega
theorem wrap_top : IntKind.i64.wrap 9223372036854775808 = -9223372036854775808 := rfl
set_option maxHeartbeats 1000000 in
theorem pint0_pos (s r : List UInt8) (c : UInt8) (hsc : s = c :: r) (hs : s.length < 100000) (hr : ∀ c ∈ s, okDig 10 c) (hv : val 10 0 s < 9223372036854775808) (h : CHeap) (hu : Under h.ents h.next) (K : CVal → CHeap → Prop)
    (hk : ∀ n', h.next ≤ n' → K (.tup [.int .i64 (val 10 0 s : Nat), .nili]) { h with next := n' }) : Wc tree.getF 62 [.str s, .int .i64 10, .int .i64 64] h K := by
  have hD := dropEnts_under hu
  have hne : s ≠ [] := by rw [hsc]; simp
  have heb : (s == []) = false := by rw [hsc]; rfl
  have hc := dig10 (hr c (by rw [hsc]; simp))
  have h43 : ((c.toNat : Int) == 43) = false := by
    have : ∀ c ∈ D10, ((c.toNat : Int) == 43) = false := by decide
    exact this c hc
  have h45 : ((c.toNat : Int) == 45) = false := by
    have : ∀ c ∈ D10, ((c.toNat : Int) == 45) = false := by decide
    exact this c hc
  have h43' : ¬ (c.toNat : Int) = 43 := by simpa using h43
  have h45' : ¬ (c.toNat : Int) = 45 := by simpa using h45
  have hget : s[0]? = some c := by rw [hsc]; rfl
  have hget0 : ∀ hx, s[0]'hx = c := fun hx => by simp [hsc]
  have hlp : 0 < s.length := by rw [hsc]; simp
  have w1 : IntKind.u64.wrap 63 = 63 := rfl
  have w2 : IntKind.u64.bits = 64 := rfl
  have w3 : IntKind.u64.wrap 9223372036854775808 = 9223372036854775808 := rfl
  obtain ⟨x, hx⟩ : ∃ x : Int, x = (val 10 0 s : Nat) := ⟨_, rfl⟩
  rw [← hx] at hk
  refine Wc.mk' (fn := c62) (by kernel_rfl) rfl ?_
  repeat (first
    | refine W.seq ?_
    | refine W.block ?_
    | (refine W.reg ?_; generalize e : stepR _ _ _ = r; simp (disch := omega) [stepR, evalOps, evalOper, evalE, evalP, evalL, evalOpnd, nth, setNth, COp.cls, COp.isStore, CVal.isUndef, CVal.whole, CVal.cells, CHeap.put, CHeap.get, CHeap.set, wantedC, getEnt, setEnt, partOf, writeBack, evalBin, evalInt, evalStr, blockMost, initVar, descOf, List.take, List.drop, CVal.lenOf, CVal.isStr, CVal.bare, CVal.strip, CVal.flat, endsC, resultsC, oneOrTuple, finishC, cut, fillCells, setCells, szOf, szOf_desc, elems, bytesOf, evalAppend, fillElems, mkElem, List.replicate, sy_nbeq, sy_neqF, sy_leT, sy_leF, sy_setEnt_setEnt, dropped, sy_wrap64, dropEnts, dropCells, sizeMost, callAt, callAtG, sy_ibeqF, sy_ieqF, sy_ileT, sy_ileF, sy_iltT, sy_iltF, sy_ltT, sy_ltF, evalSlc, optBound, eqVal, c62, hD, hne, heb, h43, h45, h43', h45', hget, hget0, w1, w2, w3, wrap_full, sy_wrapu64] at e; replace e : some _ = _ := e; subst e; try dsimp only [callAt, callAtG, List.drop, List.take])
    | refine W.cond_true rfl ?_
    | refine W.cond_false rfl ?_
    | refine W.skip ?_
    | refine W.exit ?_
    | (refine W.region (Wo.next ?_); generalize e : evalOps _ _ _ _ _ = r; simp (disch := omega) [stepR, evalOps, evalOper, evalE, evalP, evalL, evalOpnd, nth, setNth, COp.cls, COp.isStore, CVal.isUndef, CVal.whole, CVal.cells, CHeap.put, CHeap.get, CHeap.set, wantedC, getEnt, setEnt, partOf, writeBack, evalBin, evalInt, evalStr, blockMost, initVar, descOf, List.take, List.drop, CVal.lenOf, CVal.isStr, CVal.bare, CVal.strip, CVal.flat, endsC, resultsC, oneOrTuple, finishC, cut, fillCells, setCells, szOf, szOf_desc, elems, bytesOf, evalAppend, fillElems, mkElem, List.replicate, sy_nbeq, sy_neqF, sy_leT, sy_leF, sy_setEnt_setEnt, dropped, sy_wrap64, dropEnts, dropCells, sizeMost, callAt, callAtG, sy_ibeqF, sy_ieqF, sy_ileT, sy_ileF, sy_iltT, sy_iltF, sy_ltT, sy_ltF, evalSlc, optBound, eqVal, c62, hD, hne, heb, h43, h45, h43', h45', hget, hget0, w1, w2, w3, wrap_full, sy_wrapu64] at e; replace e : some _ = _ := e; subst e; try dsimp only [callAt, callAtG, List.drop, List.take]; refine Wo.call ?_)
    | (refine W.regionC (Wo.next ?_); generalize e : evalOps _ _ _ _ _ = r; simp (disch := omega) [stepR, evalOps, evalOper, evalE, evalP, evalL, evalOpnd, nth, setNth, COp.cls, COp.isStore, CVal.isUndef, CVal.whole, CVal.cells, CHeap.put, CHeap.get, CHeap.set, wantedC, getEnt, setEnt, partOf, writeBack, evalBin, evalInt, evalStr, blockMost, initVar, descOf, List.take, List.drop, CVal.lenOf, CVal.isStr, CVal.bare, CVal.strip, CVal.flat, endsC, resultsC, oneOrTuple, finishC, cut, fillCells, setCells, szOf, szOf_desc, elems, bytesOf, evalAppend, fillElems, mkElem, List.replicate, sy_nbeq, sy_neqF, sy_leT, sy_leF, sy_setEnt_setEnt, dropped, sy_wrap64, dropEnts, dropCells, sizeMost, callAt, callAtG, sy_ibeqF, sy_ieqF, sy_ileT, sy_ileF, sy_iltT, sy_iltF, sy_ltT, sy_ltF, evalSlc, optBound, eqVal, c62, hD, hne, heb, h43, h45, h43', h45', hget, hget0, w1, w2, w3, wrap_full, sy_wrapu64] at e; replace e : some _ = _ := e; subst e; try dsimp only [callAt, callAtG, List.drop, List.take]; refine Wo.call ?_)
    | (refine Wo.rest ?_; generalize e : evalOps _ _ _ _ _ = r; simp (disch := omega) [stepR, evalOps, evalOper, evalE, evalP, evalL, evalOpnd, nth, setNth, COp.cls, COp.isStore, CVal.isUndef, CVal.whole, CVal.cells, CHeap.put, CHeap.get, CHeap.set, wantedC, getEnt, setEnt, partOf, writeBack, evalBin, evalInt, evalStr, blockMost, initVar, descOf, List.take, List.drop, CVal.lenOf, CVal.isStr, CVal.bare, CVal.strip, CVal.flat, endsC, resultsC, oneOrTuple, finishC, cut, fillCells, setCells, szOf, szOf_desc, elems, bytesOf, evalAppend, fillElems, mkElem, List.replicate, sy_nbeq, sy_neqF, sy_leT, sy_leF, sy_setEnt_setEnt, dropped, sy_wrap64, dropEnts, dropCells, sizeMost, callAt, callAtG, sy_ibeqF, sy_ieqF, sy_ileT, sy_ileF, sy_iltT, sy_iltF, sy_ltT, sy_ltF, evalSlc, optBound, eqVal, c62, hD, hne, heb, h43, h45, h43', h45', hget, hget0, w1, w2, w3, wrap_full, sy_wrapu64] at e; replace e : some _ = _ := e; subst e; try dsimp only [callAt, callAtG, List.drop, List.take])
    | (refine Wo.next ?_; generalize e : evalOps _ _ _ _ _ = r; simp (disch := omega) [stepR, evalOps, evalOper, evalE, evalP, evalL, evalOpnd, nth, setNth, COp.cls, COp.isStore, CVal.isUndef, CVal.whole, CVal.cells, CHeap.put, CHeap.get, CHeap.set, wantedC, getEnt, setEnt, partOf, writeBack, evalBin, evalInt, evalStr, blockMost, initVar, descOf, List.take, List.drop, CVal.lenOf, CVal.isStr, CVal.bare, CVal.strip, CVal.flat, endsC, resultsC, oneOrTuple, finishC, cut, fillCells, setCells, szOf, szOf_desc, elems, bytesOf, evalAppend, fillElems, mkElem, List.replicate, sy_nbeq, sy_neqF, sy_leT, sy_leF, sy_setEnt_setEnt, dropped, sy_wrap64, dropEnts, dropCells, sizeMost, callAt, callAtG, sy_ibeqF, sy_ieqF, sy_ileT, sy_ileF, sy_iltT, sy_iltF, sy_ltT, sy_ltF, evalSlc, optBound, eqVal, c62, hD, hne, heb, h43, h45, h43', h45', hget, hget0, w1, w2, w3, wrap_full, sy_wrapu64] at e; replace e : some _ = _ := e; subst e; try dsimp only [callAt, callAtG, List.drop, List.take]; refine Wo.call ?_)
    | (refine parse10 s hs hne hr (by omega) _ (by repeat (first | exact hu.le (by (try dsimp only); omega) | exact hu.set.le (by (try dsimp only); omega) | refine Under.cons (by (try dsimp only); omega) ?_ | exact Under.nil)) _ fun n1 hn1 => ⟨rfl, ?_⟩; rw [← hx]; try dsimp only at hn1))
  refine W.ret ?_
  try simp only [outOf, thenW_ret]
  refine endW.intro rfl ?_
  generalize e : endsC _ _ _ = r
  simp (disch := omega) [stepR, evalOps, evalOper, evalE, evalP, evalL, evalOpnd, nth, setNth, COp.cls, COp.isStore, CVal.isUndef, CVal.whole, CVal.cells, CHeap.put, CHeap.get, CHeap.set, wantedC, getEnt, setEnt, partOf, writeBack, evalBin, evalInt, evalStr, blockMost, initVar, descOf, List.take, List.drop, CVal.lenOf, CVal.isStr, CVal.bare, CVal.strip, CVal.flat, endsC, resultsC, oneOrTuple, finishC, cut, fillCells, setCells, szOf, szOf_desc, elems, bytesOf, evalAppend, fillElems, mkElem, List.replicate, sy_nbeq, sy_neqF, sy_leT, sy_leF, sy_setEnt_setEnt, dropped, sy_wrap64, dropEnts, dropCells, sizeMost, c62, hD, hne, heb, h43, h45, h43', h45', hget, hget0, w1, w2, w3, wrap_full, sy_wrapu64] at e
  subst e
  try dsimp only
  refine hk _ ?_; omega

set_option maxHeartbeats 1000000 in
theorem pint0_neg (s : List UInt8) (hne : s ≠ []) (hs : s.length < 100000) (hr : ∀ c ∈ s, okDig 10 c) (x y : Int) (hx : x = (val 10 0 s : Nat)) (hx1 : x ≤ 9223372036854775808) (hy : y = -x) (h : CHeap) (hu : Under h.ents h.next) (K : CVal → CHeap → Prop)
    (hk : ∀ n', h.next ≤ n' → K (.tup [.int .i64 y, .nili]) { h with next := n' }) : Wc tree.getF 62 [.str (45 :: s), .int .i64 10, .int .i64 64] h K := by
  have hD := dropEnts_under hu
  have hta : List.take s.length s = s := List.take_length
  have hx0 : 0 ≤ x := by omega
  have w1 : IntKind.u64.wrap 63 = 63 := rfl
  have w2 : IntKind.u64.bits = 64 := rfl
  have w3 : IntKind.u64.wrap 9223372036854775808 = 9223372036854775808 := rfl
  have hy1 : IntKind.i64.wrap (-(IntKind.i64.wrap x)) = y := by
    rcases Int.lt_or_le x 9223372036854775808 with h1 | h1
    · rw [wrap_full (by omega) h1, wrap_full (by omega) (by omega), hy]
    · have : x = 9223372036854775808 := by omega
      rw [hy, this]; rfl
  obtain ⟨z, hz⟩ : ∃ z, IntKind.i64.wrap x = z := ⟨_, rfl⟩
  rw [hz] at hy1
  refine Wc.mk' (fn := c62) (by kernel_rfl) rfl ?_
  repeat (first
    | refine W.seq ?_
    | refine W.block ?_
    | (refine W.reg ?_; generalize e : stepR _ _ _ = r; simp (disch := omega) [stepR, evalOps, evalOper, evalE, evalP, evalL, evalOpnd, nth, setNth, COp.cls, COp.isStore, CVal.isUndef, CVal.whole, CVal.cells, CHeap.put, CHeap.get, CHeap.set, wantedC, getEnt, setEnt, partOf, writeBack, evalBin, evalInt, evalStr, blockMost, initVar, descOf, List.take, List.drop, CVal.lenOf, CVal.isStr, CVal.bare, CVal.strip, CVal.flat, endsC, resultsC, oneOrTuple, finishC, cut, fillCells, setCells, szOf, szOf_desc, elems, bytesOf, evalAppend, fillElems, mkElem, List.replicate, sy_nbeq, sy_neqF, sy_leT, sy_leF, sy_setEnt_setEnt, dropped, sy_wrap64, dropEnts, dropCells, sizeMost, callAt, callAtG, sy_ibeqF, sy_ieqF, sy_ileT, sy_ileF, sy_iltT, sy_iltF, sy_ltT, sy_ltF, evalSlc, optBound, eqVal, c62, hD, w1, w2, w3, sy_wrapu64, hz, hy1, hta] at e; replace e : some _ = _ := e; subst e; try dsimp only [callAt, callAtG, List.drop, List.take])
    | refine W.cond_true rfl ?_
    | refine W.cond_false rfl ?_
    | refine W.skip ?_
    | refine W.exit ?_
    | (refine W.region (Wo.next ?_); generalize e : evalOps _ _ _ _ _ = r; simp (disch := omega) [stepR, evalOps, evalOper, evalE, evalP, evalL, evalOpnd, nth, setNth, COp.cls, COp.isStore, CVal.isUndef, CVal.whole, CVal.cells, CHeap.put, CHeap.get, CHeap.set, wantedC, getEnt, setEnt, partOf, writeBack, evalBin, evalInt, evalStr, blockMost, initVar, descOf, List.take, List.drop, CVal.lenOf, CVal.isStr, CVal.bare, CVal.strip, CVal.flat, endsC, resultsC, oneOrTuple, finishC, cut, fillCells, setCells, szOf, szOf_desc, elems, bytesOf, evalAppend, fillElems, mkElem, List.replicate, sy_nbeq, sy_neqF, sy_leT, sy_leF, sy_setEnt_setEnt, dropped, sy_wrap64, dropEnts, dropCells, sizeMost, callAt, callAtG, sy_ibeqF, sy_ieqF, sy_ileT, sy_ileF, sy_iltT, sy_iltF, sy_ltT, sy_ltF, evalSlc, optBound, eqVal, c62, hD, w1, w2, w3, sy_wrapu64, hz, hy1, hta] at e; replace e : some _ = _ := e; subst e; try dsimp only [callAt, callAtG, List.drop, List.take]; refine Wo.call ?_)
    | (refine W.regionC (Wo.next ?_); generalize e : evalOps _ _ _ _ _ = r; simp (disch := omega) [stepR, evalOps, evalOper, evalE, evalP, evalL, evalOpnd, nth, setNth, COp.cls, COp.isStore, CVal.isUndef, CVal.whole, CVal.cells, CHeap.put, CHeap.get, CHeap.set, wantedC, getEnt, setEnt, partOf, writeBack, evalBin, evalInt, evalStr, blockMost, initVar, descOf, List.take, List.drop, CVal.lenOf, CVal.isStr, CVal.bare, CVal.strip, CVal.flat, endsC, resultsC, oneOrTuple, finishC, cut, fillCells, setCells, szOf, szOf_desc, elems, bytesOf, evalAppend, fillElems, mkElem, List.replicate, sy_nbeq, sy_neqF, sy_leT, sy_leF, sy_setEnt_setEnt, dropped, sy_wrap64, dropEnts, dropCells, sizeMost, callAt, callAtG, sy_ibeqF, sy_ieqF, sy_ileT, sy_ileF, sy_iltT, sy_iltF, sy_ltT, sy_ltF, evalSlc, optBound, eqVal, c62, hD, w1, w2, w3, sy_wrapu64, hz, hy1, hta] at e; replace e : some _ = _ := e; subst e; try dsimp only [callAt, callAtG, List.drop, List.take]; refine Wo.call ?_)
    | (refine Wo.rest ?_; generalize e : evalOps _ _ _ _ _ = r; simp (disch := omega) [stepR, evalOps, evalOper, evalE, evalP, evalL, evalOpnd, nth, setNth, COp.cls, COp.isStore, CVal.isUndef, CVal.whole, CVal.cells, CHeap.put, CHeap.get, CHeap.set, wantedC, getEnt, setEnt, partOf, writeBack, evalBin, evalInt, evalStr, blockMost, initVar, descOf, List.take, List.drop, CVal.lenOf, CVal.isStr, CVal.bare, CVal.strip, CVal.flat, endsC, resultsC, oneOrTuple, finishC, cut, fillCells, setCells, szOf, szOf_desc, elems, bytesOf, evalAppend, fillElems, mkElem, List.replicate, sy_nbeq, sy_neqF, sy_leT, sy_leF, sy_setEnt_setEnt, dropped, sy_wrap64, dropEnts, dropCells, sizeMost, callAt, callAtG, sy_ibeqF, sy_ieqF, sy_ileT, sy_ileF, sy_iltT, sy_iltF, sy_ltT, sy_ltF, evalSlc, optBound, eqVal, c62, hD, w1, w2, w3, sy_wrapu64, hz, hy1, hta] at e; replace e : some _ = _ := e; subst e; try dsimp only [callAt, callAtG, List.drop, List.take])
    | (refine Wo.next ?_; generalize e : evalOps _ _ _ _ _ = r; simp (disch := omega) [stepR, evalOps, evalOper, evalE, evalP, evalL, evalOpnd, nth, setNth, COp.cls, COp.isStore, CVal.isUndef, CVal.whole, CVal.cells, CHeap.put, CHeap.get, CHeap.set, wantedC, getEnt, setEnt, partOf, writeBack, evalBin, evalInt, evalStr, blockMost, initVar, descOf, List.take, List.drop, CVal.lenOf, CVal.isStr, CVal.bare, CVal.strip, CVal.flat, endsC, resultsC, oneOrTuple, finishC, cut, fillCells, setCells, szOf, szOf_desc, elems, bytesOf, evalAppend, fillElems, mkElem, List.replicate, sy_nbeq, sy_neqF, sy_leT, sy_leF, sy_setEnt_setEnt, dropped, sy_wrap64, dropEnts, dropCells, sizeMost, callAt, callAtG, sy_ibeqF, sy_ieqF, sy_ileT, sy_ileF, sy_iltT, sy_iltF, sy_ltT, sy_ltF, evalSlc, optBound, eqVal, c62, hD, w1, w2, w3, sy_wrapu64, hz, hy1, hta] at e; replace e : some _ = _ := e; subst e; try dsimp only [callAt, callAtG, List.drop, List.take]; refine Wo.call ?_)
    | (refine parse10 s hs hne hr (by omega) _ (by repeat (first | exact hu.le (by (try dsimp only); omega) | exact hu.set.le (by (try dsimp only); omega) | refine Under.cons (by (try dsimp only); omega) ?_ | exact Under.nil)) _ fun n1 hn1 => ⟨rfl, ?_⟩; rw [← hx]; try dsimp only at hn1))
  refine W.ret ?_
  try simp only [outOf, thenW_ret]
  refine endW.intro rfl ?_
  generalize e : endsC _ _ _ = r
  simp (disch := omega) [stepR, evalOps, evalOper, evalE, evalP, evalL, evalOpnd, nth, setNth, COp.cls, COp.isStore, CVal.isUndef, CVal.whole, CVal.cells, CHeap.put, CHeap.get, CHeap.set, wantedC, getEnt, setEnt, partOf, writeBack, evalBin, evalInt, evalStr, blockMost, initVar, descOf, List.take, List.drop, CVal.lenOf, CVal.isStr, CVal.bare, CVal.strip, CVal.flat, endsC, resultsC, oneOrTuple, finishC, cut, fillCells, setCells, szOf, szOf_desc, elems, bytesOf, evalAppend, fillElems, mkElem, List.replicate, sy_nbeq, sy_neqF, sy_leT, sy_leF, sy_setEnt_setEnt, dropped, sy_wrap64, dropEnts, dropCells, sizeMost, c62, hD, w1, w2, w3, sy_wrapu64, hz, hy1, hta] at e
  subst e
  try dsimp only
  refine hk _ ?_; omega

theorem pint (w : List UInt8) (v : Int) (P : ∀ (h : CHeap), Under h.ents h.next → ∀ (K : CVal → CHeap → Prop), (∀ n', h.next ≤ n' → K (.tup [.int .i64 v, .nili]) { h with next := n' }) → Wc tree.getF 62 [.str w, .int .i64 10, .int .i64 64] h K) (h : CHeap) (hu : Under h.ents h.next) (K : CVal → CHeap → Prop)
    (hk : ∀ n', h.next ≤ n' → K (.tup [.int .i64 v, .nili]) { h with next := n' }) : Wc tree.getF 44 [.str w, .int .i64 10, .int .i64 64] h K := by
  have hD := dropEnts_under hu
  refine Wc.mk' (fn := c44) (by kernel_rfl) rfl ?_
  repeat (first
    | refine W.seq ?_
    | refine W.block ?_
    | (refine W.reg ?_; generalize e : stepR _ _ _ = r; simp (disch := omega) [stepR, evalOps, evalOper, evalE, evalP, evalL, evalOpnd, nth, setNth, COp.cls, COp.isStore, CVal.isUndef, CVal.whole, CVal.cells, CHeap.put, CHeap.get, CHeap.set, wantedC, getEnt, setEnt, partOf, writeBack, evalBin, evalInt, evalStr, blockMost, initVar, descOf, List.take, List.drop, CVal.lenOf, CVal.isStr, CVal.bare, CVal.strip, CVal.flat, endsC, resultsC, oneOrTuple, finishC, cut, fillCells, setCells, szOf, szOf_desc, elems, bytesOf, evalAppend, fillElems, mkElem, List.replicate, sy_nbeq, sy_neqF, sy_leT, sy_leF, sy_setEnt_setEnt, dropped, sy_wrap64, dropEnts, dropCells, sizeMost, callAt, callAtG, sy_ibeqF, sy_ieqF, sy_ileT, sy_ileF, sy_iltT, sy_iltF, sy_ltT, sy_ltF, evalSlc, optBound, eqVal, c44, hD] at e; replace e : some _ = _ := e; subst e; try dsimp only [callAt, callAtG, List.drop, List.take])
    | refine W.cond_true rfl ?_
    | refine W.cond_false rfl ?_
    | refine W.skip ?_
    | refine W.exit ?_
    | (refine W.region (Wo.next ?_); generalize e : evalOps _ _ _ _ _ = r; simp (disch := omega) [stepR, evalOps, evalOper, evalE, evalP, evalL, evalOpnd, nth, setNth, COp.cls, COp.isStore, CVal.isUndef, CVal.whole, CVal.cells, CHeap.put, CHeap.get, CHeap.set, wantedC, getEnt, setEnt, partOf, writeBack, evalBin, evalInt, evalStr, blockMost, initVar, descOf, List.take, List.drop, CVal.lenOf, CVal.isStr, CVal.bare, CVal.strip, CVal.flat, endsC, resultsC, oneOrTuple, finishC, cut, fillCells, setCells, szOf, szOf_desc, elems, bytesOf, evalAppend, fillElems, mkElem, List.replicate, sy_nbeq, sy_neqF, sy_leT, sy_leF, sy_setEnt_setEnt, dropped, sy_wrap64, dropEnts, dropCells, sizeMost, callAt, callAtG, sy_ibeqF, sy_ieqF, sy_ileT, sy_ileF, sy_iltT, sy_iltF, sy_ltT, sy_ltF, evalSlc, optBound, eqVal, c44, hD] at e; replace e : some _ = _ := e; subst e; try dsimp only [callAt, callAtG, List.drop, List.take]; refine Wo.call ?_)
    | (refine W.regionC (Wo.next ?_); generalize e : evalOps _ _ _ _ _ = r; simp (disch := omega) [stepR, evalOps, evalOper, evalE, evalP, evalL, evalOpnd, nth, setNth, COp.cls, COp.isStore, CVal.isUndef, CVal.whole, CVal.cells, CHeap.put, CHeap.get, CHeap.set, wantedC, getEnt, setEnt, partOf, writeBack, evalBin, evalInt, evalStr, blockMost, initVar, descOf, List.take, List.drop, CVal.lenOf, CVal.isStr, CVal.bare, CVal.strip, CVal.flat, endsC, resultsC, oneOrTuple, finishC, cut, fillCells, setCells, szOf, szOf_desc, elems, bytesOf, evalAppend, fillElems, mkElem, List.replicate, sy_nbeq, sy_neqF, sy_leT, sy_leF, sy_setEnt_setEnt, dropped, sy_wrap64, dropEnts, dropCells, sizeMost, callAt, callAtG, sy_ibeqF, sy_ieqF, sy_ileT, sy_ileF, sy_iltT, sy_iltF, sy_ltT, sy_ltF, evalSlc, optBound, eqVal, c44, hD] at e; replace e : some _ = _ := e; subst e; try dsimp only [callAt, callAtG, List.drop, List.take]; refine Wo.call ?_)
    | (refine Wo.rest ?_; generalize e : evalOps _ _ _ _ _ = r; simp (disch := omega) [stepR, evalOps, evalOper, evalE, evalP, evalL, evalOpnd, nth, setNth, COp.cls, COp.isStore, CVal.isUndef, CVal.whole, CVal.cells, CHeap.put, CHeap.get, CHeap.set, wantedC, getEnt, setEnt, partOf, writeBack, evalBin, evalInt, evalStr, blockMost, initVar, descOf, List.take, List.drop, CVal.lenOf, CVal.isStr, CVal.bare, CVal.strip, CVal.flat, endsC, resultsC, oneOrTuple, finishC, cut, fillCells, setCells, szOf, szOf_desc, elems, bytesOf, evalAppend, fillElems, mkElem, List.replicate, sy_nbeq, sy_neqF, sy_leT, sy_leF, sy_setEnt_setEnt, dropped, sy_wrap64, dropEnts, dropCells, sizeMost, callAt, callAtG, sy_ibeqF, sy_ieqF, sy_ileT, sy_ileF, sy_iltT, sy_iltF, sy_ltT, sy_ltF, evalSlc, optBound, eqVal, c44, hD] at e; replace e : some _ = _ := e; subst e; try dsimp only [callAt, callAtG, List.drop, List.take])
    | (refine Wo.next ?_; generalize e : evalOps _ _ _ _ _ = r; simp (disch := omega) [stepR, evalOps, evalOper, evalE, evalP, evalL, evalOpnd, nth, setNth, COp.cls, COp.isStore, CVal.isUndef, CVal.whole, CVal.cells, CHeap.put, CHeap.get, CHeap.set, wantedC, getEnt, setEnt, partOf, writeBack, evalBin, evalInt, evalStr, blockMost, initVar, descOf, List.take, List.drop, CVal.lenOf, CVal.isStr, CVal.bare, CVal.strip, CVal.flat, endsC, resultsC, oneOrTuple, finishC, cut, fillCells, setCells, szOf, szOf_desc, elems, bytesOf, evalAppend, fillElems, mkElem, List.replicate, sy_nbeq, sy_neqF, sy_leT, sy_leF, sy_setEnt_setEnt, dropped, sy_wrap64, dropEnts, dropCells, sizeMost, callAt, callAtG, sy_ibeqF, sy_ieqF, sy_ileT, sy_ileF, sy_iltT, sy_iltF, sy_ltT, sy_ltF, evalSlc, optBound, eqVal, c44, hD] at e; replace e : some _ = _ := e; subst e; try dsimp only [callAt, callAtG, List.drop, List.take]; refine Wo.call ?_)
    | (refine P _ (by repeat (first | exact hu.le (by (try dsimp only); omega) | exact hu.set.le (by (try dsimp only); omega) | refine Under.cons (by (try dsimp only); omega) ?_ | exact Under.nil)) _ fun n1 hn1 => ⟨rfl, ?_⟩; try dsimp only at hn1))
  refine W.ret ?_
  try simp only [outOf, thenW_ret]
  refine endW.intro rfl ?_
  generalize e : endsC _ _ _ = r
  simp (disch := omega) [stepR, evalOps, evalOper, evalE, evalP, evalL, evalOpnd, nth, setNth, COp.cls, COp.isStore, CVal.isUndef, CVal.whole, CVal.cells, CHeap.put, CHeap.get, CHeap.set, wantedC, getEnt, setEnt, partOf, writeBack, evalBin, evalInt, evalStr, blockMost, initVar, descOf, List.take, List.drop, CVal.lenOf, CVal.isStr, CVal.bare, CVal.strip, CVal.flat, endsC, resultsC, oneOrTuple, finishC, cut, fillCells, setCells, szOf, szOf_desc, elems, bytesOf, evalAppend, fillElems, mkElem, List.replicate, sy_nbeq, sy_neqF, sy_leT, sy_leF, sy_setEnt_setEnt, dropped, sy_wrap64, dropEnts, dropCells, sizeMost, c44, hD] at e
  subst e
  try dsimp only
  refine hk _ ?_; omega
end Go.Proofs.YtehdeihlahjglaaDoor.IrJd
