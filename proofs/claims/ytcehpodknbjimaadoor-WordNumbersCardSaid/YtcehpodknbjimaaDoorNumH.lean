/- What the functions of the law 'WordNumbers' do: part 8. -/
import Derived.Test.YtcehpodknbjimaaDoorNumG
namespace Go.Proofs.YtcehpodknbjimaaDoor.IrN
open Go Go.CI
set_option maxRecDepth 100000
set_option linter.unusedVariables false
set_option linter.unusedSimpArgs false
attribute [local irreducible] W Wo Wc

set_option maxHeartbeats 4000000 in
theorem number8 (p d : Nat) (s ds r : List UInt8) (a : Nat) (to : Int) (hs : s.length < 100000) (hd : s.drop a = ds ++ 32 :: r) (hds : ∀ c ∈ ds, okDig 8 c) (hne : ds ≠ []) (hv : val 8 0 ds < 18446744073709551616) (h48 : ∃ r', ds = 48 :: r')
    (h : CHeap) (hg : getEnt h.ents p = some (rdr s a .nils 0 to)) (hu : Under h.ents h.next) (hp : p < h.next) (K : CVal → CHeap → Prop)
    (hk : ∀ n' i, h.next ≤ i → i < n' → K (.tup []) { h with ents := (i, .tok 0) :: setEnt h.ents p (rdr s ((a : Int) + (ds.length : Nat)) (.imm (.own i 0) 4 [.agg [.int .i64 2, .str [], .int .u64 (val 8 0 ds : Nat), .int .i64 a]]) 0 to), next := n' }) : Wc tree.getF 24 [.ptr p d 0] h K := by
  have hC : ∀ x, dropCells (setEnt h.ents p x) h.next = setEnt h.ents p x := fun x => dropCells_under hu.set
  have hG : ∀ x, getEnt (setEnt h.ents p x) p = some x := fun x => sy_getEnt_setEnt hg
  have hlen : s.length - a = 0 + ds.length + 1 + r.length := by rw [← List.length_drop, hd]; simp; omega
  have hle : a ≤ s.length := by omega
  have hpos : 0 < ds.length := List.length_pos_iff.2 hne
  have hl2 : (ds ++ 32 :: r).length = ds.length + 1 + r.length := by simp; omega
  have hta : List.take (ds.length + 1 + r.length) (ds ++ 32 :: r) = ds ++ 32 :: r := by rw [← hl2, List.take_length]
  have htk : List.take ds.length (ds ++ 32 :: r) = ds := List.take_left
  have hdr : List.drop ds.length (ds ++ 32 :: r) = 32 :: r := List.drop_left
  have htk2 : List.take (ds.length + 1) (ds ++ 32 :: r) = ds ++ [32] := by
    rw [List.take_append]; simp [List.take_of_length_le]
  have hdr2 : List.drop ds.length (ds ++ [32]) = [32] := List.drop_left
  obtain ⟨r', hcr⟩ := h48
  have hq1 : (decide (([48, 120] : List UInt8).length ≤ (ds ++ 32 :: r).length) && ((ds ++ 32 :: r).take ([48, 120] : List UInt8).length == [48, 120])) = false := by
    cases r' with
    | nil => rw [hcr]; simp
    | cons c2 r2 =>
      have h2 : c2 ≠ 120 := fun e => by
        have := dig8 (hds c2 (by rw [hcr]; simp))
        rw [e] at this; simp at this
      rw [hcr]; simp [h2]
  have hq2 : (decide (([48, 88] : List UInt8).length ≤ (ds ++ 32 :: r).length) && ((ds ++ 32 :: r).take ([48, 88] : List UInt8).length == [48, 88])) = false := by
    cases r' with
    | nil => rw [hcr]; simp
    | cons c2 r2 =>
      have h2 : c2 ≠ 88 := fun e => by
        have := dig8 (hds c2 (by rw [hcr]; simp))
        rw [e] at this; simp at this
      rw [hcr]; simp [h2]
  have hget : (ds ++ 32 :: r)[0]? = some 48 := by rw [hcr]; rfl
  have hget0 : ∀ hx, (ds ++ 32 :: r)[0]'hx = 48 := fun hx => by simp [hcr]

  push_cast at hk
  refine Wc.mk' (fn := c24) (by kernel_rfl) rfl ?_
  repeat (first
    | refine W.seq ?_
    | refine W.block ?_
    | (refine W.reg ?_; generalize e : stepR _ _ _ = r; simp (disch := omega) [stepR, evalOps, evalOper, evalE, evalP, evalL, evalOpnd, nth, setNth, COp.cls, COp.isStore, CVal.isUndef, CVal.whole, CVal.cells, CHeap.put, CHeap.get, CHeap.set, wantedC, getEnt, setEnt, partOf, writeBack, evalBin, evalInt, evalStr, blockMost, initVar, descOf, List.take, List.drop, CVal.lenOf, CVal.isStr, CVal.bare, CVal.strip, CVal.flat, endsC, resultsC, oneOrTuple, finishC, cut, fillCells, setCells, szOf, szOf_desc, elems, bytesOf, evalAppend, fillElems, mkElem, List.replicate, sy_nbeq, sy_neqF, sy_leT, sy_leF, sy_setEnt_setEnt, dropped, sy_wrap64, dropEnts, dropCells, sizeMost, callAt, callAtG, sy_ibeqF, sy_ieqF, sy_ileT, sy_ileF, sy_iltT, sy_iltF, sy_ltT, sy_ltF, evalSlc, optBound, eqVal, CHeap.note, c24, hg, hG, hd, hle, hC, hta, htk, hdr, hl2, htk2, hdr2, hget, hget0] at e; replace e : some _ = _ := e; subst e; try dsimp only [callAt, callAtG, List.drop, List.take])
    | refine W.cond_true rfl ?_
    | refine W.cond_false rfl ?_
    | refine W.skip ?_
    | refine W.exit ?_
    | (refine W.region (Wo.next ?_); generalize e : evalOps _ _ _ _ _ = r; simp (disch := omega) [stepR, evalOps, evalOper, evalE, evalP, evalL, evalOpnd, nth, setNth, COp.cls, COp.isStore, CVal.isUndef, CVal.whole, CVal.cells, CHeap.put, CHeap.get, CHeap.set, wantedC, getEnt, setEnt, partOf, writeBack, evalBin, evalInt, evalStr, blockMost, initVar, descOf, List.take, List.drop, CVal.lenOf, CVal.isStr, CVal.bare, CVal.strip, CVal.flat, endsC, resultsC, oneOrTuple, finishC, cut, fillCells, setCells, szOf, szOf_desc, elems, bytesOf, evalAppend, fillElems, mkElem, List.replicate, sy_nbeq, sy_neqF, sy_leT, sy_leF, sy_setEnt_setEnt, dropped, sy_wrap64, dropEnts, dropCells, sizeMost, callAt, callAtG, sy_ibeqF, sy_ieqF, sy_ileT, sy_ileF, sy_iltT, sy_iltF, sy_ltT, sy_ltF, evalSlc, optBound, eqVal, CHeap.note, c24, hg, hG, hd, hle, hC, hta, htk, hdr, hl2, htk2, hdr2, hget, hget0] at e; replace e : some _ = _ := e; subst e; try dsimp only [callAt, callAtG, List.drop, List.take]; refine Wo.call ?_)
    | (refine W.regionC (Wo.next ?_); generalize e : evalOps _ _ _ _ _ = r; simp (disch := omega) [stepR, evalOps, evalOper, evalE, evalP, evalL, evalOpnd, nth, setNth, COp.cls, COp.isStore, CVal.isUndef, CVal.whole, CVal.cells, CHeap.put, CHeap.get, CHeap.set, wantedC, getEnt, setEnt, partOf, writeBack, evalBin, evalInt, evalStr, blockMost, initVar, descOf, List.take, List.drop, CVal.lenOf, CVal.isStr, CVal.bare, CVal.strip, CVal.flat, endsC, resultsC, oneOrTuple, finishC, cut, fillCells, setCells, szOf, szOf_desc, elems, bytesOf, evalAppend, fillElems, mkElem, List.replicate, sy_nbeq, sy_neqF, sy_leT, sy_leF, sy_setEnt_setEnt, dropped, sy_wrap64, dropEnts, dropCells, sizeMost, callAt, callAtG, sy_ibeqF, sy_ieqF, sy_ileT, sy_ileF, sy_iltT, sy_iltF, sy_ltT, sy_ltF, evalSlc, optBound, eqVal, CHeap.note, c24, hg, hG, hd, hle, hC, hta, htk, hdr, hl2, htk2, hdr2, hget, hget0] at e; replace e : some _ = _ := e; subst e; try dsimp only [callAt, callAtG, List.drop, List.take]; refine Wo.call ?_)
    | (refine Wo.rest ?_; generalize e : evalOps _ _ _ _ _ = r; simp (disch := omega) [stepR, evalOps, evalOper, evalE, evalP, evalL, evalOpnd, nth, setNth, COp.cls, COp.isStore, CVal.isUndef, CVal.whole, CVal.cells, CHeap.put, CHeap.get, CHeap.set, wantedC, getEnt, setEnt, partOf, writeBack, evalBin, evalInt, evalStr, blockMost, initVar, descOf, List.take, List.drop, CVal.lenOf, CVal.isStr, CVal.bare, CVal.strip, CVal.flat, endsC, resultsC, oneOrTuple, finishC, cut, fillCells, setCells, szOf, szOf_desc, elems, bytesOf, evalAppend, fillElems, mkElem, List.replicate, sy_nbeq, sy_neqF, sy_leT, sy_leF, sy_setEnt_setEnt, dropped, sy_wrap64, dropEnts, dropCells, sizeMost, callAt, callAtG, sy_ibeqF, sy_ieqF, sy_ileT, sy_ileF, sy_iltT, sy_iltF, sy_ltT, sy_ltF, evalSlc, optBound, eqVal, CHeap.note, c24, hg, hG, hd, hle, hC, hta, htk, hdr, hl2, htk2, hdr2, hget, hget0] at e; replace e : some _ = _ := e; subst e; try dsimp only [callAt, callAtG, List.drop, List.take])
    | (refine Wo.next ?_; generalize e : evalOps _ _ _ _ _ = r; simp (disch := omega) [stepR, evalOps, evalOper, evalE, evalP, evalL, evalOpnd, nth, setNth, COp.cls, COp.isStore, CVal.isUndef, CVal.whole, CVal.cells, CHeap.put, CHeap.get, CHeap.set, wantedC, getEnt, setEnt, partOf, writeBack, evalBin, evalInt, evalStr, blockMost, initVar, descOf, List.take, List.drop, CVal.lenOf, CVal.isStr, CVal.bare, CVal.strip, CVal.flat, endsC, resultsC, oneOrTuple, finishC, cut, fillCells, setCells, szOf, szOf_desc, elems, bytesOf, evalAppend, fillElems, mkElem, List.replicate, sy_nbeq, sy_neqF, sy_leT, sy_leF, sy_setEnt_setEnt, dropped, sy_wrap64, dropEnts, dropCells, sizeMost, callAt, callAtG, sy_ibeqF, sy_ieqF, sy_ileT, sy_ileF, sy_iltT, sy_iltF, sy_ltT, sy_ltF, evalSlc, optBound, eqVal, CHeap.note, c24, hg, hG, hd, hle, hC, hta, htk, hdr, hl2, htk2, hdr2, hget, hget0] at e; replace e : some _ = _ := e; subst e; try dsimp only [callAt, callAtG, List.drop, List.take]; refine Wo.call ?_)
    | (refine W.region (Wo.nextG ?_); generalize e : evalOps _ _ _ _ _ = r; simp (disch := omega) [stepR, evalOps, evalOper, evalE, evalP, evalL, evalOpnd, nth, setNth, COp.cls, COp.isStore, CVal.isUndef, CVal.whole, CVal.cells, CHeap.put, CHeap.get, CHeap.set, wantedC, getEnt, setEnt, partOf, writeBack, evalBin, evalInt, evalStr, blockMost, initVar, descOf, List.take, List.drop, CVal.lenOf, CVal.isStr, CVal.bare, CVal.strip, CVal.flat, endsC, resultsC, oneOrTuple, finishC, cut, fillCells, setCells, szOf, szOf_desc, elems, bytesOf, evalAppend, fillElems, mkElem, List.replicate, sy_nbeq, sy_neqF, sy_leT, sy_leF, sy_setEnt_setEnt, dropped, sy_wrap64, dropEnts, dropCells, sizeMost, callAt, callAtG, sy_ibeqF, sy_ieqF, sy_ileT, sy_ileF, sy_iltT, sy_iltF, sy_ltT, sy_ltF, evalSlc, optBound, eqVal, CHeap.note, c24, hg, hG, hd, hle, hC, hta, htk, hdr, hl2, htk2, hdr2, hget, hget0] at e; replace e : some _ = _ := e; subst e; try dsimp only [callAt, callAtG, List.drop, List.take]; refine Wo.callG rfl ?_)
    | (refine W.regionC (Wo.nextG ?_); generalize e : evalOps _ _ _ _ _ = r; simp (disch := omega) [stepR, evalOps, evalOper, evalE, evalP, evalL, evalOpnd, nth, setNth, COp.cls, COp.isStore, CVal.isUndef, CVal.whole, CVal.cells, CHeap.put, CHeap.get, CHeap.set, wantedC, getEnt, setEnt, partOf, writeBack, evalBin, evalInt, evalStr, blockMost, initVar, descOf, List.take, List.drop, CVal.lenOf, CVal.isStr, CVal.bare, CVal.strip, CVal.flat, endsC, resultsC, oneOrTuple, finishC, cut, fillCells, setCells, szOf, szOf_desc, elems, bytesOf, evalAppend, fillElems, mkElem, List.replicate, sy_nbeq, sy_neqF, sy_leT, sy_leF, sy_setEnt_setEnt, dropped, sy_wrap64, dropEnts, dropCells, sizeMost, callAt, callAtG, sy_ibeqF, sy_ieqF, sy_ileT, sy_ileF, sy_iltT, sy_iltF, sy_ltT, sy_ltF, evalSlc, optBound, eqVal, CHeap.note, c24, hg, hG, hd, hle, hC, hta, htk, hdr, hl2, htk2, hdr2, hget, hget0] at e; replace e : some _ = _ := e; subst e; try dsimp only [callAt, callAtG, List.drop, List.take]; refine Wo.callG rfl ?_)
    | (refine Wo.nextG ?_; generalize e : evalOps _ _ _ _ _ = r; simp (disch := omega) [stepR, evalOps, evalOper, evalE, evalP, evalL, evalOpnd, nth, setNth, COp.cls, COp.isStore, CVal.isUndef, CVal.whole, CVal.cells, CHeap.put, CHeap.get, CHeap.set, wantedC, getEnt, setEnt, partOf, writeBack, evalBin, evalInt, evalStr, blockMost, initVar, descOf, List.take, List.drop, CVal.lenOf, CVal.isStr, CVal.bare, CVal.strip, CVal.flat, endsC, resultsC, oneOrTuple, finishC, cut, fillCells, setCells, szOf, szOf_desc, elems, bytesOf, evalAppend, fillElems, mkElem, List.replicate, sy_nbeq, sy_neqF, sy_leT, sy_leF, sy_setEnt_setEnt, dropped, sy_wrap64, dropEnts, dropCells, sizeMost, callAt, callAtG, sy_ibeqF, sy_ieqF, sy_ileT, sy_ileF, sy_iltT, sy_iltF, sy_ltT, sy_ltF, evalSlc, optBound, eqVal, CHeap.note, c24, hg, hG, hd, hle, hC, hta, htk, hdr, hl2, htk2, hdr2, hget, hget0] at e; replace e : some _ = _ := e; subst e; try dsimp only [callAt, callAtG, List.drop, List.take]; refine Wo.callG rfl ?_)
    | (refine prefix_spec (ds ++ 32 :: r) [48, 120] false hq1 _ (by repeat (first | exact hu.le (by (try dsimp only); omega) | exact hu.set.le (by (try dsimp only); omega) | refine Under.cons (by (try dsimp only); omega) ?_ | exact Under.nil)) _ fun n3 hn3 => ⟨rfl, ?_⟩; try dsimp only at hn3)
    | (refine prefix_spec (ds ++ 32 :: r) [48, 88] false hq2 _ (by repeat (first | exact hu.le (by (try dsimp only); omega) | exact hu.set.le (by (try dsimp only); omega) | refine Under.cons (by (try dsimp only); omega) ?_ | exact Under.nil)) _ fun n4 hn4 => ⟨rfl, ?_⟩; try dsimp only at hn4)
    | (refine front_spec D8 ds (32 :: r) (by decide) (by decide) (by decide) (fun c hc => in8 (hds c hc)) (fun c r' e => by cases e; exact out8) (by simp only [List.length_cons]; omega) _ (by repeat (first | exact hu.le (by (try dsimp only); omega) | exact hu.set.le (by (try dsimp only); omega) | refine Under.cons (by (try dsimp only); omega) ?_ | exact Under.nil)) _ fun n5 hn5 => ⟨rfl, ?_⟩; try dsimp only at hn5)
    | (refine parseU8 ds (by omega) hne hds hv _ (by repeat (first | exact hu.le (by (try dsimp only); omega) | exact hu.set.le (by (try dsimp only); omega) | refine Under.cons (by (try dsimp only); omega) ?_ | exact Under.nil)) _ fun n6 hn6 => ⟨rfl, ?_⟩; try dsimp only at hn6)
    | (refine fails_no p d _ _ _ (by repeat (first | exact hu.le (by (try dsimp only); omega) | exact hu.set.le (by (try dsimp only); omega) | refine Under.cons (by (try dsimp only); omega) ?_ | exact Under.nil)) _ fun n8 hn8 => ⟨rfl, ?_⟩; try dsimp only at hn8)
    | (refine contains0_spec namesB [32] false (by decide) (by decide) _ (by repeat (first | exact hu.le (by (try dsimp only); omega) | exact hu.set.le (by (try dsimp only); omega) | refine Under.cons (by (try dsimp only); omega) ?_ | exact Under.nil)) _ fun n7 hn7 => ⟨rfl, ?_⟩; try dsimp only at hn7)
    | (refine ⟨by simp (disch := omega) [stepR, evalOps, evalOper, evalE, evalP, evalL, evalOpnd, nth, setNth, COp.cls, COp.isStore, CVal.isUndef, CVal.whole, CVal.cells, CHeap.put, CHeap.get, CHeap.set, wantedC, getEnt, setEnt, partOf, writeBack, evalBin, evalInt, evalStr, blockMost, initVar, descOf, List.take, List.drop, CVal.lenOf, CVal.isStr, CVal.bare, CVal.strip, CVal.flat, endsC, resultsC, oneOrTuple, finishC, cut, fillCells, setCells, szOf, szOf_desc, elems, bytesOf, evalAppend, fillElems, mkElem, List.replicate, sy_nbeq, sy_neqF, sy_leT, sy_leF, sy_setEnt_setEnt, dropped, sy_wrap64, dropEnts, dropCells, sizeMost, callAt, callAtG, sy_ibeqF, sy_ieqF, sy_ileT, sy_ileF, sy_iltT, sy_iltF, sy_ltT, sy_ltF, evalSlc, optBound, eqVal, CHeap.note, checkOne, swapOne, sameAt, nthOp, CVal.beq, CVal.block, storesTo, hg, hG, hd, hle, hC, hta, htk, hdr, hl2, htk2, hdr2, hget, hget0], ?_⟩))
  generalize e : endsC _ _ _ = r
  simp (disch := omega) [stepR, evalOps, evalOper, evalE, evalP, evalL, evalOpnd, nth, setNth, COp.cls, COp.isStore, CVal.isUndef, CVal.whole, CVal.cells, CHeap.put, CHeap.get, CHeap.set, wantedC, getEnt, setEnt, partOf, writeBack, evalBin, evalInt, evalStr, blockMost, initVar, descOf, List.take, List.drop, CVal.lenOf, CVal.isStr, CVal.bare, CVal.strip, CVal.flat, endsC, resultsC, oneOrTuple, finishC, cut, fillCells, setCells, szOf, szOf_desc, elems, bytesOf, evalAppend, fillElems, mkElem, List.replicate, sy_nbeq, sy_neqF, sy_leT, sy_leF, sy_setEnt_setEnt, dropped, sy_wrap64, dropEnts, dropCells, sizeMost, c24, hg, hG, hd, hle, hC, hta, htk, hdr, hl2, htk2, hdr2, hget, hget0] at e
  subst e
  try dsimp only
  refine hk _ _ ?_ ?_ <;> omega
end Go.Proofs.YtcehpodknbjimaaDoor.IrN
