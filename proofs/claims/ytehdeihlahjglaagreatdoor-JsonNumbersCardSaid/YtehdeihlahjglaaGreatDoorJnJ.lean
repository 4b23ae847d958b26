/- What the functions of the law 'JsonNumbers' do: part 10. -/
import Derived.Test.YtehdeihlahjglaaGreatDoorJnI
namespace Go.Proofs.YtehdeihlahjglaaGreatDoor.IrJ
open Go Go.CI
set_option maxRecDepth 100000
set_option linter.unusedVariables false
set_option linter.unusedSimpArgs false

theorem wc_true {T : Nat → Option CFn} {m f n : Nat} {args : List CVal} (hr : (match crunF T m f args ⟨[], n, []⟩ with | some (.bool true, ⟨[], k, _⟩) => decide (n ≤ k) | _ => false) = true) {K : CVal → CHeap → Prop} (hk : ∀ n' ty, n ≤ n' → K (.bool true) ⟨[], n', ty⟩) : Wc T f args ⟨[], n, []⟩ K := by
  split at hr
  · rename_i k ty e
    exact ⟨_, _, ⟨m, by have := e; rw [crunF_eq] at this; exact this⟩, hk k ty (by simpa using hr)⟩
  · cases hr
attribute [local irreducible] W Wo Wc
def ParsesTo (s : List UInt8) (res : CVal) : Prop := ∀ (h : CHeap), Under h.ents h.next → ∀ (K : CVal → CHeap → Prop), (∀ n', h.next ≤ n' → K res { h with next := n' }) → Wc tree.getF 6 [.str s] h K
abbrev badJ : CVal := .tup [.agg [.int .i64 0, .int .i64 0, .str [], .nils, .nils], .int .i64 2]
abbrev sufs : List (List UInt8) := [[46, 48], [101, 49], [69, 53], [97], [45], [32, 49]]

set_option maxHeartbeats 4000000 in
theorem law_of (v : Int) (t : List UInt8) (zeros more : Nat) (hm : more < 256) (hz : zeros < 256) (hlt : t.length < 1000) (P : ∀ (h : CHeap), Under h.ents h.next → ∀ (K : CVal → CHeap → Prop), (∀ n', h.next ≤ n' → K (.str t) { h with next := n' }) → Wc tree.getF 5 [jint v] h K)
    (T0 : ParsesTo t (.tup [jint v, .int .i64 0])) (TB : ∀ b ∈ sufs, ParsesTo (t ++ b) badJ) (TZ : 0 < v → ParsesTo (48 :: t) badJ ∧ ParsesTo (43 :: t) badJ) : Wc tree.getF 3 [.int .i64 v, .int .u8 zeros, .int .u8 more] noHeap fun v _ => v = .bool true := by
  have hm6 : more % 6 < 6 := by omega
  obtain ⟨b, hb, hnb⟩ : ∃ b, b ∈ sufs ∧ nth [.str [46, 48], .str [101, 49], .str [69, 53], .str [97], .str [45], .str [32, 49]] (more % 6) = .str b := by
    have : more % 6 = 0 ∨ more % 6 = 1 ∨ more % 6 = 2 ∨ more % 6 = 3 ∨ more % 6 = 4 ∨ more % 6 = 5 := by omega
    rcases this with h | h | h | h | h | h <;> rw [h]
    · exact ⟨[46, 48], by simp, rfl⟩
    · exact ⟨[101, 49], by simp, rfl⟩
    · exact ⟨[69, 53], by simp, rfl⟩
    · exact ⟨[97], by simp, rfl⟩
    · exact ⟨[45], by simp, rfl⟩
    · exact ⟨[32, 49], by simp, rfl⟩
  have hmt : ((more : Int) % 6).toNat = more % 6 := by omega
  have hTB := TB b hb
  have hbl : b.length ≤ 2 := by
    have : ∀ b ∈ sufs, b.length ≤ 2 := by decide
    exact this b hb
  rcases Int.lt_or_le 0 v with hv | hv
  · obtain ⟨TZ0, TZ1⟩ := TZ hv
    by_cases hz3 : zeros % 3 = 0
    · have hz3i : (zeros : Int) % 3 = 0 := by omega
      refine Wc.mk' (fn := c3) (by kernel_rfl) rfl ?_
      repeat (first
        | refine W.seq ?_
        | refine W.block ?_
        | (refine W.reg ?_; generalize e : stepR _ _ _ = r; simp (disch := omega) [stepR, evalOps, evalOper, evalE, evalP, evalL, evalOpnd, nth, setNth, COp.cls, COp.isStore, CVal.isUndef, CVal.whole, CVal.cells, CHeap.put, CHeap.get, CHeap.set, wantedC, getEnt, setEnt, partOf, writeBack, evalBin, evalInt, evalStr, blockMost, initVar, descOf, List.take, List.drop, CVal.lenOf, CVal.isStr, CVal.bare, CVal.strip, CVal.flat, endsC, resultsC, oneOrTuple, finishC, cut, fillCells, setCells, szOf, szOf_desc, elems, bytesOf, evalAppend, fillElems, mkElem, List.replicate, sy_nbeq, sy_neqF, sy_leT, sy_leF, sy_setEnt_setEnt, dropped, sy_wrap64, dropEnts, dropCells, sizeMost, callAt, callAtG, sy_ibeqF, sy_ieqF, sy_ileT, sy_ileF, sy_iltT, sy_iltF, sy_ltT, sy_ltF, evalSlc, optBound, eqVal, c3, noHeap, Int.tmod_eq_emod_of_nonneg, hmt, hnb, dropCells, hz3i] at e; replace e : some _ = _ := e; subst e; try dsimp only [callAt, callAtG, List.drop, List.take])
        | refine W.cond_true rfl ?_
        | refine W.cond_false rfl ?_
        | refine W.skip ?_
        | refine W.exit ?_
        | (refine W.region (Wo.next ?_); generalize e : evalOps _ _ _ _ _ = r; simp (disch := omega) [stepR, evalOps, evalOper, evalE, evalP, evalL, evalOpnd, nth, setNth, COp.cls, COp.isStore, CVal.isUndef, CVal.whole, CVal.cells, CHeap.put, CHeap.get, CHeap.set, wantedC, getEnt, setEnt, partOf, writeBack, evalBin, evalInt, evalStr, blockMost, initVar, descOf, List.take, List.drop, CVal.lenOf, CVal.isStr, CVal.bare, CVal.strip, CVal.flat, endsC, resultsC, oneOrTuple, finishC, cut, fillCells, setCells, szOf, szOf_desc, elems, bytesOf, evalAppend, fillElems, mkElem, List.replicate, sy_nbeq, sy_neqF, sy_leT, sy_leF, sy_setEnt_setEnt, dropped, sy_wrap64, dropEnts, dropCells, sizeMost, callAt, callAtG, sy_ibeqF, sy_ieqF, sy_ileT, sy_ileF, sy_iltT, sy_iltF, sy_ltT, sy_ltF, evalSlc, optBound, eqVal, c3, noHeap, Int.tmod_eq_emod_of_nonneg, hmt, hnb, dropCells, hz3i] at e; replace e : some _ = _ := e; subst e; try dsimp only [callAt, callAtG, List.drop, List.take]; refine Wo.call ?_)
        | (refine W.regionC (Wo.next ?_); generalize e : evalOps _ _ _ _ _ = r; simp (disch := omega) [stepR, evalOps, evalOper, evalE, evalP, evalL, evalOpnd, nth, setNth, COp.cls, COp.isStore, CVal.isUndef, CVal.whole, CVal.cells, CHeap.put, CHeap.get, CHeap.set, wantedC, getEnt, setEnt, partOf, writeBack, evalBin, evalInt, evalStr, blockMost, initVar, descOf, List.take, List.drop, CVal.lenOf, CVal.isStr, CVal.bare, CVal.strip, CVal.flat, endsC, resultsC, oneOrTuple, finishC, cut, fillCells, setCells, szOf, szOf_desc, elems, bytesOf, evalAppend, fillElems, mkElem, List.replicate, sy_nbeq, sy_neqF, sy_leT, sy_leF, sy_setEnt_setEnt, dropped, sy_wrap64, dropEnts, dropCells, sizeMost, callAt, callAtG, sy_ibeqF, sy_ieqF, sy_ileT, sy_ileF, sy_iltT, sy_iltF, sy_ltT, sy_ltF, evalSlc, optBound, eqVal, c3, noHeap, Int.tmod_eq_emod_of_nonneg, hmt, hnb, dropCells, hz3i] at e; replace e : some _ = _ := e; subst e; try dsimp only [callAt, callAtG, List.drop, List.take]; refine Wo.call ?_)
        | (refine Wo.rest ?_; generalize e : evalOps _ _ _ _ _ = r; simp (disch := omega) [stepR, evalOps, evalOper, evalE, evalP, evalL, evalOpnd, nth, setNth, COp.cls, COp.isStore, CVal.isUndef, CVal.whole, CVal.cells, CHeap.put, CHeap.get, CHeap.set, wantedC, getEnt, setEnt, partOf, writeBack, evalBin, evalInt, evalStr, blockMost, initVar, descOf, List.take, List.drop, CVal.lenOf, CVal.isStr, CVal.bare, CVal.strip, CVal.flat, endsC, resultsC, oneOrTuple, finishC, cut, fillCells, setCells, szOf, szOf_desc, elems, bytesOf, evalAppend, fillElems, mkElem, List.replicate, sy_nbeq, sy_neqF, sy_leT, sy_leF, sy_setEnt_setEnt, dropped, sy_wrap64, dropEnts, dropCells, sizeMost, callAt, callAtG, sy_ibeqF, sy_ieqF, sy_ileT, sy_ileF, sy_iltT, sy_iltF, sy_ltT, sy_ltF, evalSlc, optBound, eqVal, c3, noHeap, Int.tmod_eq_emod_of_nonneg, hmt, hnb, dropCells, hz3i] at e; replace e : some _ = _ := e; subst e; try dsimp only [callAt, callAtG, List.drop, List.take])
        | (refine Wo.next ?_; generalize e : evalOps _ _ _ _ _ = r; simp (disch := omega) [stepR, evalOps, evalOper, evalE, evalP, evalL, evalOpnd, nth, setNth, COp.cls, COp.isStore, CVal.isUndef, CVal.whole, CVal.cells, CHeap.put, CHeap.get, CHeap.set, wantedC, getEnt, setEnt, partOf, writeBack, evalBin, evalInt, evalStr, blockMost, initVar, descOf, List.take, List.drop, CVal.lenOf, CVal.isStr, CVal.bare, CVal.strip, CVal.flat, endsC, resultsC, oneOrTuple, finishC, cut, fillCells, setCells, szOf, szOf_desc, elems, bytesOf, evalAppend, fillElems, mkElem, List.replicate, sy_nbeq, sy_neqF, sy_leT, sy_leF, sy_setEnt_setEnt, dropped, sy_wrap64, dropEnts, dropCells, sizeMost, callAt, callAtG, sy_ibeqF, sy_ieqF, sy_ileT, sy_ileF, sy_iltT, sy_iltF, sy_ltT, sy_ltF, evalSlc, optBound, eqVal, c3, noHeap, Int.tmod_eq_emod_of_nonneg, hmt, hnb, dropCells, hz3i] at e; replace e : some _ = _ := e; subst e; try dsimp only [callAt, callAtG, List.drop, List.take]; refine Wo.call ?_))
      refine wc_true (m := 1000000) (by kernel_rfl) fun n1 ty hn1 => ⟨rfl, ?_⟩
      repeat (first
        | refine W.seq ?_
        | refine W.block ?_
        | (refine W.reg ?_; generalize e : stepR _ _ _ = r; simp (disch := omega) [stepR, evalOps, evalOper, evalE, evalP, evalL, evalOpnd, nth, setNth, COp.cls, COp.isStore, CVal.isUndef, CVal.whole, CVal.cells, CHeap.put, CHeap.get, CHeap.set, wantedC, getEnt, setEnt, partOf, writeBack, evalBin, evalInt, evalStr, blockMost, initVar, descOf, List.take, List.drop, CVal.lenOf, CVal.isStr, CVal.bare, CVal.strip, CVal.flat, endsC, resultsC, oneOrTuple, finishC, cut, fillCells, setCells, szOf, szOf_desc, elems, bytesOf, evalAppend, fillElems, mkElem, List.replicate, sy_nbeq, sy_neqF, sy_leT, sy_leF, sy_setEnt_setEnt, dropped, sy_wrap64, dropEnts, dropCells, sizeMost, callAt, callAtG, sy_ibeqF, sy_ieqF, sy_ileT, sy_ileF, sy_iltT, sy_iltF, sy_ltT, sy_ltF, evalSlc, optBound, eqVal, noHeap, Int.tmod_eq_emod_of_nonneg, hmt, hnb, dropCells, hz3i] at e; replace e : some _ = _ := e; subst e; try dsimp only [callAt, callAtG, List.drop, List.take])
        | refine W.cond_true rfl ?_
        | refine W.cond_false rfl ?_
        | refine W.skip ?_
        | refine W.exit ?_
        | (refine W.region (Wo.next ?_); generalize e : evalOps _ _ _ _ _ = r; simp (disch := omega) [stepR, evalOps, evalOper, evalE, evalP, evalL, evalOpnd, nth, setNth, COp.cls, COp.isStore, CVal.isUndef, CVal.whole, CVal.cells, CHeap.put, CHeap.get, CHeap.set, wantedC, getEnt, setEnt, partOf, writeBack, evalBin, evalInt, evalStr, blockMost, initVar, descOf, List.take, List.drop, CVal.lenOf, CVal.isStr, CVal.bare, CVal.strip, CVal.flat, endsC, resultsC, oneOrTuple, finishC, cut, fillCells, setCells, szOf, szOf_desc, elems, bytesOf, evalAppend, fillElems, mkElem, List.replicate, sy_nbeq, sy_neqF, sy_leT, sy_leF, sy_setEnt_setEnt, dropped, sy_wrap64, dropEnts, dropCells, sizeMost, callAt, callAtG, sy_ibeqF, sy_ieqF, sy_ileT, sy_ileF, sy_iltT, sy_iltF, sy_ltT, sy_ltF, evalSlc, optBound, eqVal, noHeap, Int.tmod_eq_emod_of_nonneg, hmt, hnb, dropCells, hz3i] at e; replace e : some _ = _ := e; subst e; try dsimp only [callAt, callAtG, List.drop, List.take]; refine Wo.call ?_)
        | (refine W.regionC (Wo.next ?_); generalize e : evalOps _ _ _ _ _ = r; simp (disch := omega) [stepR, evalOps, evalOper, evalE, evalP, evalL, evalOpnd, nth, setNth, COp.cls, COp.isStore, CVal.isUndef, CVal.whole, CVal.cells, CHeap.put, CHeap.get, CHeap.set, wantedC, getEnt, setEnt, partOf, writeBack, evalBin, evalInt, evalStr, blockMost, initVar, descOf, List.take, List.drop, CVal.lenOf, CVal.isStr, CVal.bare, CVal.strip, CVal.flat, endsC, resultsC, oneOrTuple, finishC, cut, fillCells, setCells, szOf, szOf_desc, elems, bytesOf, evalAppend, fillElems, mkElem, List.replicate, sy_nbeq, sy_neqF, sy_leT, sy_leF, sy_setEnt_setEnt, dropped, sy_wrap64, dropEnts, dropCells, sizeMost, callAt, callAtG, sy_ibeqF, sy_ieqF, sy_ileT, sy_ileF, sy_iltT, sy_iltF, sy_ltT, sy_ltF, evalSlc, optBound, eqVal, noHeap, Int.tmod_eq_emod_of_nonneg, hmt, hnb, dropCells, hz3i] at e; replace e : some _ = _ := e; subst e; try dsimp only [callAt, callAtG, List.drop, List.take]; refine Wo.call ?_)
        | (refine Wo.rest ?_; generalize e : evalOps _ _ _ _ _ = r; simp (disch := omega) [stepR, evalOps, evalOper, evalE, evalP, evalL, evalOpnd, nth, setNth, COp.cls, COp.isStore, CVal.isUndef, CVal.whole, CVal.cells, CHeap.put, CHeap.get, CHeap.set, wantedC, getEnt, setEnt, partOf, writeBack, evalBin, evalInt, evalStr, blockMost, initVar, descOf, List.take, List.drop, CVal.lenOf, CVal.isStr, CVal.bare, CVal.strip, CVal.flat, endsC, resultsC, oneOrTuple, finishC, cut, fillCells, setCells, szOf, szOf_desc, elems, bytesOf, evalAppend, fillElems, mkElem, List.replicate, sy_nbeq, sy_neqF, sy_leT, sy_leF, sy_setEnt_setEnt, dropped, sy_wrap64, dropEnts, dropCells, sizeMost, callAt, callAtG, sy_ibeqF, sy_ieqF, sy_ileT, sy_ileF, sy_iltT, sy_iltF, sy_ltT, sy_ltF, evalSlc, optBound, eqVal, noHeap, Int.tmod_eq_emod_of_nonneg, hmt, hnb, dropCells, hz3i] at e; replace e : some _ = _ := e; subst e; try dsimp only [callAt, callAtG, List.drop, List.take])
        | (refine Wo.next ?_; generalize e : evalOps _ _ _ _ _ = r; simp (disch := omega) [stepR, evalOps, evalOper, evalE, evalP, evalL, evalOpnd, nth, setNth, COp.cls, COp.isStore, CVal.isUndef, CVal.whole, CVal.cells, CHeap.put, CHeap.get, CHeap.set, wantedC, getEnt, setEnt, partOf, writeBack, evalBin, evalInt, evalStr, blockMost, initVar, descOf, List.take, List.drop, CVal.lenOf, CVal.isStr, CVal.bare, CVal.strip, CVal.flat, endsC, resultsC, oneOrTuple, finishC, cut, fillCells, setCells, szOf, szOf_desc, elems, bytesOf, evalAppend, fillElems, mkElem, List.replicate, sy_nbeq, sy_neqF, sy_leT, sy_leF, sy_setEnt_setEnt, dropped, sy_wrap64, dropEnts, dropCells, sizeMost, callAt, callAtG, sy_ibeqF, sy_ieqF, sy_ileT, sy_ileF, sy_iltT, sy_iltF, sy_ltT, sy_ltF, evalSlc, optBound, eqVal, noHeap, Int.tmod_eq_emod_of_nonneg, hmt, hnb, dropCells, hz3i] at e; replace e : some _ = _ := e; subst e; try dsimp only [callAt, callAtG, List.drop, List.take]; refine Wo.call ?_)
        | (refine P _ (by repeat (first | exact Under.nil | refine Under.cons (by (try dsimp only); omega) ?_)) _ fun n2 hn2 => ⟨rfl, ?_⟩; try dsimp only at hn2)
        | (refine T0 _ (by repeat (first | exact Under.nil | refine Under.cons (by (try dsimp only); omega) ?_)) _ fun n3 hn3 => ⟨rfl, ?_⟩; try dsimp only at hn3)
        | (refine hTB _ (by repeat (first | exact Under.nil | refine Under.cons (by (try dsimp only); omega) ?_)) _ fun n4 hn4 => ⟨rfl, ?_⟩; try dsimp only at hn4))
      refine W.ret ?_
      try simp only [outOf, thenW_ret]
      refine endW.intro rfl ?_
      generalize e : endsC _ _ _ = r
      simp (disch := omega) [stepR, evalOps, evalOper, evalE, evalP, evalL, evalOpnd, nth, setNth, COp.cls, COp.isStore, CVal.isUndef, CVal.whole, CVal.cells, CHeap.put, CHeap.get, CHeap.set, wantedC, getEnt, setEnt, partOf, writeBack, evalBin, evalInt, evalStr, blockMost, initVar, descOf, List.take, List.drop, CVal.lenOf, CVal.isStr, CVal.bare, CVal.strip, CVal.flat, endsC, resultsC, oneOrTuple, finishC, cut, fillCells, setCells, szOf, szOf_desc, elems, bytesOf, evalAppend, fillElems, mkElem, List.replicate, sy_nbeq, sy_neqF, sy_leT, sy_leF, sy_setEnt_setEnt, dropped, sy_wrap64, dropEnts, dropCells, sizeMost, c3, noHeap, Int.tmod_eq_emod_of_nonneg, hmt, hnb, dropCells, hz3i] at e
      subst e
      try dsimp only
      all_goals rfl
    · have hz3i : ¬ (zeros : Int) % 3 = 0 := by omega
      refine Wc.mk' (fn := c3) (by kernel_rfl) rfl ?_
      repeat (first
        | refine W.seq ?_
        | refine W.block ?_
        | (refine W.reg ?_; generalize e : stepR _ _ _ = r; simp (disch := omega) [stepR, evalOps, evalOper, evalE, evalP, evalL, evalOpnd, nth, setNth, COp.cls, COp.isStore, CVal.isUndef, CVal.whole, CVal.cells, CHeap.put, CHeap.get, CHeap.set, wantedC, getEnt, setEnt, partOf, writeBack, evalBin, evalInt, evalStr, blockMost, initVar, descOf, List.take, List.drop, CVal.lenOf, CVal.isStr, CVal.bare, CVal.strip, CVal.flat, endsC, resultsC, oneOrTuple, finishC, cut, fillCells, setCells, szOf, szOf_desc, elems, bytesOf, evalAppend, fillElems, mkElem, List.replicate, sy_nbeq, sy_neqF, sy_leT, sy_leF, sy_setEnt_setEnt, dropped, sy_wrap64, dropEnts, dropCells, sizeMost, callAt, callAtG, sy_ibeqF, sy_ieqF, sy_ileT, sy_ileF, sy_iltT, sy_iltF, sy_ltT, sy_ltF, evalSlc, optBound, eqVal, c3, noHeap, Int.tmod_eq_emod_of_nonneg, hmt, hnb, dropCells, hz3i] at e; replace e : some _ = _ := e; subst e; try dsimp only [callAt, callAtG, List.drop, List.take])
        | refine W.cond_true rfl ?_
        | refine W.cond_false rfl ?_
        | refine W.skip ?_
        | refine W.exit ?_
        | (refine W.region (Wo.next ?_); generalize e : evalOps _ _ _ _ _ = r; simp (disch := omega) [stepR, evalOps, evalOper, evalE, evalP, evalL, evalOpnd, nth, setNth, COp.cls, COp.isStore, CVal.isUndef, CVal.whole, CVal.cells, CHeap.put, CHeap.get, CHeap.set, wantedC, getEnt, setEnt, partOf, writeBack, evalBin, evalInt, evalStr, blockMost, initVar, descOf, List.take, List.drop, CVal.lenOf, CVal.isStr, CVal.bare, CVal.strip, CVal.flat, endsC, resultsC, oneOrTuple, finishC, cut, fillCells, setCells, szOf, szOf_desc, elems, bytesOf, evalAppend, fillElems, mkElem, List.replicate, sy_nbeq, sy_neqF, sy_leT, sy_leF, sy_setEnt_setEnt, dropped, sy_wrap64, dropEnts, dropCells, sizeMost, callAt, callAtG, sy_ibeqF, sy_ieqF, sy_ileT, sy_ileF, sy_iltT, sy_iltF, sy_ltT, sy_ltF, evalSlc, optBound, eqVal, c3, noHeap, Int.tmod_eq_emod_of_nonneg, hmt, hnb, dropCells, hz3i] at e; replace e : some _ = _ := e; subst e; try dsimp only [callAt, callAtG, List.drop, List.take]; refine Wo.call ?_)
        | (refine W.regionC (Wo.next ?_); generalize e : evalOps _ _ _ _ _ = r; simp (disch := omega) [stepR, evalOps, evalOper, evalE, evalP, evalL, evalOpnd, nth, setNth, COp.cls, COp.isStore, CVal.isUndef, CVal.whole, CVal.cells, CHeap.put, CHeap.get, CHeap.set, wantedC, getEnt, setEnt, partOf, writeBack, evalBin, evalInt, evalStr, blockMost, initVar, descOf, List.take, List.drop, CVal.lenOf, CVal.isStr, CVal.bare, CVal.strip, CVal.flat, endsC, resultsC, oneOrTuple, finishC, cut, fillCells, setCells, szOf, szOf_desc, elems, bytesOf, evalAppend, fillElems, mkElem, List.replicate, sy_nbeq, sy_neqF, sy_leT, sy_leF, sy_setEnt_setEnt, dropped, sy_wrap64, dropEnts, dropCells, sizeMost, callAt, callAtG, sy_ibeqF, sy_ieqF, sy_ileT, sy_ileF, sy_iltT, sy_iltF, sy_ltT, sy_ltF, evalSlc, optBound, eqVal, c3, noHeap, Int.tmod_eq_emod_of_nonneg, hmt, hnb, dropCells, hz3i] at e; replace e : some _ = _ := e; subst e; try dsimp only [callAt, callAtG, List.drop, List.take]; refine Wo.call ?_)
        | (refine Wo.rest ?_; generalize e : evalOps _ _ _ _ _ = r; simp (disch := omega) [stepR, evalOps, evalOper, evalE, evalP, evalL, evalOpnd, nth, setNth, COp.cls, COp.isStore, CVal.isUndef, CVal.whole, CVal.cells, CHeap.put, CHeap.get, CHeap.set, wantedC, getEnt, setEnt, partOf, writeBack, evalBin, evalInt, evalStr, blockMost, initVar, descOf, List.take, List.drop, CVal.lenOf, CVal.isStr, CVal.bare, CVal.strip, CVal.flat, endsC, resultsC, oneOrTuple, finishC, cut, fillCells, setCells, szOf, szOf_desc, elems, bytesOf, evalAppend, fillElems, mkElem, List.replicate, sy_nbeq, sy_neqF, sy_leT, sy_leF, sy_setEnt_setEnt, dropped, sy_wrap64, dropEnts, dropCells, sizeMost, callAt, callAtG, sy_ibeqF, sy_ieqF, sy_ileT, sy_ileF, sy_iltT, sy_iltF, sy_ltT, sy_ltF, evalSlc, optBound, eqVal, c3, noHeap, Int.tmod_eq_emod_of_nonneg, hmt, hnb, dropCells, hz3i] at e; replace e : some _ = _ := e; subst e; try dsimp only [callAt, callAtG, List.drop, List.take])
        | (refine Wo.next ?_; generalize e : evalOps _ _ _ _ _ = r; simp (disch := omega) [stepR, evalOps, evalOper, evalE, evalP, evalL, evalOpnd, nth, setNth, COp.cls, COp.isStore, CVal.isUndef, CVal.whole, CVal.cells, CHeap.put, CHeap.get, CHeap.set, wantedC, getEnt, setEnt, partOf, writeBack, evalBin, evalInt, evalStr, blockMost, initVar, descOf, List.take, List.drop, CVal.lenOf, CVal.isStr, CVal.bare, CVal.strip, CVal.flat, endsC, resultsC, oneOrTuple, finishC, cut, fillCells, setCells, szOf, szOf_desc, elems, bytesOf, evalAppend, fillElems, mkElem, List.replicate, sy_nbeq, sy_neqF, sy_leT, sy_leF, sy_setEnt_setEnt, dropped, sy_wrap64, dropEnts, dropCells, sizeMost, callAt, callAtG, sy_ibeqF, sy_ieqF, sy_ileT, sy_ileF, sy_iltT, sy_iltF, sy_ltT, sy_ltF, evalSlc, optBound, eqVal, c3, noHeap, Int.tmod_eq_emod_of_nonneg, hmt, hnb, dropCells, hz3i] at e; replace e : some _ = _ := e; subst e; try dsimp only [callAt, callAtG, List.drop, List.take]; refine Wo.call ?_))
      refine wc_true (m := 1000000) (by kernel_rfl) fun n1 ty hn1 => ⟨rfl, ?_⟩
      repeat (first
        | refine W.seq ?_
        | refine W.block ?_
        | (refine W.reg ?_; generalize e : stepR _ _ _ = r; simp (disch := omega) [stepR, evalOps, evalOper, evalE, evalP, evalL, evalOpnd, nth, setNth, COp.cls, COp.isStore, CVal.isUndef, CVal.whole, CVal.cells, CHeap.put, CHeap.get, CHeap.set, wantedC, getEnt, setEnt, partOf, writeBack, evalBin, evalInt, evalStr, blockMost, initVar, descOf, List.take, List.drop, CVal.lenOf, CVal.isStr, CVal.bare, CVal.strip, CVal.flat, endsC, resultsC, oneOrTuple, finishC, cut, fillCells, setCells, szOf, szOf_desc, elems, bytesOf, evalAppend, fillElems, mkElem, List.replicate, sy_nbeq, sy_neqF, sy_leT, sy_leF, sy_setEnt_setEnt, dropped, sy_wrap64, dropEnts, dropCells, sizeMost, callAt, callAtG, sy_ibeqF, sy_ieqF, sy_ileT, sy_ileF, sy_iltT, sy_iltF, sy_ltT, sy_ltF, evalSlc, optBound, eqVal, noHeap, Int.tmod_eq_emod_of_nonneg, hmt, hnb, dropCells, hz3i] at e; replace e : some _ = _ := e; subst e; try dsimp only [callAt, callAtG, List.drop, List.take])
        | refine W.cond_true rfl ?_
        | refine W.cond_false rfl ?_
        | refine W.skip ?_
        | refine W.exit ?_
        | (refine W.region (Wo.next ?_); generalize e : evalOps _ _ _ _ _ = r; simp (disch := omega) [stepR, evalOps, evalOper, evalE, evalP, evalL, evalOpnd, nth, setNth, COp.cls, COp.isStore, CVal.isUndef, CVal.whole, CVal.cells, CHeap.put, CHeap.get, CHeap.set, wantedC, getEnt, setEnt, partOf, writeBack, evalBin, evalInt, evalStr, blockMost, initVar, descOf, List.take, List.drop, CVal.lenOf, CVal.isStr, CVal.bare, CVal.strip, CVal.flat, endsC, resultsC, oneOrTuple, finishC, cut, fillCells, setCells, szOf, szOf_desc, elems, bytesOf, evalAppend, fillElems, mkElem, List.replicate, sy_nbeq, sy_neqF, sy_leT, sy_leF, sy_setEnt_setEnt, dropped, sy_wrap64, dropEnts, dropCells, sizeMost, callAt, callAtG, sy_ibeqF, sy_ieqF, sy_ileT, sy_ileF, sy_iltT, sy_iltF, sy_ltT, sy_ltF, evalSlc, optBound, eqVal, noHeap, Int.tmod_eq_emod_of_nonneg, hmt, hnb, dropCells, hz3i] at e; replace e : some _ = _ := e; subst e; try dsimp only [callAt, callAtG, List.drop, List.take]; refine Wo.call ?_)
        | (refine W.regionC (Wo.next ?_); generalize e : evalOps _ _ _ _ _ = r; simp (disch := omega) [stepR, evalOps, evalOper, evalE, evalP, evalL, evalOpnd, nth, setNth, COp.cls, COp.isStore, CVal.isUndef, CVal.whole, CVal.cells, CHeap.put, CHeap.get, CHeap.set, wantedC, getEnt, setEnt, partOf, writeBack, evalBin, evalInt, evalStr, blockMost, initVar, descOf, List.take, List.drop, CVal.lenOf, CVal.isStr, CVal.bare, CVal.strip, CVal.flat, endsC, resultsC, oneOrTuple, finishC, cut, fillCells, setCells, szOf, szOf_desc, elems, bytesOf, evalAppend, fillElems, mkElem, List.replicate, sy_nbeq, sy_neqF, sy_leT, sy_leF, sy_setEnt_setEnt, dropped, sy_wrap64, dropEnts, dropCells, sizeMost, callAt, callAtG, sy_ibeqF, sy_ieqF, sy_ileT, sy_ileF, sy_iltT, sy_iltF, sy_ltT, sy_ltF, evalSlc, optBound, eqVal, noHeap, Int.tmod_eq_emod_of_nonneg, hmt, hnb, dropCells, hz3i] at e; replace e : some _ = _ := e; subst e; try dsimp only [callAt, callAtG, List.drop, List.take]; refine Wo.call ?_)
        | (refine Wo.rest ?_; generalize e : evalOps _ _ _ _ _ = r; simp (disch := omega) [stepR, evalOps, evalOper, evalE, evalP, evalL, evalOpnd, nth, setNth, COp.cls, COp.isStore, CVal.isUndef, CVal.whole, CVal.cells, CHeap.put, CHeap.get, CHeap.set, wantedC, getEnt, setEnt, partOf, writeBack, evalBin, evalInt, evalStr, blockMost, initVar, descOf, List.take, List.drop, CVal.lenOf, CVal.isStr, CVal.bare, CVal.strip, CVal.flat, endsC, resultsC, oneOrTuple, finishC, cut, fillCells, setCells, szOf, szOf_desc, elems, bytesOf, evalAppend, fillElems, mkElem, List.replicate, sy_nbeq, sy_neqF, sy_leT, sy_leF, sy_setEnt_setEnt, dropped, sy_wrap64, dropEnts, dropCells, sizeMost, callAt, callAtG, sy_ibeqF, sy_ieqF, sy_ileT, sy_ileF, sy_iltT, sy_iltF, sy_ltT, sy_ltF, evalSlc, optBound, eqVal, noHeap, Int.tmod_eq_emod_of_nonneg, hmt, hnb, dropCells, hz3i] at e; replace e : some _ = _ := e; subst e; try dsimp only [callAt, callAtG, List.drop, List.take])
        | (refine Wo.next ?_; generalize e : evalOps _ _ _ _ _ = r; simp (disch := omega) [stepR, evalOps, evalOper, evalE, evalP, evalL, evalOpnd, nth, setNth, COp.cls, COp.isStore, CVal.isUndef, CVal.whole, CVal.cells, CHeap.put, CHeap.get, CHeap.set, wantedC, getEnt, setEnt, partOf, writeBack, evalBin, evalInt, evalStr, blockMost, initVar, descOf, List.take, List.drop, CVal.lenOf, CVal.isStr, CVal.bare, CVal.strip, CVal.flat, endsC, resultsC, oneOrTuple, finishC, cut, fillCells, setCells, szOf, szOf_desc, elems, bytesOf, evalAppend, fillElems, mkElem, List.replicate, sy_nbeq, sy_neqF, sy_leT, sy_leF, sy_setEnt_setEnt, dropped, sy_wrap64, dropEnts, dropCells, sizeMost, callAt, callAtG, sy_ibeqF, sy_ieqF, sy_ileT, sy_ileF, sy_iltT, sy_iltF, sy_ltT, sy_ltF, evalSlc, optBound, eqVal, noHeap, Int.tmod_eq_emod_of_nonneg, hmt, hnb, dropCells, hz3i] at e; replace e : some _ = _ := e; subst e; try dsimp only [callAt, callAtG, List.drop, List.take]; refine Wo.call ?_)
        | (refine P _ (by repeat (first | exact Under.nil | refine Under.cons (by (try dsimp only); omega) ?_)) _ fun n2 hn2 => ⟨rfl, ?_⟩; try dsimp only at hn2)
        | (refine T0 _ (by repeat (first | exact Under.nil | refine Under.cons (by (try dsimp only); omega) ?_)) _ fun n3 hn3 => ⟨rfl, ?_⟩; try dsimp only at hn3)
        | (refine hTB _ (by repeat (first | exact Under.nil | refine Under.cons (by (try dsimp only); omega) ?_)) _ fun n4 hn4 => ⟨rfl, ?_⟩; try dsimp only at hn4)
        | (refine TZ0 _ (by repeat (first | exact Under.nil | refine Under.cons (by (try dsimp only); omega) ?_)) _ fun n5 hn5 => ⟨rfl, ?_⟩; try dsimp only at hn5)
        | (refine TZ1 _ (by repeat (first | exact Under.nil | refine Under.cons (by (try dsimp only); omega) ?_)) _ fun n6 hn6 => ⟨rfl, ?_⟩; try dsimp only at hn6))
      refine W.ret ?_
      try simp only [outOf, thenW_ret]
      refine endW.intro rfl ?_
      generalize e : endsC _ _ _ = r
      simp (disch := omega) [stepR, evalOps, evalOper, evalE, evalP, evalL, evalOpnd, nth, setNth, COp.cls, COp.isStore, CVal.isUndef, CVal.whole, CVal.cells, CHeap.put, CHeap.get, CHeap.set, wantedC, getEnt, setEnt, partOf, writeBack, evalBin, evalInt, evalStr, blockMost, initVar, descOf, List.take, List.drop, CVal.lenOf, CVal.isStr, CVal.bare, CVal.strip, CVal.flat, endsC, resultsC, oneOrTuple, finishC, cut, fillCells, setCells, szOf, szOf_desc, elems, bytesOf, evalAppend, fillElems, mkElem, List.replicate, sy_nbeq, sy_neqF, sy_leT, sy_leF, sy_setEnt_setEnt, dropped, sy_wrap64, dropEnts, dropCells, sizeMost, c3, noHeap, Int.tmod_eq_emod_of_nonneg, hmt, hnb, dropCells, hz3i] at e
      subst e
      try dsimp only
      all_goals rfl
  · refine Wc.mk' (fn := c3) (by kernel_rfl) rfl ?_
    repeat (first
      | refine W.seq ?_
      | refine W.block ?_
      | (refine W.reg ?_; generalize e : stepR _ _ _ = r; simp (disch := omega) [stepR, evalOps, evalOper, evalE, evalP, evalL, evalOpnd, nth, setNth, COp.cls, COp.isStore, CVal.isUndef, CVal.whole, CVal.cells, CHeap.put, CHeap.get, CHeap.set, wantedC, getEnt, setEnt, partOf, writeBack, evalBin, evalInt, evalStr, blockMost, initVar, descOf, List.take, List.drop, CVal.lenOf, CVal.isStr, CVal.bare, CVal.strip, CVal.flat, endsC, resultsC, oneOrTuple, finishC, cut, fillCells, setCells, szOf, szOf_desc, elems, bytesOf, evalAppend, fillElems, mkElem, List.replicate, sy_nbeq, sy_neqF, sy_leT, sy_leF, sy_setEnt_setEnt, dropped, sy_wrap64, dropEnts, dropCells, sizeMost, callAt, callAtG, sy_ibeqF, sy_ieqF, sy_ileT, sy_ileF, sy_iltT, sy_iltF, sy_ltT, sy_ltF, evalSlc, optBound, eqVal, c3, noHeap, Int.tmod_eq_emod_of_nonneg, hmt, hnb, dropCells] at e; replace e : some _ = _ := e; subst e; try dsimp only [callAt, callAtG, List.drop, List.take])
      | refine W.cond_true rfl ?_
      | refine W.cond_false rfl ?_
      | refine W.skip ?_
      | refine W.exit ?_
      | (refine W.region (Wo.next ?_); generalize e : evalOps _ _ _ _ _ = r; simp (disch := omega) [stepR, evalOps, evalOper, evalE, evalP, evalL, evalOpnd, nth, setNth, COp.cls, COp.isStore, CVal.isUndef, CVal.whole, CVal.cells, CHeap.put, CHeap.get, CHeap.set, wantedC, getEnt, setEnt, partOf, writeBack, evalBin, evalInt, evalStr, blockMost, initVar, descOf, List.take, List.drop, CVal.lenOf, CVal.isStr, CVal.bare, CVal.strip, CVal.flat, endsC, resultsC, oneOrTuple, finishC, cut, fillCells, setCells, szOf, szOf_desc, elems, bytesOf, evalAppend, fillElems, mkElem, List.replicate, sy_nbeq, sy_neqF, sy_leT, sy_leF, sy_setEnt_setEnt, dropped, sy_wrap64, dropEnts, dropCells, sizeMost, callAt, callAtG, sy_ibeqF, sy_ieqF, sy_ileT, sy_ileF, sy_iltT, sy_iltF, sy_ltT, sy_ltF, evalSlc, optBound, eqVal, c3, noHeap, Int.tmod_eq_emod_of_nonneg, hmt, hnb, dropCells] at e; replace e : some _ = _ := e; subst e; try dsimp only [callAt, callAtG, List.drop, List.take]; refine Wo.call ?_)
      | (refine W.regionC (Wo.next ?_); generalize e : evalOps _ _ _ _ _ = r; simp (disch := omega) [stepR, evalOps, evalOper, evalE, evalP, evalL, evalOpnd, nth, setNth, COp.cls, COp.isStore, CVal.isUndef, CVal.whole, CVal.cells, CHeap.put, CHeap.get, CHeap.set, wantedC, getEnt, setEnt, partOf, writeBack, evalBin, evalInt, evalStr, blockMost, initVar, descOf, List.take, List.drop, CVal.lenOf, CVal.isStr, CVal.bare, CVal.strip, CVal.flat, endsC, resultsC, oneOrTuple, finishC, cut, fillCells, setCells, szOf, szOf_desc, elems, bytesOf, evalAppend, fillElems, mkElem, List.replicate, sy_nbeq, sy_neqF, sy_leT, sy_leF, sy_setEnt_setEnt, dropped, sy_wrap64, dropEnts, dropCells, sizeMost, callAt, callAtG, sy_ibeqF, sy_ieqF, sy_ileT, sy_ileF, sy_iltT, sy_iltF, sy_ltT, sy_ltF, evalSlc, optBound, eqVal, c3, noHeap, Int.tmod_eq_emod_of_nonneg, hmt, hnb, dropCells] at e; replace e : some _ = _ := e; subst e; try dsimp only [callAt, callAtG, List.drop, List.take]; refine Wo.call ?_)
      | (refine Wo.rest ?_; generalize e : evalOps _ _ _ _ _ = r; simp (disch := omega) [stepR, evalOps, evalOper, evalE, evalP, evalL, evalOpnd, nth, setNth, COp.cls, COp.isStore, CVal.isUndef, CVal.whole, CVal.cells, CHeap.put, CHeap.get, CHeap.set, wantedC, getEnt, setEnt, partOf, writeBack, evalBin, evalInt, evalStr, blockMost, initVar, descOf, List.take, List.drop, CVal.lenOf, CVal.isStr, CVal.bare, CVal.strip, CVal.flat, endsC, resultsC, oneOrTuple, finishC, cut, fillCells, setCells, szOf, szOf_desc, elems, bytesOf, evalAppend, fillElems, mkElem, List.replicate, sy_nbeq, sy_neqF, sy_leT, sy_leF, sy_setEnt_setEnt, dropped, sy_wrap64, dropEnts, dropCells, sizeMost, callAt, callAtG, sy_ibeqF, sy_ieqF, sy_ileT, sy_ileF, sy_iltT, sy_iltF, sy_ltT, sy_ltF, evalSlc, optBound, eqVal, c3, noHeap, Int.tmod_eq_emod_of_nonneg, hmt, hnb, dropCells] at e; replace e : some _ = _ := e; subst e; try dsimp only [callAt, callAtG, List.drop, List.take])
      | (refine Wo.next ?_; generalize e : evalOps _ _ _ _ _ = r; simp (disch := omega) [stepR, evalOps, evalOper, evalE, evalP, evalL, evalOpnd, nth, setNth, COp.cls, COp.isStore, CVal.isUndef, CVal.whole, CVal.cells, CHeap.put, CHeap.get, CHeap.set, wantedC, getEnt, setEnt, partOf, writeBack, evalBin, evalInt, evalStr, blockMost, initVar, descOf, List.take, List.drop, CVal.lenOf, CVal.isStr, CVal.bare, CVal.strip, CVal.flat, endsC, resultsC, oneOrTuple, finishC, cut, fillCells, setCells, szOf, szOf_desc, elems, bytesOf, evalAppend, fillElems, mkElem, List.replicate, sy_nbeq, sy_neqF, sy_leT, sy_leF, sy_setEnt_setEnt, dropped, sy_wrap64, dropEnts, dropCells, sizeMost, callAt, callAtG, sy_ibeqF, sy_ieqF, sy_ileT, sy_ileF, sy_iltT, sy_iltF, sy_ltT, sy_ltF, evalSlc, optBound, eqVal, c3, noHeap, Int.tmod_eq_emod_of_nonneg, hmt, hnb, dropCells] at e; replace e : some _ = _ := e; subst e; try dsimp only [callAt, callAtG, List.drop, List.take]; refine Wo.call ?_))
    refine wc_true (m := 1000000) (by kernel_rfl) fun n1 ty hn1 => ⟨rfl, ?_⟩
    repeat (first
      | refine W.seq ?_
      | refine W.block ?_
      | (refine W.reg ?_; generalize e : stepR _ _ _ = r; simp (disch := omega) [stepR, evalOps, evalOper, evalE, evalP, evalL, evalOpnd, nth, setNth, COp.cls, COp.isStore, CVal.isUndef, CVal.whole, CVal.cells, CHeap.put, CHeap.get, CHeap.set, wantedC, getEnt, setEnt, partOf, writeBack, evalBin, evalInt, evalStr, blockMost, initVar, descOf, List.take, List.drop, CVal.lenOf, CVal.isStr, CVal.bare, CVal.strip, CVal.flat, endsC, resultsC, oneOrTuple, finishC, cut, fillCells, setCells, szOf, szOf_desc, elems, bytesOf, evalAppend, fillElems, mkElem, List.replicate, sy_nbeq, sy_neqF, sy_leT, sy_leF, sy_setEnt_setEnt, dropped, sy_wrap64, dropEnts, dropCells, sizeMost, callAt, callAtG, sy_ibeqF, sy_ieqF, sy_ileT, sy_ileF, sy_iltT, sy_iltF, sy_ltT, sy_ltF, evalSlc, optBound, eqVal, noHeap, Int.tmod_eq_emod_of_nonneg, hmt, hnb, dropCells] at e; replace e : some _ = _ := e; subst e; try dsimp only [callAt, callAtG, List.drop, List.take])
      | refine W.cond_true rfl ?_
      | refine W.cond_false rfl ?_
      | refine W.skip ?_
      | refine W.exit ?_
      | (refine W.region (Wo.next ?_); generalize e : evalOps _ _ _ _ _ = r; simp (disch := omega) [stepR, evalOps, evalOper, evalE, evalP, evalL, evalOpnd, nth, setNth, COp.cls, COp.isStore, CVal.isUndef, CVal.whole, CVal.cells, CHeap.put, CHeap.get, CHeap.set, wantedC, getEnt, setEnt, partOf, writeBack, evalBin, evalInt, evalStr, blockMost, initVar, descOf, List.take, List.drop, CVal.lenOf, CVal.isStr, CVal.bare, CVal.strip, CVal.flat, endsC, resultsC, oneOrTuple, finishC, cut, fillCells, setCells, szOf, szOf_desc, elems, bytesOf, evalAppend, fillElems, mkElem, List.replicate, sy_nbeq, sy_neqF, sy_leT, sy_leF, sy_setEnt_setEnt, dropped, sy_wrap64, dropEnts, dropCells, sizeMost, callAt, callAtG, sy_ibeqF, sy_ieqF, sy_ileT, sy_ileF, sy_iltT, sy_iltF, sy_ltT, sy_ltF, evalSlc, optBound, eqVal, noHeap, Int.tmod_eq_emod_of_nonneg, hmt, hnb, dropCells] at e; replace e : some _ = _ := e; subst e; try dsimp only [callAt, callAtG, List.drop, List.take]; refine Wo.call ?_)
      | (refine W.regionC (Wo.next ?_); generalize e : evalOps _ _ _ _ _ = r; simp (disch := omega) [stepR, evalOps, evalOper, evalE, evalP, evalL, evalOpnd, nth, setNth, COp.cls, COp.isStore, CVal.isUndef, CVal.whole, CVal.cells, CHeap.put, CHeap.get, CHeap.set, wantedC, getEnt, setEnt, partOf, writeBack, evalBin, evalInt, evalStr, blockMost, initVar, descOf, List.take, List.drop, CVal.lenOf, CVal.isStr, CVal.bare, CVal.strip, CVal.flat, endsC, resultsC, oneOrTuple, finishC, cut, fillCells, setCells, szOf, szOf_desc, elems, bytesOf, evalAppend, fillElems, mkElem, List.replicate, sy_nbeq, sy_neqF, sy_leT, sy_leF, sy_setEnt_setEnt, dropped, sy_wrap64, dropEnts, dropCells, sizeMost, callAt, callAtG, sy_ibeqF, sy_ieqF, sy_ileT, sy_ileF, sy_iltT, sy_iltF, sy_ltT, sy_ltF, evalSlc, optBound, eqVal, noHeap, Int.tmod_eq_emod_of_nonneg, hmt, hnb, dropCells] at e; replace e : some _ = _ := e; subst e; try dsimp only [callAt, callAtG, List.drop, List.take]; refine Wo.call ?_)
      | (refine Wo.rest ?_; generalize e : evalOps _ _ _ _ _ = r; simp (disch := omega) [stepR, evalOps, evalOper, evalE, evalP, evalL, evalOpnd, nth, setNth, COp.cls, COp.isStore, CVal.isUndef, CVal.whole, CVal.cells, CHeap.put, CHeap.get, CHeap.set, wantedC, getEnt, setEnt, partOf, writeBack, evalBin, evalInt, evalStr, blockMost, initVar, descOf, List.take, List.drop, CVal.lenOf, CVal.isStr, CVal.bare, CVal.strip, CVal.flat, endsC, resultsC, oneOrTuple, finishC, cut, fillCells, setCells, szOf, szOf_desc, elems, bytesOf, evalAppend, fillElems, mkElem, List.replicate, sy_nbeq, sy_neqF, sy_leT, sy_leF, sy_setEnt_setEnt, dropped, sy_wrap64, dropEnts, dropCells, sizeMost, callAt, callAtG, sy_ibeqF, sy_ieqF, sy_ileT, sy_ileF, sy_iltT, sy_iltF, sy_ltT, sy_ltF, evalSlc, optBound, eqVal, noHeap, Int.tmod_eq_emod_of_nonneg, hmt, hnb, dropCells] at e; replace e : some _ = _ := e; subst e; try dsimp only [callAt, callAtG, List.drop, List.take])
      | (refine Wo.next ?_; generalize e : evalOps _ _ _ _ _ = r; simp (disch := omega) [stepR, evalOps, evalOper, evalE, evalP, evalL, evalOpnd, nth, setNth, COp.cls, COp.isStore, CVal.isUndef, CVal.whole, CVal.cells, CHeap.put, CHeap.get, CHeap.set, wantedC, getEnt, setEnt, partOf, writeBack, evalBin, evalInt, evalStr, blockMost, initVar, descOf, List.take, List.drop, CVal.lenOf, CVal.isStr, CVal.bare, CVal.strip, CVal.flat, endsC, resultsC, oneOrTuple, finishC, cut, fillCells, setCells, szOf, szOf_desc, elems, bytesOf, evalAppend, fillElems, mkElem, List.replicate, sy_nbeq, sy_neqF, sy_leT, sy_leF, sy_setEnt_setEnt, dropped, sy_wrap64, dropEnts, dropCells, sizeMost, callAt, callAtG, sy_ibeqF, sy_ieqF, sy_ileT, sy_ileF, sy_iltT, sy_iltF, sy_ltT, sy_ltF, evalSlc, optBound, eqVal, noHeap, Int.tmod_eq_emod_of_nonneg, hmt, hnb, dropCells] at e; replace e : some _ = _ := e; subst e; try dsimp only [callAt, callAtG, List.drop, List.take]; refine Wo.call ?_)
      | (refine P _ (by repeat (first | exact Under.nil | refine Under.cons (by (try dsimp only); omega) ?_)) _ fun n2 hn2 => ⟨rfl, ?_⟩; try dsimp only at hn2)
      | (refine T0 _ (by repeat (first | exact Under.nil | refine Under.cons (by (try dsimp only); omega) ?_)) _ fun n3 hn3 => ⟨rfl, ?_⟩; try dsimp only at hn3)
      | (refine hTB _ (by repeat (first | exact Under.nil | refine Under.cons (by (try dsimp only); omega) ?_)) _ fun n4 hn4 => ⟨rfl, ?_⟩; try dsimp only at hn4))
    refine W.ret ?_
    try simp only [outOf, thenW_ret]
    refine endW.intro rfl ?_
    generalize e : endsC _ _ _ = r
    simp (disch := omega) [stepR, evalOps, evalOper, evalE, evalP, evalL, evalOpnd, nth, setNth, COp.cls, COp.isStore, CVal.isUndef, CVal.whole, CVal.cells, CHeap.put, CHeap.get, CHeap.set, wantedC, getEnt, setEnt, partOf, writeBack, evalBin, evalInt, evalStr, blockMost, initVar, descOf, List.take, List.drop, CVal.lenOf, CVal.isStr, CVal.bare, CVal.strip, CVal.flat, endsC, resultsC, oneOrTuple, finishC, cut, fillCells, setCells, szOf, szOf_desc, elems, bytesOf, evalAppend, fillElems, mkElem, List.replicate, sy_nbeq, sy_neqF, sy_leT, sy_leF, sy_setEnt_setEnt, dropped, sy_wrap64, dropEnts, dropCells, sizeMost, c3, noHeap, Int.tmod_eq_emod_of_nonneg, hmt, hnb, dropCells] at e
    subst e
    try dsimp only
    all_goals rfl

theorem okDigs (x : Nat) : ∀ c ∈ digs 10 x (by omega), okDig 10 c := digs_ok 10 (by omega) (by omega) x
theorem first_mem {x : Nat} {c : UInt8} {r : List UInt8} (h : digs 10 x (by omega) = c :: r) : c ∈ FIRST := List.mem_cons_of_mem _ (List.mem_cons_of_mem _ (dig10 (okDigs x c (by rw [h]; simp))))
theorem digs_good (x : Nat) : ∀ c2 r2, digs 10 x (by omega) ≠ 48 :: c2 :: r2 := by
  intro c2 r2 e
  rcases Nat.eq_zero_or_pos x with rfl | h
  · rw [digs_small (by omega)] at e; cases e
  · exact digs_head 10 (by omega) (by omega) x h _ e
theorem sufs_split {b : List UInt8} (hb : b ∈ sufs) : ∃ sp c2 r2, b = sp ++ c2 :: r2 ∧ sp.length ≤ 2 ∧ r2.length ≤ 2 ∧ (∀ c ∈ sp, inSet (marks marks0 spacesB) c true) ∧ inSet (marks marks0 spacesB) c2 false ∧ (∀ c r, b = c :: r → inSet (marks marks0 D10) c false) := by
  have o1 : ∀ c ∈ ([46, 101, 69, 97, 45, 49] : List UInt8), inSet (marks marks0 spacesB) c false := fun c hc => inSet_all (l := [46, 101, 69, 97, 45, 49]) (by kernel_rfl) hc
  have o2 : ∀ c ∈ ([46, 101, 69, 97, 45, 32] : List UInt8), inSet (marks marks0 D10) c false := fun c hc => inSet_all (l := [46, 101, 69, 97, 45, 32]) (by kernel_rfl) hc
  have o3 : inSet (marks marks0 spacesB) 32 true := inSet_all (l := [32]) (by kernel_rfl) (by simp)
  simp only [sufs, List.mem_cons, List.not_mem_nil, or_false] at hb
  rcases hb with rfl | rfl | rfl | rfl | rfl | rfl
  · exact ⟨[], 46, [48], rfl, by simp, by simp, by simp, o1 _ (by simp), fun c r e => by cases e; exact o2 _ (by simp)⟩
  · exact ⟨[], 101, [49], rfl, by simp, by simp, by simp, o1 _ (by simp), fun c r e => by cases e; exact o2 _ (by simp)⟩
  · exact ⟨[], 69, [53], rfl, by simp, by simp, by simp, o1 _ (by simp), fun c r e => by cases e; exact o2 _ (by simp)⟩
  · exact ⟨[], 97, [], rfl, by simp, by simp, by simp, o1 _ (by simp), fun c r e => by cases e; exact o2 _ (by simp)⟩
  · exact ⟨[], 45, [], rfl, by simp, by simp, by simp, o1 _ (by simp), fun c r e => by cases e; exact o2 _ (by simp)⟩
  · exact ⟨[32], 49, [], rfl, by simp, by simp, fun c hc => by simp at hc; subst hc; exact o3, o1 _ (by simp), fun c r e => by cases e; exact o2 _ (by simp)⟩
/-- From a number's text to Parse, whatever stands behind. -/
theorem parses (t : List UInt8) (c : UInt8) (r : List UInt8) (v : Int) (htc : t = c :: r) (hc : c ∈ FIRST) (htl : t.length ≤ 200) (N : ∀ rest : List UInt8, rest.length < 1000 → (∀ c r, rest = c :: r → inSet (marks marks0 D10) c false) → NumAt 30 (t ++ rest) rest 0 v []) :
    ParsesTo t (.tup [jint v, .int .i64 0]) ∧ ∀ b ∈ sufs, ParsesTo (t ++ b) badJ := by
  constructor
  · intro h hu K hk
    have N0 := N [] (by simp) (fun c r e => by cases e)
    rw [List.append_nil] at N0
    exact parse_ok t v (by omega) (tree_num t r [] c 0 v htc hc (by omega) N0) h hu K hk
  · intro b hb h hu K hk
    obtain ⟨sp, c2, r2, e, h1, h2, h3, h4, h5⟩ := sufs_split hb
    have hbl : b.length ≤ 2 := by
      have : ∀ b ∈ sufs, b.length ≤ 2 := by decide
      exact this b hb
    have N0 := tree_num (t ++ b) (r ++ b) b c 0 v (by rw [htc]; rfl) hc (by simp; omega) (N b (by omega) h5)
    rw [e] at N0
    have hl : (t ++ (sp ++ c2 :: r2)).length ≤ 10000 := by rw [← e]; simp; omega
    rw [e]
    exact parse_more _ sp r2 v hl c2 (by omega) h3 h4 N0 h hu K hk

theorem law (v : Int) (h1 : -9223372036854775808 ≤ v) (h2 : v < 9223372036854775808) (zeros more : Nat) (hm : more < 256) (hz : zeros < 256) : Wc tree.getF 3 [.int .i64 v, .int .u8 zeros, .int .u8 more] noHeap fun v _ => v = .bool true := by
  rcases Int.lt_or_le v 0 with hv | hv
  · obtain ⟨x, hx⟩ : ∃ x : Nat, (x : Int) = -v := ⟨(-v).toNat, by omega⟩
    have hl := digs_len64 10 x (by omega) (by omega)
    obtain ⟨T0, TB⟩ := parses (45 :: digs 10 x (by omega)) 45 _ v rfl (by simp) (by simp; omega) fun rest hr ho => by
      intro p d h hg hu hp K hk
      refine number_neg p d (digs 10 x (by omega)) rest v (by omega) (digs_ne _ _ _) (okDigs x) ho (digs_good x) ?_ h hg hu hp K hk
      intro h hu K hk
      exact pint0_neg _ (digs_ne _ _ _) (by omega) (okDigs x) x v (by rw [digs_val 10 (by omega) (by omega)]) (by omega) (by omega) h hu K hk
    refine law_of v (45 :: digs 10 x (by omega)) zeros more hm hz (by simp; omega) ?_ T0 TB (fun h => absurd h (by omega))
    intro h hu K hk
    exact print_spec v _ (fun h hu K hk => tens_neg v x (by omega) (by omega) (by omega) h hu K hk) h hu K hk
  · obtain ⟨x, rfl⟩ := Int.eq_ofNat_of_zero_le hv
    have hl := digs_len64 10 x (by omega) (by omega)
    cases hcd : digs 10 x (by omega) with
    | nil => exact absurd hcd (digs_ne _ _ _)
    | cons c r =>
      have hval := digs_val 10 (by omega) (by omega) x
      obtain ⟨T0, TB⟩ := parses (digs 10 x (by omega)) c r x hcd (first_mem hcd) (by omega) fun rest hr ho => by
        intro p d h hg hu hp K hk
        refine number_pos p d (digs 10 x (by omega)) rest x (by omega) (digs_ne _ _ _) (okDigs x) ho (digs_good x) ?_ h hg hu hp K hk
        intro h hu K hk
        refine pint0_pos _ r c hcd (by omega) (okDigs x) (by rw [hval]; omega) h hu K ?_
        rw [hval]; exact hk
      refine law_of x (digs 10 x (by omega)) zeros more hm hz (by omega) ?_ T0 TB ?_
      · intro h hu K hk
        exact print_spec x _ (fun h hu K hk => tens_pos x (by omega) h hu K hk) h hu K hk
      · intro hx0
        have hxp : 0 < x := by omega
        have ok48 : okDig 10 48 := ⟨.inl ⟨by decide, by decide⟩, by decide⟩
        have hds : ∀ c ∈ 48 :: digs 10 x (by omega), okDig 10 c := fun c hc => by
          rcases List.mem_cons.1 hc with rfl | hc
          · exact ok48
          · exact okDigs x c hc
        constructor
        · intro h hu K hk
          refine parse_err (48 :: digs 10 x (by omega)) [] x (by simp; omega) (by simp) (fun c r e => by cases e) ?_ h hu K hk
          refine tree_num _ (digs 10 x (by omega)) [] 48 2 x rfl (by simp) (by simp; omega) ?_
          intro p d h hg hu hp K hk
          refine number_bad p d (48 :: digs 10 x (by omega)) [] x (by simp; omega) (by simp) hds (fun c r e => by cases e) ⟨c, r, by rw [hcd]⟩ ?_ h (by rw [List.append_nil]; exact hg) hu hp K hk
          intro h hu K hk
          have hv2 : val 10 0 (48 :: digs 10 x (by omega)) = x := hval
          refine pint0_pos _ (digs 10 x (by omega)) 48 rfl (by simp; omega) hds (by rw [hv2]; omega) h hu K ?_
          rw [hv2]; exact hk
        · intro h hu K hk
          have o43 : inSet (marks marks0 spacesB) 43 false := first_out (by simp)
          refine parse_err (43 :: digs 10 x (by omega)) (43 :: digs 10 x (by omega)) 0 (by simp; omega) (by simp; omega) (fun c r e => by cases e; exact o43) ?_ h hu K hk
          exact tree_num _ (digs 10 x (by omega)) _ 43 2 0 rfl (by simp) (by simp; omega) (number_none _ (by omega))
end Go.Proofs.YtehdeihlahjglaaGreatDoor.IrJ
