/- What the functions of the law 'AdecMost' do: an item of a list. -/
import Derived.Test.YtcehpodknbjimaaMostW
namespace Go.Proofs.Ytcehpodknbjimaa.Ir
open Go Go.CI
set_option maxRecDepth 100000
set_option linter.unusedVariables false
set_option linter.unusedSimpArgs false

theorem getEnt_setEnt_ne {l : List (Nat × CObj)} {m n : Nat} {x : CObj} (h : n ≠ m) : getEnt (setEnt l m x) n = getEnt l n := by
  induction l with
  | nil => rfl
  | cons a r ih =>
    obtain ⟨i, o⟩ := a
    by_cases hi : i = m
    · subst hi
      have : (i == n) = false := by simp; omega
      simp [setEnt, getEnt, Ne.symm h]
    · by_cases hn : i = n
      · subst hn; simp [setEnt, getEnt, hi]
      · simp [setEnt, getEnt, hi, hn, ih]
abbrev vobj (L : CVal) : CObj := .cells [.int .u64 0, .str [], L, .nils, .int .i64 0]

theorem item_first (p d q d2 : Nat) (b : List UInt8) (a n deep : Int) (h : CHeap) (hg : getEnt h.ents p = some (dec TS b a n deep 0)) (hq : getEnt h.ents q = some (vobj .nils)) (hu : Under h.ents h.next) (hp : p < h.next) (hpq : q ≠ p) (hqn : q < h.next) (hn0 : 0 ≤ n) (hn : n ≤ 2000) (hd : 0 ≤ deep) (hd2 : deep < 20) (K : CVal → CHeap → Prop)
    (hok : n + 1 ≤ 2000 → ∀ n' r m cs, h.next ≤ m → m < r → r < n' → K (.tup []) { h with ents := (r, .row 0 [.agg zV]) :: (m, .cells cs) :: setEnt (setEnt h.ents p (dec TS b a (n + 1) deep 0)) q (vobj (.ref r 0 5 0 1)), next := n' })
    (hno : 2000 < n + 1 → ∀ n' r m cs, h.next ≤ m → m < r → r < n' → K (.tup []) { h with ents := (r, .row 0 [.agg zV]) :: (m, .cells cs) :: setEnt (setEnt h.ents p (dec TS b a (n + 1) deep 3)) q (vobj (.ref r 0 5 0 1)), next := n' }) : Wc tree.getF 25 [.ptr p d 0, tyA 12 1 [] .nils .nils, .ptr q d2 0] h K := by
  have hG : ∀ x, getEnt (setEnt h.ents p x) p = some x := fun x => sy_getEnt_setEnt hg
  have hN : ∀ q, h.next ≤ q → getEnt h.ents q = none := fun q hq => getEnt_under hu hq
  have hQ : ∀ x, getEnt (setEnt h.ents p x) q = some (vobj .nils) := fun x => (getEnt_setEnt_ne hpq).trans hq
  have hpn : ¬ h.next = p := by omega
  have hqm : ¬ h.next = q := by omega
  refine Wc.mk' (fn := c25) (by kernel_rfl) rfl ?_
  repeat (first
    | refine W.seq ?_
    | refine W.block ?_
    | (refine W.reg ?_; generalize e : stepR _ _ _ = r; simp (disch := omega) [stepR, evalOps, evalOper, evalE, evalP, evalL, evalOpnd, nth, setNth, COp.cls, COp.isStore, CVal.isUndef, CVal.whole, CVal.cells, CHeap.put, CHeap.get, CHeap.set, wantedC, getEnt, setEnt, partOf, writeBack, evalBin, evalInt, evalStr, blockMost, initVar, descOf, List.take, List.drop, CVal.lenOf, CVal.isStr, CVal.bare, CVal.strip, CVal.flat, endsC, resultsC, oneOrTuple, finishC, cut, fillCells, setCells, szOf, szOf_desc, elems, bytesOf, evalAppend, fillElems, mkElem, List.replicate, sy_nbeq, sy_neqF, sy_leT, sy_leF, sy_setEnt_setEnt, dropped, sy_wrap64, dropEnts, dropCells, sizeMost, callAt, c25, hg, hq, hG, hQ, hN, dec, CHeap.note] at e; replace e : some _ = _ := e; subst e; try dsimp only [callAt, List.drop, List.take])
    | refine W.cond_true rfl ?_
    | refine W.cond_false rfl ?_
    | refine W.skip ?_
    | refine W.exit ?_
    | (refine W.region (Wo.next ?_); generalize e : evalOps _ _ _ _ _ = r; simp (disch := omega) [stepR, evalOps, evalOper, evalE, evalP, evalL, evalOpnd, nth, setNth, COp.cls, COp.isStore, CVal.isUndef, CVal.whole, CVal.cells, CHeap.put, CHeap.get, CHeap.set, wantedC, getEnt, setEnt, partOf, writeBack, evalBin, evalInt, evalStr, blockMost, initVar, descOf, List.take, List.drop, CVal.lenOf, CVal.isStr, CVal.bare, CVal.strip, CVal.flat, endsC, resultsC, oneOrTuple, finishC, cut, fillCells, setCells, szOf, szOf_desc, elems, bytesOf, evalAppend, fillElems, mkElem, List.replicate, sy_nbeq, sy_neqF, sy_leT, sy_leF, sy_setEnt_setEnt, dropped, sy_wrap64, dropEnts, dropCells, sizeMost, callAt, c25, hg, hq, hG, hQ, hN, dec, CHeap.note] at e; replace e : some _ = _ := e; subst e; try dsimp only [callAt, List.drop, List.take]; refine Wo.call ?_)
    | (refine W.regionC (Wo.next ?_); generalize e : evalOps _ _ _ _ _ = r; simp (disch := omega) [stepR, evalOps, evalOper, evalE, evalP, evalL, evalOpnd, nth, setNth, COp.cls, COp.isStore, CVal.isUndef, CVal.whole, CVal.cells, CHeap.put, CHeap.get, CHeap.set, wantedC, getEnt, setEnt, partOf, writeBack, evalBin, evalInt, evalStr, blockMost, initVar, descOf, List.take, List.drop, CVal.lenOf, CVal.isStr, CVal.bare, CVal.strip, CVal.flat, endsC, resultsC, oneOrTuple, finishC, cut, fillCells, setCells, szOf, szOf_desc, elems, bytesOf, evalAppend, fillElems, mkElem, List.replicate, sy_nbeq, sy_neqF, sy_leT, sy_leF, sy_setEnt_setEnt, dropped, sy_wrap64, dropEnts, dropCells, sizeMost, callAt, c25, hg, hq, hG, hQ, hN, dec, CHeap.note] at e; replace e : some _ = _ := e; subst e; try dsimp only [callAt, List.drop, List.take]; refine Wo.call ?_)
    | (refine Wo.rest ?_; generalize e : evalOps _ _ _ _ _ = r; simp (disch := omega) [stepR, evalOps, evalOper, evalE, evalP, evalL, evalOpnd, nth, setNth, COp.cls, COp.isStore, CVal.isUndef, CVal.whole, CVal.cells, CHeap.put, CHeap.get, CHeap.set, wantedC, getEnt, setEnt, partOf, writeBack, evalBin, evalInt, evalStr, blockMost, initVar, descOf, List.take, List.drop, CVal.lenOf, CVal.isStr, CVal.bare, CVal.strip, CVal.flat, endsC, resultsC, oneOrTuple, finishC, cut, fillCells, setCells, szOf, szOf_desc, elems, bytesOf, evalAppend, fillElems, mkElem, List.replicate, sy_nbeq, sy_neqF, sy_leT, sy_leF, sy_setEnt_setEnt, dropped, sy_wrap64, dropEnts, dropCells, sizeMost, callAt, c25, hg, hq, hG, hQ, hN, dec, CHeap.note] at e; replace e : some _ = _ := e; subst e; try dsimp only [callAt, List.drop, List.take])
    | (refine Wo.next ?_; generalize e : evalOps _ _ _ _ _ = r; simp (disch := omega) [stepR, evalOps, evalOper, evalE, evalP, evalL, evalOpnd, nth, setNth, COp.cls, COp.isStore, CVal.isUndef, CVal.whole, CVal.cells, CHeap.put, CHeap.get, CHeap.set, wantedC, getEnt, setEnt, partOf, writeBack, evalBin, evalInt, evalStr, blockMost, initVar, descOf, List.take, List.drop, CVal.lenOf, CVal.isStr, CVal.bare, CVal.strip, CVal.flat, endsC, resultsC, oneOrTuple, finishC, cut, fillCells, setCells, szOf, szOf_desc, elems, bytesOf, evalAppend, fillElems, mkElem, List.replicate, sy_nbeq, sy_neqF, sy_leT, sy_leF, sy_setEnt_setEnt, dropped, sy_wrap64, dropEnts, dropCells, sizeMost, callAt, c25, hg, hq, hG, hQ, hN, dec, CHeap.note] at e; replace e : some _ = _ := e; subst e; try dsimp only [callAt, List.drop, List.take]; refine Wo.call ?_))
  refine value_null p d b a n deep _ (by simp (disch := omega) [getEnt, setEnt, sy_nbeq, sy_neqF, sy_setEnt_setEnt, hg, hG, dec]) (by repeat (first | exact hu.le (by (try dsimp only); omega) | exact hu.set.le (by (try dsimp only); omega) | refine Under.cons (by (try dsimp only); omega) ?_ | exact Under.nil)) (by dsimp only; omega) hn0 hn hd hd2 _ (fun hc n1 hn1 => ⟨rfl, ?_⟩) (fun hc n1 hn1 => ⟨rfl, ?_⟩)
  · try dsimp only at hn1
    refine Wo.rest ?_
    generalize e : evalOps _ _ _ _ _ = r
    simp (disch := omega) [stepR, evalOps, evalOper, evalE, evalP, evalL, evalOpnd, nth, setNth, COp.cls, COp.isStore, CVal.isUndef, CVal.whole, CVal.cells, CHeap.put, CHeap.get, CHeap.set, wantedC, getEnt, setEnt, partOf, writeBack, evalBin, evalInt, evalStr, blockMost, initVar, descOf, List.take, List.drop, CVal.lenOf, CVal.isStr, CVal.bare, CVal.strip, CVal.flat, endsC, resultsC, oneOrTuple, finishC, cut, fillCells, setCells, szOf, szOf_desc, elems, bytesOf, evalAppend, fillElems, mkElem, List.replicate, sy_nbeq, sy_neqF, sy_leT, sy_leF, sy_setEnt_setEnt, dropped, sy_wrap64, dropEnts, dropCells, sizeMost, c25, hg, hq, hG, hQ, hN, dec, CHeap.note] at e
    subst e
    try dsimp only
    refine ⟨by simp (disch := omega) [stepR, evalOps, evalOper, evalE, evalP, evalL, evalOpnd, nth, setNth, COp.cls, COp.isStore, CVal.isUndef, CVal.whole, CVal.cells, CHeap.put, CHeap.get, CHeap.set, wantedC, getEnt, setEnt, partOf, writeBack, evalBin, evalInt, evalStr, blockMost, initVar, descOf, List.take, List.drop, CVal.lenOf, CVal.isStr, CVal.bare, CVal.strip, CVal.flat, endsC, resultsC, oneOrTuple, finishC, cut, fillCells, setCells, szOf, szOf_desc, elems, bytesOf, evalAppend, fillElems, mkElem, List.replicate, sy_nbeq, sy_neqF, sy_leT, sy_leF, sy_setEnt_setEnt, dropped, sy_wrap64, dropEnts, dropCells, sizeMost, checkOne, swapOne, sameAt, nthOp, CVal.beq, CVal.block, storesTo, c25, hg, hq, hG, hQ, hN, dec, CHeap.note], ?_⟩
    refine ⟨by simp, rfl, ?_⟩
    generalize e : endsC _ _ _ = r
    simp (disch := omega) [stepR, evalOps, evalOper, evalE, evalP, evalL, evalOpnd, nth, setNth, COp.cls, COp.isStore, CVal.isUndef, CVal.whole, CVal.cells, CHeap.put, CHeap.get, CHeap.set, wantedC, getEnt, setEnt, partOf, writeBack, evalBin, evalInt, evalStr, blockMost, initVar, descOf, List.take, List.drop, CVal.lenOf, CVal.isStr, CVal.bare, CVal.strip, CVal.flat, endsC, resultsC, oneOrTuple, finishC, cut, fillCells, setCells, szOf, szOf_desc, elems, bytesOf, evalAppend, fillElems, mkElem, List.replicate, sy_nbeq, sy_neqF, sy_leT, sy_leF, sy_setEnt_setEnt, dropped, sy_wrap64, dropEnts, dropCells, sizeMost, c25, hg, hq, hG, hQ, hN, dec, CHeap.note] at e
    subst e
    try dsimp only
    exact hok (by omega) _ _ _ _ (by omega) (by omega) (by omega)

  · try dsimp only at hn1
    refine Wo.rest ?_
    generalize e : evalOps _ _ _ _ _ = r
    simp (disch := omega) [stepR, evalOps, evalOper, evalE, evalP, evalL, evalOpnd, nth, setNth, COp.cls, COp.isStore, CVal.isUndef, CVal.whole, CVal.cells, CHeap.put, CHeap.get, CHeap.set, wantedC, getEnt, setEnt, partOf, writeBack, evalBin, evalInt, evalStr, blockMost, initVar, descOf, List.take, List.drop, CVal.lenOf, CVal.isStr, CVal.bare, CVal.strip, CVal.flat, endsC, resultsC, oneOrTuple, finishC, cut, fillCells, setCells, szOf, szOf_desc, elems, bytesOf, evalAppend, fillElems, mkElem, List.replicate, sy_nbeq, sy_neqF, sy_leT, sy_leF, sy_setEnt_setEnt, dropped, sy_wrap64, dropEnts, dropCells, sizeMost, c25, hg, hq, hG, hQ, hN, dec, CHeap.note] at e
    subst e
    try dsimp only
    refine ⟨by simp (disch := omega) [stepR, evalOps, evalOper, evalE, evalP, evalL, evalOpnd, nth, setNth, COp.cls, COp.isStore, CVal.isUndef, CVal.whole, CVal.cells, CHeap.put, CHeap.get, CHeap.set, wantedC, getEnt, setEnt, partOf, writeBack, evalBin, evalInt, evalStr, blockMost, initVar, descOf, List.take, List.drop, CVal.lenOf, CVal.isStr, CVal.bare, CVal.strip, CVal.flat, endsC, resultsC, oneOrTuple, finishC, cut, fillCells, setCells, szOf, szOf_desc, elems, bytesOf, evalAppend, fillElems, mkElem, List.replicate, sy_nbeq, sy_neqF, sy_leT, sy_leF, sy_setEnt_setEnt, dropped, sy_wrap64, dropEnts, dropCells, sizeMost, checkOne, swapOne, sameAt, nthOp, CVal.beq, CVal.block, storesTo, c25, hg, hq, hG, hQ, hN, dec, CHeap.note], ?_⟩
    refine ⟨by simp, rfl, ?_⟩
    generalize e : endsC _ _ _ = r
    simp (disch := omega) [stepR, evalOps, evalOper, evalE, evalP, evalL, evalOpnd, nth, setNth, COp.cls, COp.isStore, CVal.isUndef, CVal.whole, CVal.cells, CHeap.put, CHeap.get, CHeap.set, wantedC, getEnt, setEnt, partOf, writeBack, evalBin, evalInt, evalStr, blockMost, initVar, descOf, List.take, List.drop, CVal.lenOf, CVal.isStr, CVal.bare, CVal.strip, CVal.flat, endsC, resultsC, oneOrTuple, finishC, cut, fillCells, setCells, szOf, szOf_desc, elems, bytesOf, evalAppend, fillElems, mkElem, List.replicate, sy_nbeq, sy_neqF, sy_leT, sy_leF, sy_setEnt_setEnt, dropped, sy_wrap64, dropEnts, dropCells, sizeMost, c25, hg, hq, hG, hQ, hN, dec, CHeap.note] at e
    subst e
    try dsimp only
    exact hno (by omega) _ _ _ _ (by omega) (by omega) (by omega)


theorem item_more (p d q d2 r v j : Nat) (b : List UInt8) (a n deep : Int) (h : CHeap) (hg : getEnt h.ents p = some (dec TS b a n deep 0)) (hq : getEnt h.ents q = some (vobj (.ref r v 5 0 j))) (hr : getEnt h.ents r = some (.row v (List.replicate j (.agg zV)))) (hty : h.tys = []) (hj : j ≤ 3000) (hu : Under h.ents h.next) (hp : p < h.next) (hpq : q ≠ p) (hpr : r ≠ p) (hqr : r ≠ q) (hqn : q < h.next) (hrn : r < h.next) (hn0 : 0 ≤ n) (hn : n ≤ 2000) (hd : 0 ≤ deep) (hd2 : deep < 20) (K : CVal → CHeap → Prop)
    (hok : n + 1 ≤ 2000 → ∀ n' m cs, h.next ≤ m → m < n' → K (.tup []) { h with ents := (m, .cells cs) :: setEnt (setEnt (setEnt h.ents p (dec TS b a (n + 1) deep 0)) r (.row (v + 1) (List.replicate (j + 1) (.agg zV)))) q (vobj (.ref r (v + 1) 5 0 (j + 1))), next := n' })
    (hno : 2000 < n + 1 → ∀ n' m cs, h.next ≤ m → m < n' → K (.tup []) { h with ents := (m, .cells cs) :: setEnt (setEnt (setEnt h.ents p (dec TS b a (n + 1) deep 3)) r (.row (v + 1) (List.replicate (j + 1) (.agg zV)))) q (vobj (.ref r (v + 1) 5 0 (j + 1))), next := n' }) : Wc tree.getF 25 [.ptr p d 0, tyA 12 1 [] .nils .nils, .ptr q d2 0] h K := by
  have hG : ∀ x, getEnt (setEnt h.ents p x) p = some x := fun x => sy_getEnt_setEnt hg
  have hN : ∀ q, h.next ≤ q → getEnt h.ents q = none := fun q hq => getEnt_under hu hq
  have hQ : ∀ x, getEnt (setEnt h.ents p x) q = some (vobj (.ref r v 5 0 j)) := fun x => (getEnt_setEnt_ne hpq).trans hq
  have hR : ∀ x, getEnt (setEnt h.ents p x) r = some (.row v (List.replicate j (.agg zV))) := fun x => (getEnt_setEnt_ne hpr).trans hr
  have hR2 : ∀ x y, getEnt (setEnt (setEnt h.ents p x) r y) r = some y := fun x y => sy_getEnt_setEnt (hR x)
  have hQ2 : ∀ x y, getEnt (setEnt (setEnt h.ents p x) r y) q = some (vobj (.ref r v 5 0 j)) := fun x y => (getEnt_setEnt_ne (Ne.symm hqr)).trans (hQ x)
  have hpn : ¬ h.next = p := by omega
  have hqm : ¬ h.next = q := by omega
  have hrm : ¬ h.next = r := by omega
  have hcut : cut 0 (0 + j) (List.replicate j (CVal.agg zV)) = List.replicate j (.agg zV) := by simp [cut]
  have hset : setCells (List.replicate j (CVal.agg zV) ++ [CVal.agg zV]) j [.agg zV] = List.replicate (j + 1) (.agg zV) := by simp [setCells, List.replicate_succ']
  have hnth : nth (List.replicate j (CVal.agg zV) ++ [CVal.agg zV]) j = .agg zV := by
    have : ∀ (l : List CVal) (x : CVal), nth (l ++ [x]) l.length = x := by intro l x; induction l with | nil => rfl | cons a l ih => simpa [nth] using ih
    have h2 := this (List.replicate j (CVal.agg zV)) (.agg zV)
    rw [List.length_replicate] at h2
    exact h2
  have hsn : setNth (List.replicate j (CVal.agg zV) ++ [CVal.agg zV]) j (setElem (.agg zV) 0 zV) = List.replicate (j + 1) (.agg zV) := by
    have : ∀ (l : List CVal) (x y : CVal), setNth (l ++ [x]) l.length y = l ++ [y] := by intro l x y; induction l with | nil => rfl | cons a l ih => simpa [setNth] using ih
    have h2 := this (List.replicate j (CVal.agg zV)) (.agg zV) (setElem (.agg zV) 0 zV)
    rw [List.length_replicate] at h2
    rw [h2, List.replicate_succ']; rfl
  simp only [hty] at hok hno
  have hjj : (j : Int) < (j : Int) + 1 := by omega
  refine Wc.mk' (fn := c25) (by kernel_rfl) rfl ?_
  repeat (first
    | refine W.seq ?_
    | refine W.block ?_
    | (refine W.reg ?_; generalize e : stepR _ _ _ = r; simp (disch := omega) [stepR, evalOps, evalOper, evalE, evalP, evalL, evalOpnd, nth, setNth, COp.cls, COp.isStore, CVal.isUndef, CVal.whole, CVal.cells, CHeap.put, CHeap.get, CHeap.set, wantedC, getEnt, setEnt, partOf, writeBack, evalBin, evalInt, evalStr, blockMost, initVar, descOf, List.take, List.drop, CVal.lenOf, CVal.isStr, CVal.bare, CVal.strip, CVal.flat, endsC, resultsC, oneOrTuple, finishC, cut, fillCells, setCells, szOf, szOf_desc, elems, bytesOf, evalAppend, fillElems, mkElem, List.replicate, sy_nbeq, sy_neqF, sy_leT, sy_leF, sy_setEnt_setEnt, dropped, sy_wrap64, dropEnts, dropCells, sizeMost, callAt, c25, hg, hq, hG, hQ, hN, hr, hR, hR2, hQ2, dec, CHeap.note, CHeap.tyOk, CHeap.ty, lookupN, hty, hcut, hset, hnth, hjj, hsn] at e; replace e : some _ = _ := e; subst e; try dsimp only [callAt, List.drop, List.take])
    | refine W.cond_true rfl ?_
    | refine W.cond_false rfl ?_
    | refine W.skip ?_
    | refine W.exit ?_
    | (refine W.region (Wo.next ?_); generalize e : evalOps _ _ _ _ _ = r; simp (disch := omega) [stepR, evalOps, evalOper, evalE, evalP, evalL, evalOpnd, nth, setNth, COp.cls, COp.isStore, CVal.isUndef, CVal.whole, CVal.cells, CHeap.put, CHeap.get, CHeap.set, wantedC, getEnt, setEnt, partOf, writeBack, evalBin, evalInt, evalStr, blockMost, initVar, descOf, List.take, List.drop, CVal.lenOf, CVal.isStr, CVal.bare, CVal.strip, CVal.flat, endsC, resultsC, oneOrTuple, finishC, cut, fillCells, setCells, szOf, szOf_desc, elems, bytesOf, evalAppend, fillElems, mkElem, List.replicate, sy_nbeq, sy_neqF, sy_leT, sy_leF, sy_setEnt_setEnt, dropped, sy_wrap64, dropEnts, dropCells, sizeMost, callAt, c25, hg, hq, hG, hQ, hN, hr, hR, hR2, hQ2, dec, CHeap.note, CHeap.tyOk, CHeap.ty, lookupN, hty, hcut, hset, hnth, hjj, hsn] at e; replace e : some _ = _ := e; subst e; try dsimp only [callAt, List.drop, List.take]; refine Wo.call ?_)
    | (refine W.regionC (Wo.next ?_); generalize e : evalOps _ _ _ _ _ = r; simp (disch := omega) [stepR, evalOps, evalOper, evalE, evalP, evalL, evalOpnd, nth, setNth, COp.cls, COp.isStore, CVal.isUndef, CVal.whole, CVal.cells, CHeap.put, CHeap.get, CHeap.set, wantedC, getEnt, setEnt, partOf, writeBack, evalBin, evalInt, evalStr, blockMost, initVar, descOf, List.take, List.drop, CVal.lenOf, CVal.isStr, CVal.bare, CVal.strip, CVal.flat, endsC, resultsC, oneOrTuple, finishC, cut, fillCells, setCells, szOf, szOf_desc, elems, bytesOf, evalAppend, fillElems, mkElem, List.replicate, sy_nbeq, sy_neqF, sy_leT, sy_leF, sy_setEnt_setEnt, dropped, sy_wrap64, dropEnts, dropCells, sizeMost, callAt, c25, hg, hq, hG, hQ, hN, hr, hR, hR2, hQ2, dec, CHeap.note, CHeap.tyOk, CHeap.ty, lookupN, hty, hcut, hset, hnth, hjj, hsn] at e; replace e : some _ = _ := e; subst e; try dsimp only [callAt, List.drop, List.take]; refine Wo.call ?_)
    | (refine Wo.rest ?_; generalize e : evalOps _ _ _ _ _ = r; simp (disch := omega) [stepR, evalOps, evalOper, evalE, evalP, evalL, evalOpnd, nth, setNth, COp.cls, COp.isStore, CVal.isUndef, CVal.whole, CVal.cells, CHeap.put, CHeap.get, CHeap.set, wantedC, getEnt, setEnt, partOf, writeBack, evalBin, evalInt, evalStr, blockMost, initVar, descOf, List.take, List.drop, CVal.lenOf, CVal.isStr, CVal.bare, CVal.strip, CVal.flat, endsC, resultsC, oneOrTuple, finishC, cut, fillCells, setCells, szOf, szOf_desc, elems, bytesOf, evalAppend, fillElems, mkElem, List.replicate, sy_nbeq, sy_neqF, sy_leT, sy_leF, sy_setEnt_setEnt, dropped, sy_wrap64, dropEnts, dropCells, sizeMost, callAt, c25, hg, hq, hG, hQ, hN, hr, hR, hR2, hQ2, dec, CHeap.note, CHeap.tyOk, CHeap.ty, lookupN, hty, hcut, hset, hnth, hjj, hsn] at e; replace e : some _ = _ := e; subst e; try dsimp only [callAt, List.drop, List.take])
    | (refine Wo.next ?_; generalize e : evalOps _ _ _ _ _ = r; simp (disch := omega) [stepR, evalOps, evalOper, evalE, evalP, evalL, evalOpnd, nth, setNth, COp.cls, COp.isStore, CVal.isUndef, CVal.whole, CVal.cells, CHeap.put, CHeap.get, CHeap.set, wantedC, getEnt, setEnt, partOf, writeBack, evalBin, evalInt, evalStr, blockMost, initVar, descOf, List.take, List.drop, CVal.lenOf, CVal.isStr, CVal.bare, CVal.strip, CVal.flat, endsC, resultsC, oneOrTuple, finishC, cut, fillCells, setCells, szOf, szOf_desc, elems, bytesOf, evalAppend, fillElems, mkElem, List.replicate, sy_nbeq, sy_neqF, sy_leT, sy_leF, sy_setEnt_setEnt, dropped, sy_wrap64, dropEnts, dropCells, sizeMost, callAt, c25, hg, hq, hG, hQ, hN, hr, hR, hR2, hQ2, dec, CHeap.note, CHeap.tyOk, CHeap.ty, lookupN, hty, hcut, hset, hnth, hjj, hsn] at e; replace e : some _ = _ := e; subst e; try dsimp only [callAt, List.drop, List.take]; refine Wo.call ?_))
  refine value_null p d b a n deep _ (by simp (disch := omega) [getEnt, setEnt, sy_nbeq, sy_neqF, sy_setEnt_setEnt, hg, hG, dec]) (by repeat (first | exact hu.le (by (try dsimp only); omega) | exact hu.set.le (by (try dsimp only); omega) | refine Under.cons (by (try dsimp only); omega) ?_ | exact Under.nil)) (by dsimp only; omega) hn0 hn hd hd2 _ (fun hc n1 hn1 => ⟨rfl, ?_⟩) (fun hc n1 hn1 => ⟨rfl, ?_⟩)
  · try dsimp only at hn1
    refine Wo.rest ?_
    generalize e : evalOps _ _ _ _ _ = r
    simp (disch := omega) [stepR, evalOps, evalOper, evalE, evalP, evalL, evalOpnd, nth, setNth, COp.cls, COp.isStore, CVal.isUndef, CVal.whole, CVal.cells, CHeap.put, CHeap.get, CHeap.set, wantedC, getEnt, setEnt, partOf, writeBack, evalBin, evalInt, evalStr, blockMost, initVar, descOf, List.take, List.drop, CVal.lenOf, CVal.isStr, CVal.bare, CVal.strip, CVal.flat, endsC, resultsC, oneOrTuple, finishC, cut, fillCells, setCells, szOf, szOf_desc, elems, bytesOf, evalAppend, fillElems, mkElem, List.replicate, sy_nbeq, sy_neqF, sy_leT, sy_leF, sy_setEnt_setEnt, dropped, sy_wrap64, dropEnts, dropCells, sizeMost, c25, hg, hq, hG, hQ, hN, hr, hR, hR2, hQ2, dec, CHeap.note, CHeap.tyOk, CHeap.ty, lookupN, hty, hcut, hset, hnth, hjj, hsn] at e
    subst e
    try dsimp only
    refine ⟨by simp (disch := omega) [stepR, evalOps, evalOper, evalE, evalP, evalL, evalOpnd, nth, setNth, COp.cls, COp.isStore, CVal.isUndef, CVal.whole, CVal.cells, CHeap.put, CHeap.get, CHeap.set, wantedC, getEnt, setEnt, partOf, writeBack, evalBin, evalInt, evalStr, blockMost, initVar, descOf, List.take, List.drop, CVal.lenOf, CVal.isStr, CVal.bare, CVal.strip, CVal.flat, endsC, resultsC, oneOrTuple, finishC, cut, fillCells, setCells, szOf, szOf_desc, elems, bytesOf, evalAppend, fillElems, mkElem, List.replicate, sy_nbeq, sy_neqF, sy_leT, sy_leF, sy_setEnt_setEnt, dropped, sy_wrap64, dropEnts, dropCells, sizeMost, checkOne, swapOne, sameAt, nthOp, CVal.beq, CVal.block, storesTo, c25, hg, hq, hG, hQ, hN, hr, hR, hR2, hQ2, dec, CHeap.note, CHeap.tyOk, CHeap.ty, lookupN, hty, hcut, hset, hnth, hjj, hsn], ?_⟩
    refine ⟨by simp, rfl, ?_⟩
    generalize e : endsC _ _ _ = r
    simp (disch := omega) [stepR, evalOps, evalOper, evalE, evalP, evalL, evalOpnd, nth, setNth, COp.cls, COp.isStore, CVal.isUndef, CVal.whole, CVal.cells, CHeap.put, CHeap.get, CHeap.set, wantedC, getEnt, setEnt, partOf, writeBack, evalBin, evalInt, evalStr, blockMost, initVar, descOf, List.take, List.drop, CVal.lenOf, CVal.isStr, CVal.bare, CVal.strip, CVal.flat, endsC, resultsC, oneOrTuple, finishC, cut, fillCells, setCells, szOf, szOf_desc, elems, bytesOf, evalAppend, fillElems, mkElem, List.replicate, sy_nbeq, sy_neqF, sy_leT, sy_leF, sy_setEnt_setEnt, dropped, sy_wrap64, dropEnts, dropCells, sizeMost, c25, hg, hq, hG, hQ, hN, hr, hR, hR2, hQ2, dec, CHeap.note, CHeap.tyOk, CHeap.ty, lookupN, hty, hcut, hset, hnth, hjj, hsn] at e
    subst e
    try dsimp only
    refine hok (by omega) _ _ _ ?_ ?_ <;> omega

  · try dsimp only at hn1
    refine Wo.rest ?_
    generalize e : evalOps _ _ _ _ _ = r
    simp (disch := omega) [stepR, evalOps, evalOper, evalE, evalP, evalL, evalOpnd, nth, setNth, COp.cls, COp.isStore, CVal.isUndef, CVal.whole, CVal.cells, CHeap.put, CHeap.get, CHeap.set, wantedC, getEnt, setEnt, partOf, writeBack, evalBin, evalInt, evalStr, blockMost, initVar, descOf, List.take, List.drop, CVal.lenOf, CVal.isStr, CVal.bare, CVal.strip, CVal.flat, endsC, resultsC, oneOrTuple, finishC, cut, fillCells, setCells, szOf, szOf_desc, elems, bytesOf, evalAppend, fillElems, mkElem, List.replicate, sy_nbeq, sy_neqF, sy_leT, sy_leF, sy_setEnt_setEnt, dropped, sy_wrap64, dropEnts, dropCells, sizeMost, c25, hg, hq, hG, hQ, hN, hr, hR, hR2, hQ2, dec, CHeap.note, CHeap.tyOk, CHeap.ty, lookupN, hty, hcut, hset, hnth, hjj, hsn] at e
    subst e
    try dsimp only
    refine ⟨by simp (disch := omega) [stepR, evalOps, evalOper, evalE, evalP, evalL, evalOpnd, nth, setNth, COp.cls, COp.isStore, CVal.isUndef, CVal.whole, CVal.cells, CHeap.put, CHeap.get, CHeap.set, wantedC, getEnt, setEnt, partOf, writeBack, evalBin, evalInt, evalStr, blockMost, initVar, descOf, List.take, List.drop, CVal.lenOf, CVal.isStr, CVal.bare, CVal.strip, CVal.flat, endsC, resultsC, oneOrTuple, finishC, cut, fillCells, setCells, szOf, szOf_desc, elems, bytesOf, evalAppend, fillElems, mkElem, List.replicate, sy_nbeq, sy_neqF, sy_leT, sy_leF, sy_setEnt_setEnt, dropped, sy_wrap64, dropEnts, dropCells, sizeMost, checkOne, swapOne, sameAt, nthOp, CVal.beq, CVal.block, storesTo, c25, hg, hq, hG, hQ, hN, hr, hR, hR2, hQ2, dec, CHeap.note, CHeap.tyOk, CHeap.ty, lookupN, hty, hcut, hset, hnth, hjj, hsn], ?_⟩
    refine ⟨by simp, rfl, ?_⟩
    generalize e : endsC _ _ _ = r
    simp (disch := omega) [stepR, evalOps, evalOper, evalE, evalP, evalL, evalOpnd, nth, setNth, COp.cls, COp.isStore, CVal.isUndef, CVal.whole, CVal.cells, CHeap.put, CHeap.get, CHeap.set, wantedC, getEnt, setEnt, partOf, writeBack, evalBin, evalInt, evalStr, blockMost, initVar, descOf, List.take, List.drop, CVal.lenOf, CVal.isStr, CVal.bare, CVal.strip, CVal.flat, endsC, resultsC, oneOrTuple, finishC, cut, fillCells, setCells, szOf, szOf_desc, elems, bytesOf, evalAppend, fillElems, mkElem, List.replicate, sy_nbeq, sy_neqF, sy_leT, sy_leF, sy_setEnt_setEnt, dropped, sy_wrap64, dropEnts, dropCells, sizeMost, c25, hg, hq, hG, hQ, hN, hr, hR, hR2, hQ2, dec, CHeap.note, CHeap.tyOk, CHeap.ty, lookupN, hty, hcut, hset, hnth, hjj, hsn] at e
    subst e
    try dsimp only
    refine hno (by omega) _ _ _ ?_ ?_ <;> omega

end Go.Proofs.Ytcehpodknbjimaa.Ir
