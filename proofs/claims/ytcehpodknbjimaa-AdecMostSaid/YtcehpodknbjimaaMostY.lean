/- What the functions of the law 'AdecMost' do: the loop over a block's items. -/
import Derived.Test.YtcehpodknbjimaaMostX
namespace Go.Proofs.Ytcehpodknbjimaa.Ir
open Go Go.CI
set_option maxRecDepth 100000
set_option linter.unusedVariables false
set_option linter.unusedSimpArgs false
attribute [local irreducible] W Wo Wc

theorem setEnt_comm {l : List (Nat × CObj)} {m n : Nat} {x y : CObj} (h : m ≠ n) : setEnt (setEnt l m x) n y = setEnt (setEnt l n y) m x := by
  induction l with
  | nil => rfl
  | cons a r ih =>
    obtain ⟨i, o⟩ := a
    by_cases hi : i = m
    · subst hi; simp [setEnt, h]
    · by_cases hn : i = n
      · subst hn; simp [setEnt, hi]
      · simp [setEnt, hi, hn, ih]
theorem setEnt_same : ∀ {l : List (Nat × CObj)} {m : Nat} {x : CObj}, getEnt l m = some x → setEnt l m x = l
  | [], _, _, h => by cases h
  | (i, o) :: r, m, x, h => by
    by_cases hi : i = m
    · subst hi; simp [getEnt] at h; subst h; simp [setEnt]
    · simp [getEnt, hi] at h; simp [setEnt, hi, setEnt_same h]
theorem set3 {l : List (Nat × CObj)} {p r q : Nat} {x1 y1 z1 x2 y2 z2 : CObj} (h1 : r ≠ p) (h2 : q ≠ p) (h3 : r ≠ q) :
    setEnt (setEnt (setEnt (setEnt (setEnt (setEnt l p x1) r y1) q z1) p x2) r y2) q z2 = setEnt (setEnt (setEnt l p x2) r y2) q z2 := by
  rw [setEnt_comm (l := setEnt (setEnt l p x1) r y1) h2, setEnt_comm (l := setEnt l p x1) h1, sy_setEnt_setEnt, setEnt_comm (l := setEnt (setEnt l p x2) r y1) (m := q) (n := r) (Ne.symm h3), sy_setEnt_setEnt, sy_setEnt_setEnt]

abbrev tyAc : CObj := .cells [.int .i64 12, .str [], .nils, .int .i64 1, .nils, .bool false, .str [], .int .i64 0, .nils, .nils]
abbrev itemsLoop : CCode := (.loop true (.seq (.seq (.region [⟨.mv (.var 3), none⟩, ⟨.bin .gtr (.loc 0) (.const (.int .i64 0)), none⟩, ⟨.mv (.loc 0), none⟩, ⟨.mv (.var 1), (some (0, true))⟩, ⟨.nilck (.loc 0), (some (1, true))⟩, ⟨.fieldAddr 5 (.loc 0), (some (2, true))⟩, ⟨.load none (.loc 0), (some (3, true))⟩, ⟨.bin .eql (.loc 0) (.const (.int .i64 0)), (some (4, true))⟩, ⟨.pick (.loc 5) (.loc 0) (.const (.bool false)), none⟩] [(9, 8)] [] []) (.cond (.var 9) .skip (.exit 2))) (.seq (.block 3 (.region [⟨.mv (.var 1), none⟩, ⟨.load (some 10) (.var 10), none⟩, ⟨.call false 25 [(.loc 1), (.loc 0), (.var 5)], none⟩] [] [] [])) (.region [⟨.mv (.var 3), none⟩, ⟨.bin .sub (.loc 0) (.const (.int .i64 1)), none⟩, ⟨.mv (.loc 0), none⟩] [(3, 2)] [] []))))
set_option maxHeartbeats 400000 in
theorem items_loop (p d q d2 r kb dk : Nat) (b : List UInt8) (a : Int) (deep : Int) (hd : 0 ≤ deep) (hd2 : deep < 20) (hpq : q ≠ p) (hpr : r ≠ p) (hqr : r ≠ q) (hkp : kb ≠ p) (hkq : kb ≠ q) (hkr : kb ≠ r) (Q : CExit → CSt → Prop) (v0 v2 v4 v6 v7 v8 v9 v11 : CVal) :
  ∀ (m j v : Nat) (h : CHeap), m < 1099511627776 → getEnt h.ents p = some (dec TS b a ((j : Int) + 1) deep 0) → getEnt h.ents q = some (vobj (.ref r v 5 0 j)) → getEnt h.ents r = some (.row v (List.replicate j (.agg zV))) → getEnt h.ents kb = some tyAc → h.tys = [] → j ≤ 1999 → Under h.ents h.next → p < h.next → q < h.next → r < h.next → ∀ v9,
    (m + j + 1 ≤ 2000 → ∀ n' v' w9, h.next ≤ n' → Q (.exit 2) ⟨[v0, .ptr p d 0, v2, .int .i64 0, v4, .ptr q d2 0, v6, v7, v8, w9, .ptr kb dk 0, v11], { h with ents := setEnt (setEnt (setEnt h.ents p (dec TS b a (((m + j : Nat) : Int) + 1) deep 0)) r (.row v' (List.replicate (m + j) (.agg zV)))) q (vobj (.ref r v' 5 0 (m + j))), next := n' }, []⟩) →
    (2000 < m + j + 1 → ∀ n' v' w3 w9 c j', h.next ≤ n' → Q (.exit 2) ⟨[v0, .ptr p d 0, v2, w3, v4, .ptr q d2 0, v6, v7, v8, w9, .ptr kb dk 0, v11], { h with ents := setEnt (setEnt (setEnt h.ents p (dec TS b a c deep 3)) r (.row v' (List.replicate j' (.agg zV)))) q (vobj (.ref r v' 5 0 j')), next := n' }, []⟩) →
    W tree.getF itemsLoop ⟨[v0, .ptr p d 0, v2, .int .i64 m, v4, .ptr q d2 0, v6, v7, v8, v9, .ptr kb dk 0, v11], h, []⟩ Q := by
  intro m
  induction m with
  | zero =>
    intro j v h hmm hg hq hr hk hty hj hu hp hqn hrn v9 hok hno
    refine W.loop ?_
    repeat (first
      | refine W.seq ?_
      | refine W.block ?_
      | (refine W.reg ?_; generalize e : stepR _ _ _ = r; simp (disch := omega) [stepR, evalOps, evalOper, evalE, evalP, evalL, evalOpnd, nth, setNth, COp.cls, COp.isStore, CVal.isUndef, CVal.whole, CVal.cells, CHeap.put, CHeap.get, CHeap.set, wantedC, getEnt, setEnt, partOf, writeBack, evalBin, evalInt, evalStr, blockMost, initVar, descOf, List.take, List.drop, CVal.lenOf, CVal.isStr, CVal.bare, CVal.strip, CVal.flat, endsC, resultsC, oneOrTuple, finishC, cut, fillCells, setCells, szOf, szOf_desc, elems, bytesOf, evalAppend, fillElems, mkElem, List.replicate, sy_nbeq, sy_neqF, sy_leT, sy_leF, sy_setEnt_setEnt, dropped, sy_wrap64, dropEnts, dropCells, sizeMost, callAt, hg, hq, hr, hk, dec] at e; replace e : some _ = _ := e; subst e; try dsimp only [callAt, List.drop, List.take])
      | refine W.cond_true rfl ?_
        | refine W.skip ?_
      | refine W.exit ?_
      | (refine W.region (Wo.next ?_); generalize e : evalOps _ _ _ _ _ = r; simp (disch := omega) [stepR, evalOps, evalOper, evalE, evalP, evalL, evalOpnd, nth, setNth, COp.cls, COp.isStore, CVal.isUndef, CVal.whole, CVal.cells, CHeap.put, CHeap.get, CHeap.set, wantedC, getEnt, setEnt, partOf, writeBack, evalBin, evalInt, evalStr, blockMost, initVar, descOf, List.take, List.drop, CVal.lenOf, CVal.isStr, CVal.bare, CVal.strip, CVal.flat, endsC, resultsC, oneOrTuple, finishC, cut, fillCells, setCells, szOf, szOf_desc, elems, bytesOf, evalAppend, fillElems, mkElem, List.replicate, sy_nbeq, sy_neqF, sy_leT, sy_leF, sy_setEnt_setEnt, dropped, sy_wrap64, dropEnts, dropCells, sizeMost, callAt, hg, hq, hr, hk, dec] at e; replace e : some _ = _ := e; subst e; try dsimp only [callAt, List.drop, List.take]; refine Wo.call ?_)
      | (refine W.regionC (Wo.next ?_); generalize e : evalOps _ _ _ _ _ = r; simp (disch := omega) [stepR, evalOps, evalOper, evalE, evalP, evalL, evalOpnd, nth, setNth, COp.cls, COp.isStore, CVal.isUndef, CVal.whole, CVal.cells, CHeap.put, CHeap.get, CHeap.set, wantedC, getEnt, setEnt, partOf, writeBack, evalBin, evalInt, evalStr, blockMost, initVar, descOf, List.take, List.drop, CVal.lenOf, CVal.isStr, CVal.bare, CVal.strip, CVal.flat, endsC, resultsC, oneOrTuple, finishC, cut, fillCells, setCells, szOf, szOf_desc, elems, bytesOf, evalAppend, fillElems, mkElem, List.replicate, sy_nbeq, sy_neqF, sy_leT, sy_leF, sy_setEnt_setEnt, dropped, sy_wrap64, dropEnts, dropCells, sizeMost, callAt, hg, hq, hr, hk, dec] at e; replace e : some _ = _ := e; subst e; try dsimp only [callAt, List.drop, List.take]; refine Wo.call ?_)
      | (refine Wo.rest ?_; generalize e : evalOps _ _ _ _ _ = r; simp (disch := omega) [stepR, evalOps, evalOper, evalE, evalP, evalL, evalOpnd, nth, setNth, COp.cls, COp.isStore, CVal.isUndef, CVal.whole, CVal.cells, CHeap.put, CHeap.get, CHeap.set, wantedC, getEnt, setEnt, partOf, writeBack, evalBin, evalInt, evalStr, blockMost, initVar, descOf, List.take, List.drop, CVal.lenOf, CVal.isStr, CVal.bare, CVal.strip, CVal.flat, endsC, resultsC, oneOrTuple, finishC, cut, fillCells, setCells, szOf, szOf_desc, elems, bytesOf, evalAppend, fillElems, mkElem, List.replicate, sy_nbeq, sy_neqF, sy_leT, sy_leF, sy_setEnt_setEnt, dropped, sy_wrap64, dropEnts, dropCells, sizeMost, callAt, hg, hq, hr, hk, dec] at e; replace e : some _ = _ := e; subst e; try dsimp only [callAt, List.drop, List.take])
      | (refine Wo.next ?_; generalize e : evalOps _ _ _ _ _ = r; simp (disch := omega) [stepR, evalOps, evalOper, evalE, evalP, evalL, evalOpnd, nth, setNth, COp.cls, COp.isStore, CVal.isUndef, CVal.whole, CVal.cells, CHeap.put, CHeap.get, CHeap.set, wantedC, getEnt, setEnt, partOf, writeBack, evalBin, evalInt, evalStr, blockMost, initVar, descOf, List.take, List.drop, CVal.lenOf, CVal.isStr, CVal.bare, CVal.strip, CVal.flat, endsC, resultsC, oneOrTuple, finishC, cut, fillCells, setCells, szOf, szOf_desc, elems, bytesOf, evalAppend, fillElems, mkElem, List.replicate, sy_nbeq, sy_neqF, sy_leT, sy_leF, sy_setEnt_setEnt, dropped, sy_wrap64, dropEnts, dropCells, sizeMost, callAt, hg, hq, hr, hk, dec] at e; replace e : some _ = _ := e; subst e; try dsimp only [callAt, List.drop, List.take]; refine Wo.call ?_))

    refine W.cond_false rfl (W.exit ?_)
    simp only [Nat.zero_add] at hok
    have := hok (by omega) (h.next + 9) v (.bool false) (by omega)
    rw [setEnt_same hg, setEnt_same hr, setEnt_same hq] at this
    exact this
  | succ m ih =>
    intro j v h hmm hg hq hr hk hty hj hu hp hqn hrn v9 hok hno
    have hG : ∀ x, getEnt (setEnt h.ents p x) p = some x := fun x => sy_getEnt_setEnt hg
    have hR : ∀ x, getEnt (setEnt h.ents p x) r = some (.row v (List.replicate j (.agg zV))) := fun x => (getEnt_setEnt_ne hpr).trans hr
    have hQ : ∀ x y, getEnt (setEnt (setEnt h.ents p x) r y) q = some (vobj (.ref r v 5 0 j)) := fun x y => ((getEnt_setEnt_ne (Ne.symm hqr)).trans (getEnt_setEnt_ne hpq)).trans hq
    have hG3 : ∀ x y z, getEnt (setEnt (setEnt (setEnt h.ents p x) r y) q z) p = some x := fun x y z => ((getEnt_setEnt_ne (Ne.symm hpq)).trans (getEnt_setEnt_ne (Ne.symm hpr))).trans (hG x)
    have hR3 : ∀ x y z, getEnt (setEnt (setEnt (setEnt h.ents p x) r y) q z) r = some y := fun x y z => (getEnt_setEnt_ne hqr).trans (sy_getEnt_setEnt (hR x))
    have hQ3 : ∀ x y z, getEnt (setEnt (setEnt (setEnt h.ents p x) r y) q z) q = some z := fun x y z => sy_getEnt_setEnt (hQ x y)
    have hK3 : ∀ x y z, getEnt (setEnt (setEnt (setEnt h.ents p x) r y) q z) kb = some tyAc := fun x y z => (((getEnt_setEnt_ne hkq).trans (getEnt_setEnt_ne hkr)).trans (getEnt_setEnt_ne hkp)).trans hk
    have hU3 : ∀ x y z, Under (setEnt (setEnt (setEnt h.ents p x) r y) q z) h.next := fun x y z => hu.set.set.set
    have hC3 : ∀ x y z, dropCells (setEnt (setEnt (setEnt h.ents p x) r y) q z) h.next = setEnt (setEnt (setEnt h.ents p x) r y) q z := fun x y z => dropCells_under (hU3 x y z)
    have hm : (0 : Int) < (m : Int) + 1 := by omega
    refine W.loop ?_
    refine W.seq ?_
    refine W.seq ?_
    repeat (first
      | refine W.seq ?_
      | refine W.block ?_
      | (refine W.reg ?_; generalize e : stepR _ _ _ = r; simp (disch := omega) [stepR, evalOps, evalOper, evalE, evalP, evalL, evalOpnd, nth, setNth, COp.cls, COp.isStore, CVal.isUndef, CVal.whole, CVal.cells, CHeap.put, CHeap.get, CHeap.set, wantedC, getEnt, setEnt, partOf, writeBack, evalBin, evalInt, evalStr, blockMost, initVar, descOf, List.take, List.drop, CVal.lenOf, CVal.isStr, CVal.bare, CVal.strip, CVal.flat, endsC, resultsC, oneOrTuple, finishC, cut, fillCells, setCells, szOf, szOf_desc, elems, bytesOf, evalAppend, fillElems, mkElem, List.replicate, sy_nbeq, sy_neqF, sy_leT, sy_leF, sy_setEnt_setEnt, dropped, sy_wrap64, dropEnts, dropCells, sizeMost, callAt, hg, hq, hr, hk, dec, hm] at e; replace e : some _ = _ := e; subst e; try dsimp only [callAt, List.drop, List.take])
      | refine W.cond_true rfl ?_
      | refine W.cond_false rfl ?_
      | refine W.skip ?_
      | refine W.exit ?_
      | (refine W.region (Wo.next ?_); generalize e : evalOps _ _ _ _ _ = r; simp (disch := omega) [stepR, evalOps, evalOper, evalE, evalP, evalL, evalOpnd, nth, setNth, COp.cls, COp.isStore, CVal.isUndef, CVal.whole, CVal.cells, CHeap.put, CHeap.get, CHeap.set, wantedC, getEnt, setEnt, partOf, writeBack, evalBin, evalInt, evalStr, blockMost, initVar, descOf, List.take, List.drop, CVal.lenOf, CVal.isStr, CVal.bare, CVal.strip, CVal.flat, endsC, resultsC, oneOrTuple, finishC, cut, fillCells, setCells, szOf, szOf_desc, elems, bytesOf, evalAppend, fillElems, mkElem, List.replicate, sy_nbeq, sy_neqF, sy_leT, sy_leF, sy_setEnt_setEnt, dropped, sy_wrap64, dropEnts, dropCells, sizeMost, callAt, hg, hq, hr, hk, dec, hm] at e; replace e : some _ = _ := e; subst e; try dsimp only [callAt, List.drop, List.take]; refine Wo.call ?_)
      | (refine W.regionC (Wo.next ?_); generalize e : evalOps _ _ _ _ _ = r; simp (disch := omega) [stepR, evalOps, evalOper, evalE, evalP, evalL, evalOpnd, nth, setNth, COp.cls, COp.isStore, CVal.isUndef, CVal.whole, CVal.cells, CHeap.put, CHeap.get, CHeap.set, wantedC, getEnt, setEnt, partOf, writeBack, evalBin, evalInt, evalStr, blockMost, initVar, descOf, List.take, List.drop, CVal.lenOf, CVal.isStr, CVal.bare, CVal.strip, CVal.flat, endsC, resultsC, oneOrTuple, finishC, cut, fillCells, setCells, szOf, szOf_desc, elems, bytesOf, evalAppend, fillElems, mkElem, List.replicate, sy_nbeq, sy_neqF, sy_leT, sy_leF, sy_setEnt_setEnt, dropped, sy_wrap64, dropEnts, dropCells, sizeMost, callAt, hg, hq, hr, hk, dec, hm] at e; replace e : some _ = _ := e; subst e; try dsimp only [callAt, List.drop, List.take]; refine Wo.call ?_)
      | (refine Wo.rest ?_; generalize e : evalOps _ _ _ _ _ = r; simp (disch := omega) [stepR, evalOps, evalOper, evalE, evalP, evalL, evalOpnd, nth, setNth, COp.cls, COp.isStore, CVal.isUndef, CVal.whole, CVal.cells, CHeap.put, CHeap.get, CHeap.set, wantedC, getEnt, setEnt, partOf, writeBack, evalBin, evalInt, evalStr, blockMost, initVar, descOf, List.take, List.drop, CVal.lenOf, CVal.isStr, CVal.bare, CVal.strip, CVal.flat, endsC, resultsC, oneOrTuple, finishC, cut, fillCells, setCells, szOf, szOf_desc, elems, bytesOf, evalAppend, fillElems, mkElem, List.replicate, sy_nbeq, sy_neqF, sy_leT, sy_leF, sy_setEnt_setEnt, dropped, sy_wrap64, dropEnts, dropCells, sizeMost, callAt, hg, hq, hr, hk, dec, hm] at e; replace e : some _ = _ := e; subst e; try dsimp only [callAt, List.drop, List.take])
      | (refine Wo.next ?_; generalize e : evalOps _ _ _ _ _ = r; simp (disch := omega) [stepR, evalOps, evalOper, evalE, evalP, evalL, evalOpnd, nth, setNth, COp.cls, COp.isStore, CVal.isUndef, CVal.whole, CVal.cells, CHeap.put, CHeap.get, CHeap.set, wantedC, getEnt, setEnt, partOf, writeBack, evalBin, evalInt, evalStr, blockMost, initVar, descOf, List.take, List.drop, CVal.lenOf, CVal.isStr, CVal.bare, CVal.strip, CVal.flat, endsC, resultsC, oneOrTuple, finishC, cut, fillCells, setCells, szOf, szOf_desc, elems, bytesOf, evalAppend, fillElems, mkElem, List.replicate, sy_nbeq, sy_neqF, sy_leT, sy_leF, sy_setEnt_setEnt, dropped, sy_wrap64, dropEnts, dropCells, sizeMost, callAt, hg, hq, hr, hk, dec, hm] at e; replace e : some _ = _ := e; subst e; try dsimp only [callAt, List.drop, List.take]; refine Wo.call ?_))
    refine item_more p d q d2 r v j b a ((j : Int) + 1) deep _ (by simp (disch := omega) [getEnt, setEnt, sy_nbeq, sy_neqF, sy_setEnt_setEnt, hg, hq, hr, hk, dec]) (by simp (disch := omega) [getEnt, setEnt, sy_nbeq, sy_neqF, sy_setEnt_setEnt, hg, hq, hr, hk, dec]) (by simp (disch := omega) [getEnt, setEnt, sy_nbeq, sy_neqF, sy_setEnt_setEnt, hg, hq, hr, hk, dec]) (by exact hty) (by omega) (by repeat (first | exact hu.le (by (try dsimp only); omega) | exact hu.set.le (by (try dsimp only); omega) | refine Under.cons (by (try dsimp only); omega) ?_ | exact Under.nil)) (by (try dsimp only); omega) hpq hpr hqr (by (try dsimp only); omega) (by (try dsimp only); omega) (by omega) (by omega) hd hd2 _ (fun hc n1 m1 cs hm1 hm2 => ⟨rfl, ?_⟩) (fun hc n1 m1 cs hm1 hm2 => ⟨rfl, ?_⟩)
    · try dsimp only at hm1
      repeat (first
        | refine W.seq ?_
        | refine W.block ?_
        | (refine W.reg ?_; generalize e : stepR _ _ _ = r; simp (disch := omega) [stepR, evalOps, evalOper, evalE, evalP, evalL, evalOpnd, nth, setNth, COp.cls, COp.isStore, CVal.isUndef, CVal.whole, CVal.cells, CHeap.put, CHeap.get, CHeap.set, wantedC, getEnt, setEnt, partOf, writeBack, evalBin, evalInt, evalStr, blockMost, initVar, descOf, List.take, List.drop, CVal.lenOf, CVal.isStr, CVal.bare, CVal.strip, CVal.flat, endsC, resultsC, oneOrTuple, finishC, cut, fillCells, setCells, szOf, szOf_desc, elems, bytesOf, evalAppend, fillElems, mkElem, List.replicate, sy_nbeq, sy_neqF, sy_leT, sy_leF, sy_setEnt_setEnt, dropped, sy_wrap64, dropEnts, dropCells, sizeMost, callAt, hg, hq, hr, hk, dec, hm, hG3, hR3, hQ3, hK3, hC3, endW] at e; replace e : some _ = _ := e; subst e; try dsimp only [callAt, List.drop, List.take])
        | refine W.cond_true rfl ?_
        | refine W.cond_false rfl ?_
        | refine W.skip ?_
        | refine W.exit ?_
        | (refine W.region (Wo.next ?_); generalize e : evalOps _ _ _ _ _ = r; simp (disch := omega) [stepR, evalOps, evalOper, evalE, evalP, evalL, evalOpnd, nth, setNth, COp.cls, COp.isStore, CVal.isUndef, CVal.whole, CVal.cells, CHeap.put, CHeap.get, CHeap.set, wantedC, getEnt, setEnt, partOf, writeBack, evalBin, evalInt, evalStr, blockMost, initVar, descOf, List.take, List.drop, CVal.lenOf, CVal.isStr, CVal.bare, CVal.strip, CVal.flat, endsC, resultsC, oneOrTuple, finishC, cut, fillCells, setCells, szOf, szOf_desc, elems, bytesOf, evalAppend, fillElems, mkElem, List.replicate, sy_nbeq, sy_neqF, sy_leT, sy_leF, sy_setEnt_setEnt, dropped, sy_wrap64, dropEnts, dropCells, sizeMost, callAt, hg, hq, hr, hk, dec, hm, hG3, hR3, hQ3, hK3, hC3, endW] at e; replace e : some _ = _ := e; subst e; try dsimp only [callAt, List.drop, List.take]; refine Wo.call ?_)
        | (refine W.regionC (Wo.next ?_); generalize e : evalOps _ _ _ _ _ = r; simp (disch := omega) [stepR, evalOps, evalOper, evalE, evalP, evalL, evalOpnd, nth, setNth, COp.cls, COp.isStore, CVal.isUndef, CVal.whole, CVal.cells, CHeap.put, CHeap.get, CHeap.set, wantedC, getEnt, setEnt, partOf, writeBack, evalBin, evalInt, evalStr, blockMost, initVar, descOf, List.take, List.drop, CVal.lenOf, CVal.isStr, CVal.bare, CVal.strip, CVal.flat, endsC, resultsC, oneOrTuple, finishC, cut, fillCells, setCells, szOf, szOf_desc, elems, bytesOf, evalAppend, fillElems, mkElem, List.replicate, sy_nbeq, sy_neqF, sy_leT, sy_leF, sy_setEnt_setEnt, dropped, sy_wrap64, dropEnts, dropCells, sizeMost, callAt, hg, hq, hr, hk, dec, hm, hG3, hR3, hQ3, hK3, hC3, endW] at e; replace e : some _ = _ := e; subst e; try dsimp only [callAt, List.drop, List.take]; refine Wo.call ?_)
        | (refine Wo.rest ?_; generalize e : evalOps _ _ _ _ _ = r; simp (disch := omega) [stepR, evalOps, evalOper, evalE, evalP, evalL, evalOpnd, nth, setNth, COp.cls, COp.isStore, CVal.isUndef, CVal.whole, CVal.cells, CHeap.put, CHeap.get, CHeap.set, wantedC, getEnt, setEnt, partOf, writeBack, evalBin, evalInt, evalStr, blockMost, initVar, descOf, List.take, List.drop, CVal.lenOf, CVal.isStr, CVal.bare, CVal.strip, CVal.flat, endsC, resultsC, oneOrTuple, finishC, cut, fillCells, setCells, szOf, szOf_desc, elems, bytesOf, evalAppend, fillElems, mkElem, List.replicate, sy_nbeq, sy_neqF, sy_leT, sy_leF, sy_setEnt_setEnt, dropped, sy_wrap64, dropEnts, dropCells, sizeMost, callAt, hg, hq, hr, hk, dec, hm, hG3, hR3, hQ3, hK3, hC3, endW] at e; replace e : some _ = _ := e; subst e; try dsimp only [callAt, List.drop, List.take])
        | (refine Wo.next ?_; generalize e : evalOps _ _ _ _ _ = r; simp (disch := omega) [stepR, evalOps, evalOper, evalE, evalP, evalL, evalOpnd, nth, setNth, COp.cls, COp.isStore, CVal.isUndef, CVal.whole, CVal.cells, CHeap.put, CHeap.get, CHeap.set, wantedC, getEnt, setEnt, partOf, writeBack, evalBin, evalInt, evalStr, blockMost, initVar, descOf, List.take, List.drop, CVal.lenOf, CVal.isStr, CVal.bare, CVal.strip, CVal.flat, endsC, resultsC, oneOrTuple, finishC, cut, fillCells, setCells, szOf, szOf_desc, elems, bytesOf, evalAppend, fillElems, mkElem, List.replicate, sy_nbeq, sy_neqF, sy_leT, sy_leF, sy_setEnt_setEnt, dropped, sy_wrap64, dropEnts, dropCells, sizeMost, callAt, hg, hq, hr, hk, dec, hm, hG3, hR3, hQ3, hK3, hC3, endW] at e; replace e : some _ = _ := e; subst e; try dsimp only [callAt, List.drop, List.take]; refine Wo.call ?_))
      show W tree.getF itemsLoop (dropped true h.next _) Q
      generalize e : dropped _ _ _ = r
      simp (disch := omega) [stepR, evalOps, evalOper, evalE, evalP, evalL, evalOpnd, nth, setNth, COp.cls, COp.isStore, CVal.isUndef, CVal.whole, CVal.cells, CHeap.put, CHeap.get, CHeap.set, wantedC, getEnt, setEnt, partOf, writeBack, evalBin, evalInt, evalStr, blockMost, initVar, descOf, List.take, List.drop, CVal.lenOf, CVal.isStr, CVal.bare, CVal.strip, CVal.flat, endsC, resultsC, oneOrTuple, finishC, cut, fillCells, setCells, szOf, szOf_desc, elems, bytesOf, evalAppend, fillElems, mkElem, List.replicate, sy_nbeq, sy_neqF, sy_leT, sy_leF, sy_setEnt_setEnt, dropped, sy_wrap64, dropEnts, dropCells, sizeMost, hg, hq, hr, hk, dec, hm, hG3, hR3, hQ3, hK3, hC3, endW] at e
      subst e
      try dsimp only
      have e5 : m + (j + 1) = m + 1 + j := by omega
      refine ih (j + 1) (v + 1) _ (by omega) ?_ ?_ ?_ ?_ (by exact hty) (by omega) ((hU3 _ _ _).le (by (try dsimp only); omega)) (by (try dsimp only); omega) (by (try dsimp only); omega) (by (try dsimp only); omega) _ ?_ ?_
      · rw [hG3]; simp [dec]
      · rw [hQ3]
      · rw [hR3]; rfl
      · rw [hK3]
      · intro h1 n' v' w9 hn'
        have := hok (by omega) n' v' w9 (by dsimp only at hn'; omega)
        rw [set3 hpr hpq hqr, e5]
        exact this
      · intro h1 n' v' w3 w9 c j' hn'
        have := hno (by omega) n' v' w3 w9 c j' (by dsimp only at hn'; omega)
        rw [set3 hpr hpq hqr]
        exact this
    · try dsimp only at hm1
      repeat (first
        | refine W.seq ?_
        | refine W.block ?_
        | (refine W.reg ?_; generalize e : stepR _ _ _ = r; simp (disch := omega) [stepR, evalOps, evalOper, evalE, evalP, evalL, evalOpnd, nth, setNth, COp.cls, COp.isStore, CVal.isUndef, CVal.whole, CVal.cells, CHeap.put, CHeap.get, CHeap.set, wantedC, getEnt, setEnt, partOf, writeBack, evalBin, evalInt, evalStr, blockMost, initVar, descOf, List.take, List.drop, CVal.lenOf, CVal.isStr, CVal.bare, CVal.strip, CVal.flat, endsC, resultsC, oneOrTuple, finishC, cut, fillCells, setCells, szOf, szOf_desc, elems, bytesOf, evalAppend, fillElems, mkElem, List.replicate, sy_nbeq, sy_neqF, sy_leT, sy_leF, sy_setEnt_setEnt, dropped, sy_wrap64, dropEnts, dropCells, sizeMost, callAt, hg, hq, hr, hk, dec, hm, hG3, hR3, hQ3, hK3, hC3, endW] at e; replace e : some _ = _ := e; subst e; try dsimp only [callAt, List.drop, List.take])
        | refine W.cond_true rfl ?_
        | refine W.cond_false rfl ?_
        | refine W.skip ?_
        | refine W.exit ?_
        | (refine W.region (Wo.next ?_); generalize e : evalOps _ _ _ _ _ = r; simp (disch := omega) [stepR, evalOps, evalOper, evalE, evalP, evalL, evalOpnd, nth, setNth, COp.cls, COp.isStore, CVal.isUndef, CVal.whole, CVal.cells, CHeap.put, CHeap.get, CHeap.set, wantedC, getEnt, setEnt, partOf, writeBack, evalBin, evalInt, evalStr, blockMost, initVar, descOf, List.take, List.drop, CVal.lenOf, CVal.isStr, CVal.bare, CVal.strip, CVal.flat, endsC, resultsC, oneOrTuple, finishC, cut, fillCells, setCells, szOf, szOf_desc, elems, bytesOf, evalAppend, fillElems, mkElem, List.replicate, sy_nbeq, sy_neqF, sy_leT, sy_leF, sy_setEnt_setEnt, dropped, sy_wrap64, dropEnts, dropCells, sizeMost, callAt, hg, hq, hr, hk, dec, hm, hG3, hR3, hQ3, hK3, hC3, endW] at e; replace e : some _ = _ := e; subst e; try dsimp only [callAt, List.drop, List.take]; refine Wo.call ?_)
        | (refine W.regionC (Wo.next ?_); generalize e : evalOps _ _ _ _ _ = r; simp (disch := omega) [stepR, evalOps, evalOper, evalE, evalP, evalL, evalOpnd, nth, setNth, COp.cls, COp.isStore, CVal.isUndef, CVal.whole, CVal.cells, CHeap.put, CHeap.get, CHeap.set, wantedC, getEnt, setEnt, partOf, writeBack, evalBin, evalInt, evalStr, blockMost, initVar, descOf, List.take, List.drop, CVal.lenOf, CVal.isStr, CVal.bare, CVal.strip, CVal.flat, endsC, resultsC, oneOrTuple, finishC, cut, fillCells, setCells, szOf, szOf_desc, elems, bytesOf, evalAppend, fillElems, mkElem, List.replicate, sy_nbeq, sy_neqF, sy_leT, sy_leF, sy_setEnt_setEnt, dropped, sy_wrap64, dropEnts, dropCells, sizeMost, callAt, hg, hq, hr, hk, dec, hm, hG3, hR3, hQ3, hK3, hC3, endW] at e; replace e : some _ = _ := e; subst e; try dsimp only [callAt, List.drop, List.take]; refine Wo.call ?_)
        | (refine Wo.rest ?_; generalize e : evalOps _ _ _ _ _ = r; simp (disch := omega) [stepR, evalOps, evalOper, evalE, evalP, evalL, evalOpnd, nth, setNth, COp.cls, COp.isStore, CVal.isUndef, CVal.whole, CVal.cells, CHeap.put, CHeap.get, CHeap.set, wantedC, getEnt, setEnt, partOf, writeBack, evalBin, evalInt, evalStr, blockMost, initVar, descOf, List.take, List.drop, CVal.lenOf, CVal.isStr, CVal.bare, CVal.strip, CVal.flat, endsC, resultsC, oneOrTuple, finishC, cut, fillCells, setCells, szOf, szOf_desc, elems, bytesOf, evalAppend, fillElems, mkElem, List.replicate, sy_nbeq, sy_neqF, sy_leT, sy_leF, sy_setEnt_setEnt, dropped, sy_wrap64, dropEnts, dropCells, sizeMost, callAt, hg, hq, hr, hk, dec, hm, hG3, hR3, hQ3, hK3, hC3, endW] at e; replace e : some _ = _ := e; subst e; try dsimp only [callAt, List.drop, List.take])
        | (refine Wo.next ?_; generalize e : evalOps _ _ _ _ _ = r; simp (disch := omega) [stepR, evalOps, evalOper, evalE, evalP, evalL, evalOpnd, nth, setNth, COp.cls, COp.isStore, CVal.isUndef, CVal.whole, CVal.cells, CHeap.put, CHeap.get, CHeap.set, wantedC, getEnt, setEnt, partOf, writeBack, evalBin, evalInt, evalStr, blockMost, initVar, descOf, List.take, List.drop, CVal.lenOf, CVal.isStr, CVal.bare, CVal.strip, CVal.flat, endsC, resultsC, oneOrTuple, finishC, cut, fillCells, setCells, szOf, szOf_desc, elems, bytesOf, evalAppend, fillElems, mkElem, List.replicate, sy_nbeq, sy_neqF, sy_leT, sy_leF, sy_setEnt_setEnt, dropped, sy_wrap64, dropEnts, dropCells, sizeMost, callAt, hg, hq, hr, hk, dec, hm, hG3, hR3, hQ3, hK3, hC3, endW] at e; replace e : some _ = _ := e; subst e; try dsimp only [callAt, List.drop, List.take]; refine Wo.call ?_))
      show W tree.getF itemsLoop (dropped true h.next _) Q
      generalize e : dropped _ _ _ = r
      simp (disch := omega) [stepR, evalOps, evalOper, evalE, evalP, evalL, evalOpnd, nth, setNth, COp.cls, COp.isStore, CVal.isUndef, CVal.whole, CVal.cells, CHeap.put, CHeap.get, CHeap.set, wantedC, getEnt, setEnt, partOf, writeBack, evalBin, evalInt, evalStr, blockMost, initVar, descOf, List.take, List.drop, CVal.lenOf, CVal.isStr, CVal.bare, CVal.strip, CVal.flat, endsC, resultsC, oneOrTuple, finishC, cut, fillCells, setCells, szOf, szOf_desc, elems, bytesOf, evalAppend, fillElems, mkElem, List.replicate, sy_nbeq, sy_neqF, sy_leT, sy_leF, sy_setEnt_setEnt, dropped, sy_wrap64, dropEnts, dropCells, sizeMost, hg, hq, hr, hk, dec, hm, hG3, hR3, hQ3, hK3, hC3, endW] at e
      subst e
      try dsimp only
      rcases Nat.eq_zero_or_pos m with hm0 | hm0
      · subst hm0
        refine W.loop ?_
        refine W.seq ?_
        refine W.seq ?_
        refine W.reg ?_
        generalize e : stepR _ _ _ = r
        simp (disch := omega) [stepR, evalOps, evalOper, evalE, evalP, evalL, evalOpnd, nth, setNth, COp.cls, COp.isStore, CVal.isUndef, CVal.whole, CVal.cells, CHeap.put, CHeap.get, CHeap.set, wantedC, getEnt, setEnt, partOf, writeBack, evalBin, evalInt, evalStr, blockMost, initVar, descOf, List.take, List.drop, CVal.lenOf, CVal.isStr, CVal.bare, CVal.strip, CVal.flat, endsC, resultsC, oneOrTuple, finishC, cut, fillCells, setCells, szOf, szOf_desc, elems, bytesOf, evalAppend, fillElems, mkElem, List.replicate, sy_nbeq, sy_neqF, sy_leT, sy_leF, sy_setEnt_setEnt, dropped, sy_wrap64, dropEnts, dropCells, sizeMost, hg, hq, hr, hk, dec, hm, hG3, hR3, hQ3, hK3, hC3, endW] at e
        subst e
        try dsimp only
        refine W.cond_false rfl (W.exit ?_)
        refine hno (by omega) _ _ _ _ _ (j + 1) ?_
        omega
      · have hmp : (0 : Int) < (m : Int) := by omega
        refine W.loop ?_
        refine W.seq ?_
        refine W.seq ?_
        refine W.reg ?_
        generalize e : stepR _ _ _ = r
        simp (disch := omega) [stepR, evalOps, evalOper, evalE, evalP, evalL, evalOpnd, nth, setNth, COp.cls, COp.isStore, CVal.isUndef, CVal.whole, CVal.cells, CHeap.put, CHeap.get, CHeap.set, wantedC, getEnt, setEnt, partOf, writeBack, evalBin, evalInt, evalStr, blockMost, initVar, descOf, List.take, List.drop, CVal.lenOf, CVal.isStr, CVal.bare, CVal.strip, CVal.flat, endsC, resultsC, oneOrTuple, finishC, cut, fillCells, setCells, szOf, szOf_desc, elems, bytesOf, evalAppend, fillElems, mkElem, List.replicate, sy_nbeq, sy_neqF, sy_leT, sy_leF, sy_setEnt_setEnt, dropped, sy_wrap64, dropEnts, dropCells, sizeMost, hg, hq, hr, hk, dec, hm, hG3, hR3, hQ3, hK3, hC3, endW, hmp, hm0] at e
        subst e
        try dsimp only
        refine W.cond_false rfl (W.exit ?_)
        refine hno (by omega) _ _ _ _ _ (j + 1) ?_
        omega
end Go.Proofs.Ytcehpodknbjimaa.Ir
