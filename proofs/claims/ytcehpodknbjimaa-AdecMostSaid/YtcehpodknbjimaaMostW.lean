/- What the functions of the law 'AdecMost' do: numbers on the wire, out and in. -/
import Derived.Test.YtcehpodknbjimaaIr
namespace Go.Proofs.Ytcehpodknbjimaa.Ir
open Go Go.CI
set_option maxRecDepth 100000
set_option linter.unusedVariables false
set_option linter.unusedSimpArgs false

theorem put_spec : ∀ (x : Nat), x < 18446744073709551616 → ∀ (h : CHeap), Under h.ents h.next → ∀ (K : CVal → CHeap → Prop), (∀ n', h.next ≤ n' → K (.str (vb x)) { h with next := n' }) → Wc tree.getF 8 [.int .u64 x] h K := by
  intro x
  induction x using Nat.strongRecOn with
  | _ x ih =>
  intro hx h hu K hk
  have hD := dropEnts_under hu
  have e1 : ((x : Int) % 128 + 128).toNat = x % 128 + 128 := by omega
  have hv := vb_len_lt x hx
  refine Wc.mk' (fn := c8) (by kernel_rfl) rfl ?_
  refine W.seq ?_
  refine W.reg ?_
  generalize e : stepR _ _ _ = r
  simp (disch := omega) [stepR, evalOps, evalOper, evalE, evalP, evalL, evalOpnd, nth, setNth, COp.cls, COp.isStore, CVal.isUndef, CVal.whole, CVal.cells, CHeap.put, CHeap.get, CHeap.set, wantedC, getEnt, setEnt, partOf, writeBack, evalBin, evalInt, evalStr, blockMost, initVar, descOf, List.take, List.drop, CVal.lenOf, CVal.isStr, CVal.bare, CVal.strip, CVal.flat, endsC, resultsC, oneOrTuple, finishC, cut, fillCells, setCells, szOf, szOf_desc, elems, bytesOf, evalAppend, fillElems, mkElem, List.replicate, sy_nbeq, sy_neqF, sy_leT, sy_leF, sy_setEnt_setEnt, dropped, sy_wrap64, dropEnts, dropCells, sizeMost, c8] at e
  subst e
  try dsimp only
  by_cases hs : x < 128
  · have hs' : (x : Int) < 128 := by omega
    refine W.seq ?_
    refine W.seq ?_
    refine W.reg ?_
    generalize e : stepR _ _ _ = r
    simp (disch := omega) [stepR, evalOps, evalOper, evalE, evalP, evalL, evalOpnd, nth, setNth, COp.cls, COp.isStore, CVal.isUndef, CVal.whole, CVal.cells, CHeap.put, CHeap.get, CHeap.set, wantedC, getEnt, setEnt, partOf, writeBack, evalBin, evalInt, evalStr, blockMost, initVar, descOf, List.take, List.drop, CVal.lenOf, CVal.isStr, CVal.bare, CVal.strip, CVal.flat, endsC, resultsC, oneOrTuple, finishC, cut, fillCells, setCells, szOf, szOf_desc, elems, bytesOf, evalAppend, fillElems, mkElem, List.replicate, sy_nbeq, sy_neqF, sy_leT, sy_leF, sy_setEnt_setEnt, dropped, sy_wrap64, dropEnts, dropCells, sizeMost, hD, e1, Int.tmod_eq_emod_of_nonneg, hs'] at e
    subst e
    try dsimp only
    refine W.cond_true rfl ?_
    refine W.seq ?_
    refine W.reg ?_
    generalize e : stepR _ _ _ = r
    simp (disch := omega) [stepR, evalOps, evalOper, evalE, evalP, evalL, evalOpnd, nth, setNth, COp.cls, COp.isStore, CVal.isUndef, CVal.whole, CVal.cells, CHeap.put, CHeap.get, CHeap.set, wantedC, getEnt, setEnt, partOf, writeBack, evalBin, evalInt, evalStr, blockMost, initVar, descOf, List.take, List.drop, CVal.lenOf, CVal.isStr, CVal.bare, CVal.strip, CVal.flat, endsC, resultsC, oneOrTuple, finishC, cut, fillCells, setCells, szOf, szOf_desc, elems, bytesOf, evalAppend, fillElems, mkElem, List.replicate, sy_nbeq, sy_neqF, sy_leT, sy_leF, sy_setEnt_setEnt, dropped, sy_wrap64, dropEnts, dropCells, sizeMost, hD, e1, Int.tmod_eq_emod_of_nonneg, hs', sy_wrapu8] at e
    subst e
    try dsimp only
    refine W.ret ?_
    try simp only [outOf, thenW_ret]
    refine endW.intro rfl ?_
    generalize e : endsC _ _ _ = r
    simp (disch := omega) [stepR, evalOps, evalOper, evalE, evalP, evalL, evalOpnd, nth, setNth, COp.cls, COp.isStore, CVal.isUndef, CVal.whole, CVal.cells, CHeap.put, CHeap.get, CHeap.set, wantedC, getEnt, setEnt, partOf, writeBack, evalBin, evalInt, evalStr, blockMost, initVar, descOf, List.take, List.drop, CVal.lenOf, CVal.isStr, CVal.bare, CVal.strip, CVal.flat, endsC, resultsC, oneOrTuple, finishC, cut, fillCells, setCells, szOf, szOf_desc, elems, bytesOf, evalAppend, fillElems, mkElem, List.replicate, sy_nbeq, sy_neqF, sy_leT, sy_leF, sy_setEnt_setEnt, dropped, sy_wrap64, dropEnts, dropCells, sizeMost, c8, hD, e1, Int.tmod_eq_emod_of_nonneg] at e
    subst e
    try dsimp only
    rw [vb_small hs] at hk
    exact hk _ (by omega)
  · have hs' : ¬ (x : Int) < 128 := by omega
    have hl : 1 + (vb (x / 128)).length < 4611686018427387904 := by rw [vb_great hs] at hv; simp at hv; omega
    refine W.seq ?_
    refine W.seq ?_
    refine W.reg ?_
    generalize e : stepR _ _ _ = r
    simp (disch := omega) [stepR, evalOps, evalOper, evalE, evalP, evalL, evalOpnd, nth, setNth, COp.cls, COp.isStore, CVal.isUndef, CVal.whole, CVal.cells, CHeap.put, CHeap.get, CHeap.set, wantedC, getEnt, setEnt, partOf, writeBack, evalBin, evalInt, evalStr, blockMost, initVar, descOf, List.take, List.drop, CVal.lenOf, CVal.isStr, CVal.bare, CVal.strip, CVal.flat, endsC, resultsC, oneOrTuple, finishC, cut, fillCells, setCells, szOf, szOf_desc, elems, bytesOf, evalAppend, fillElems, mkElem, List.replicate, sy_nbeq, sy_neqF, sy_leT, sy_leF, sy_setEnt_setEnt, dropped, sy_wrap64, dropEnts, dropCells, sizeMost, hD, e1, Int.tmod_eq_emod_of_nonneg, hs'] at e
    subst e
    try dsimp only
    refine W.cond_false rfl (W.skip ?_)
    refine W.seq ?_
    refine W.regionC (Wo.upto 8 rfl ?_)
    generalize e : evalOps _ _ _ _ _ = r
    simp (disch := omega) [stepR, evalOps, evalOper, evalE, evalP, evalL, evalOpnd, nth, setNth, COp.cls, COp.isStore, CVal.isUndef, CVal.whole, CVal.cells, CHeap.put, CHeap.get, CHeap.set, wantedC, getEnt, setEnt, partOf, writeBack, evalBin, evalInt, evalStr, blockMost, initVar, descOf, List.take, List.drop, CVal.lenOf, CVal.isStr, CVal.bare, CVal.strip, CVal.flat, endsC, resultsC, oneOrTuple, finishC, cut, fillCells, setCells, szOf, szOf_desc, elems, bytesOf, evalAppend, fillElems, mkElem, List.replicate, sy_nbeq, sy_neqF, sy_leT, sy_leF, sy_setEnt_setEnt, dropped, sy_wrap64, dropEnts, dropCells, sizeMost, hD, e1, Int.tmod_eq_emod_of_nonneg, sy_wrapu8, sy_wrapu64] at e
    subst e
    try dsimp only
    refine Wo.call ?_
    refine ih (x / 128) (by omega) (by omega) _ (by repeat (first | exact hu.le (by (try dsimp only); omega) | exact hu.set.le (by (try dsimp only); omega) | refine Under.cons (by (try dsimp only); omega) ?_ | exact Under.nil)) _ fun n1 hn1 => ⟨rfl, ?_⟩
    try dsimp only at hn1
    refine Wo.rest ?_
    generalize e : evalOps _ _ _ _ _ = r
    simp (disch := omega) [stepR, evalOps, evalOper, evalE, evalP, evalL, evalOpnd, nth, setNth, COp.cls, COp.isStore, CVal.isUndef, CVal.whole, CVal.cells, CHeap.put, CHeap.get, CHeap.set, wantedC, getEnt, setEnt, partOf, writeBack, evalBin, evalInt, evalStr, blockMost, initVar, descOf, List.take, List.drop, CVal.lenOf, CVal.isStr, CVal.bare, CVal.strip, CVal.flat, endsC, resultsC, oneOrTuple, finishC, cut, fillCells, setCells, szOf, szOf_desc, elems, bytesOf, evalAppend, fillElems, mkElem, List.replicate, sy_nbeq, sy_neqF, sy_leT, sy_leF, sy_setEnt_setEnt, dropped, sy_wrap64, dropEnts, dropCells, sizeMost, hD, e1, Int.tmod_eq_emod_of_nonneg, hl] at e
    subst e
    try dsimp only
    refine ⟨by simp [stepR, evalOps, evalOper, evalE, evalP, evalL, evalOpnd, nth, setNth, COp.cls, COp.isStore, CVal.isUndef, CVal.whole, CVal.cells, CHeap.put, CHeap.get, CHeap.set, wantedC, getEnt, setEnt, partOf, writeBack, evalBin, evalInt, evalStr, blockMost, initVar, descOf, List.take, List.drop, CVal.lenOf, CVal.isStr, CVal.bare, CVal.strip, CVal.flat, endsC, resultsC, oneOrTuple, finishC, cut, fillCells, setCells, szOf, szOf_desc, elems, bytesOf, evalAppend, fillElems, mkElem, List.replicate, sy_nbeq, sy_neqF, sy_leT, sy_leF, sy_setEnt_setEnt, dropped, sy_wrap64, dropEnts, dropCells, sizeMost, checkOne, sameAt, nthOp, CVal.beq, e1, UInt8.ofNat_add], ?_⟩
    refine W.ret ?_
    try simp only [outOf, thenW_ret]
    refine endW.intro rfl ?_
    generalize e : endsC _ _ _ = r
    simp (disch := omega) [stepR, evalOps, evalOper, evalE, evalP, evalL, evalOpnd, nth, setNth, COp.cls, COp.isStore, CVal.isUndef, CVal.whole, CVal.cells, CHeap.put, CHeap.get, CHeap.set, wantedC, getEnt, setEnt, partOf, writeBack, evalBin, evalInt, evalStr, blockMost, initVar, descOf, List.take, List.drop, CVal.lenOf, CVal.isStr, CVal.bare, CVal.strip, CVal.flat, endsC, resultsC, oneOrTuple, finishC, cut, fillCells, setCells, szOf, szOf_desc, elems, bytesOf, evalAppend, fillElems, mkElem, List.replicate, sy_nbeq, sy_neqF, sy_leT, sy_leF, sy_setEnt_setEnt, dropped, sy_wrap64, dropEnts, dropCells, sizeMost, c8, hD, e1, Int.tmod_eq_emod_of_nonneg] at e
    subst e
    try dsimp only
    rw [vb_great hs, show UInt8.ofNat (x % 128 + 128) = UInt8.ofNat (x % 128) + 128 by simp] at hk
    exact hk _ (by omega)

def vcode : CCode := match c22.body with
  | .seq _ (.seq (.block _ l) _) => l
  | c => c

theorem vstep (i acc y : Nat) (s rest : List UInt8) (b : UInt8) (b2 b3 b4 b6 : CVal) (h : CHeap) (hu : Under h.ents h.next) (Q : CExit → CSt → Prop)
    (hs : s[i]? = some b) (hi : i < s.length) (hi9 : i ≤ 9) (h9 : i = 9 → b.toNat ≤ 1) (hacc : acc < 2 ^ (7 * i)) (hfit : acc + (b.toNat % 128) * 2 ^ (7 * i) < 2 ^ 64)
    (hend : b.toNat < 128 → ∀ tm n', h.next ≤ n' → nth tm 5 = .int .u64 ((acc + (b.toNat % 128) * 2 ^ (7 * i) : Nat) : Int) → nth tm 0 = .int .i64 ((i + 1 : Nat) : Int) → nth tm 7 = .int .i64 0 → Q .ret ⟨tm, { h with next := n' }, []⟩)
    (hgo : 128 ≤ b.toNat → ∀ b2 b3 b4 b6 n', h.next ≤ n' → W tree.getF vcode ⟨[.int .i64 ((i + 1 : Nat) : Int), .str s, b2, b3, b4, .int .u64 ((acc + (b.toNat % 128) * 2 ^ (7 * i) : Nat) : Int), b6, .int .i64 0], { h with next := n' }, []⟩ Q) :
    W tree.getF vcode ⟨[.int .i64 i, .str s, b2, b3, b4, .int .u64 acc, b6, .int .i64 0], h, []⟩ Q := by
  have hC : ∀ n, h.next ≤ n → dropCells h.ents n = h.ents := fun n hn => dropCells_under (hu.le hn)
  have hi1 : (i : Int) < s.length := by omega
  have hi2 : (i : Int) < 10 := by omega
  have hbb : b.toNat < 256 := b.toNat_lt
  have hsi : s[i] = b := by have := List.getElem?_eq_getElem hi; rw [hs] at this; exact (Option.some.inj this).symm
  have hm : min (7 * i) 64 = 7 * i := by omega
  have ht : ((7 : Int) * i).toNat = 7 * i := by omega
  have h70 : ¬ ((7 : Int) * i < 0) := by omega
  have ec : ((b.toNat % 128 * 2 ^ (7 * i) : Nat) : Int) = (b.toNat : Int) % 128 * 2 ^ (7 * i) := by push_cast; rfl
  have hw : IntKind.u64.wrap ((b.toNat : Int) % 128 * 2 ^ (7 * i)) = (b.toNat : Int) % 128 * 2 ^ (7 * i) := by
    rw [← ec]; exact sy_wrapu64 (by omega) (by omega)
  have hor := or_u64 (c := b.toNat % 128) hacc hfit
  rw [Int.natCast_add, ec] at hor
  push_cast at hend hgo
  have hbits : IntKind.i64.bits = 64 := rfl
  have hbits2 : IntKind.u64.bits = 64 := rfl
  unfold vcode
  refine W.loop ?_
  refine W.seq ?_
  refine W.seq ?_
  refine W.reg ?_
  generalize e : stepR _ _ _ = r
  simp (disch := omega) [stepR, evalOps, evalOper, evalE, evalP, evalL, evalOpnd, nth, setNth, COp.cls, COp.isStore, CVal.isUndef, CVal.whole, CVal.cells, CHeap.put, CHeap.get, CHeap.set, wantedC, getEnt, setEnt, partOf, writeBack, evalBin, evalInt, evalStr, blockMost, initVar, descOf, List.take, List.drop, CVal.lenOf, CVal.isStr, CVal.bare, CVal.strip, CVal.flat, endsC, resultsC, oneOrTuple, finishC, cut, fillCells, setCells, szOf, szOf_desc, elems, bytesOf, evalAppend, fillElems, mkElem, List.replicate, sy_nbeq, sy_neqF, sy_leT, sy_leF, sy_setEnt_setEnt, dropped, sy_wrap64, dropEnts, dropCells, sizeMost, hs, hi1, hi2, hm, ht, h70, hw, hor, hbits, hbits2, Int.tmod_eq_emod_of_nonneg, sy_wrapu64, hsi] at e
  subst e
  try dsimp only
  refine W.cond_true rfl (W.skip ?_)
  refine W.block ?_
  refine W.seq ?_
  refine W.reg ?_
  generalize e : stepR _ _ _ = r
  simp (disch := omega) [stepR, evalOps, evalOper, evalE, evalP, evalL, evalOpnd, nth, setNth, COp.cls, COp.isStore, CVal.isUndef, CVal.whole, CVal.cells, CHeap.put, CHeap.get, CHeap.set, wantedC, getEnt, setEnt, partOf, writeBack, evalBin, evalInt, evalStr, blockMost, initVar, descOf, List.take, List.drop, CVal.lenOf, CVal.isStr, CVal.bare, CVal.strip, CVal.flat, endsC, resultsC, oneOrTuple, finishC, cut, fillCells, setCells, szOf, szOf_desc, elems, bytesOf, evalAppend, fillElems, mkElem, List.replicate, sy_nbeq, sy_neqF, sy_leT, sy_leF, sy_setEnt_setEnt, dropped, sy_wrap64, dropEnts, dropCells, sizeMost, hs, hi1, hi2, hm, ht, h70, hw, hor, hbits, hbits2, Int.tmod_eq_emod_of_nonneg, sy_wrapu64, hsi] at e
  subst e
  try dsimp only
  refine W.seq ?_
  refine W.seq ?_
  by_cases q : i = 9
  · have q9 : ((i : Int) == 9) = true := by simp [q]
    have qb : ¬ (1 < (b.toNat : Int)) := by have := h9 q; omega
    by_cases hb : b.toNat < 128
    · have hlt : (b.toNat : Int) < 128 := by omega
      refine W.reg ?_
      generalize e : stepR _ _ _ = r
      simp (disch := omega) [stepR, evalOps, evalOper, evalE, evalP, evalL, evalOpnd, nth, setNth, COp.cls, COp.isStore, CVal.isUndef, CVal.whole, CVal.cells, CHeap.put, CHeap.get, CHeap.set, wantedC, getEnt, setEnt, partOf, writeBack, evalBin, evalInt, evalStr, blockMost, initVar, descOf, List.take, List.drop, CVal.lenOf, CVal.isStr, CVal.bare, CVal.strip, CVal.flat, endsC, resultsC, oneOrTuple, finishC, cut, fillCells, setCells, szOf, szOf_desc, elems, bytesOf, evalAppend, fillElems, mkElem, List.replicate, sy_nbeq, sy_neqF, sy_leT, sy_leF, sy_setEnt_setEnt, dropped, sy_wrap64, dropEnts, dropCells, sizeMost, hs, hi1, hi2, hm, ht, h70, hw, hor, hbits, hbits2, Int.tmod_eq_emod_of_nonneg, sy_wrapu64, hsi, q9, qb] at e
      subst e
      try dsimp only
      refine W.cond_false rfl (W.skip ?_)
      refine W.seq ?_
      refine W.reg ?_
      generalize e : stepR _ _ _ = r
      simp (disch := omega) [stepR, evalOps, evalOper, evalE, evalP, evalL, evalOpnd, nth, setNth, COp.cls, COp.isStore, CVal.isUndef, CVal.whole, CVal.cells, CHeap.put, CHeap.get, CHeap.set, wantedC, getEnt, setEnt, partOf, writeBack, evalBin, evalInt, evalStr, blockMost, initVar, descOf, List.take, List.drop, CVal.lenOf, CVal.isStr, CVal.bare, CVal.strip, CVal.flat, endsC, resultsC, oneOrTuple, finishC, cut, fillCells, setCells, szOf, szOf_desc, elems, bytesOf, evalAppend, fillElems, mkElem, List.replicate, sy_nbeq, sy_neqF, sy_leT, sy_leF, sy_setEnt_setEnt, dropped, sy_wrap64, dropEnts, dropCells, sizeMost, hs, hi1, hi2, hm, ht, h70, hw, hor, hbits, hbits2, Int.tmod_eq_emod_of_nonneg, sy_wrapu64, hsi] at e
      subst e
      try dsimp only
      refine W.seq ?_
      refine W.reg ?_
      generalize e : stepR _ _ _ = r
      simp (disch := omega) [stepR, evalOps, evalOper, evalE, evalP, evalL, evalOpnd, nth, setNth, COp.cls, COp.isStore, CVal.isUndef, CVal.whole, CVal.cells, CHeap.put, CHeap.get, CHeap.set, wantedC, getEnt, setEnt, partOf, writeBack, evalBin, evalInt, evalStr, blockMost, initVar, descOf, List.take, List.drop, CVal.lenOf, CVal.isStr, CVal.bare, CVal.strip, CVal.flat, endsC, resultsC, oneOrTuple, finishC, cut, fillCells, setCells, szOf, szOf_desc, elems, bytesOf, evalAppend, fillElems, mkElem, List.replicate, sy_nbeq, sy_neqF, sy_leT, sy_leF, sy_setEnt_setEnt, dropped, sy_wrap64, dropEnts, dropCells, sizeMost, hs, hi1, hi2, hm, ht, h70, hw, hor, hbits, hbits2, Int.tmod_eq_emod_of_nonneg, sy_wrapu64, hsi] at e
      subst e
      try dsimp only
      refine W.seq ?_
      refine W.reg ?_
      generalize e : stepR _ _ _ = r
      simp (disch := omega) [stepR, evalOps, evalOper, evalE, evalP, evalL, evalOpnd, nth, setNth, COp.cls, COp.isStore, CVal.isUndef, CVal.whole, CVal.cells, CHeap.put, CHeap.get, CHeap.set, wantedC, getEnt, setEnt, partOf, writeBack, evalBin, evalInt, evalStr, blockMost, initVar, descOf, List.take, List.drop, CVal.lenOf, CVal.isStr, CVal.bare, CVal.strip, CVal.flat, endsC, resultsC, oneOrTuple, finishC, cut, fillCells, setCells, szOf, szOf_desc, elems, bytesOf, evalAppend, fillElems, mkElem, List.replicate, sy_nbeq, sy_neqF, sy_leT, sy_leF, sy_setEnt_setEnt, dropped, sy_wrap64, dropEnts, dropCells, sizeMost, hs, hi1, hi2, hm, ht, h70, hw, hor, hbits, hbits2, Int.tmod_eq_emod_of_nonneg, sy_wrapu64, hsi, hlt] at e
      subst e
      try dsimp only
      refine W.cond_true rfl ?_
      refine W.seq ?_
      refine W.reg ?_
      generalize e : stepR _ _ _ = r
      simp (disch := omega) [stepR, evalOps, evalOper, evalE, evalP, evalL, evalOpnd, nth, setNth, COp.cls, COp.isStore, CVal.isUndef, CVal.whole, CVal.cells, CHeap.put, CHeap.get, CHeap.set, wantedC, getEnt, setEnt, partOf, writeBack, evalBin, evalInt, evalStr, blockMost, initVar, descOf, List.take, List.drop, CVal.lenOf, CVal.isStr, CVal.bare, CVal.strip, CVal.flat, endsC, resultsC, oneOrTuple, finishC, cut, fillCells, setCells, szOf, szOf_desc, elems, bytesOf, evalAppend, fillElems, mkElem, List.replicate, sy_nbeq, sy_neqF, sy_leT, sy_leF, sy_setEnt_setEnt, dropped, sy_wrap64, dropEnts, dropCells, sizeMost, hs, hi1, hi2, hm, ht, h70, hw, hor, hbits, hbits2, Int.tmod_eq_emod_of_nonneg, sy_wrapu64, hsi] at e
      subst e
      try dsimp only
      refine W.ret ?_
      refine hend hb _ _ (by omega) ?_ ?_ rfl <;> simp [nth]
    · have hlt : ¬ (b.toNat : Int) < 128 := by omega
      refine W.reg ?_
      generalize e : stepR _ _ _ = r
      simp (disch := omega) [stepR, evalOps, evalOper, evalE, evalP, evalL, evalOpnd, nth, setNth, COp.cls, COp.isStore, CVal.isUndef, CVal.whole, CVal.cells, CHeap.put, CHeap.get, CHeap.set, wantedC, getEnt, setEnt, partOf, writeBack, evalBin, evalInt, evalStr, blockMost, initVar, descOf, List.take, List.drop, CVal.lenOf, CVal.isStr, CVal.bare, CVal.strip, CVal.flat, endsC, resultsC, oneOrTuple, finishC, cut, fillCells, setCells, szOf, szOf_desc, elems, bytesOf, evalAppend, fillElems, mkElem, List.replicate, sy_nbeq, sy_neqF, sy_leT, sy_leF, sy_setEnt_setEnt, dropped, sy_wrap64, dropEnts, dropCells, sizeMost, hs, hi1, hi2, hm, ht, h70, hw, hor, hbits, hbits2, Int.tmod_eq_emod_of_nonneg, sy_wrapu64, hsi, q9, qb] at e
      subst e
      try dsimp only
      refine W.cond_false rfl (W.skip ?_)
      refine W.seq ?_
      refine W.reg ?_
      generalize e : stepR _ _ _ = r
      simp (disch := omega) [stepR, evalOps, evalOper, evalE, evalP, evalL, evalOpnd, nth, setNth, COp.cls, COp.isStore, CVal.isUndef, CVal.whole, CVal.cells, CHeap.put, CHeap.get, CHeap.set, wantedC, getEnt, setEnt, partOf, writeBack, evalBin, evalInt, evalStr, blockMost, initVar, descOf, List.take, List.drop, CVal.lenOf, CVal.isStr, CVal.bare, CVal.strip, CVal.flat, endsC, resultsC, oneOrTuple, finishC, cut, fillCells, setCells, szOf, szOf_desc, elems, bytesOf, evalAppend, fillElems, mkElem, List.replicate, sy_nbeq, sy_neqF, sy_leT, sy_leF, sy_setEnt_setEnt, dropped, sy_wrap64, dropEnts, dropCells, sizeMost, hs, hi1, hi2, hm, ht, h70, hw, hor, hbits, hbits2, Int.tmod_eq_emod_of_nonneg, sy_wrapu64, hsi] at e
      subst e
      try dsimp only
      refine W.seq ?_
      refine W.reg ?_
      generalize e : stepR _ _ _ = r
      simp (disch := omega) [stepR, evalOps, evalOper, evalE, evalP, evalL, evalOpnd, nth, setNth, COp.cls, COp.isStore, CVal.isUndef, CVal.whole, CVal.cells, CHeap.put, CHeap.get, CHeap.set, wantedC, getEnt, setEnt, partOf, writeBack, evalBin, evalInt, evalStr, blockMost, initVar, descOf, List.take, List.drop, CVal.lenOf, CVal.isStr, CVal.bare, CVal.strip, CVal.flat, endsC, resultsC, oneOrTuple, finishC, cut, fillCells, setCells, szOf, szOf_desc, elems, bytesOf, evalAppend, fillElems, mkElem, List.replicate, sy_nbeq, sy_neqF, sy_leT, sy_leF, sy_setEnt_setEnt, dropped, sy_wrap64, dropEnts, dropCells, sizeMost, hs, hi1, hi2, hm, ht, h70, hw, hor, hbits, hbits2, Int.tmod_eq_emod_of_nonneg, sy_wrapu64, hsi] at e
      subst e
      try dsimp only
      refine W.seq ?_
      refine W.reg ?_
      generalize e : stepR _ _ _ = r
      simp (disch := omega) [stepR, evalOps, evalOper, evalE, evalP, evalL, evalOpnd, nth, setNth, COp.cls, COp.isStore, CVal.isUndef, CVal.whole, CVal.cells, CHeap.put, CHeap.get, CHeap.set, wantedC, getEnt, setEnt, partOf, writeBack, evalBin, evalInt, evalStr, blockMost, initVar, descOf, List.take, List.drop, CVal.lenOf, CVal.isStr, CVal.bare, CVal.strip, CVal.flat, endsC, resultsC, oneOrTuple, finishC, cut, fillCells, setCells, szOf, szOf_desc, elems, bytesOf, evalAppend, fillElems, mkElem, List.replicate, sy_nbeq, sy_neqF, sy_leT, sy_leF, sy_setEnt_setEnt, dropped, sy_wrap64, dropEnts, dropCells, sizeMost, hs, hi1, hi2, hm, ht, h70, hw, hor, hbits, hbits2, Int.tmod_eq_emod_of_nonneg, sy_wrapu64, hsi, hlt] at e
      subst e
      try dsimp only
      refine W.cond_false rfl (W.skip ?_)
      have e : dropCells h.ents h.next = h.ents := hC _ (Nat.le_refl _)
      show W tree.getF vcode (dropped true _ _) Q
      simp only [dropped, if_true, e]
      exact hgo (by omega) _ _ _ _ _ (by omega)
  · have q9 : ((i : Int) == 9) = false := by simp; omega
    by_cases hb : b.toNat < 128
    · have hlt : (b.toNat : Int) < 128 := by omega
      refine W.reg ?_
      generalize e : stepR _ _ _ = r
      simp (disch := omega) [stepR, evalOps, evalOper, evalE, evalP, evalL, evalOpnd, nth, setNth, COp.cls, COp.isStore, CVal.isUndef, CVal.whole, CVal.cells, CHeap.put, CHeap.get, CHeap.set, wantedC, getEnt, setEnt, partOf, writeBack, evalBin, evalInt, evalStr, blockMost, initVar, descOf, List.take, List.drop, CVal.lenOf, CVal.isStr, CVal.bare, CVal.strip, CVal.flat, endsC, resultsC, oneOrTuple, finishC, cut, fillCells, setCells, szOf, szOf_desc, elems, bytesOf, evalAppend, fillElems, mkElem, List.replicate, sy_nbeq, sy_neqF, sy_leT, sy_leF, sy_setEnt_setEnt, dropped, sy_wrap64, dropEnts, dropCells, sizeMost, hs, hi1, hi2, hm, ht, h70, hw, hor, hbits, hbits2, Int.tmod_eq_emod_of_nonneg, sy_wrapu64, hsi, q9] at e
      subst e
      try dsimp only
      refine W.cond_false rfl (W.skip ?_)
      refine W.seq ?_
      refine W.reg ?_
      generalize e : stepR _ _ _ = r
      simp (disch := omega) [stepR, evalOps, evalOper, evalE, evalP, evalL, evalOpnd, nth, setNth, COp.cls, COp.isStore, CVal.isUndef, CVal.whole, CVal.cells, CHeap.put, CHeap.get, CHeap.set, wantedC, getEnt, setEnt, partOf, writeBack, evalBin, evalInt, evalStr, blockMost, initVar, descOf, List.take, List.drop, CVal.lenOf, CVal.isStr, CVal.bare, CVal.strip, CVal.flat, endsC, resultsC, oneOrTuple, finishC, cut, fillCells, setCells, szOf, szOf_desc, elems, bytesOf, evalAppend, fillElems, mkElem, List.replicate, sy_nbeq, sy_neqF, sy_leT, sy_leF, sy_setEnt_setEnt, dropped, sy_wrap64, dropEnts, dropCells, sizeMost, hs, hi1, hi2, hm, ht, h70, hw, hor, hbits, hbits2, Int.tmod_eq_emod_of_nonneg, sy_wrapu64, hsi] at e
      subst e
      try dsimp only
      refine W.seq ?_
      refine W.reg ?_
      generalize e : stepR _ _ _ = r
      simp (disch := omega) [stepR, evalOps, evalOper, evalE, evalP, evalL, evalOpnd, nth, setNth, COp.cls, COp.isStore, CVal.isUndef, CVal.whole, CVal.cells, CHeap.put, CHeap.get, CHeap.set, wantedC, getEnt, setEnt, partOf, writeBack, evalBin, evalInt, evalStr, blockMost, initVar, descOf, List.take, List.drop, CVal.lenOf, CVal.isStr, CVal.bare, CVal.strip, CVal.flat, endsC, resultsC, oneOrTuple, finishC, cut, fillCells, setCells, szOf, szOf_desc, elems, bytesOf, evalAppend, fillElems, mkElem, List.replicate, sy_nbeq, sy_neqF, sy_leT, sy_leF, sy_setEnt_setEnt, dropped, sy_wrap64, dropEnts, dropCells, sizeMost, hs, hi1, hi2, hm, ht, h70, hw, hor, hbits, hbits2, Int.tmod_eq_emod_of_nonneg, sy_wrapu64, hsi] at e
      subst e
      try dsimp only
      refine W.seq ?_
      refine W.reg ?_
      generalize e : stepR _ _ _ = r
      simp (disch := omega) [stepR, evalOps, evalOper, evalE, evalP, evalL, evalOpnd, nth, setNth, COp.cls, COp.isStore, CVal.isUndef, CVal.whole, CVal.cells, CHeap.put, CHeap.get, CHeap.set, wantedC, getEnt, setEnt, partOf, writeBack, evalBin, evalInt, evalStr, blockMost, initVar, descOf, List.take, List.drop, CVal.lenOf, CVal.isStr, CVal.bare, CVal.strip, CVal.flat, endsC, resultsC, oneOrTuple, finishC, cut, fillCells, setCells, szOf, szOf_desc, elems, bytesOf, evalAppend, fillElems, mkElem, List.replicate, sy_nbeq, sy_neqF, sy_leT, sy_leF, sy_setEnt_setEnt, dropped, sy_wrap64, dropEnts, dropCells, sizeMost, hs, hi1, hi2, hm, ht, h70, hw, hor, hbits, hbits2, Int.tmod_eq_emod_of_nonneg, sy_wrapu64, hsi, hlt] at e
      subst e
      try dsimp only
      refine W.cond_true rfl ?_
      refine W.seq ?_
      refine W.reg ?_
      generalize e : stepR _ _ _ = r
      simp (disch := omega) [stepR, evalOps, evalOper, evalE, evalP, evalL, evalOpnd, nth, setNth, COp.cls, COp.isStore, CVal.isUndef, CVal.whole, CVal.cells, CHeap.put, CHeap.get, CHeap.set, wantedC, getEnt, setEnt, partOf, writeBack, evalBin, evalInt, evalStr, blockMost, initVar, descOf, List.take, List.drop, CVal.lenOf, CVal.isStr, CVal.bare, CVal.strip, CVal.flat, endsC, resultsC, oneOrTuple, finishC, cut, fillCells, setCells, szOf, szOf_desc, elems, bytesOf, evalAppend, fillElems, mkElem, List.replicate, sy_nbeq, sy_neqF, sy_leT, sy_leF, sy_setEnt_setEnt, dropped, sy_wrap64, dropEnts, dropCells, sizeMost, hs, hi1, hi2, hm, ht, h70, hw, hor, hbits, hbits2, Int.tmod_eq_emod_of_nonneg, sy_wrapu64, hsi] at e
      subst e
      try dsimp only
      refine W.ret ?_
      refine hend hb _ _ (by omega) ?_ ?_ rfl <;> simp [nth]
    · have hlt : ¬ (b.toNat : Int) < 128 := by omega
      refine W.reg ?_
      generalize e : stepR _ _ _ = r
      simp (disch := omega) [stepR, evalOps, evalOper, evalE, evalP, evalL, evalOpnd, nth, setNth, COp.cls, COp.isStore, CVal.isUndef, CVal.whole, CVal.cells, CHeap.put, CHeap.get, CHeap.set, wantedC, getEnt, setEnt, partOf, writeBack, evalBin, evalInt, evalStr, blockMost, initVar, descOf, List.take, List.drop, CVal.lenOf, CVal.isStr, CVal.bare, CVal.strip, CVal.flat, endsC, resultsC, oneOrTuple, finishC, cut, fillCells, setCells, szOf, szOf_desc, elems, bytesOf, evalAppend, fillElems, mkElem, List.replicate, sy_nbeq, sy_neqF, sy_leT, sy_leF, sy_setEnt_setEnt, dropped, sy_wrap64, dropEnts, dropCells, sizeMost, hs, hi1, hi2, hm, ht, h70, hw, hor, hbits, hbits2, Int.tmod_eq_emod_of_nonneg, sy_wrapu64, hsi, q9] at e
      subst e
      try dsimp only
      refine W.cond_false rfl (W.skip ?_)
      refine W.seq ?_
      refine W.reg ?_
      generalize e : stepR _ _ _ = r
      simp (disch := omega) [stepR, evalOps, evalOper, evalE, evalP, evalL, evalOpnd, nth, setNth, COp.cls, COp.isStore, CVal.isUndef, CVal.whole, CVal.cells, CHeap.put, CHeap.get, CHeap.set, wantedC, getEnt, setEnt, partOf, writeBack, evalBin, evalInt, evalStr, blockMost, initVar, descOf, List.take, List.drop, CVal.lenOf, CVal.isStr, CVal.bare, CVal.strip, CVal.flat, endsC, resultsC, oneOrTuple, finishC, cut, fillCells, setCells, szOf, szOf_desc, elems, bytesOf, evalAppend, fillElems, mkElem, List.replicate, sy_nbeq, sy_neqF, sy_leT, sy_leF, sy_setEnt_setEnt, dropped, sy_wrap64, dropEnts, dropCells, sizeMost, hs, hi1, hi2, hm, ht, h70, hw, hor, hbits, hbits2, Int.tmod_eq_emod_of_nonneg, sy_wrapu64, hsi] at e
      subst e
      try dsimp only
      refine W.seq ?_
      refine W.reg ?_
      generalize e : stepR _ _ _ = r
      simp (disch := omega) [stepR, evalOps, evalOper, evalE, evalP, evalL, evalOpnd, nth, setNth, COp.cls, COp.isStore, CVal.isUndef, CVal.whole, CVal.cells, CHeap.put, CHeap.get, CHeap.set, wantedC, getEnt, setEnt, partOf, writeBack, evalBin, evalInt, evalStr, blockMost, initVar, descOf, List.take, List.drop, CVal.lenOf, CVal.isStr, CVal.bare, CVal.strip, CVal.flat, endsC, resultsC, oneOrTuple, finishC, cut, fillCells, setCells, szOf, szOf_desc, elems, bytesOf, evalAppend, fillElems, mkElem, List.replicate, sy_nbeq, sy_neqF, sy_leT, sy_leF, sy_setEnt_setEnt, dropped, sy_wrap64, dropEnts, dropCells, sizeMost, hs, hi1, hi2, hm, ht, h70, hw, hor, hbits, hbits2, Int.tmod_eq_emod_of_nonneg, sy_wrapu64, hsi] at e
      subst e
      try dsimp only
      refine W.seq ?_
      refine W.reg ?_
      generalize e : stepR _ _ _ = r
      simp (disch := omega) [stepR, evalOps, evalOper, evalE, evalP, evalL, evalOpnd, nth, setNth, COp.cls, COp.isStore, CVal.isUndef, CVal.whole, CVal.cells, CHeap.put, CHeap.get, CHeap.set, wantedC, getEnt, setEnt, partOf, writeBack, evalBin, evalInt, evalStr, blockMost, initVar, descOf, List.take, List.drop, CVal.lenOf, CVal.isStr, CVal.bare, CVal.strip, CVal.flat, endsC, resultsC, oneOrTuple, finishC, cut, fillCells, setCells, szOf, szOf_desc, elems, bytesOf, evalAppend, fillElems, mkElem, List.replicate, sy_nbeq, sy_neqF, sy_leT, sy_leF, sy_setEnt_setEnt, dropped, sy_wrap64, dropEnts, dropCells, sizeMost, hs, hi1, hi2, hm, ht, h70, hw, hor, hbits, hbits2, Int.tmod_eq_emod_of_nonneg, sy_wrapu64, hsi, hlt] at e
      subst e
      try dsimp only
      refine W.cond_false rfl (W.skip ?_)
      have e : dropCells h.ents h.next = h.ents := hC _ (Nat.le_refl _)
      show W tree.getF vcode (dropped true _ _) Q
      simp only [dropped, if_true, e]
      exact hgo (by omega) _ _ _ _ _ (by omega)

theorem vloop : ∀ (y i acc : Nat) (s rest : List UInt8) (b2 b3 b4 b6 : CVal) (h : CHeap), Under h.ents h.next → ∀ (Q : CExit → CSt → Prop), s.drop i = vb y ++ rest → acc < 2 ^ (7 * i) → acc + y * 2 ^ (7 * i) < 2 ^ 64 → i ≤ 9 →
    (∀ tm n', h.next ≤ n' → nth tm 5 = .int .u64 ((acc + y * 2 ^ (7 * i) : Nat) : Int) → nth tm 0 = .int .i64 ((i + (vb y).length : Nat) : Int) → nth tm 7 = .int .i64 0 → Q .ret ⟨tm, { h with next := n' }, []⟩) →
    W tree.getF vcode ⟨[.int .i64 i, .str s, b2, b3, b4, .int .u64 acc, b6, .int .i64 0], h, []⟩ Q := by
  intro y
  induction y using Nat.strongRecOn with
  | _ y ih =>
  intro i acc s rest b2 b3 b4 b6 h hu Q hd hacc hfit hi9 hq
  have hlen : i < s.length := by
    rcases Nat.lt_or_ge i s.length with h1 | h1
    · exact h1
    · rw [List.drop_eq_nil_of_le h1] at hd
      have := vb_ne y
      simp at hd
      exact absurd hd.1.symm (fun e => this e.symm)
  have hget : ∀ (c : UInt8) (l : List UInt8), vb y ++ rest = c :: l → s[i]? = some c ∧ s.drop (i + 1) = l := fun c l e => by
    rw [e] at hd
    have h1 : (s.drop i)[0]? = some c := by rw [hd]; rfl
    rw [List.getElem?_drop, Nat.add_zero] at h1
    refine ⟨h1, ?_⟩
    have h2 : (s.drop i).tail = l := by rw [hd]; rfl
    rw [List.tail_drop] at h2
    exact h2
  by_cases hs : y < 128
  · rw [vb_small hs] at hget hq
    obtain ⟨h1, h2⟩ := hget _ _ rfl
    have hb : (UInt8.ofNat y).toNat = y := by rw [UInt8.toNat_ofNat']; omega
    refine vstep i acc y s rest _ b2 b3 b4 b6 h hu Q h1 hlen hi9 ?_ hacc ?_ ?_ ?_
    · intro h9; rw [hb]; subst h9
      rcases Nat.lt_or_ge y 2 with h3 | h3
      · omega
      · have : 2 * 2 ^ (7 * 9) ≤ y * 2 ^ (7 * 9) := Nat.mul_le_mul_right _ h3
        omega
    · rw [hb, Nat.mod_eq_of_lt hs]; exact hfit
    · intro _ tm n' hn e1 e2 e3
      rw [hb, Nat.mod_eq_of_lt hs] at e1
      exact hq tm n' hn e1 e2 e3
    · intro h3; rw [hb] at h3; omega
  · have hg := vb_great hs
    rw [hg] at hget hq
    obtain ⟨h1, h2⟩ := hget _ _ rfl
    have hb : (UInt8.ofNat (y % 128 + 128)).toNat = y % 128 + 128 := by rw [UInt8.toNat_ofNat']; omega
    have hmod : (y % 128 + 128) % 128 = y % 128 := by omega
    have hp : 2 ^ (7 * (i + 1)) = 128 * 2 ^ (7 * i) := by rw [show 7 * (i + 1) = 7 * i + 7 by omega, Nat.pow_add]; omega
    have hsum : acc + y % 128 * 2 ^ (7 * i) + y / 128 * 2 ^ (7 * (i + 1)) = acc + y * 2 ^ (7 * i) := by
      rw [hp, Nat.add_assoc, ← Nat.mul_assoc, ← Nat.add_mul]
      congr 2; omega
    have hi8 : i ≠ 9 := fun e => by
      subst e
      have : 128 * 2 ^ (7 * 9) ≤ y * 2 ^ (7 * 9) := Nat.mul_le_mul_right _ (by omega)
      omega
    refine vstep i acc y s rest _ b2 b3 b4 b6 h hu Q h1 hlen hi9 (fun e => absurd e hi8) hacc ?_ ?_ ?_
    · rw [hb, hmod]; omega
    · intro h3; rw [hb] at h3; omega
    · intro _ c2 c3 c4 c6 n1 hn1
      rw [hb, hmod]
      refine ih (y / 128) (by omega) (i + 1) _ s rest c2 c3 c4 c6 { h with next := n1 } (hu.le hn1) Q h2 ?_ (by rw [hsum]; exact hfit) (by omega) ?_
      · rw [hp]
        have : y % 128 * 2 ^ (7 * i) ≤ 127 * 2 ^ (7 * i) := Nat.mul_le_mul_right _ (by omega)
        omega
      · intro tm n' hn e1 e2 e3
        rw [hsum] at e1
        refine hq tm n' (Nat.le_trans hn1 hn) e1 ?_ e3
        rw [e2]; simp; omega

theorem varint_spec (x : Nat) (hx : x < 18446744073709551616) (rest : List UInt8) (h : CHeap) (hu : Under h.ents h.next) (K : CVal → CHeap → Prop)
    (hk : ∀ n', h.next ≤ n' → K (.tup [.int .u64 x, .int .i64 ((vb x).length : Nat), .int .i64 0]) { h with next := n' }) : Wc tree.getF 22 [.str (vb x ++ rest)] h K := by
  have hD := dropEnts_under hu
  refine Wc.mk' (fn := c22) (by kernel_rfl) rfl ?_
  refine W.seq ?_
  refine W.reg ?_
  generalize e : stepR _ _ _ = r
  simp (disch := omega) [stepR, evalOps, evalOper, evalE, evalP, evalL, evalOpnd, nth, setNth, COp.cls, COp.isStore, CVal.isUndef, CVal.whole, CVal.cells, CHeap.put, CHeap.get, CHeap.set, wantedC, getEnt, setEnt, partOf, writeBack, evalBin, evalInt, evalStr, blockMost, initVar, descOf, List.take, List.drop, CVal.lenOf, CVal.isStr, CVal.bare, CVal.strip, CVal.flat, endsC, resultsC, oneOrTuple, finishC, cut, fillCells, setCells, szOf, szOf_desc, elems, bytesOf, evalAppend, fillElems, mkElem, List.replicate, sy_nbeq, sy_neqF, sy_leT, sy_leF, sy_setEnt_setEnt, dropped, sy_wrap64, dropEnts, dropCells, sizeMost, c22] at e
  subst e
  try dsimp only
  refine W.seq (W.block ?_)
  refine vloop x 0 0 (vb x ++ rest) rest _ _ _ _ { h with next := h.next + 3 } (hu.le (by simp)) _ (by simp) (by simp) (by simpa using hx) (by omega) ?_
  intro tm n' hn e1 e2 e3
  show endW c22 h.next K .ret ⟨tm, { h with next := n' }, []⟩
  refine endW.intro rfl ?_
  have e : endsC c22 h.next ⟨tm, { h with next := n' }, []⟩ = some (.tup [.int .u64 x, .int .i64 ((vb x).length : Nat), .int .i64 0], { h with next := n' }) := by
    simp [endsC, c22, resultsC, e1, e2, e3, oneOrTuple, finishC, CVal.bare, CVal.strip, hD]
  show match endsC c22 h.next ⟨tm, { h with next := n' }, []⟩ with | some p => K p.1 p.2 | none => False
  rw [e]
  exact hk _ (by have : h.next + 3 ≤ n' := hn; omega)

/-- A number's sign goes into its lowest bit. -/
def zz (n : Int) : Nat := if n < 0 then ((-n) * 2 - 1).toNat else (n * 2).toNat

theorem zig_pos (x : Nat) (hx : x < 4611686018427387904) (h : CHeap) (hu : Under h.ents h.next) (K : CVal → CHeap → Prop) (hk : ∀ n', h.next ≤ n' → K (.int .u64 ((x * 2 : Nat) : Int)) { h with next := n' }) : Wc tree.getF 12 [.int .u64 x] h K := by
  have hD := dropEnts_under hu
  have hlt : ¬ (9223372036854775808 ≤ (x : Int)) := by omega
  push_cast at hk
  refine Wc.mk' (fn := c12) (by kernel_rfl) rfl ?_
  refine W.seq ?_
  refine W.reg ?_
  generalize e : stepR _ _ _ = r
  simp (disch := omega) [stepR, evalOps, evalOper, evalE, evalP, evalL, evalOpnd, nth, setNth, COp.cls, COp.isStore, CVal.isUndef, CVal.whole, CVal.cells, CHeap.put, CHeap.get, CHeap.set, wantedC, getEnt, setEnt, partOf, writeBack, evalBin, evalInt, evalStr, blockMost, initVar, descOf, List.take, List.drop, CVal.lenOf, CVal.isStr, CVal.bare, CVal.strip, CVal.flat, endsC, resultsC, oneOrTuple, finishC, cut, fillCells, setCells, szOf, szOf_desc, elems, bytesOf, evalAppend, fillElems, mkElem, List.replicate, sy_nbeq, sy_neqF, sy_leT, sy_leF, sy_setEnt_setEnt, dropped, sy_wrap64, dropEnts, dropCells, sizeMost, c12] at e
  subst e
  try dsimp only
  refine W.seq ?_
  refine W.seq ?_
  refine W.reg ?_
  generalize e : stepR _ _ _ = r
  simp (disch := omega) [stepR, evalOps, evalOper, evalE, evalP, evalL, evalOpnd, nth, setNth, COp.cls, COp.isStore, CVal.isUndef, CVal.whole, CVal.cells, CHeap.put, CHeap.get, CHeap.set, wantedC, getEnt, setEnt, partOf, writeBack, evalBin, evalInt, evalStr, blockMost, initVar, descOf, List.take, List.drop, CVal.lenOf, CVal.isStr, CVal.bare, CVal.strip, CVal.flat, endsC, resultsC, oneOrTuple, finishC, cut, fillCells, setCells, szOf, szOf_desc, elems, bytesOf, evalAppend, fillElems, mkElem, List.replicate, sy_nbeq, sy_neqF, sy_leT, sy_leF, sy_setEnt_setEnt, dropped, sy_wrap64, dropEnts, dropCells, sizeMost, hD, sy_wrapu64, Int.tmod_eq_emod_of_nonneg, hlt] at e
  subst e
  try dsimp only
  refine W.cond_false rfl (W.skip ?_)
  refine W.seq ?_
  refine W.reg ?_
  generalize e : stepR _ _ _ = r
  simp (disch := omega) [stepR, evalOps, evalOper, evalE, evalP, evalL, evalOpnd, nth, setNth, COp.cls, COp.isStore, CVal.isUndef, CVal.whole, CVal.cells, CHeap.put, CHeap.get, CHeap.set, wantedC, getEnt, setEnt, partOf, writeBack, evalBin, evalInt, evalStr, blockMost, initVar, descOf, List.take, List.drop, CVal.lenOf, CVal.isStr, CVal.bare, CVal.strip, CVal.flat, endsC, resultsC, oneOrTuple, finishC, cut, fillCells, setCells, szOf, szOf_desc, elems, bytesOf, evalAppend, fillElems, mkElem, List.replicate, sy_nbeq, sy_neqF, sy_leT, sy_leF, sy_setEnt_setEnt, dropped, sy_wrap64, dropEnts, dropCells, sizeMost, hD, sy_wrapu64, Int.tmod_eq_emod_of_nonneg] at e
  subst e
  try dsimp only
  refine W.ret ?_
  try simp only [outOf, thenW_ret]
  refine endW.intro rfl ?_
  generalize e : endsC _ _ _ = r
  simp (disch := omega) [stepR, evalOps, evalOper, evalE, evalP, evalL, evalOpnd, nth, setNth, COp.cls, COp.isStore, CVal.isUndef, CVal.whole, CVal.cells, CHeap.put, CHeap.get, CHeap.set, wantedC, getEnt, setEnt, partOf, writeBack, evalBin, evalInt, evalStr, blockMost, initVar, descOf, List.take, List.drop, CVal.lenOf, CVal.isStr, CVal.bare, CVal.strip, CVal.flat, endsC, resultsC, oneOrTuple, finishC, cut, fillCells, setCells, szOf, szOf_desc, elems, bytesOf, evalAppend, fillElems, mkElem, List.replicate, sy_nbeq, sy_neqF, sy_leT, sy_leF, sy_setEnt_setEnt, dropped, sy_wrap64, dropEnts, dropCells, sizeMost, c12, hD, sy_wrapu64, Int.tmod_eq_emod_of_nonneg] at e
  subst e
  try dsimp only
  exact hk _ (by omega)

theorem to_pos (x : Nat) (hx : x < 4611686018427387904) (h : CHeap) (hu : Under h.ents h.next) (K : CVal → CHeap → Prop) (hk : ∀ n', h.next ≤ n' → K (.int .u64 ((x * 2 : Nat) : Int)) { h with next := n' }) : Wc tree.getF 9 [.int .i64 8, .int .u64 x] h K := by
  have hD := dropEnts_under hu
  push_cast at hk
  refine Wc.mk' (fn := c9) (by kernel_rfl) rfl ?_
  refine W.seq ?_
  refine W.reg ?_
  generalize e : stepR _ _ _ = r
  simp (disch := omega) [stepR, evalOps, evalOper, evalE, evalP, evalL, evalOpnd, nth, setNth, COp.cls, COp.isStore, CVal.isUndef, CVal.whole, CVal.cells, CHeap.put, CHeap.get, CHeap.set, wantedC, getEnt, setEnt, partOf, writeBack, evalBin, evalInt, evalStr, blockMost, initVar, descOf, List.take, List.drop, CVal.lenOf, CVal.isStr, CVal.bare, CVal.strip, CVal.flat, endsC, resultsC, oneOrTuple, finishC, cut, fillCells, setCells, szOf, szOf_desc, elems, bytesOf, evalAppend, fillElems, mkElem, List.replicate, sy_nbeq, sy_neqF, sy_leT, sy_leF, sy_setEnt_setEnt, dropped, sy_wrap64, dropEnts, dropCells, sizeMost, c9] at e
  subst e
  try dsimp only
  refine W.seq ?_
  refine W.seq ?_
  refine W.reg ?_
  generalize e : stepR _ _ _ = r
  simp (disch := omega) [stepR, evalOps, evalOper, evalE, evalP, evalL, evalOpnd, nth, setNth, COp.cls, COp.isStore, CVal.isUndef, CVal.whole, CVal.cells, CHeap.put, CHeap.get, CHeap.set, wantedC, getEnt, setEnt, partOf, writeBack, evalBin, evalInt, evalStr, blockMost, initVar, descOf, List.take, List.drop, CVal.lenOf, CVal.isStr, CVal.bare, CVal.strip, CVal.flat, endsC, resultsC, oneOrTuple, finishC, cut, fillCells, setCells, szOf, szOf_desc, elems, bytesOf, evalAppend, fillElems, mkElem, List.replicate, sy_nbeq, sy_neqF, sy_leT, sy_leF, sy_setEnt_setEnt, dropped, sy_wrap64, dropEnts, dropCells, sizeMost, hD, sy_wrapu64, Int.tmod_eq_emod_of_nonneg] at e
  subst e
  try dsimp only
  refine W.block ?_
  refine W.seq ?_
  refine W.seq ?_
  refine W.reg ?_
  generalize e : stepR _ _ _ = r
  simp (disch := omega) [stepR, evalOps, evalOper, evalE, evalP, evalL, evalOpnd, nth, setNth, COp.cls, COp.isStore, CVal.isUndef, CVal.whole, CVal.cells, CHeap.put, CHeap.get, CHeap.set, wantedC, getEnt, setEnt, partOf, writeBack, evalBin, evalInt, evalStr, blockMost, initVar, descOf, List.take, List.drop, CVal.lenOf, CVal.isStr, CVal.bare, CVal.strip, CVal.flat, endsC, resultsC, oneOrTuple, finishC, cut, fillCells, setCells, szOf, szOf_desc, elems, bytesOf, evalAppend, fillElems, mkElem, List.replicate, sy_nbeq, sy_neqF, sy_leT, sy_leF, sy_setEnt_setEnt, dropped, sy_wrap64, dropEnts, dropCells, sizeMost, hD, sy_wrapu64, Int.tmod_eq_emod_of_nonneg] at e
  subst e
  try dsimp only
  refine W.cond_false rfl ?_
  refine W.reg ?_
  generalize e : stepR _ _ _ = r
  simp (disch := omega) [stepR, evalOps, evalOper, evalE, evalP, evalL, evalOpnd, nth, setNth, COp.cls, COp.isStore, CVal.isUndef, CVal.whole, CVal.cells, CHeap.put, CHeap.get, CHeap.set, wantedC, getEnt, setEnt, partOf, writeBack, evalBin, evalInt, evalStr, blockMost, initVar, descOf, List.take, List.drop, CVal.lenOf, CVal.isStr, CVal.bare, CVal.strip, CVal.flat, endsC, resultsC, oneOrTuple, finishC, cut, fillCells, setCells, szOf, szOf_desc, elems, bytesOf, evalAppend, fillElems, mkElem, List.replicate, sy_nbeq, sy_neqF, sy_leT, sy_leF, sy_setEnt_setEnt, dropped, sy_wrap64, dropEnts, dropCells, sizeMost, hD, sy_wrapu64, Int.tmod_eq_emod_of_nonneg] at e
  subst e
  try dsimp only
  refine W.cond_false rfl ?_
  refine W.seq ?_
  refine W.seq ?_
  refine W.reg ?_
  generalize e : stepR _ _ _ = r
  simp (disch := omega) [stepR, evalOps, evalOper, evalE, evalP, evalL, evalOpnd, nth, setNth, COp.cls, COp.isStore, CVal.isUndef, CVal.whole, CVal.cells, CHeap.put, CHeap.get, CHeap.set, wantedC, getEnt, setEnt, partOf, writeBack, evalBin, evalInt, evalStr, blockMost, initVar, descOf, List.take, List.drop, CVal.lenOf, CVal.isStr, CVal.bare, CVal.strip, CVal.flat, endsC, resultsC, oneOrTuple, finishC, cut, fillCells, setCells, szOf, szOf_desc, elems, bytesOf, evalAppend, fillElems, mkElem, List.replicate, sy_nbeq, sy_neqF, sy_leT, sy_leF, sy_setEnt_setEnt, dropped, sy_wrap64, dropEnts, dropCells, sizeMost, hD, sy_wrapu64, Int.tmod_eq_emod_of_nonneg] at e
  subst e
  try dsimp only
  refine W.cond_false rfl ?_
  refine W.seq ?_
  refine W.reg ?_
  generalize e : stepR _ _ _ = r
  simp (disch := omega) [stepR, evalOps, evalOper, evalE, evalP, evalL, evalOpnd, nth, setNth, COp.cls, COp.isStore, CVal.isUndef, CVal.whole, CVal.cells, CHeap.put, CHeap.get, CHeap.set, wantedC, getEnt, setEnt, partOf, writeBack, evalBin, evalInt, evalStr, blockMost, initVar, descOf, List.take, List.drop, CVal.lenOf, CVal.isStr, CVal.bare, CVal.strip, CVal.flat, endsC, resultsC, oneOrTuple, finishC, cut, fillCells, setCells, szOf, szOf_desc, elems, bytesOf, evalAppend, fillElems, mkElem, List.replicate, sy_nbeq, sy_neqF, sy_leT, sy_leF, sy_setEnt_setEnt, dropped, sy_wrap64, dropEnts, dropCells, sizeMost, hD, sy_wrapu64, Int.tmod_eq_emod_of_nonneg] at e
  subst e
  try dsimp only
  refine W.cond_false rfl ?_
  refine W.seq ?_
  refine W.reg ?_
  generalize e : stepR _ _ _ = r
  simp (disch := omega) [stepR, evalOps, evalOper, evalE, evalP, evalL, evalOpnd, nth, setNth, COp.cls, COp.isStore, CVal.isUndef, CVal.whole, CVal.cells, CHeap.put, CHeap.get, CHeap.set, wantedC, getEnt, setEnt, partOf, writeBack, evalBin, evalInt, evalStr, blockMost, initVar, descOf, List.take, List.drop, CVal.lenOf, CVal.isStr, CVal.bare, CVal.strip, CVal.flat, endsC, resultsC, oneOrTuple, finishC, cut, fillCells, setCells, szOf, szOf_desc, elems, bytesOf, evalAppend, fillElems, mkElem, List.replicate, sy_nbeq, sy_neqF, sy_leT, sy_leF, sy_setEnt_setEnt, dropped, sy_wrap64, dropEnts, dropCells, sizeMost, hD, sy_wrapu64, Int.tmod_eq_emod_of_nonneg] at e
  subst e
  try dsimp only
  refine W.cond_false rfl ?_
  refine W.reg ?_
  generalize e : stepR _ _ _ = r
  simp (disch := omega) [stepR, evalOps, evalOper, evalE, evalP, evalL, evalOpnd, nth, setNth, COp.cls, COp.isStore, CVal.isUndef, CVal.whole, CVal.cells, CHeap.put, CHeap.get, CHeap.set, wantedC, getEnt, setEnt, partOf, writeBack, evalBin, evalInt, evalStr, blockMost, initVar, descOf, List.take, List.drop, CVal.lenOf, CVal.isStr, CVal.bare, CVal.strip, CVal.flat, endsC, resultsC, oneOrTuple, finishC, cut, fillCells, setCells, szOf, szOf_desc, elems, bytesOf, evalAppend, fillElems, mkElem, List.replicate, sy_nbeq, sy_neqF, sy_leT, sy_leF, sy_setEnt_setEnt, dropped, sy_wrap64, dropEnts, dropCells, sizeMost, hD, sy_wrapu64, Int.tmod_eq_emod_of_nonneg] at e
  subst e
  try dsimp only
  refine W.cond_false rfl ?_
  refine W.seq ?_
  refine W.reg ?_
  generalize e : stepR _ _ _ = r
  simp (disch := omega) [stepR, evalOps, evalOper, evalE, evalP, evalL, evalOpnd, nth, setNth, COp.cls, COp.isStore, CVal.isUndef, CVal.whole, CVal.cells, CHeap.put, CHeap.get, CHeap.set, wantedC, getEnt, setEnt, partOf, writeBack, evalBin, evalInt, evalStr, blockMost, initVar, descOf, List.take, List.drop, CVal.lenOf, CVal.isStr, CVal.bare, CVal.strip, CVal.flat, endsC, resultsC, oneOrTuple, finishC, cut, fillCells, setCells, szOf, szOf_desc, elems, bytesOf, evalAppend, fillElems, mkElem, List.replicate, sy_nbeq, sy_neqF, sy_leT, sy_leF, sy_setEnt_setEnt, dropped, sy_wrap64, dropEnts, dropCells, sizeMost, hD, sy_wrapu64, Int.tmod_eq_emod_of_nonneg] at e
  subst e
  try dsimp only
  refine W.cond_false rfl ?_
  refine W.seq ?_
  refine W.reg ?_
  generalize e : stepR _ _ _ = r
  simp (disch := omega) [stepR, evalOps, evalOper, evalE, evalP, evalL, evalOpnd, nth, setNth, COp.cls, COp.isStore, CVal.isUndef, CVal.whole, CVal.cells, CHeap.put, CHeap.get, CHeap.set, wantedC, getEnt, setEnt, partOf, writeBack, evalBin, evalInt, evalStr, blockMost, initVar, descOf, List.take, List.drop, CVal.lenOf, CVal.isStr, CVal.bare, CVal.strip, CVal.flat, endsC, resultsC, oneOrTuple, finishC, cut, fillCells, setCells, szOf, szOf_desc, elems, bytesOf, evalAppend, fillElems, mkElem, List.replicate, sy_nbeq, sy_neqF, sy_leT, sy_leF, sy_setEnt_setEnt, dropped, sy_wrap64, dropEnts, dropCells, sizeMost, hD, sy_wrapu64, Int.tmod_eq_emod_of_nonneg] at e
  subst e
  try dsimp only
  refine W.cond_false rfl ?_
  refine W.seq ?_
  refine W.reg ?_
  generalize e : stepR _ _ _ = r
  simp (disch := omega) [stepR, evalOps, evalOper, evalE, evalP, evalL, evalOpnd, nth, setNth, COp.cls, COp.isStore, CVal.isUndef, CVal.whole, CVal.cells, CHeap.put, CHeap.get, CHeap.set, wantedC, getEnt, setEnt, partOf, writeBack, evalBin, evalInt, evalStr, blockMost, initVar, descOf, List.take, List.drop, CVal.lenOf, CVal.isStr, CVal.bare, CVal.strip, CVal.flat, endsC, resultsC, oneOrTuple, finishC, cut, fillCells, setCells, szOf, szOf_desc, elems, bytesOf, evalAppend, fillElems, mkElem, List.replicate, sy_nbeq, sy_neqF, sy_leT, sy_leF, sy_setEnt_setEnt, dropped, sy_wrap64, dropEnts, dropCells, sizeMost, hD, sy_wrapu64, Int.tmod_eq_emod_of_nonneg] at e
  subst e
  try dsimp only
  refine W.cond_true rfl ?_
  refine W.seq ?_
  refine W.region (Wo.upto 1 rfl ?_)
  generalize e : evalOps _ _ _ _ _ = r
  simp (disch := omega) [stepR, evalOps, evalOper, evalE, evalP, evalL, evalOpnd, nth, setNth, COp.cls, COp.isStore, CVal.isUndef, CVal.whole, CVal.cells, CHeap.put, CHeap.get, CHeap.set, wantedC, getEnt, setEnt, partOf, writeBack, evalBin, evalInt, evalStr, blockMost, initVar, descOf, List.take, List.drop, CVal.lenOf, CVal.isStr, CVal.bare, CVal.strip, CVal.flat, endsC, resultsC, oneOrTuple, finishC, cut, fillCells, setCells, szOf, szOf_desc, elems, bytesOf, evalAppend, fillElems, mkElem, List.replicate, sy_nbeq, sy_neqF, sy_leT, sy_leF, sy_setEnt_setEnt, dropped, sy_wrap64, dropEnts, dropCells, sizeMost, hD, sy_wrapu64, Int.tmod_eq_emod_of_nonneg] at e
  subst e
  try dsimp only
  refine Wo.call ?_
  refine zig_pos x hx _ (by repeat (first | exact hu.le (by (try dsimp only); omega) | exact hu.set.le (by (try dsimp only); omega) | refine Under.cons (by (try dsimp only); omega) ?_ | exact Under.nil)) _ fun n1 hn1 => ⟨rfl, ?_⟩
  try dsimp only at hn1
  push_cast
  refine Wo.rest ?_
  generalize e : evalOps _ _ _ _ _ = r
  simp (disch := omega) [stepR, evalOps, evalOper, evalE, evalP, evalL, evalOpnd, nth, setNth, COp.cls, COp.isStore, CVal.isUndef, CVal.whole, CVal.cells, CHeap.put, CHeap.get, CHeap.set, wantedC, getEnt, setEnt, partOf, writeBack, evalBin, evalInt, evalStr, blockMost, initVar, descOf, List.take, List.drop, CVal.lenOf, CVal.isStr, CVal.bare, CVal.strip, CVal.flat, endsC, resultsC, oneOrTuple, finishC, cut, fillCells, setCells, szOf, szOf_desc, elems, bytesOf, evalAppend, fillElems, mkElem, List.replicate, sy_nbeq, sy_neqF, sy_leT, sy_leF, sy_setEnt_setEnt, dropped, sy_wrap64, dropEnts, dropCells, sizeMost, hD, sy_wrapu64, Int.tmod_eq_emod_of_nonneg] at e
  subst e
  try dsimp only
  refine W.ret ?_
  try simp only [outOf, thenW_ret]
  refine endW.intro rfl ?_
  generalize e : endsC _ _ _ = r
  simp (disch := omega) [stepR, evalOps, evalOper, evalE, evalP, evalL, evalOpnd, nth, setNth, COp.cls, COp.isStore, CVal.isUndef, CVal.whole, CVal.cells, CHeap.put, CHeap.get, CHeap.set, wantedC, getEnt, setEnt, partOf, writeBack, evalBin, evalInt, evalStr, blockMost, initVar, descOf, List.take, List.drop, CVal.lenOf, CVal.isStr, CVal.bare, CVal.strip, CVal.flat, endsC, resultsC, oneOrTuple, finishC, cut, fillCells, setCells, szOf, szOf_desc, elems, bytesOf, evalAppend, fillElems, mkElem, List.replicate, sy_nbeq, sy_neqF, sy_leT, sy_leF, sy_setEnt_setEnt, dropped, sy_wrap64, dropEnts, dropCells, sizeMost, c9, hD, sy_wrapu64, Int.tmod_eq_emod_of_nonneg] at e
  subst e
  try dsimp only
  exact hk _ (by omega)

theorem long_pos (x : Nat) (hx : x < 4611686018427387904) (h : CHeap) (hu : Under h.ents h.next) (K : CVal → CHeap → Prop) (hk : ∀ n', h.next ≤ n' → K (.str (vb (x * 2))) { h with next := n' }) : Wc tree.getF 6 [.int .i64 x] h K := by
  have hD := dropEnts_under hu
  refine Wc.mk' (fn := c6) (by kernel_rfl) rfl ?_
  refine W.seq ?_
  refine W.reg ?_
  generalize e : stepR _ _ _ = r
  simp (disch := omega) [stepR, evalOps, evalOper, evalE, evalP, evalL, evalOpnd, nth, setNth, COp.cls, COp.isStore, CVal.isUndef, CVal.whole, CVal.cells, CHeap.put, CHeap.get, CHeap.set, wantedC, getEnt, setEnt, partOf, writeBack, evalBin, evalInt, evalStr, blockMost, initVar, descOf, List.take, List.drop, CVal.lenOf, CVal.isStr, CVal.bare, CVal.strip, CVal.flat, endsC, resultsC, oneOrTuple, finishC, cut, fillCells, setCells, szOf, szOf_desc, elems, bytesOf, evalAppend, fillElems, mkElem, List.replicate, sy_nbeq, sy_neqF, sy_leT, sy_leF, sy_setEnt_setEnt, dropped, sy_wrap64, dropEnts, dropCells, sizeMost, c6] at e
  subst e
  try dsimp only
  refine W.seq ?_
  refine W.region (Wo.upto 2 rfl ?_)
  generalize e : evalOps _ _ _ _ _ = r
  simp (disch := omega) [stepR, evalOps, evalOper, evalE, evalP, evalL, evalOpnd, nth, setNth, COp.cls, COp.isStore, CVal.isUndef, CVal.whole, CVal.cells, CHeap.put, CHeap.get, CHeap.set, wantedC, getEnt, setEnt, partOf, writeBack, evalBin, evalInt, evalStr, blockMost, initVar, descOf, List.take, List.drop, CVal.lenOf, CVal.isStr, CVal.bare, CVal.strip, CVal.flat, endsC, resultsC, oneOrTuple, finishC, cut, fillCells, setCells, szOf, szOf_desc, elems, bytesOf, evalAppend, fillElems, mkElem, List.replicate, sy_nbeq, sy_neqF, sy_leT, sy_leF, sy_setEnt_setEnt, dropped, sy_wrap64, dropEnts, dropCells, sizeMost, hD, sy_wrapu64, Int.tmod_eq_emod_of_nonneg] at e
  subst e
  try dsimp only
  refine Wo.call ?_
  refine to_pos x hx _ (by repeat (first | exact hu.le (by (try dsimp only); omega) | exact hu.set.le (by (try dsimp only); omega) | refine Under.cons (by (try dsimp only); omega) ?_ | exact Under.nil)) _ fun n1 hn1 => ⟨rfl, ?_⟩
  try dsimp only at hn1
  refine Wo.call ?_
  refine put_spec (x * 2) (by omega) _ (by repeat (first | exact hu.le (by (try dsimp only); omega) | exact hu.set.le (by (try dsimp only); omega) | refine Under.cons (by (try dsimp only); omega) ?_ | exact Under.nil)) _ fun n2 hn2 => ⟨rfl, ?_⟩
  try dsimp only at hn2
  refine Wo.rest ?_
  generalize e : evalOps _ _ _ _ _ = r
  simp (disch := omega) [stepR, evalOps, evalOper, evalE, evalP, evalL, evalOpnd, nth, setNth, COp.cls, COp.isStore, CVal.isUndef, CVal.whole, CVal.cells, CHeap.put, CHeap.get, CHeap.set, wantedC, getEnt, setEnt, partOf, writeBack, evalBin, evalInt, evalStr, blockMost, initVar, descOf, List.take, List.drop, CVal.lenOf, CVal.isStr, CVal.bare, CVal.strip, CVal.flat, endsC, resultsC, oneOrTuple, finishC, cut, fillCells, setCells, szOf, szOf_desc, elems, bytesOf, evalAppend, fillElems, mkElem, List.replicate, sy_nbeq, sy_neqF, sy_leT, sy_leF, sy_setEnt_setEnt, dropped, sy_wrap64, dropEnts, dropCells, sizeMost, hD, sy_wrapu64, Int.tmod_eq_emod_of_nonneg] at e
  subst e
  try dsimp only
  refine W.ret ?_
  try simp only [outOf, thenW_ret]
  refine endW.intro rfl ?_
  generalize e : endsC _ _ _ = r
  simp (disch := omega) [stepR, evalOps, evalOper, evalE, evalP, evalL, evalOpnd, nth, setNth, COp.cls, COp.isStore, CVal.isUndef, CVal.whole, CVal.cells, CHeap.put, CHeap.get, CHeap.set, wantedC, getEnt, setEnt, partOf, writeBack, evalBin, evalInt, evalStr, blockMost, initVar, descOf, List.take, List.drop, CVal.lenOf, CVal.isStr, CVal.bare, CVal.strip, CVal.flat, endsC, resultsC, oneOrTuple, finishC, cut, fillCells, setCells, szOf, szOf_desc, elems, bytesOf, evalAppend, fillElems, mkElem, List.replicate, sy_nbeq, sy_neqF, sy_leT, sy_leF, sy_setEnt_setEnt, dropped, sy_wrap64, dropEnts, dropCells, sizeMost, c6, hD, sy_wrapu64, Int.tmod_eq_emod_of_nonneg] at e
  subst e
  try dsimp only
  exact hk _ (by omega)

theorem and_even (x : Nat) (hx : x < 4611686018427387904) : evalBits .and .u64 ((x : Int) * 2) 1 = some (.int .u64 0) := by
  have e1 : (BitVec.ofInt 64 ((x : Int) * 2)).toNat = x * 2 := by
    rw [show (x : Int) * 2 = ((x * 2 : Nat) : Int) by push_cast; rfl, BitVec.ofInt_natCast, BitVec.toNat_ofNat]; exact Nat.mod_eq_of_lt (by omega)
  have e2 : (BitVec.ofInt 64 1).toNat = 1 := rfl
  have e3 : (BitVec.ofInt 64 ((x : Int) * 2) &&& BitVec.ofInt 64 1).toNat = 0 := by
    rw [BitVec.toNat_and, e1, e2, Nat.and_one_is_mod]; omega
  show some (CVal.int .u64 (IntKind.u64.wrap ((BitVec.ofInt 64 ((x : Int) * 2) &&& BitVec.ofInt 64 1).toNat))) = _
  rw [e3]; rfl
theorem xor_zero (x : Nat) (hx : x < 4611686018427387904) : evalBits .xor .u64 (x : Int) 0 = some (.int .u64 x) := by
  have e1 : (BitVec.ofInt 64 (x : Int) ^^^ BitVec.ofInt 64 0).toNat = x := by
    rw [show BitVec.ofInt 64 0 = 0#64 from rfl, BitVec.xor_zero, BitVec.ofInt_natCast, BitVec.toNat_ofNat]; exact Nat.mod_eq_of_lt (by omega)
  show some (CVal.int .u64 (IntKind.u64.wrap ((BitVec.ofInt 64 (x : Int) ^^^ BitVec.ofInt 64 0).toNat))) = _
  rw [e1, sy_wrapu64 (by omega) (by omega)]

theorem from_pos (x : Nat) (hx : x < 4611686018427387904) (h : CHeap) (hu : Under h.ents h.next) (K : CVal → CHeap → Prop) (hk : ∀ n', h.next ≤ n' → K (.int .u64 x) { h with next := n' }) : Wc tree.getF 23 [.int .i64 8, .int .u64 ((x * 2 : Nat) : Int)] h K := by
  have hD := dropEnts_under hu
  have ha := and_even x hx
  have hx0 := xor_zero x hx
  have hs : ((x : Int) * 2).fdiv 2 = x := by rw [Int.fdiv_eq_ediv_of_nonneg _ (by omega)]; omega
  have hw0 : IntKind.u64.wrap 0 = 0 := rfl
  have hb : IntKind.u64.bits = 64 := rfl
  push_cast
  refine Wc.mk' (fn := c23) (by kernel_rfl) rfl ?_
  refine W.seq ?_
  refine W.reg ?_
  generalize e : stepR _ _ _ = r
  simp (disch := omega) [stepR, evalOps, evalOper, evalE, evalP, evalL, evalOpnd, nth, setNth, COp.cls, COp.isStore, CVal.isUndef, CVal.whole, CVal.cells, CHeap.put, CHeap.get, CHeap.set, wantedC, getEnt, setEnt, partOf, writeBack, evalBin, evalInt, evalStr, blockMost, initVar, descOf, List.take, List.drop, CVal.lenOf, CVal.isStr, CVal.bare, CVal.strip, CVal.flat, endsC, resultsC, oneOrTuple, finishC, cut, fillCells, setCells, szOf, szOf_desc, elems, bytesOf, evalAppend, fillElems, mkElem, List.replicate, sy_nbeq, sy_neqF, sy_leT, sy_leF, sy_setEnt_setEnt, dropped, sy_wrap64, dropEnts, dropCells, sizeMost, c23] at e
  subst e
  try dsimp only
  refine W.seq ?_
  refine W.seq ?_
  refine W.reg ?_
  generalize e : stepR _ _ _ = r
  simp (disch := omega) [stepR, evalOps, evalOper, evalE, evalP, evalL, evalOpnd, nth, setNth, COp.cls, COp.isStore, CVal.isUndef, CVal.whole, CVal.cells, CHeap.put, CHeap.get, CHeap.set, wantedC, getEnt, setEnt, partOf, writeBack, evalBin, evalInt, evalStr, blockMost, initVar, descOf, List.take, List.drop, CVal.lenOf, CVal.isStr, CVal.bare, CVal.strip, CVal.flat, endsC, resultsC, oneOrTuple, finishC, cut, fillCells, setCells, szOf, szOf_desc, elems, bytesOf, evalAppend, fillElems, mkElem, List.replicate, sy_nbeq, sy_neqF, sy_leT, sy_leF, sy_setEnt_setEnt, dropped, sy_wrap64, dropEnts, dropCells, sizeMost, hD, sy_wrapu64, Int.tmod_eq_emod_of_nonneg, ha, hx0, hs, hw0, hb] at e
  subst e
  try dsimp only
  refine W.block ?_
  refine W.seq ?_
  refine W.seq ?_
  refine W.reg ?_
  generalize e : stepR _ _ _ = r
  simp (disch := omega) [stepR, evalOps, evalOper, evalE, evalP, evalL, evalOpnd, nth, setNth, COp.cls, COp.isStore, CVal.isUndef, CVal.whole, CVal.cells, CHeap.put, CHeap.get, CHeap.set, wantedC, getEnt, setEnt, partOf, writeBack, evalBin, evalInt, evalStr, blockMost, initVar, descOf, List.take, List.drop, CVal.lenOf, CVal.isStr, CVal.bare, CVal.strip, CVal.flat, endsC, resultsC, oneOrTuple, finishC, cut, fillCells, setCells, szOf, szOf_desc, elems, bytesOf, evalAppend, fillElems, mkElem, List.replicate, sy_nbeq, sy_neqF, sy_leT, sy_leF, sy_setEnt_setEnt, dropped, sy_wrap64, dropEnts, dropCells, sizeMost, hD, sy_wrapu64, Int.tmod_eq_emod_of_nonneg, ha, hx0, hs, hw0, hb] at e
  subst e
  try dsimp only
  refine W.cond_false rfl ?_
  refine W.seq ?_
  refine W.reg ?_
  generalize e : stepR _ _ _ = r
  simp (disch := omega) [stepR, evalOps, evalOper, evalE, evalP, evalL, evalOpnd, nth, setNth, COp.cls, COp.isStore, CVal.isUndef, CVal.whole, CVal.cells, CHeap.put, CHeap.get, CHeap.set, wantedC, getEnt, setEnt, partOf, writeBack, evalBin, evalInt, evalStr, blockMost, initVar, descOf, List.take, List.drop, CVal.lenOf, CVal.isStr, CVal.bare, CVal.strip, CVal.flat, endsC, resultsC, oneOrTuple, finishC, cut, fillCells, setCells, szOf, szOf_desc, elems, bytesOf, evalAppend, fillElems, mkElem, List.replicate, sy_nbeq, sy_neqF, sy_leT, sy_leF, sy_setEnt_setEnt, dropped, sy_wrap64, dropEnts, dropCells, sizeMost, hD, sy_wrapu64, Int.tmod_eq_emod_of_nonneg, ha, hx0, hs, hw0, hb] at e
  subst e
  try dsimp only
  refine W.cond_false rfl ?_
  refine W.reg ?_
  generalize e : stepR _ _ _ = r
  simp (disch := omega) [stepR, evalOps, evalOper, evalE, evalP, evalL, evalOpnd, nth, setNth, COp.cls, COp.isStore, CVal.isUndef, CVal.whole, CVal.cells, CHeap.put, CHeap.get, CHeap.set, wantedC, getEnt, setEnt, partOf, writeBack, evalBin, evalInt, evalStr, blockMost, initVar, descOf, List.take, List.drop, CVal.lenOf, CVal.isStr, CVal.bare, CVal.strip, CVal.flat, endsC, resultsC, oneOrTuple, finishC, cut, fillCells, setCells, szOf, szOf_desc, elems, bytesOf, evalAppend, fillElems, mkElem, List.replicate, sy_nbeq, sy_neqF, sy_leT, sy_leF, sy_setEnt_setEnt, dropped, sy_wrap64, dropEnts, dropCells, sizeMost, hD, sy_wrapu64, Int.tmod_eq_emod_of_nonneg, ha, hx0, hs, hw0, hb] at e
  subst e
  try dsimp only
  refine W.cond_false rfl ?_
  refine W.seq ?_
  refine W.seq ?_
  refine W.reg ?_
  generalize e : stepR _ _ _ = r
  simp (disch := omega) [stepR, evalOps, evalOper, evalE, evalP, evalL, evalOpnd, nth, setNth, COp.cls, COp.isStore, CVal.isUndef, CVal.whole, CVal.cells, CHeap.put, CHeap.get, CHeap.set, wantedC, getEnt, setEnt, partOf, writeBack, evalBin, evalInt, evalStr, blockMost, initVar, descOf, List.take, List.drop, CVal.lenOf, CVal.isStr, CVal.bare, CVal.strip, CVal.flat, endsC, resultsC, oneOrTuple, finishC, cut, fillCells, setCells, szOf, szOf_desc, elems, bytesOf, evalAppend, fillElems, mkElem, List.replicate, sy_nbeq, sy_neqF, sy_leT, sy_leF, sy_setEnt_setEnt, dropped, sy_wrap64, dropEnts, dropCells, sizeMost, hD, sy_wrapu64, Int.tmod_eq_emod_of_nonneg, ha, hx0, hs, hw0, hb] at e
  subst e
  try dsimp only
  refine W.cond_false rfl ?_
  refine W.seq ?_
  refine W.reg ?_
  generalize e : stepR _ _ _ = r
  simp (disch := omega) [stepR, evalOps, evalOper, evalE, evalP, evalL, evalOpnd, nth, setNth, COp.cls, COp.isStore, CVal.isUndef, CVal.whole, CVal.cells, CHeap.put, CHeap.get, CHeap.set, wantedC, getEnt, setEnt, partOf, writeBack, evalBin, evalInt, evalStr, blockMost, initVar, descOf, List.take, List.drop, CVal.lenOf, CVal.isStr, CVal.bare, CVal.strip, CVal.flat, endsC, resultsC, oneOrTuple, finishC, cut, fillCells, setCells, szOf, szOf_desc, elems, bytesOf, evalAppend, fillElems, mkElem, List.replicate, sy_nbeq, sy_neqF, sy_leT, sy_leF, sy_setEnt_setEnt, dropped, sy_wrap64, dropEnts, dropCells, sizeMost, hD, sy_wrapu64, Int.tmod_eq_emod_of_nonneg, ha, hx0, hs, hw0, hb] at e
  subst e
  try dsimp only
  refine W.cond_false rfl ?_
  refine W.reg ?_
  generalize e : stepR _ _ _ = r
  simp (disch := omega) [stepR, evalOps, evalOper, evalE, evalP, evalL, evalOpnd, nth, setNth, COp.cls, COp.isStore, CVal.isUndef, CVal.whole, CVal.cells, CHeap.put, CHeap.get, CHeap.set, wantedC, getEnt, setEnt, partOf, writeBack, evalBin, evalInt, evalStr, blockMost, initVar, descOf, List.take, List.drop, CVal.lenOf, CVal.isStr, CVal.bare, CVal.strip, CVal.flat, endsC, resultsC, oneOrTuple, finishC, cut, fillCells, setCells, szOf, szOf_desc, elems, bytesOf, evalAppend, fillElems, mkElem, List.replicate, sy_nbeq, sy_neqF, sy_leT, sy_leF, sy_setEnt_setEnt, dropped, sy_wrap64, dropEnts, dropCells, sizeMost, hD, sy_wrapu64, Int.tmod_eq_emod_of_nonneg, ha, hx0, hs, hw0, hb] at e
  subst e
  try dsimp only
  refine W.cond_false rfl ?_
  refine W.seq ?_
  refine W.reg ?_
  generalize e : stepR _ _ _ = r
  simp (disch := omega) [stepR, evalOps, evalOper, evalE, evalP, evalL, evalOpnd, nth, setNth, COp.cls, COp.isStore, CVal.isUndef, CVal.whole, CVal.cells, CHeap.put, CHeap.get, CHeap.set, wantedC, getEnt, setEnt, partOf, writeBack, evalBin, evalInt, evalStr, blockMost, initVar, descOf, List.take, List.drop, CVal.lenOf, CVal.isStr, CVal.bare, CVal.strip, CVal.flat, endsC, resultsC, oneOrTuple, finishC, cut, fillCells, setCells, szOf, szOf_desc, elems, bytesOf, evalAppend, fillElems, mkElem, List.replicate, sy_nbeq, sy_neqF, sy_leT, sy_leF, sy_setEnt_setEnt, dropped, sy_wrap64, dropEnts, dropCells, sizeMost, hD, sy_wrapu64, Int.tmod_eq_emod_of_nonneg, ha, hx0, hs, hw0, hb] at e
  subst e
  try dsimp only
  refine W.cond_false rfl ?_
  refine W.seq ?_
  refine W.reg ?_
  generalize e : stepR _ _ _ = r
  simp (disch := omega) [stepR, evalOps, evalOper, evalE, evalP, evalL, evalOpnd, nth, setNth, COp.cls, COp.isStore, CVal.isUndef, CVal.whole, CVal.cells, CHeap.put, CHeap.get, CHeap.set, wantedC, getEnt, setEnt, partOf, writeBack, evalBin, evalInt, evalStr, blockMost, initVar, descOf, List.take, List.drop, CVal.lenOf, CVal.isStr, CVal.bare, CVal.strip, CVal.flat, endsC, resultsC, oneOrTuple, finishC, cut, fillCells, setCells, szOf, szOf_desc, elems, bytesOf, evalAppend, fillElems, mkElem, List.replicate, sy_nbeq, sy_neqF, sy_leT, sy_leF, sy_setEnt_setEnt, dropped, sy_wrap64, dropEnts, dropCells, sizeMost, hD, sy_wrapu64, Int.tmod_eq_emod_of_nonneg, ha, hx0, hs, hw0, hb] at e
  subst e
  try dsimp only
  refine W.cond_false rfl ?_
  refine W.seq ?_
  refine W.reg ?_
  generalize e : stepR _ _ _ = r
  simp (disch := omega) [stepR, evalOps, evalOper, evalE, evalP, evalL, evalOpnd, nth, setNth, COp.cls, COp.isStore, CVal.isUndef, CVal.whole, CVal.cells, CHeap.put, CHeap.get, CHeap.set, wantedC, getEnt, setEnt, partOf, writeBack, evalBin, evalInt, evalStr, blockMost, initVar, descOf, List.take, List.drop, CVal.lenOf, CVal.isStr, CVal.bare, CVal.strip, CVal.flat, endsC, resultsC, oneOrTuple, finishC, cut, fillCells, setCells, szOf, szOf_desc, elems, bytesOf, evalAppend, fillElems, mkElem, List.replicate, sy_nbeq, sy_neqF, sy_leT, sy_leF, sy_setEnt_setEnt, dropped, sy_wrap64, dropEnts, dropCells, sizeMost, hD, sy_wrapu64, Int.tmod_eq_emod_of_nonneg, ha, hx0, hs, hw0, hb] at e
  subst e
  try dsimp only
  refine W.cond_true rfl ?_
  refine W.seq ?_
  refine W.reg ?_
  generalize e : stepR _ _ _ = r
  simp (disch := omega) [stepR, evalOps, evalOper, evalE, evalP, evalL, evalOpnd, nth, setNth, COp.cls, COp.isStore, CVal.isUndef, CVal.whole, CVal.cells, CHeap.put, CHeap.get, CHeap.set, wantedC, getEnt, setEnt, partOf, writeBack, evalBin, evalInt, evalStr, blockMost, initVar, descOf, List.take, List.drop, CVal.lenOf, CVal.isStr, CVal.bare, CVal.strip, CVal.flat, endsC, resultsC, oneOrTuple, finishC, cut, fillCells, setCells, szOf, szOf_desc, elems, bytesOf, evalAppend, fillElems, mkElem, List.replicate, sy_nbeq, sy_neqF, sy_leT, sy_leF, sy_setEnt_setEnt, dropped, sy_wrap64, dropEnts, dropCells, sizeMost, hD, sy_wrapu64, Int.tmod_eq_emod_of_nonneg, ha, hx0, hs, hw0, hb] at e
  subst e
  try dsimp only
  refine W.ret ?_
  try simp only [outOf, thenW_ret]
  refine endW.intro rfl ?_
  generalize e : endsC _ _ _ = r
  simp (disch := omega) [stepR, evalOps, evalOper, evalE, evalP, evalL, evalOpnd, nth, setNth, COp.cls, COp.isStore, CVal.isUndef, CVal.whole, CVal.cells, CHeap.put, CHeap.get, CHeap.set, wantedC, getEnt, setEnt, partOf, writeBack, evalBin, evalInt, evalStr, blockMost, initVar, descOf, List.take, List.drop, CVal.lenOf, CVal.isStr, CVal.bare, CVal.strip, CVal.flat, endsC, resultsC, oneOrTuple, finishC, cut, fillCells, setCells, szOf, szOf_desc, elems, bytesOf, evalAppend, fillElems, mkElem, List.replicate, sy_nbeq, sy_neqF, sy_leT, sy_leF, sy_setEnt_setEnt, dropped, sy_wrap64, dropEnts, dropCells, sizeMost, c23, hD, sy_wrapu64, Int.tmod_eq_emod_of_nonneg, ha, hx0, hs, hw0, hb] at e
  subst e
  try dsimp only
  exact hk _ (by omega)

/-- The decoder as it lies in memory. -/
abbrev dec (ts : CVal) (b : List UInt8) (at_ n deep e : Int) : CObj := .cells [ts, .str b, .int .i64 at_, .int .i64 n, .int .i64 deep, .int .i64 e]

theorem fails_no (p d : Nat) (e : Int) (h : CHeap) (hu : Under h.ents h.next) (K : CVal → CHeap → Prop) (hk : ∀ n', h.next ≤ n' → K (.tup []) { h with next := n' }) : Wc tree.getF 14 [.ptr p d 0, .bool false, .int .i64 e] h K := by
  have hD := dropEnts_under hu
  refine Wc.mk' (fn := c14) (by kernel_rfl) rfl ?_
  refine W.seq ?_
  refine W.reg ?_
  generalize e : stepR _ _ _ = r
  simp (disch := omega) [stepR, evalOps, evalOper, evalE, evalP, evalL, evalOpnd, nth, setNth, COp.cls, COp.isStore, CVal.isUndef, CVal.whole, CVal.cells, CHeap.put, CHeap.get, CHeap.set, wantedC, getEnt, setEnt, partOf, writeBack, evalBin, evalInt, evalStr, blockMost, initVar, descOf, List.take, List.drop, CVal.lenOf, CVal.isStr, CVal.bare, CVal.strip, CVal.flat, endsC, resultsC, oneOrTuple, finishC, cut, fillCells, setCells, szOf, szOf_desc, elems, bytesOf, evalAppend, fillElems, mkElem, List.replicate, sy_nbeq, sy_neqF, sy_leT, sy_leF, sy_setEnt_setEnt, dropped, sy_wrap64, dropEnts, dropCells, sizeMost, c14] at e
  subst e
  try dsimp only
  refine W.cond_false rfl (W.skip ?_)
  refine ⟨by simp, rfl, ?_⟩
  generalize e : endsC _ _ _ = r
  simp (disch := omega) [stepR, evalOps, evalOper, evalE, evalP, evalL, evalOpnd, nth, setNth, COp.cls, COp.isStore, CVal.isUndef, CVal.whole, CVal.cells, CHeap.put, CHeap.get, CHeap.set, wantedC, getEnt, setEnt, partOf, writeBack, evalBin, evalInt, evalStr, blockMost, initVar, descOf, List.take, List.drop, CVal.lenOf, CVal.isStr, CVal.bare, CVal.strip, CVal.flat, endsC, resultsC, oneOrTuple, finishC, cut, fillCells, setCells, szOf, szOf_desc, elems, bytesOf, evalAppend, fillElems, mkElem, List.replicate, sy_nbeq, sy_neqF, sy_leT, sy_leF, sy_setEnt_setEnt, dropped, sy_wrap64, dropEnts, dropCells, sizeMost, c14, hD, sy_wrapu64, Int.tmod_eq_emod_of_nonneg] at e
  subst e
  try dsimp only
  exact hk _ (by omega)

theorem fails_yes (p d : Nat) (ts : CVal) (b : List UInt8) (a n deep e : Int) (h : CHeap) (hg : getEnt h.ents p = some (dec ts b a n deep 0)) (hu : Under h.ents h.next) (hp : p < h.next) (K : CVal → CHeap → Prop)
    (hk : ∀ n', h.next ≤ n' → K (.tup []) { h with ents := setEnt h.ents p (dec ts b a n deep e), next := n' }) : Wc tree.getF 14 [.ptr p d 0, .bool true, .int .i64 e] h K := by
  have hD : ∀ x, dropEnts (setEnt h.ents p x) h.next = setEnt h.ents p x := fun x => dropEnts_under hu.set
  refine Wc.mk' (fn := c14) (by kernel_rfl) rfl ?_
  refine W.seq ?_
  refine W.reg ?_
  generalize e : stepR _ _ _ = r
  simp (disch := omega) [stepR, evalOps, evalOper, evalE, evalP, evalL, evalOpnd, nth, setNth, COp.cls, COp.isStore, CVal.isUndef, CVal.whole, CVal.cells, CHeap.put, CHeap.get, CHeap.set, wantedC, getEnt, setEnt, partOf, writeBack, evalBin, evalInt, evalStr, blockMost, initVar, descOf, List.take, List.drop, CVal.lenOf, CVal.isStr, CVal.bare, CVal.strip, CVal.flat, endsC, resultsC, oneOrTuple, finishC, cut, fillCells, setCells, szOf, szOf_desc, elems, bytesOf, evalAppend, fillElems, mkElem, List.replicate, sy_nbeq, sy_neqF, sy_leT, sy_leF, sy_setEnt_setEnt, dropped, sy_wrap64, dropEnts, dropCells, sizeMost, c14, hg, dec] at e
  subst e
  try dsimp only
  refine W.cond_true rfl ?_
  refine W.reg ?_
  generalize e : stepR _ _ _ = r
  simp (disch := omega) [stepR, evalOps, evalOper, evalE, evalP, evalL, evalOpnd, nth, setNth, COp.cls, COp.isStore, CVal.isUndef, CVal.whole, CVal.cells, CHeap.put, CHeap.get, CHeap.set, wantedC, getEnt, setEnt, partOf, writeBack, evalBin, evalInt, evalStr, blockMost, initVar, descOf, List.take, List.drop, CVal.lenOf, CVal.isStr, CVal.bare, CVal.strip, CVal.flat, endsC, resultsC, oneOrTuple, finishC, cut, fillCells, setCells, szOf, szOf_desc, elems, bytesOf, evalAppend, fillElems, mkElem, List.replicate, sy_nbeq, sy_neqF, sy_leT, sy_leF, sy_setEnt_setEnt, dropped, sy_wrap64, dropEnts, dropCells, sizeMost, hg, dec, hD, sy_wrapu64, Int.tmod_eq_emod_of_nonneg] at e
  subst e
  try dsimp only
  refine ⟨by simp, rfl, ?_⟩
  generalize e : endsC _ _ _ = r
  simp (disch := omega) [stepR, evalOps, evalOper, evalE, evalP, evalL, evalOpnd, nth, setNth, COp.cls, COp.isStore, CVal.isUndef, CVal.whole, CVal.cells, CHeap.put, CHeap.get, CHeap.set, wantedC, getEnt, setEnt, partOf, writeBack, evalBin, evalInt, evalStr, blockMost, initVar, descOf, List.take, List.drop, CVal.lenOf, CVal.isStr, CVal.bare, CVal.strip, CVal.flat, endsC, resultsC, oneOrTuple, finishC, cut, fillCells, setCells, szOf, szOf_desc, elems, bytesOf, evalAppend, fillElems, mkElem, List.replicate, sy_nbeq, sy_neqF, sy_leT, sy_leF, sy_setEnt_setEnt, dropped, sy_wrap64, dropEnts, dropCells, sizeMost, c14, hD, sy_wrapu64, Int.tmod_eq_emod_of_nonneg] at e
  subst e
  try dsimp only
  exact hk _ (by omega)

theorem rlong_pos (x : Nat) (hx : x < 4611686018427387904) (p d : Nat) (ts : CVal) (b rest : List UInt8) (a : Nat) (n deep : Int) (h : CHeap) (hg : getEnt h.ents p = some (dec ts b a n deep 0)) (hu : Under h.ents h.next) (hp : p < h.next)
    (hb : b.drop a = vb (x * 2) ++ rest) (hl : b.length < 1073741824) (K : CVal → CHeap → Prop)
    (hk : ∀ n', h.next ≤ n' → K (.int .i64 x) { h with ents := setEnt h.ents p (dec ts b ((a + (vb (x * 2)).length : Nat) : Int) n deep 0), next := n' }) : Wc tree.getF 16 [.ptr p d 0] h K := by
  have hD : ∀ x, dropEnts (setEnt h.ents p x) h.next = setEnt h.ents p x := fun x => dropEnts_under hu.set
  have hlen : a < b.length := by
    rcases Nat.lt_or_ge a b.length with h1 | h1
    · exact h1
    · rw [List.drop_eq_nil_of_le h1] at hb
      have := vb_ne (x * 2)
      simp at hb
      exact absurd hb.1.symm (fun e => this e.symm)
  have hvl := vb_len_lt (x * 2) (by omega)
  have hle : a ≤ b.length := by omega
  push_cast at hk
  refine Wc.mk' (fn := c16) (by kernel_rfl) rfl ?_
  refine W.seq ?_
  refine W.reg ?_
  generalize e : stepR _ _ _ = r
  simp (disch := omega) [stepR, evalOps, evalOper, evalE, evalP, evalL, evalOpnd, nth, setNth, COp.cls, COp.isStore, CVal.isUndef, CVal.whole, CVal.cells, CHeap.put, CHeap.get, CHeap.set, wantedC, getEnt, setEnt, partOf, writeBack, evalBin, evalInt, evalStr, blockMost, initVar, descOf, List.take, List.drop, CVal.lenOf, CVal.isStr, CVal.bare, CVal.strip, CVal.flat, endsC, resultsC, oneOrTuple, finishC, cut, fillCells, setCells, szOf, szOf_desc, elems, bytesOf, evalAppend, fillElems, mkElem, List.replicate, sy_nbeq, sy_neqF, sy_leT, sy_leF, sy_setEnt_setEnt, dropped, sy_wrap64, dropEnts, dropCells, sizeMost, c16] at e
  subst e
  try dsimp only
  refine W.seq ?_
  refine W.region (Wo.upto 9 rfl ?_)
  generalize e : evalOps _ _ _ _ _ = r
  simp (disch := omega) [stepR, evalOps, evalOper, evalE, evalP, evalL, evalOpnd, nth, setNth, COp.cls, COp.isStore, CVal.isUndef, CVal.whole, CVal.cells, CHeap.put, CHeap.get, CHeap.set, wantedC, getEnt, setEnt, partOf, writeBack, evalBin, evalInt, evalStr, blockMost, initVar, descOf, List.take, List.drop, CVal.lenOf, CVal.isStr, CVal.bare, CVal.strip, CVal.flat, endsC, resultsC, oneOrTuple, finishC, cut, fillCells, setCells, szOf, szOf_desc, elems, bytesOf, evalAppend, fillElems, mkElem, List.replicate, sy_nbeq, sy_neqF, sy_leT, sy_leF, sy_setEnt_setEnt, dropped, sy_wrap64, dropEnts, dropCells, sizeMost, hg, dec, evalSlc, optBound, hle, hb, hD, sy_wrapu64, Int.tmod_eq_emod_of_nonneg] at e
  subst e
  try dsimp only
  refine Wo.call ?_
  refine varint_spec (x * 2) (by omega) rest _ (by repeat (first | exact hu.le (by (try dsimp only); omega) | exact hu.set.le (by (try dsimp only); omega) | refine Under.cons (by (try dsimp only); omega) ?_ | exact Under.nil)) _ fun n1 hn1 => ⟨rfl, ?_⟩
  try dsimp only at hn1
  refine Wo.rest ?_
  generalize e : evalOps _ _ _ _ _ = r
  simp (disch := omega) [stepR, evalOps, evalOper, evalE, evalP, evalL, evalOpnd, nth, setNth, COp.cls, COp.isStore, CVal.isUndef, CVal.whole, CVal.cells, CHeap.put, CHeap.get, CHeap.set, wantedC, getEnt, setEnt, partOf, writeBack, evalBin, evalInt, evalStr, blockMost, initVar, descOf, List.take, List.drop, CVal.lenOf, CVal.isStr, CVal.bare, CVal.strip, CVal.flat, endsC, resultsC, oneOrTuple, finishC, cut, fillCells, setCells, szOf, szOf_desc, elems, bytesOf, evalAppend, fillElems, mkElem, List.replicate, sy_nbeq, sy_neqF, sy_leT, sy_leF, sy_setEnt_setEnt, dropped, sy_wrap64, dropEnts, dropCells, sizeMost, hg, dec, evalSlc, optBound, hle, hb, hD, sy_wrapu64, Int.tmod_eq_emod_of_nonneg] at e
  subst e
  try dsimp only
  refine W.seq ?_
  refine W.seq ?_
  refine W.region (Wo.upto 4 rfl ?_)
  generalize e : evalOps _ _ _ _ _ = r
  simp (disch := omega) [stepR, evalOps, evalOper, evalE, evalP, evalL, evalOpnd, nth, setNth, COp.cls, COp.isStore, CVal.isUndef, CVal.whole, CVal.cells, CHeap.put, CHeap.get, CHeap.set, wantedC, getEnt, setEnt, partOf, writeBack, evalBin, evalInt, evalStr, blockMost, initVar, descOf, List.take, List.drop, CVal.lenOf, CVal.isStr, CVal.bare, CVal.strip, CVal.flat, endsC, resultsC, oneOrTuple, finishC, cut, fillCells, setCells, szOf, szOf_desc, elems, bytesOf, evalAppend, fillElems, mkElem, List.replicate, sy_nbeq, sy_neqF, sy_leT, sy_leF, sy_setEnt_setEnt, dropped, sy_wrap64, dropEnts, dropCells, sizeMost, hg, dec, evalSlc, optBound, hle, hb, hD, sy_wrapu64, Int.tmod_eq_emod_of_nonneg] at e
  subst e
  try dsimp only
  refine Wo.call ?_
  refine fails_no p d _ _ (by repeat (first | exact hu.le (by (try dsimp only); omega) | exact hu.set.le (by (try dsimp only); omega) | refine Under.cons (by (try dsimp only); omega) ?_ | exact Under.nil)) _ fun n2 hn2 => ⟨rfl, ?_⟩
  try dsimp only at hn2
  refine Wo.rest ?_
  generalize e : evalOps _ _ _ _ _ = r
  simp (disch := omega) [stepR, evalOps, evalOper, evalE, evalP, evalL, evalOpnd, nth, setNth, COp.cls, COp.isStore, CVal.isUndef, CVal.whole, CVal.cells, CHeap.put, CHeap.get, CHeap.set, wantedC, getEnt, setEnt, partOf, writeBack, evalBin, evalInt, evalStr, blockMost, initVar, descOf, List.take, List.drop, CVal.lenOf, CVal.isStr, CVal.bare, CVal.strip, CVal.flat, endsC, resultsC, oneOrTuple, finishC, cut, fillCells, setCells, szOf, szOf_desc, elems, bytesOf, evalAppend, fillElems, mkElem, List.replicate, sy_nbeq, sy_neqF, sy_leT, sy_leF, sy_setEnt_setEnt, dropped, sy_wrap64, dropEnts, dropCells, sizeMost, hg, dec, evalSlc, optBound, hle, hb, hD, sy_wrapu64, Int.tmod_eq_emod_of_nonneg] at e
  subst e
  try dsimp only
  refine W.seq ?_
  refine W.reg ?_
  generalize e : stepR _ _ _ = r
  simp (disch := omega) [stepR, evalOps, evalOper, evalE, evalP, evalL, evalOpnd, nth, setNth, COp.cls, COp.isStore, CVal.isUndef, CVal.whole, CVal.cells, CHeap.put, CHeap.get, CHeap.set, wantedC, getEnt, setEnt, partOf, writeBack, evalBin, evalInt, evalStr, blockMost, initVar, descOf, List.take, List.drop, CVal.lenOf, CVal.isStr, CVal.bare, CVal.strip, CVal.flat, endsC, resultsC, oneOrTuple, finishC, cut, fillCells, setCells, szOf, szOf_desc, elems, bytesOf, evalAppend, fillElems, mkElem, List.replicate, sy_nbeq, sy_neqF, sy_leT, sy_leF, sy_setEnt_setEnt, dropped, sy_wrap64, dropEnts, dropCells, sizeMost, hg, dec, evalSlc, optBound, hle, hb, hD, sy_wrapu64, Int.tmod_eq_emod_of_nonneg] at e
  subst e
  try dsimp only
  refine W.cond_false rfl (W.skip ?_)
  refine W.seq ?_
  refine W.reg ?_
  generalize e : stepR _ _ _ = r
  simp (disch := omega) [stepR, evalOps, evalOper, evalE, evalP, evalL, evalOpnd, nth, setNth, COp.cls, COp.isStore, CVal.isUndef, CVal.whole, CVal.cells, CHeap.put, CHeap.get, CHeap.set, wantedC, getEnt, setEnt, partOf, writeBack, evalBin, evalInt, evalStr, blockMost, initVar, descOf, List.take, List.drop, CVal.lenOf, CVal.isStr, CVal.bare, CVal.strip, CVal.flat, endsC, resultsC, oneOrTuple, finishC, cut, fillCells, setCells, szOf, szOf_desc, elems, bytesOf, evalAppend, fillElems, mkElem, List.replicate, sy_nbeq, sy_neqF, sy_leT, sy_leF, sy_setEnt_setEnt, dropped, sy_wrap64, dropEnts, dropCells, sizeMost, hg, dec, evalSlc, optBound, hle, hb, hD, sy_wrapu64, Int.tmod_eq_emod_of_nonneg] at e
  subst e
  try dsimp only
  refine W.seq ?_
  refine W.region (Wo.upto 1 rfl ?_)
  generalize e : evalOps _ _ _ _ _ = r
  simp (disch := omega) [stepR, evalOps, evalOper, evalE, evalP, evalL, evalOpnd, nth, setNth, COp.cls, COp.isStore, CVal.isUndef, CVal.whole, CVal.cells, CHeap.put, CHeap.get, CHeap.set, wantedC, getEnt, setEnt, partOf, writeBack, evalBin, evalInt, evalStr, blockMost, initVar, descOf, List.take, List.drop, CVal.lenOf, CVal.isStr, CVal.bare, CVal.strip, CVal.flat, endsC, resultsC, oneOrTuple, finishC, cut, fillCells, setCells, szOf, szOf_desc, elems, bytesOf, evalAppend, fillElems, mkElem, List.replicate, sy_nbeq, sy_neqF, sy_leT, sy_leF, sy_setEnt_setEnt, dropped, sy_wrap64, dropEnts, dropCells, sizeMost, hg, dec, evalSlc, optBound, hle, hb, hD, sy_wrapu64, Int.tmod_eq_emod_of_nonneg] at e
  subst e
  try dsimp only
  refine Wo.call ?_
  refine from_pos x hx _ (by repeat (first | exact hu.le (by (try dsimp only); omega) | exact hu.set.le (by (try dsimp only); omega) | refine Under.cons (by (try dsimp only); omega) ?_ | exact Under.nil)) _ fun n3 hn3 => ⟨rfl, ?_⟩
  try dsimp only at hn3
  refine Wo.rest ?_
  generalize e : evalOps _ _ _ _ _ = r
  simp (disch := omega) [stepR, evalOps, evalOper, evalE, evalP, evalL, evalOpnd, nth, setNth, COp.cls, COp.isStore, CVal.isUndef, CVal.whole, CVal.cells, CHeap.put, CHeap.get, CHeap.set, wantedC, getEnt, setEnt, partOf, writeBack, evalBin, evalInt, evalStr, blockMost, initVar, descOf, List.take, List.drop, CVal.lenOf, CVal.isStr, CVal.bare, CVal.strip, CVal.flat, endsC, resultsC, oneOrTuple, finishC, cut, fillCells, setCells, szOf, szOf_desc, elems, bytesOf, evalAppend, fillElems, mkElem, List.replicate, sy_nbeq, sy_neqF, sy_leT, sy_leF, sy_setEnt_setEnt, dropped, sy_wrap64, dropEnts, dropCells, sizeMost, hg, dec, evalSlc, optBound, hle, hb, hD, sy_wrapu64, Int.tmod_eq_emod_of_nonneg] at e
  subst e
  try dsimp only
  refine W.ret ?_
  try simp only [outOf, thenW_ret]
  refine endW.intro rfl ?_
  generalize e : endsC _ _ _ = r
  simp (disch := omega) [stepR, evalOps, evalOper, evalE, evalP, evalL, evalOpnd, nth, setNth, COp.cls, COp.isStore, CVal.isUndef, CVal.whole, CVal.cells, CHeap.put, CHeap.get, CHeap.set, wantedC, getEnt, setEnt, partOf, writeBack, evalBin, evalInt, evalStr, blockMost, initVar, descOf, List.take, List.drop, CVal.lenOf, CVal.isStr, CVal.bare, CVal.strip, CVal.flat, endsC, resultsC, oneOrTuple, finishC, cut, fillCells, setCells, szOf, szOf_desc, elems, bytesOf, evalAppend, fillElems, mkElem, List.replicate, sy_nbeq, sy_neqF, sy_leT, sy_leF, sy_setEnt_setEnt, dropped, sy_wrap64, dropEnts, dropCells, sizeMost, c16, hg, dec, evalSlc, optBound, hle, hb, hD, sy_wrapu64, Int.tmod_eq_emod_of_nonneg] at e
  subst e
  try dsimp only
  exact hk _ (by omega)

abbrev zV : List CVal := [.int .u64 0, .str [], .nils, .nils, .int .i64 0]
abbrev tyA (k items : Int) (nm : List UInt8) (fs br : CVal) : CVal := .agg [.int .i64 k, .str nm, .nils, .int .i64 items, .nils, .bool false, .str [], .int .i64 0, fs, br]
abbrev TS : CVal := .imm .full 10 [tyA 12 1 [] .nils .nils, tyA 1 0 [] .nils .nils, tyA 9 0 [82] (.imm .full 9 [.agg [.str [97], .nils, .int .i64 3, .bool false, .int .i64 0, .int .i64 0, .str [], .nils, .nils]]) .nils, tyA 14 0 [] .nils (.imm .full 1 [.int .i64 1, .int .i64 2])]

/-- At a value's end the depth goes down again. -/
theorem undeep (q p d d2 : Nat) (ts : CVal) (b : List UInt8) (a n deep e : Int) (h : CHeap) (hq : getEnt h.ents q = some (.cells [.ptr p d 0])) (hg : getEnt h.ents p = some (dec ts b a n deep e)) (hu : Under h.ents h.next) (hp : p < h.next) (hd : 0 ≤ deep) (hd2 : deep ≤ 1000) (K : CHeap → Prop)
    (hk : ∀ n', h.next ≤ n' → K { h with ents := setEnt h.ents p (dec ts b a n (deep - 1) e), next := n' }) : Wd tree.getF [(13, [.ptr q d2 0])] h K := by
  have hD : ∀ x, dropEnts (setEnt h.ents p x) h.next = setEnt h.ents p x := fun x => dropEnts_under hu.set
  refine Wd.cons (fn := c13) (by kernel_rfl) rfl ?_
  refine W.reg ?_
  generalize e : stepR _ _ _ = r
  simp (disch := omega) [stepR, evalOps, evalOper, evalE, evalP, evalL, evalOpnd, nth, setNth, COp.cls, COp.isStore, CVal.isUndef, CVal.whole, CVal.cells, CHeap.put, CHeap.get, CHeap.set, wantedC, getEnt, setEnt, partOf, writeBack, evalBin, evalInt, evalStr, blockMost, initVar, descOf, List.take, List.drop, CVal.lenOf, CVal.isStr, CVal.bare, CVal.strip, CVal.flat, endsC, resultsC, oneOrTuple, finishC, cut, fillCells, setCells, szOf, szOf_desc, elems, bytesOf, evalAppend, fillElems, mkElem, List.replicate, sy_nbeq, sy_neqF, sy_leT, sy_leF, sy_setEnt_setEnt, dropped, sy_wrap64, dropEnts, dropCells, sizeMost, c13, hq, hg, dec, hD, sy_wrapu64, Int.tmod_eq_emod_of_nonneg] at e
  subst e
  try dsimp only
  refine ⟨by simp, rfl, ?_⟩
  generalize e : endsC _ _ _ = r
  simp (disch := omega) [stepR, evalOps, evalOper, evalE, evalP, evalL, evalOpnd, nth, setNth, COp.cls, COp.isStore, CVal.isUndef, CVal.whole, CVal.cells, CHeap.put, CHeap.get, CHeap.set, wantedC, getEnt, setEnt, partOf, writeBack, evalBin, evalInt, evalStr, blockMost, initVar, descOf, List.take, List.drop, CVal.lenOf, CVal.isStr, CVal.bare, CVal.strip, CVal.flat, endsC, resultsC, oneOrTuple, finishC, cut, fillCells, setCells, szOf, szOf_desc, elems, bytesOf, evalAppend, fillElems, mkElem, List.replicate, sy_nbeq, sy_neqF, sy_leT, sy_leF, sy_setEnt_setEnt, dropped, sy_wrap64, dropEnts, dropCells, sizeMost, c13, hq, hg, dec, hD, sy_wrapu64, Int.tmod_eq_emod_of_nonneg] at e
  subst e
  try dsimp only
  exact Wd.nil (hk _ (by omega))

theorem value_null (p d : Nat) (b : List UInt8) (a n deep : Int) (h : CHeap) (hg : getEnt h.ents p = some (dec TS b a n deep 0)) (hu : Under h.ents h.next) (hp : p < h.next) (hn0 : 0 ≤ n) (hn : n ≤ 2000) (hd : 0 ≤ deep) (hd2 : deep < 20) (K : CVal → CHeap → Prop)
    (hok : n + 1 ≤ 2000 → ∀ n', h.next ≤ n' → K (.agg zV) { h with ents := setEnt h.ents p (dec TS b a (n + 1) deep 0), next := n' })
    (hno : 2000 < n + 1 → ∀ n', h.next ≤ n' → K (.agg zV) { h with ents := setEnt h.ents p (dec TS b a (n + 1) deep 3), next := n' }) : Wc tree.getF 10 [.ptr p d 0, .int .i64 1] h K := by
  have hD : ∀ x, dropEnts (setEnt h.ents p x) h.next = setEnt h.ents p x := fun x => dropEnts_under hu.set
  have hG : ∀ x, getEnt (setEnt h.ents p x) p = some x := fun x => sy_getEnt_setEnt hg
  have hN : ∀ q, h.next ≤ q → getEnt h.ents q = none := fun q hq => getEnt_under hu hq
  have hN2 : ∀ x q, h.next ≤ q → getEnt (setEnt h.ents p x) q = none := fun x q hq => getEnt_under hu.set hq
  have hdd : ¬ (20 < deep + 1) := by omega
  refine Wc.mkD (fn := c10) (by kernel_rfl) rfl ?_
  refine W.seq ?_
  refine W.reg ?_
  generalize e : stepR _ _ _ = r
  simp (disch := omega) [stepR, evalOps, evalOper, evalE, evalP, evalL, evalOpnd, nth, setNth, COp.cls, COp.isStore, CVal.isUndef, CVal.whole, CVal.cells, CHeap.put, CHeap.get, CHeap.set, wantedC, getEnt, setEnt, partOf, writeBack, evalBin, evalInt, evalStr, blockMost, initVar, descOf, List.take, List.drop, CVal.lenOf, CVal.isStr, CVal.bare, CVal.strip, CVal.flat, endsC, resultsC, oneOrTuple, finishC, cut, fillCells, setCells, szOf, szOf_desc, elems, bytesOf, evalAppend, fillElems, mkElem, List.replicate, sy_nbeq, sy_neqF, sy_leT, sy_leF, sy_setEnt_setEnt, dropped, sy_wrap64, dropEnts, dropCells, sizeMost, c10, hg, hG, hN, hN2, dec, hdd, hD, sy_wrapu64, Int.tmod_eq_emod_of_nonneg] at e
  subst e
  try dsimp only
  refine W.seq ?_
  refine W.reg ?_
  generalize e : stepR _ _ _ = r
  simp (disch := omega) [stepR, evalOps, evalOper, evalE, evalP, evalL, evalOpnd, nth, setNth, COp.cls, COp.isStore, CVal.isUndef, CVal.whole, CVal.cells, CHeap.put, CHeap.get, CHeap.set, wantedC, getEnt, setEnt, partOf, writeBack, evalBin, evalInt, evalStr, blockMost, initVar, descOf, List.take, List.drop, CVal.lenOf, CVal.isStr, CVal.bare, CVal.strip, CVal.flat, endsC, resultsC, oneOrTuple, finishC, cut, fillCells, setCells, szOf, szOf_desc, elems, bytesOf, evalAppend, fillElems, mkElem, List.replicate, sy_nbeq, sy_neqF, sy_leT, sy_leF, sy_setEnt_setEnt, dropped, sy_wrap64, dropEnts, dropCells, sizeMost, hg, hG, hN, hN2, dec, hdd, hD, sy_wrapu64, Int.tmod_eq_emod_of_nonneg] at e
  subst e
  try dsimp only
  refine W.seq ?_
  refine W.reg ?_
  generalize e : stepR _ _ _ = r
  simp (disch := omega) [stepR, evalOps, evalOper, evalE, evalP, evalL, evalOpnd, nth, setNth, COp.cls, COp.isStore, CVal.isUndef, CVal.whole, CVal.cells, CHeap.put, CHeap.get, CHeap.set, wantedC, getEnt, setEnt, partOf, writeBack, evalBin, evalInt, evalStr, blockMost, initVar, descOf, List.take, List.drop, CVal.lenOf, CVal.isStr, CVal.bare, CVal.strip, CVal.flat, endsC, resultsC, oneOrTuple, finishC, cut, fillCells, setCells, szOf, szOf_desc, elems, bytesOf, evalAppend, fillElems, mkElem, List.replicate, sy_nbeq, sy_neqF, sy_leT, sy_leF, sy_setEnt_setEnt, dropped, sy_wrap64, dropEnts, dropCells, sizeMost, hg, hG, hN, hN2, dec, hdd, hD, sy_wrapu64, Int.tmod_eq_emod_of_nonneg] at e
  subst e
  try dsimp only
  refine W.seq ?_
  refine W.reg ?_
  generalize e : stepR _ _ _ = r
  simp (disch := omega) [stepR, evalOps, evalOper, evalE, evalP, evalL, evalOpnd, nth, setNth, COp.cls, COp.isStore, CVal.isUndef, CVal.whole, CVal.cells, CHeap.put, CHeap.get, CHeap.set, wantedC, getEnt, setEnt, partOf, writeBack, evalBin, evalInt, evalStr, blockMost, initVar, descOf, List.take, List.drop, CVal.lenOf, CVal.isStr, CVal.bare, CVal.strip, CVal.flat, endsC, resultsC, oneOrTuple, finishC, cut, fillCells, setCells, szOf, szOf_desc, elems, bytesOf, evalAppend, fillElems, mkElem, List.replicate, sy_nbeq, sy_neqF, sy_leT, sy_leF, sy_setEnt_setEnt, dropped, sy_wrap64, dropEnts, dropCells, sizeMost, hg, hG, hN, hN2, dec, hdd, hD, sy_wrapu64, Int.tmod_eq_emod_of_nonneg] at e
  subst e
  try dsimp only
  by_cases hf : n + 1 ≤ 2000
  · have hc : ¬ (2000 < n + 1) := by omega
    refine W.seq ?_
    refine W.seq ?_
    refine W.region (Wo.upto 13 rfl ?_)
    generalize e : evalOps _ _ _ _ _ = r
    simp (disch := omega) [stepR, evalOps, evalOper, evalE, evalP, evalL, evalOpnd, nth, setNth, COp.cls, COp.isStore, CVal.isUndef, CVal.whole, CVal.cells, CHeap.put, CHeap.get, CHeap.set, wantedC, getEnt, setEnt, partOf, writeBack, evalBin, evalInt, evalStr, blockMost, initVar, descOf, List.take, List.drop, CVal.lenOf, CVal.isStr, CVal.bare, CVal.strip, CVal.flat, endsC, resultsC, oneOrTuple, finishC, cut, fillCells, setCells, szOf, szOf_desc, elems, bytesOf, evalAppend, fillElems, mkElem, List.replicate, sy_nbeq, sy_neqF, sy_leT, sy_leF, sy_setEnt_setEnt, dropped, sy_wrap64, dropEnts, dropCells, sizeMost, hg, hG, hN, hN2, dec, hdd, hD, sy_wrapu64, Int.tmod_eq_emod_of_nonneg, hc] at e
    subst e
    try dsimp only
    refine Wo.call ?_
    refine fails_no p d _ _ (by repeat (first | exact hu.le (by (try dsimp only); omega) | exact hu.set.le (by (try dsimp only); omega) | refine Under.cons (by (try dsimp only); omega) ?_ | exact Under.nil)) _ fun n1 hn1 => ⟨rfl, ?_⟩
    try dsimp only at hn1
    refine Wo.rest ?_
    generalize e : evalOps _ _ _ _ _ = r
    simp (disch := omega) [stepR, evalOps, evalOper, evalE, evalP, evalL, evalOpnd, nth, setNth, COp.cls, COp.isStore, CVal.isUndef, CVal.whole, CVal.cells, CHeap.put, CHeap.get, CHeap.set, wantedC, getEnt, setEnt, partOf, writeBack, evalBin, evalInt, evalStr, blockMost, initVar, descOf, List.take, List.drop, CVal.lenOf, CVal.isStr, CVal.bare, CVal.strip, CVal.flat, endsC, resultsC, oneOrTuple, finishC, cut, fillCells, setCells, szOf, szOf_desc, elems, bytesOf, evalAppend, fillElems, mkElem, List.replicate, sy_nbeq, sy_neqF, sy_leT, sy_leF, sy_setEnt_setEnt, dropped, sy_wrap64, dropEnts, dropCells, sizeMost, hg, hG, hN, hN2, dec, hdd, hD, sy_wrapu64, Int.tmod_eq_emod_of_nonneg] at e
    subst e
    try dsimp only
    refine W.seq ?_
    refine W.reg ?_
    generalize e : stepR _ _ _ = r
    simp (disch := omega) [stepR, evalOps, evalOper, evalE, evalP, evalL, evalOpnd, nth, setNth, COp.cls, COp.isStore, CVal.isUndef, CVal.whole, CVal.cells, CHeap.put, CHeap.get, CHeap.set, wantedC, getEnt, setEnt, partOf, writeBack, evalBin, evalInt, evalStr, blockMost, initVar, descOf, List.take, List.drop, CVal.lenOf, CVal.isStr, CVal.bare, CVal.strip, CVal.flat, endsC, resultsC, oneOrTuple, finishC, cut, fillCells, setCells, szOf, szOf_desc, elems, bytesOf, evalAppend, fillElems, mkElem, List.replicate, sy_nbeq, sy_neqF, sy_leT, sy_leF, sy_setEnt_setEnt, dropped, sy_wrap64, dropEnts, dropCells, sizeMost, hg, hG, hN, hN2, dec, hdd, hD, sy_wrapu64, Int.tmod_eq_emod_of_nonneg] at e
    subst e
    try dsimp only
    refine W.cond_false rfl (W.skip ?_)
    refine W.seq ?_
    refine W.reg ?_
    generalize e : stepR _ _ _ = r
    simp (disch := omega) [stepR, evalOps, evalOper, evalE, evalP, evalL, evalOpnd, nth, setNth, COp.cls, COp.isStore, CVal.isUndef, CVal.whole, CVal.cells, CHeap.put, CHeap.get, CHeap.set, wantedC, getEnt, setEnt, partOf, writeBack, evalBin, evalInt, evalStr, blockMost, initVar, descOf, List.take, List.drop, CVal.lenOf, CVal.isStr, CVal.bare, CVal.strip, CVal.flat, endsC, resultsC, oneOrTuple, finishC, cut, fillCells, setCells, szOf, szOf_desc, elems, bytesOf, evalAppend, fillElems, mkElem, List.replicate, sy_nbeq, sy_neqF, sy_leT, sy_leF, sy_setEnt_setEnt, dropped, sy_wrap64, dropEnts, dropCells, sizeMost, hg, hG, hN, hN2, dec, hdd, hD, sy_wrapu64, Int.tmod_eq_emod_of_nonneg] at e
    subst e
    try dsimp only
    refine W.seq ?_
    refine W.seq ?_
    refine W.reg ?_
    generalize e : stepR _ _ _ = r
    simp (disch := omega) [stepR, evalOps, evalOper, evalE, evalP, evalL, evalOpnd, nth, setNth, COp.cls, COp.isStore, CVal.isUndef, CVal.whole, CVal.cells, CHeap.put, CHeap.get, CHeap.set, wantedC, getEnt, setEnt, partOf, writeBack, evalBin, evalInt, evalStr, blockMost, initVar, descOf, List.take, List.drop, CVal.lenOf, CVal.isStr, CVal.bare, CVal.strip, CVal.flat, endsC, resultsC, oneOrTuple, finishC, cut, fillCells, setCells, szOf, szOf_desc, elems, bytesOf, evalAppend, fillElems, mkElem, List.replicate, sy_nbeq, sy_neqF, sy_leT, sy_leF, sy_setEnt_setEnt, dropped, sy_wrap64, dropEnts, dropCells, sizeMost, hg, hG, hN, hN2, dec, hdd, hD, sy_wrapu64, Int.tmod_eq_emod_of_nonneg] at e
    subst e
    try dsimp only
    refine W.block ?_
    refine W.seq ?_
    refine W.reg ?_
    generalize e : stepR _ _ _ = r
    simp (disch := omega) [stepR, evalOps, evalOper, evalE, evalP, evalL, evalOpnd, nth, setNth, COp.cls, COp.isStore, CVal.isUndef, CVal.whole, CVal.cells, CHeap.put, CHeap.get, CHeap.set, wantedC, getEnt, setEnt, partOf, writeBack, evalBin, evalInt, evalStr, blockMost, initVar, descOf, List.take, List.drop, CVal.lenOf, CVal.isStr, CVal.bare, CVal.strip, CVal.flat, endsC, resultsC, oneOrTuple, finishC, cut, fillCells, setCells, szOf, szOf_desc, elems, bytesOf, evalAppend, fillElems, mkElem, List.replicate, sy_nbeq, sy_neqF, sy_leT, sy_leF, sy_setEnt_setEnt, dropped, sy_wrap64, dropEnts, dropCells, sizeMost, hg, hG, hN, hN2, dec, hdd, hD, sy_wrapu64, Int.tmod_eq_emod_of_nonneg] at e
    subst e
    try dsimp only
    refine W.cond_false rfl ?_
    refine W.seq ?_
    refine W.seq ?_
    refine W.reg ?_
    generalize e : stepR _ _ _ = r
    simp (disch := omega) [stepR, evalOps, evalOper, evalE, evalP, evalL, evalOpnd, nth, setNth, COp.cls, COp.isStore, CVal.isUndef, CVal.whole, CVal.cells, CHeap.put, CHeap.get, CHeap.set, wantedC, getEnt, setEnt, partOf, writeBack, evalBin, evalInt, evalStr, blockMost, initVar, descOf, List.take, List.drop, CVal.lenOf, CVal.isStr, CVal.bare, CVal.strip, CVal.flat, endsC, resultsC, oneOrTuple, finishC, cut, fillCells, setCells, szOf, szOf_desc, elems, bytesOf, evalAppend, fillElems, mkElem, List.replicate, sy_nbeq, sy_neqF, sy_leT, sy_leF, sy_setEnt_setEnt, dropped, sy_wrap64, dropEnts, dropCells, sizeMost, hg, hG, hN, hN2, dec, hdd, hD, sy_wrapu64, Int.tmod_eq_emod_of_nonneg] at e
    subst e
    try dsimp only
    refine W.cond_false rfl ?_
    refine W.reg ?_
    generalize e : stepR _ _ _ = r
    simp (disch := omega) [stepR, evalOps, evalOper, evalE, evalP, evalL, evalOpnd, nth, setNth, COp.cls, COp.isStore, CVal.isUndef, CVal.whole, CVal.cells, CHeap.put, CHeap.get, CHeap.set, wantedC, getEnt, setEnt, partOf, writeBack, evalBin, evalInt, evalStr, blockMost, initVar, descOf, List.take, List.drop, CVal.lenOf, CVal.isStr, CVal.bare, CVal.strip, CVal.flat, endsC, resultsC, oneOrTuple, finishC, cut, fillCells, setCells, szOf, szOf_desc, elems, bytesOf, evalAppend, fillElems, mkElem, List.replicate, sy_nbeq, sy_neqF, sy_leT, sy_leF, sy_setEnt_setEnt, dropped, sy_wrap64, dropEnts, dropCells, sizeMost, hg, hG, hN, hN2, dec, hdd, hD, sy_wrapu64, Int.tmod_eq_emod_of_nonneg] at e
    subst e
    try dsimp only
    refine W.cond_false rfl ?_
    refine W.seq ?_
    refine W.reg ?_
    generalize e : stepR _ _ _ = r
    simp (disch := omega) [stepR, evalOps, evalOper, evalE, evalP, evalL, evalOpnd, nth, setNth, COp.cls, COp.isStore, CVal.isUndef, CVal.whole, CVal.cells, CHeap.put, CHeap.get, CHeap.set, wantedC, getEnt, setEnt, partOf, writeBack, evalBin, evalInt, evalStr, blockMost, initVar, descOf, List.take, List.drop, CVal.lenOf, CVal.isStr, CVal.bare, CVal.strip, CVal.flat, endsC, resultsC, oneOrTuple, finishC, cut, fillCells, setCells, szOf, szOf_desc, elems, bytesOf, evalAppend, fillElems, mkElem, List.replicate, sy_nbeq, sy_neqF, sy_leT, sy_leF, sy_setEnt_setEnt, dropped, sy_wrap64, dropEnts, dropCells, sizeMost, hg, hG, hN, hN2, dec, hdd, hD, sy_wrapu64, Int.tmod_eq_emod_of_nonneg] at e
    subst e
    try dsimp only
    refine W.cond_false rfl ?_
    refine W.seq ?_
    refine W.reg ?_
    generalize e : stepR _ _ _ = r
    simp (disch := omega) [stepR, evalOps, evalOper, evalE, evalP, evalL, evalOpnd, nth, setNth, COp.cls, COp.isStore, CVal.isUndef, CVal.whole, CVal.cells, CHeap.put, CHeap.get, CHeap.set, wantedC, getEnt, setEnt, partOf, writeBack, evalBin, evalInt, evalStr, blockMost, initVar, descOf, List.take, List.drop, CVal.lenOf, CVal.isStr, CVal.bare, CVal.strip, CVal.flat, endsC, resultsC, oneOrTuple, finishC, cut, fillCells, setCells, szOf, szOf_desc, elems, bytesOf, evalAppend, fillElems, mkElem, List.replicate, sy_nbeq, sy_neqF, sy_leT, sy_leF, sy_setEnt_setEnt, dropped, sy_wrap64, dropEnts, dropCells, sizeMost, hg, hG, hN, hN2, dec, hdd, hD, sy_wrapu64, Int.tmod_eq_emod_of_nonneg] at e
    subst e
    try dsimp only
    refine W.cond_false rfl ?_
    refine W.seq ?_
    refine W.reg ?_
    generalize e : stepR _ _ _ = r
    simp (disch := omega) [stepR, evalOps, evalOper, evalE, evalP, evalL, evalOpnd, nth, setNth, COp.cls, COp.isStore, CVal.isUndef, CVal.whole, CVal.cells, CHeap.put, CHeap.get, CHeap.set, wantedC, getEnt, setEnt, partOf, writeBack, evalBin, evalInt, evalStr, blockMost, initVar, descOf, List.take, List.drop, CVal.lenOf, CVal.isStr, CVal.bare, CVal.strip, CVal.flat, endsC, resultsC, oneOrTuple, finishC, cut, fillCells, setCells, szOf, szOf_desc, elems, bytesOf, evalAppend, fillElems, mkElem, List.replicate, sy_nbeq, sy_neqF, sy_leT, sy_leF, sy_setEnt_setEnt, dropped, sy_wrap64, dropEnts, dropCells, sizeMost, hg, hG, hN, hN2, dec, hdd, hD, sy_wrapu64, Int.tmod_eq_emod_of_nonneg] at e
    subst e
    try dsimp only
    refine W.cond_false rfl ?_
    refine W.seq ?_
    refine W.reg ?_
    generalize e : stepR _ _ _ = r
    simp (disch := omega) [stepR, evalOps, evalOper, evalE, evalP, evalL, evalOpnd, nth, setNth, COp.cls, COp.isStore, CVal.isUndef, CVal.whole, CVal.cells, CHeap.put, CHeap.get, CHeap.set, wantedC, getEnt, setEnt, partOf, writeBack, evalBin, evalInt, evalStr, blockMost, initVar, descOf, List.take, List.drop, CVal.lenOf, CVal.isStr, CVal.bare, CVal.strip, CVal.flat, endsC, resultsC, oneOrTuple, finishC, cut, fillCells, setCells, szOf, szOf_desc, elems, bytesOf, evalAppend, fillElems, mkElem, List.replicate, sy_nbeq, sy_neqF, sy_leT, sy_leF, sy_setEnt_setEnt, dropped, sy_wrap64, dropEnts, dropCells, sizeMost, hg, hG, hN, hN2, dec, hdd, hD, sy_wrapu64, Int.tmod_eq_emod_of_nonneg] at e
    subst e
    try dsimp only
    refine W.cond_false rfl ?_
    refine W.seq ?_
    refine W.reg ?_
    generalize e : stepR _ _ _ = r
    simp (disch := omega) [stepR, evalOps, evalOper, evalE, evalP, evalL, evalOpnd, nth, setNth, COp.cls, COp.isStore, CVal.isUndef, CVal.whole, CVal.cells, CHeap.put, CHeap.get, CHeap.set, wantedC, getEnt, setEnt, partOf, writeBack, evalBin, evalInt, evalStr, blockMost, initVar, descOf, List.take, List.drop, CVal.lenOf, CVal.isStr, CVal.bare, CVal.strip, CVal.flat, endsC, resultsC, oneOrTuple, finishC, cut, fillCells, setCells, szOf, szOf_desc, elems, bytesOf, evalAppend, fillElems, mkElem, List.replicate, sy_nbeq, sy_neqF, sy_leT, sy_leF, sy_setEnt_setEnt, dropped, sy_wrap64, dropEnts, dropCells, sizeMost, hg, hG, hN, hN2, dec, hdd, hD, sy_wrapu64, Int.tmod_eq_emod_of_nonneg] at e
    subst e
    try dsimp only
    refine W.cond_false rfl ?_
    refine W.seq ?_
    refine W.reg ?_
    generalize e : stepR _ _ _ = r
    simp (disch := omega) [stepR, evalOps, evalOper, evalE, evalP, evalL, evalOpnd, nth, setNth, COp.cls, COp.isStore, CVal.isUndef, CVal.whole, CVal.cells, CHeap.put, CHeap.get, CHeap.set, wantedC, getEnt, setEnt, partOf, writeBack, evalBin, evalInt, evalStr, blockMost, initVar, descOf, List.take, List.drop, CVal.lenOf, CVal.isStr, CVal.bare, CVal.strip, CVal.flat, endsC, resultsC, oneOrTuple, finishC, cut, fillCells, setCells, szOf, szOf_desc, elems, bytesOf, evalAppend, fillElems, mkElem, List.replicate, sy_nbeq, sy_neqF, sy_leT, sy_leF, sy_setEnt_setEnt, dropped, sy_wrap64, dropEnts, dropCells, sizeMost, hg, hG, hN, hN2, dec, hdd, hD, sy_wrapu64, Int.tmod_eq_emod_of_nonneg] at e
    subst e
    try dsimp only
    refine W.cond_false rfl ?_
    refine W.seq ?_
    refine W.reg ?_
    generalize e : stepR _ _ _ = r
    simp (disch := omega) [stepR, evalOps, evalOper, evalE, evalP, evalL, evalOpnd, nth, setNth, COp.cls, COp.isStore, CVal.isUndef, CVal.whole, CVal.cells, CHeap.put, CHeap.get, CHeap.set, wantedC, getEnt, setEnt, partOf, writeBack, evalBin, evalInt, evalStr, blockMost, initVar, descOf, List.take, List.drop, CVal.lenOf, CVal.isStr, CVal.bare, CVal.strip, CVal.flat, endsC, resultsC, oneOrTuple, finishC, cut, fillCells, setCells, szOf, szOf_desc, elems, bytesOf, evalAppend, fillElems, mkElem, List.replicate, sy_nbeq, sy_neqF, sy_leT, sy_leF, sy_setEnt_setEnt, dropped, sy_wrap64, dropEnts, dropCells, sizeMost, hg, hG, hN, hN2, dec, hdd, hD, sy_wrapu64, Int.tmod_eq_emod_of_nonneg] at e
    subst e
    try dsimp only
    refine W.cond_false rfl ?_
    refine W.seq ?_
    refine W.reg ?_
    generalize e : stepR _ _ _ = r
    simp (disch := omega) [stepR, evalOps, evalOper, evalE, evalP, evalL, evalOpnd, nth, setNth, COp.cls, COp.isStore, CVal.isUndef, CVal.whole, CVal.cells, CHeap.put, CHeap.get, CHeap.set, wantedC, getEnt, setEnt, partOf, writeBack, evalBin, evalInt, evalStr, blockMost, initVar, descOf, List.take, List.drop, CVal.lenOf, CVal.isStr, CVal.bare, CVal.strip, CVal.flat, endsC, resultsC, oneOrTuple, finishC, cut, fillCells, setCells, szOf, szOf_desc, elems, bytesOf, evalAppend, fillElems, mkElem, List.replicate, sy_nbeq, sy_neqF, sy_leT, sy_leF, sy_setEnt_setEnt, dropped, sy_wrap64, dropEnts, dropCells, sizeMost, hg, hG, hN, hN2, dec, hdd, hD, sy_wrapu64, Int.tmod_eq_emod_of_nonneg] at e
    subst e
    try dsimp only
    refine W.cond_false rfl ?_
    refine W.seq ?_
    refine W.seq ?_
    refine W.reg ?_
    generalize e : stepR _ _ _ = r
    simp (disch := omega) [stepR, evalOps, evalOper, evalE, evalP, evalL, evalOpnd, nth, setNth, COp.cls, COp.isStore, CVal.isUndef, CVal.whole, CVal.cells, CHeap.put, CHeap.get, CHeap.set, wantedC, getEnt, setEnt, partOf, writeBack, evalBin, evalInt, evalStr, blockMost, initVar, descOf, List.take, List.drop, CVal.lenOf, CVal.isStr, CVal.bare, CVal.strip, CVal.flat, endsC, resultsC, oneOrTuple, finishC, cut, fillCells, setCells, szOf, szOf_desc, elems, bytesOf, evalAppend, fillElems, mkElem, List.replicate, sy_nbeq, sy_neqF, sy_leT, sy_leF, sy_setEnt_setEnt, dropped, sy_wrap64, dropEnts, dropCells, sizeMost, hg, hG, hN, hN2, dec, hdd, hD, sy_wrapu64, Int.tmod_eq_emod_of_nonneg] at e
    subst e
    try dsimp only
    refine W.cond_false rfl ?_
    refine W.reg ?_
    generalize e : stepR _ _ _ = r
    simp (disch := omega) [stepR, evalOps, evalOper, evalE, evalP, evalL, evalOpnd, nth, setNth, COp.cls, COp.isStore, CVal.isUndef, CVal.whole, CVal.cells, CHeap.put, CHeap.get, CHeap.set, wantedC, getEnt, setEnt, partOf, writeBack, evalBin, evalInt, evalStr, blockMost, initVar, descOf, List.take, List.drop, CVal.lenOf, CVal.isStr, CVal.bare, CVal.strip, CVal.flat, endsC, resultsC, oneOrTuple, finishC, cut, fillCells, setCells, szOf, szOf_desc, elems, bytesOf, evalAppend, fillElems, mkElem, List.replicate, sy_nbeq, sy_neqF, sy_leT, sy_leF, sy_setEnt_setEnt, dropped, sy_wrap64, dropEnts, dropCells, sizeMost, hg, hG, hN, hN2, dec, hdd, hD, sy_wrapu64, Int.tmod_eq_emod_of_nonneg] at e
    subst e
    try dsimp only
    refine W.cond_false rfl ?_
    refine W.skip ?_
    show thenW _ _ _ .normal _
    refine thenW_normal ▸ ?_
    refine W.seq ?_
    refine W.reg ?_
    generalize e : stepR _ _ _ = r
    simp (disch := omega) [stepR, evalOps, evalOper, evalE, evalP, evalL, evalOpnd, nth, setNth, COp.cls, COp.isStore, CVal.isUndef, CVal.whole, CVal.cells, CHeap.put, CHeap.get, CHeap.set, wantedC, getEnt, setEnt, partOf, writeBack, evalBin, evalInt, evalStr, blockMost, initVar, descOf, List.take, List.drop, CVal.lenOf, CVal.isStr, CVal.bare, CVal.strip, CVal.flat, endsC, resultsC, oneOrTuple, finishC, cut, fillCells, setCells, szOf, szOf_desc, elems, bytesOf, evalAppend, fillElems, mkElem, List.replicate, sy_nbeq, sy_neqF, sy_leT, sy_leF, sy_setEnt_setEnt, dropped, sy_wrap64, dropEnts, dropCells, sizeMost, hg, hG, hN, hN2, dec, hdd, hD, sy_wrapu64, Int.tmod_eq_emod_of_nonneg] at e
    subst e
    try dsimp only
    refine W.ret ?_
    try simp only [outOf, thenW_ret]
    refine endWD.intro ?_
    try dsimp only
    refine undeep (h.next) p d _ TS b a (n + 1) (deep + 1) 0 _ (by simp (disch := omega) [getEnt, setEnt, sy_nbeq, sy_neqF, sy_setEnt_setEnt, hg, hG, dec]) (by simp (disch := omega) [getEnt, setEnt, sy_nbeq, sy_neqF, sy_setEnt_setEnt, hg, hG, dec]) (by repeat (first | exact hu.le (by (try dsimp only); omega) | exact hu.set.le (by (try dsimp only); omega) | refine Under.cons (by (try dsimp only); omega) ?_ | exact Under.nil)) (by dsimp only; omega) (by omega) (by omega) _ fun n2 hn2 => ?_
    try dsimp only at hn2
    generalize e : endsC _ _ _ = r
    simp (disch := omega) [stepR, evalOps, evalOper, evalE, evalP, evalL, evalOpnd, nth, setNth, COp.cls, COp.isStore, CVal.isUndef, CVal.whole, CVal.cells, CHeap.put, CHeap.get, CHeap.set, wantedC, getEnt, setEnt, partOf, writeBack, evalBin, evalInt, evalStr, blockMost, initVar, descOf, List.take, List.drop, CVal.lenOf, CVal.isStr, CVal.bare, CVal.strip, CVal.flat, endsC, resultsC, oneOrTuple, finishC, cut, fillCells, setCells, szOf, szOf_desc, elems, bytesOf, evalAppend, fillElems, mkElem, List.replicate, sy_nbeq, sy_neqF, sy_leT, sy_leF, sy_setEnt_setEnt, dropped, sy_wrap64, dropEnts, dropCells, sizeMost, c10, hg, hG, hN, hN2, dec, hdd, hD, sy_wrapu64, Int.tmod_eq_emod_of_nonneg] at e
    subst e
    try dsimp only
  
    exact hok (by omega) _ (by omega)
  · have hc : 2000 < n + 1 := by omega
    refine W.seq ?_
    refine W.seq ?_
    refine W.region (Wo.upto 13 rfl ?_)
    generalize e : evalOps _ _ _ _ _ = r
    simp (disch := omega) [stepR, evalOps, evalOper, evalE, evalP, evalL, evalOpnd, nth, setNth, COp.cls, COp.isStore, CVal.isUndef, CVal.whole, CVal.cells, CHeap.put, CHeap.get, CHeap.set, wantedC, getEnt, setEnt, partOf, writeBack, evalBin, evalInt, evalStr, blockMost, initVar, descOf, List.take, List.drop, CVal.lenOf, CVal.isStr, CVal.bare, CVal.strip, CVal.flat, endsC, resultsC, oneOrTuple, finishC, cut, fillCells, setCells, szOf, szOf_desc, elems, bytesOf, evalAppend, fillElems, mkElem, List.replicate, sy_nbeq, sy_neqF, sy_leT, sy_leF, sy_setEnt_setEnt, dropped, sy_wrap64, dropEnts, dropCells, sizeMost, hg, hG, hN, hN2, dec, hdd, hD, sy_wrapu64, Int.tmod_eq_emod_of_nonneg, hc] at e
    subst e
    try dsimp only
    refine Wo.call ?_
    refine fails_yes p d TS b a (n + 1) (deep + 1) 3 _ (by simp (disch := omega) [getEnt, setEnt, sy_nbeq, sy_neqF, sy_setEnt_setEnt, hg, hG, dec]) (by repeat (first | exact hu.le (by (try dsimp only); omega) | exact hu.set.le (by (try dsimp only); omega) | refine Under.cons (by (try dsimp only); omega) ?_ | exact Under.nil)) (by dsimp only; omega) _ fun n1 hn1 => ⟨rfl, ?_⟩
    try dsimp only at hn1
    refine Wo.rest ?_
    generalize e : evalOps _ _ _ _ _ = r
    simp (disch := omega) [stepR, evalOps, evalOper, evalE, evalP, evalL, evalOpnd, nth, setNth, COp.cls, COp.isStore, CVal.isUndef, CVal.whole, CVal.cells, CHeap.put, CHeap.get, CHeap.set, wantedC, getEnt, setEnt, partOf, writeBack, evalBin, evalInt, evalStr, blockMost, initVar, descOf, List.take, List.drop, CVal.lenOf, CVal.isStr, CVal.bare, CVal.strip, CVal.flat, endsC, resultsC, oneOrTuple, finishC, cut, fillCells, setCells, szOf, szOf_desc, elems, bytesOf, evalAppend, fillElems, mkElem, List.replicate, sy_nbeq, sy_neqF, sy_leT, sy_leF, sy_setEnt_setEnt, dropped, sy_wrap64, dropEnts, dropCells, sizeMost, hg, hG, hN, hN2, dec, hdd, hD, sy_wrapu64, Int.tmod_eq_emod_of_nonneg] at e
    subst e
    try dsimp only
    refine W.seq ?_
    refine W.reg ?_
    generalize e : stepR _ _ _ = r
    simp (disch := omega) [stepR, evalOps, evalOper, evalE, evalP, evalL, evalOpnd, nth, setNth, COp.cls, COp.isStore, CVal.isUndef, CVal.whole, CVal.cells, CHeap.put, CHeap.get, CHeap.set, wantedC, getEnt, setEnt, partOf, writeBack, evalBin, evalInt, evalStr, blockMost, initVar, descOf, List.take, List.drop, CVal.lenOf, CVal.isStr, CVal.bare, CVal.strip, CVal.flat, endsC, resultsC, oneOrTuple, finishC, cut, fillCells, setCells, szOf, szOf_desc, elems, bytesOf, evalAppend, fillElems, mkElem, List.replicate, sy_nbeq, sy_neqF, sy_leT, sy_leF, sy_setEnt_setEnt, dropped, sy_wrap64, dropEnts, dropCells, sizeMost, hg, hG, hN, hN2, dec, hdd, hD, sy_wrapu64, Int.tmod_eq_emod_of_nonneg] at e
    subst e
    try dsimp only
    refine W.cond_true rfl ?_
    refine W.seq ?_
    refine W.reg ?_
    generalize e : stepR _ _ _ = r
    simp (disch := omega) [stepR, evalOps, evalOper, evalE, evalP, evalL, evalOpnd, nth, setNth, COp.cls, COp.isStore, CVal.isUndef, CVal.whole, CVal.cells, CHeap.put, CHeap.get, CHeap.set, wantedC, getEnt, setEnt, partOf, writeBack, evalBin, evalInt, evalStr, blockMost, initVar, descOf, List.take, List.drop, CVal.lenOf, CVal.isStr, CVal.bare, CVal.strip, CVal.flat, endsC, resultsC, oneOrTuple, finishC, cut, fillCells, setCells, szOf, szOf_desc, elems, bytesOf, evalAppend, fillElems, mkElem, List.replicate, sy_nbeq, sy_neqF, sy_leT, sy_leF, sy_setEnt_setEnt, dropped, sy_wrap64, dropEnts, dropCells, sizeMost, hg, hG, hN, hN2, dec, hdd, hD, sy_wrapu64, Int.tmod_eq_emod_of_nonneg] at e
    subst e
    try dsimp only
    refine W.ret ?_
    try simp only [outOf, thenW_ret]
    refine endWD.intro ?_
    try dsimp only
    refine undeep (h.next) p d _ TS b a (n + 1) (deep + 1) 3 _ (by simp (disch := omega) [getEnt, setEnt, sy_nbeq, sy_neqF, sy_setEnt_setEnt, hg, hG, dec]) (by simp (disch := omega) [getEnt, setEnt, sy_nbeq, sy_neqF, sy_setEnt_setEnt, hg, hG, dec]) (by repeat (first | exact hu.le (by (try dsimp only); omega) | exact hu.set.le (by (try dsimp only); omega) | refine Under.cons (by (try dsimp only); omega) ?_ | exact Under.nil)) (by dsimp only; omega) (by omega) (by omega) _ fun n2 hn2 => ?_
    try dsimp only at hn2
    generalize e : endsC _ _ _ = r
    simp (disch := omega) [stepR, evalOps, evalOper, evalE, evalP, evalL, evalOpnd, nth, setNth, COp.cls, COp.isStore, CVal.isUndef, CVal.whole, CVal.cells, CHeap.put, CHeap.get, CHeap.set, wantedC, getEnt, setEnt, partOf, writeBack, evalBin, evalInt, evalStr, blockMost, initVar, descOf, List.take, List.drop, CVal.lenOf, CVal.isStr, CVal.bare, CVal.strip, CVal.flat, endsC, resultsC, oneOrTuple, finishC, cut, fillCells, setCells, szOf, szOf_desc, elems, bytesOf, evalAppend, fillElems, mkElem, List.replicate, sy_nbeq, sy_neqF, sy_leT, sy_leF, sy_setEnt_setEnt, dropped, sy_wrap64, dropEnts, dropCells, sizeMost, c10, hg, hG, hN, hN2, dec, hdd, hD, sy_wrapu64, Int.tmod_eq_emod_of_nonneg] at e
    subst e
    try dsimp only
  
    exact hno (by omega) _ (by omega)
end Go.Proofs.Ytcehpodknbjimaa.Ir
