/- The walk of the law AdefDeep through the interpreter: what a chain of defaults comes to, by induction on its height; then each of the eighteen chains. -/
import Derived.Test.YtcehpodknbjimaaDoorBSymB
import Derived.Test.YtcehpodknbjimaaDoorIrD
set_option maxRecDepth 100000
set_option linter.unusedVariables false
set_option linter.unusedSimpArgs false
namespace Go.CI
theorem sy_nbeq {a b : Nat} (h : a ≠ b) : (a == b) = false := by simp [h]
theorem sy_neqF {a b : Nat} (h : a ≠ b) : (a = b) = False := by simp [h]
theorem sy_leT {a b : Nat} (h : a ≤ b) : (a ≤ b) = True := by simp [h]
theorem sy_leF {a b : Nat} (h : b < a) : (a ≤ b) = False := by simp [h]
theorem sy_setEnt_setEnt : ∀ (l : List (Nat × CObj)) (m : Nat) (x y : CObj), setEnt (setEnt l m x) m y = setEnt l m y
  | [], _, _, _ => rfl
  | (i, o) :: r, m, x, y => by
    by_cases h : i = m
    · subst h; simp [setEnt]
    · simp [setEnt, h, sy_setEnt_setEnt r m x y]
theorem sy_getEnt_setEnt : ∀ {l : List (Nat × CObj)} {m : Nat} {o x : CObj}, getEnt l m = some o → getEnt (setEnt l m x) m = some x
  | [], _, _, _, h => by cases h
  | (i, q) :: r, m, o, x, h => by
    by_cases hi : i = m
    · subst hi; simp [setEnt, getEnt]
    · simp [getEnt, hi] at h
      simp [setEnt, getEnt, hi, sy_getEnt_setEnt h]
theorem Under.set {l : List (Nat × CObj)} {n m : Nat} {x : CObj} (h : Under l n) : Under (setEnt l m x) n := by
  induction l with
  | nil => exact h
  | cons a r ih =>
    obtain ⟨i, o⟩ := a
    have h1 : i < n := h (i, o) (by simp)
    have h2 : Under r n := fun y hy => h y (by simp [hy])
    unfold setEnt
    split
    · rename_i e; intro y hy; rcases List.mem_cons.1 hy with rfl | hy; exact h1; exact h2 y hy
    · intro y hy; rcases List.mem_cons.1 hy with rfl | hy; exact h1; exact ih h2 y hy
theorem Under.cons {l : List (Nat × CObj)} {n i : Nat} {o : CObj} (hi : i < n) (h : Under l n) : Under ((i, o) :: l) n := fun y hy => by
  rcases List.mem_cons.1 hy with rfl | hy
  · exact hi
  · exact h y hy
theorem Under.le {l : List (Nat × CObj)} {n m : Nat} (h : Under l n) (hnm : n ≤ m) : Under l m := fun y hy => Nat.lt_of_lt_of_le (h y hy) hnm
theorem sy_wrap64 {x : Int} (h : -4611686018427387904 ≤ x) (h2 : x < 4611686018427387904) : IntKind.i64.wrap x = x := by
  simp [IntKind.wrap, IntKind.bits, IntKind.signed]; omega

theorem Under.nil {n : Nat} : Under [] n := fun x hx => by cases hx
theorem Ev.seq_inv {T : Nat → Option CFn} {a b : CCode} {st st' : CSt} {x : CExit} (h : Ev T (.seq a b) st x st') : (∃ st1, Ev T a st .normal st1 ∧ Ev T b st1 x st') ∨ (Ev T a st x st' ∧ x ≠ .normal) := by
  obtain ⟨n, hx⟩ := h
  cases n with
  | zero => cases hx
  | succ n =>
    have hx : (match exec T n a st with | some (.normal, st1) => exec T n b st1 | r => r) = some (x, st') := hx
    cases ha : exec T n a st with
    | none => rw [ha] at hx; cases hx
    | some p =>
      obtain ⟨y, st1⟩ := p
      rw [ha] at hx
      cases y with
      | normal => exact .inl ⟨st1, ⟨n, ha⟩, ⟨n, hx⟩⟩
      | ret => cases hx; exact .inr ⟨⟨n, ha⟩, by simp⟩
      | exit i => cases hx; exact .inr ⟨⟨n, ha⟩, by simp⟩
theorem W.assoc {T : Nat → Option CFn} {a b c : CCode} {st : CSt} {Q : CExit → CSt → Prop} (h : W T (.seq (.seq a b) c) st Q) : W T (.seq a (.seq b c)) st Q := by
  obtain ⟨x, st', hx, hq⟩ := h
  refine ⟨x, st', ?_, hq⟩
  rcases hx.seq_inv with ⟨st1, h1, h2⟩ | ⟨h1, h2⟩
  · rcases h1.seq_inv with ⟨st2, h3, h4⟩ | ⟨_, h4⟩
    · exact h3.seq (h4.seq h2)
    · exact absurd rfl h4
  · rcases h1.seq_inv with ⟨st2, h3, h4⟩ | ⟨h3, _⟩
    · exact h3.seq (h4.seq_out h2)
    · exact h3.seq_out h2
theorem W.of_exec {T : Nat → Option CFn} {n : Nat} {c : CCode} {st st' : CSt} {x : CExit} {Q : CExit → CSt → Prop} (h : execF T n c st = some (x, st')) (hq : Q x st') : W T c st Q :=
  ⟨x, st', ⟨n, by rw [← execF_eq]; exact h⟩, hq⟩
end Go.CI
namespace Go.Proofs.YtcehpodknbjimaaDoor.IrD
open Go Go.CI

abbrev zA : List CVal := [.int .u64 0, .str [], .nils, .nils, .int .i64 0]
abbrev zJ : List CVal := [.int .i64 0, .int .i64 0, .str [], .nils, .nils]
abbrev nJ : List CVal := [.int .i64 6, .int .i64 0, .str [], .nils, .nils]


theorem index_nil (nm : List UInt8) (h : CHeap) (hu : Under h.ents h.next) (K : CVal → CHeap → Prop) (hk : ∀ m, h.next ≤ m → K (.int .i64 (-1)) { h with next := m }) : Wc tree.getF 32 [.nils, .str nm] h K := by
  refine Wc.mk (fn := c32) (by kernel_rfl) rfl ?_
  refine W.seq (W.region (Wo.all (s1 := _) rfl ?_))
  refine W.seq (W.seq (W.region (Wo.all (s1 := _) rfl ?_)))
  refine W.block (W.loop (W.seq (W.region (Wo.all (s1 := _) rfl ?_))))
  refine W.seq (W.cond_false rfl (W.exit ?_))
  refine W.seq (W.region (Wo.all (s1 := _) rfl ?_))
  refine W.ret ⟨by simp, rfl, _, _, _, rfl, rfl, ?_⟩
  have e := dropEnts_under hu
  have := hk (h.next + 1 + 3 + 1 + 1) (by omega)
  rw [← e] at this
  exact this

theorem get_none (nm : List UInt8) (h : CHeap) (hu : Under h.ents h.next) (K : CVal → CHeap → Prop) (hk : ∀ m, h.next ≤ m → K (.tup [.agg zJ, .bool false]) { h with next := m }) : Wc tree.getF 26 [.agg nJ, .str nm] h K := by
  refine Wc.mk' (fn := c26) (by kernel_rfl) rfl ?_
  refine W.seq ?_
  refine W.reg ?_
  generalize e : stepR _ _ _ = r
  simp (disch := omega) [stepR, evalOps, evalOper, evalE, evalP, evalL, evalOpnd, nth, setNth, COp.cls, COp.isStore, CVal.isUndef, CVal.whole, CVal.cells, CHeap.put, CHeap.get, CHeap.set, wantedC, getEnt, setEnt, partOf, writeBack, evalBin, evalInt, blockMost, initVar, descOf, List.take, List.drop, CVal.lenOf, CVal.isStr, CVal.bare, CVal.strip, CVal.flat, endsC, resultsC, oneOrTuple, finishC, cut, fillCells, setCells, szOf, szOf_desc, elems, evalAppend, fillElems, mkElem, List.replicate, sy_nbeq, sy_neqF, sy_leT, sy_leF, sy_setEnt_setEnt, dropped, sy_wrap64, dropEnts, dropCells, c26] at e
  subst e
  try dsimp only
  refine W.seq ?_
  refine W.seq ?_
  refine W.reg ?_
  generalize e : stepR _ _ _ = r
  simp (disch := omega) [stepR, evalOps, evalOper, evalE, evalP, evalL, evalOpnd, nth, setNth, COp.cls, COp.isStore, CVal.isUndef, CVal.whole, CVal.cells, CHeap.put, CHeap.get, CHeap.set, wantedC, getEnt, setEnt, partOf, writeBack, evalBin, evalInt, blockMost, initVar, descOf, List.take, List.drop, CVal.lenOf, CVal.isStr, CVal.bare, CVal.strip, CVal.flat, endsC, resultsC, oneOrTuple, finishC, cut, fillCells, setCells, szOf, szOf_desc, elems, evalAppend, fillElems, mkElem, List.replicate, sy_nbeq, sy_neqF, sy_leT, sy_leF, sy_setEnt_setEnt, dropped, sy_wrap64, dropEnts, dropCells] at e
  subst e
  try dsimp only
  refine W.cond_false rfl (W.skip ?_)
  refine W.seq ?_
  refine W.region (Wo.upto 3 rfl ?_)
  generalize e : evalOps _ _ _ _ _ = r
  simp (disch := omega) [stepR, evalOps, evalOper, evalE, evalP, evalL, evalOpnd, nth, setNth, COp.cls, COp.isStore, CVal.isUndef, CVal.whole, CVal.cells, CHeap.put, CHeap.get, CHeap.set, wantedC, getEnt, setEnt, partOf, writeBack, evalBin, evalInt, blockMost, initVar, descOf, List.take, List.drop, CVal.lenOf, CVal.isStr, CVal.bare, CVal.strip, CVal.flat, endsC, resultsC, oneOrTuple, finishC, cut, fillCells, setCells, szOf, szOf_desc, elems, evalAppend, fillElems, mkElem, List.replicate, sy_nbeq, sy_neqF, sy_leT, sy_leF, sy_setEnt_setEnt, dropped, sy_wrap64, dropEnts, dropCells] at e
  subst e
  try dsimp only
  refine Wo.call ?_
  try dsimp only
  refine index_nil _ _ (Under.cons (by dsimp only; omega) (Under.cons (by dsimp only; omega) (hu.le (by dsimp only; omega)))) _ fun m hm => ⟨rfl, ?_⟩
  refine Wo.rest ?_
  generalize e : evalOps _ _ _ _ _ = r
  simp (disch := omega) [stepR, evalOps, evalOper, evalE, evalP, evalL, evalOpnd, nth, setNth, COp.cls, COp.isStore, CVal.isUndef, CVal.whole, CVal.cells, CHeap.put, CHeap.get, CHeap.set, wantedC, getEnt, setEnt, partOf, writeBack, evalBin, evalInt, blockMost, initVar, descOf, List.take, List.drop, CVal.lenOf, CVal.isStr, CVal.bare, CVal.strip, CVal.flat, endsC, resultsC, oneOrTuple, finishC, cut, fillCells, setCells, szOf, szOf_desc, elems, evalAppend, fillElems, mkElem, List.replicate, sy_nbeq, sy_neqF, sy_leT, sy_leF, sy_setEnt_setEnt, dropped, sy_wrap64, dropEnts, dropCells] at e
  subst e
  try dsimp only
  refine W.seq ?_
  refine W.seq ?_
  refine W.reg ?_
  generalize e : stepR _ _ _ = r
  simp (disch := omega) [stepR, evalOps, evalOper, evalE, evalP, evalL, evalOpnd, nth, setNth, COp.cls, COp.isStore, CVal.isUndef, CVal.whole, CVal.cells, CHeap.put, CHeap.get, CHeap.set, wantedC, getEnt, setEnt, partOf, writeBack, evalBin, evalInt, blockMost, initVar, descOf, List.take, List.drop, CVal.lenOf, CVal.isStr, CVal.bare, CVal.strip, CVal.flat, endsC, resultsC, oneOrTuple, finishC, cut, fillCells, setCells, szOf, szOf_desc, elems, evalAppend, fillElems, mkElem, List.replicate, sy_nbeq, sy_neqF, sy_leT, sy_leF, sy_setEnt_setEnt, dropped, sy_wrap64, dropEnts, dropCells] at e
  subst e
  try dsimp only
  refine W.cond_true rfl ?_
  refine W.seq ?_
  refine W.reg ?_
  generalize e : stepR _ _ _ = r
  simp (disch := omega) [stepR, evalOps, evalOper, evalE, evalP, evalL, evalOpnd, nth, setNth, COp.cls, COp.isStore, CVal.isUndef, CVal.whole, CVal.cells, CHeap.put, CHeap.get, CHeap.set, wantedC, getEnt, setEnt, partOf, writeBack, evalBin, evalInt, blockMost, initVar, descOf, List.take, List.drop, CVal.lenOf, CVal.isStr, CVal.bare, CVal.strip, CVal.flat, endsC, resultsC, oneOrTuple, finishC, cut, fillCells, setCells, szOf, szOf_desc, elems, evalAppend, fillElems, mkElem, List.replicate, sy_nbeq, sy_neqF, sy_leT, sy_leF, sy_setEnt_setEnt, dropped, sy_wrap64, dropEnts, dropCells] at e
  subst e
  try dsimp only
  refine W.ret (endW.intro rfl ?_)
  generalize e : endsC _ _ _ = r
  simp (disch := omega) [stepR, evalOps, evalOper, evalE, evalP, evalL, evalOpnd, nth, setNth, COp.cls, COp.isStore, CVal.isUndef, CVal.whole, CVal.cells, CHeap.put, CHeap.get, CHeap.set, wantedC, getEnt, setEnt, partOf, writeBack, evalBin, evalInt, blockMost, initVar, descOf, List.take, List.drop, CVal.lenOf, CVal.isStr, CVal.bare, CVal.strip, CVal.flat, endsC, resultsC, oneOrTuple, finishC, cut, fillCells, setCells, szOf, szOf_desc, elems, evalAppend, fillElems, mkElem, List.replicate, sy_nbeq, sy_neqF, sy_leT, sy_leF, sy_setEnt_setEnt, dropped, sy_wrap64, dropEnts, dropCells, c26, dropEnts_under hu] at e
  subst e
  try dsimp only
  exact hk _ (by dsimp only at hm; omega)


abbrev tyC (nm : List UInt8) (fs : CVal) : List CVal := [.int .i64 9, .str nm, .nils, .int .i64 0, .nils, .bool false, .str [], .int .i64 0, fs, .nils]
abbrev fld (nm : List UInt8) (i : Nat) : CVal := .agg [.str nm, .nils, .int .i64 i, .bool true, .int .i64 6, .int .i64 0, .str [], .nils, .nils]

theorem record_leaf (nm : List UInt8) (deep : Int) (m d : Nat) (h : CHeap) (hu : Under h.ents h.next) (K : CVal → CHeap → Prop) (hk : ∀ n', h.next ≤ n' → K (.tup [.agg zA, .int .i64 0]) { h with next := n' }) :
    Wc tree.getF 14 [.ptr m d 0, .agg (tyC nm .nils), .agg nJ, .int .i64 deep] h K := by
  refine Wc.mk' (fn := c14) (by kernel_rfl) rfl ?_
  refine W.seq ?_
  refine W.reg ?_
  generalize e : stepR _ _ _ = r
  simp (disch := omega) [stepR, evalOps, evalOper, evalE, evalP, evalL, evalOpnd, nth, setNth, COp.cls, COp.isStore, CVal.isUndef, CVal.whole, CVal.cells, CHeap.put, CHeap.get, CHeap.set, wantedC, getEnt, setEnt, partOf, writeBack, evalBin, evalInt, blockMost, initVar, descOf, List.take, List.drop, CVal.lenOf, CVal.isStr, CVal.bare, CVal.strip, CVal.flat, endsC, resultsC, oneOrTuple, finishC, cut, fillCells, setCells, szOf, szOf_desc, elems, evalAppend, fillElems, mkElem, List.replicate, sy_nbeq, sy_neqF, sy_leT, sy_leF, sy_setEnt_setEnt, dropped, sy_wrap64, dropEnts, dropCells, c14] at e
  subst e
  try dsimp only
  refine W.seq ?_
  refine W.seq ?_
  refine W.reg ?_
  generalize e : stepR _ _ _ = r
  simp (disch := omega) [stepR, evalOps, evalOper, evalE, evalP, evalL, evalOpnd, nth, setNth, COp.cls, COp.isStore, CVal.isUndef, CVal.whole, CVal.cells, CHeap.put, CHeap.get, CHeap.set, wantedC, getEnt, setEnt, partOf, writeBack, evalBin, evalInt, blockMost, initVar, descOf, List.take, List.drop, CVal.lenOf, CVal.isStr, CVal.bare, CVal.strip, CVal.flat, endsC, resultsC, oneOrTuple, finishC, cut, fillCells, setCells, szOf, szOf_desc, elems, evalAppend, fillElems, mkElem, List.replicate, sy_nbeq, sy_neqF, sy_leT, sy_leF, sy_setEnt_setEnt, dropped, sy_wrap64, dropEnts, dropCells] at e
  subst e
  try dsimp only
  refine W.block (W.loop (W.seq ?_))
  refine W.reg ?_
  generalize e : stepR _ _ _ = r
  simp (disch := omega) [stepR, evalOps, evalOper, evalE, evalP, evalL, evalOpnd, nth, setNth, COp.cls, COp.isStore, CVal.isUndef, CVal.whole, CVal.cells, CHeap.put, CHeap.get, CHeap.set, wantedC, getEnt, setEnt, partOf, writeBack, evalBin, evalInt, blockMost, initVar, descOf, List.take, List.drop, CVal.lenOf, CVal.isStr, CVal.bare, CVal.strip, CVal.flat, endsC, resultsC, oneOrTuple, finishC, cut, fillCells, setCells, szOf, szOf_desc, elems, evalAppend, fillElems, mkElem, List.replicate, sy_nbeq, sy_neqF, sy_leT, sy_leF, sy_setEnt_setEnt, dropped, sy_wrap64, dropEnts, dropCells] at e
  subst e
  try dsimp only
  refine W.seq (W.cond_false rfl (W.exit ?_))
  refine W.seq ?_
  refine W.reg ?_
  generalize e : stepR _ _ _ = r
  simp (disch := omega) [stepR, evalOps, evalOper, evalE, evalP, evalL, evalOpnd, nth, setNth, COp.cls, COp.isStore, CVal.isUndef, CVal.whole, CVal.cells, CHeap.put, CHeap.get, CHeap.set, wantedC, getEnt, setEnt, partOf, writeBack, evalBin, evalInt, blockMost, initVar, descOf, List.take, List.drop, CVal.lenOf, CVal.isStr, CVal.bare, CVal.strip, CVal.flat, endsC, resultsC, oneOrTuple, finishC, cut, fillCells, setCells, szOf, szOf_desc, elems, evalAppend, fillElems, mkElem, List.replicate, sy_nbeq, sy_neqF, sy_leT, sy_leF, sy_setEnt_setEnt, dropped, sy_wrap64, dropEnts, dropCells] at e
  subst e
  try dsimp only
  refine W.ret (endW.intro rfl ?_)
  generalize e : endsC _ _ _ = r
  simp (disch := omega) [stepR, evalOps, evalOper, evalE, evalP, evalL, evalOpnd, nth, setNth, COp.cls, COp.isStore, CVal.isUndef, CVal.whole, CVal.cells, CHeap.put, CHeap.get, CHeap.set, wantedC, getEnt, setEnt, partOf, writeBack, evalBin, evalInt, blockMost, initVar, descOf, List.take, List.drop, CVal.lenOf, CVal.isStr, CVal.bare, CVal.strip, CVal.flat, endsC, resultsC, oneOrTuple, finishC, cut, fillCells, setCells, szOf, szOf_desc, elems, evalAppend, fillElems, mkElem, List.replicate, sy_nbeq, sy_neqF, sy_leT, sy_leF, sy_setEnt_setEnt, dropped, sy_wrap64, dropEnts, dropCells, c14, dropEnts_under hu] at e
  subst e
  try dsimp only
  exact hk _ (by omega)


/-- A value of the next type, as its caller has it. -/
def VSpec (ts : List CVal) (m d : Nat) (i sz : Nat) (B : List CVal) (dm : Int) : Prop :=
  ∀ (deep c : Int) (h : CHeap) (K : CVal → CHeap → Prop), getEnt h.ents m = some (.cells [.imm .none 10 ts, .int .i64 c]) → Under h.ents h.next → m < h.next → 0 ≤ c → c ≤ 2000 → 0 ≤ deep → deep ≤ dm →
    (c + sz ≤ 2000 → ∀ n', h.next ≤ n' → K (.tup [.agg B, .int .i64 0]) { h with ents := setEnt h.ents m (.cells [.imm .none 10 ts, .int .i64 (c + sz)]), next := n' }) →
    (2000 < c + sz → ∀ n' (c' : Int), h.next ≤ n' → K (.tup [.agg zA, .int .i64 3]) { h with ents := setEnt h.ents m (.cells [.imm .none 10 ts, .int .i64 c']), next := n' }) →
    Wc tree.getF 11 [.ptr m d 0, .int .i64 i, .agg nJ, .int .i64 deep] h K

theorem record_node (ts : List CVal) (nm : List UInt8) (m d i sz : Nat) (l : List CVal) (dm : Int) (hdm : dm ≤ 20) (V : VSpec ts m d i sz [.int .u64 0, .str [], .imm .none 5 l, .nils, .int .i64 0] dm)
    (deep c : Int) (h : CHeap) (hg : getEnt h.ents m = some (.cells [.imm .none 10 ts, .int .i64 c])) (hu : Under h.ents h.next) (hm : m < h.next) (hc0 : 0 ≤ c) (hc : c ≤ 2000) (hd0 : 0 ≤ deep) (hdd : deep ≤ dm) (K : CVal → CHeap → Prop)
    (hk : c + (sz + sz : Nat) ≤ 2000 → ∀ n', h.next ≤ n' → K (.tup [.agg [.int .u64 0, .str [], .imm .none 5 [.agg [.int .u64 0, .str [], .imm .none 5 l, .nils, .int .i64 0], .agg [.int .u64 0, .str [], .imm .none 5 l, .nils, .int .i64 0]], .nils, .int .i64 0], .int .i64 0]) { h with ents := setEnt h.ents m (.cells [.imm .none 10 ts, .int .i64 (c + (sz + sz : Nat))]), next := n' })
    (he : 2000 < c + (sz + sz : Nat) → ∀ n' (c' : Int), h.next ≤ n' → K (.tup [.agg zA, .int .i64 3]) { h with ents := setEnt h.ents m (.cells [.imm .none 10 ts, .int .i64 c']), next := n' }) :
    Wc tree.getF 14 [.ptr m d 0, .agg (tyC nm (.imm .full 9 [fld [97] i, fld [98] i])), .agg nJ, .int .i64 deep] h K := by
  have hD : ∀ x, dropEnts (setEnt h.ents m x) h.next = setEnt h.ents m x := fun x => dropEnts_under hu.set
  have hC : ∀ x n, h.next ≤ n → dropCells (setEnt h.ents m x) n = setEnt h.ents m x := fun x n hn => dropCells_under (hu.set.le hn)
  have hC0 : ∀ n, h.next ≤ n → dropCells h.ents n = h.ents := fun n hn => dropCells_under (hu.le hn)
  have hN : ∀ b, h.next ≤ b → getEnt h.ents b = none := fun b hb => getEnt_under hu hb
  have hN2 : ∀ x b, h.next ≤ b → getEnt (setEnt h.ents m x) b = none := fun x b hb => getEnt_under hu.set hb
  have hG : ∀ x, getEnt (setEnt h.ents m x) m = some x := fun x => sy_getEnt_setEnt hg
  refine Wc.mk' (fn := c14) (by kernel_rfl) rfl ?_
  refine W.seq ?_
  refine W.reg ?_
  generalize e : stepR _ _ _ = r
  simp (disch := omega) [stepR, evalOps, evalOper, evalE, evalP, evalL, evalOpnd, nth, setNth, COp.cls, COp.isStore, CVal.isUndef, CVal.whole, CVal.cells, CHeap.put, CHeap.get, CHeap.set, wantedC, getEnt, setEnt, partOf, writeBack, evalBin, evalInt, blockMost, initVar, descOf, List.take, List.drop, CVal.lenOf, CVal.isStr, CVal.bare, CVal.strip, CVal.flat, endsC, resultsC, oneOrTuple, finishC, cut, fillCells, setCells, szOf, szOf_desc, elems, evalAppend, fillElems, mkElem, List.replicate, sy_nbeq, sy_neqF, sy_leT, sy_leF, sy_setEnt_setEnt, dropped, sy_wrap64, dropEnts, dropCells, c14] at e
  subst e
  try dsimp only
  refine W.seq ?_
  refine W.seq ?_
  refine W.reg ?_
  generalize e : stepR _ _ _ = r
  simp (disch := omega) [stepR, evalOps, evalOper, evalE, evalP, evalL, evalOpnd, nth, setNth, COp.cls, COp.isStore, CVal.isUndef, CVal.whole, CVal.cells, CHeap.put, CHeap.get, CHeap.set, wantedC, getEnt, setEnt, partOf, writeBack, evalBin, evalInt, blockMost, initVar, descOf, List.take, List.drop, CVal.lenOf, CVal.isStr, CVal.bare, CVal.strip, CVal.flat, endsC, resultsC, oneOrTuple, finishC, cut, fillCells, setCells, szOf, szOf_desc, elems, evalAppend, fillElems, mkElem, List.replicate, sy_nbeq, sy_neqF, sy_leT, sy_leF, sy_setEnt_setEnt, dropped, sy_wrap64, dropEnts, dropCells, hg, hG, hC, hC0, hD, hN, hN2, sizeMost] at e
  subst e
  try dsimp only
  refine W.block (W.loop (W.seq ?_))
  refine W.reg ?_
  generalize e : stepR _ _ _ = r
  simp (disch := omega) [stepR, evalOps, evalOper, evalE, evalP, evalL, evalOpnd, nth, setNth, COp.cls, COp.isStore, CVal.isUndef, CVal.whole, CVal.cells, CHeap.put, CHeap.get, CHeap.set, wantedC, getEnt, setEnt, partOf, writeBack, evalBin, evalInt, blockMost, initVar, descOf, List.take, List.drop, CVal.lenOf, CVal.isStr, CVal.bare, CVal.strip, CVal.flat, endsC, resultsC, oneOrTuple, finishC, cut, fillCells, setCells, szOf, szOf_desc, elems, evalAppend, fillElems, mkElem, List.replicate, sy_nbeq, sy_neqF, sy_leT, sy_leF, sy_setEnt_setEnt, dropped, sy_wrap64, dropEnts, dropCells, hg, hG, hC, hC0, hD, hN, hN2, sizeMost] at e
  subst e
  try dsimp only
  refine W.seq (W.cond_true rfl (W.skip ?_))
  refine W.seq (W.block ?_)
  refine W.seq ?_
  refine W.reg ?_
  generalize e : stepR _ _ _ = r
  simp (disch := omega) [stepR, evalOps, evalOper, evalE, evalP, evalL, evalOpnd, nth, setNth, COp.cls, COp.isStore, CVal.isUndef, CVal.whole, CVal.cells, CHeap.put, CHeap.get, CHeap.set, wantedC, getEnt, setEnt, partOf, writeBack, evalBin, evalInt, blockMost, initVar, descOf, List.take, List.drop, CVal.lenOf, CVal.isStr, CVal.bare, CVal.strip, CVal.flat, endsC, resultsC, oneOrTuple, finishC, cut, fillCells, setCells, szOf, szOf_desc, elems, evalAppend, fillElems, mkElem, List.replicate, sy_nbeq, sy_neqF, sy_leT, sy_leF, sy_setEnt_setEnt, dropped, sy_wrap64, dropEnts, dropCells, hg, hG, hC, hC0, hD, hN, hN2, sizeMost] at e
  subst e
  try dsimp only
  refine W.seq ?_
  refine W.region (Wo.upto 3 rfl ?_)
  generalize e : evalOps _ _ _ _ _ = r
  simp (disch := omega) [stepR, evalOps, evalOper, evalE, evalP, evalL, evalOpnd, nth, setNth, COp.cls, COp.isStore, CVal.isUndef, CVal.whole, CVal.cells, CHeap.put, CHeap.get, CHeap.set, wantedC, getEnt, setEnt, partOf, writeBack, evalBin, evalInt, blockMost, initVar, descOf, List.take, List.drop, CVal.lenOf, CVal.isStr, CVal.bare, CVal.strip, CVal.flat, endsC, resultsC, oneOrTuple, finishC, cut, fillCells, setCells, szOf, szOf_desc, elems, evalAppend, fillElems, mkElem, List.replicate, sy_nbeq, sy_neqF, sy_leT, sy_leF, sy_setEnt_setEnt, dropped, sy_wrap64, dropEnts, dropCells, hg, hG, hC, hC0, hD, hN, hN2, sizeMost] at e
  subst e
  try dsimp only
  refine Wo.call ?_
  try dsimp only
  refine get_none _ _ (by repeat (first | exact hu.le (by dsimp only; omega) | exact hu.set.le (by dsimp only; omega) | refine Under.cons (by dsimp only; omega) ?_)) _ fun n1 hn1 => ⟨rfl, ?_⟩
  try dsimp only at hn1
  refine Wo.rest ?_
  generalize e : evalOps _ _ _ _ _ = r
  simp (disch := omega) [stepR, evalOps, evalOper, evalE, evalP, evalL, evalOpnd, nth, setNth, COp.cls, COp.isStore, CVal.isUndef, CVal.whole, CVal.cells, CHeap.put, CHeap.get, CHeap.set, wantedC, getEnt, setEnt, partOf, writeBack, evalBin, evalInt, blockMost, initVar, descOf, List.take, List.drop, CVal.lenOf, CVal.isStr, CVal.bare, CVal.strip, CVal.flat, endsC, resultsC, oneOrTuple, finishC, cut, fillCells, setCells, szOf, szOf_desc, elems, evalAppend, fillElems, mkElem, List.replicate, sy_nbeq, sy_neqF, sy_leT, sy_leF, sy_setEnt_setEnt, dropped, sy_wrap64, dropEnts, dropCells, hg, hG, hC, hC0, hD, hN, hN2, sizeMost] at e
  subst e
  try dsimp only
  refine W.seq ?_
  refine W.seq ?_
  refine W.reg ?_
  generalize e : stepR _ _ _ = r
  simp (disch := omega) [stepR, evalOps, evalOper, evalE, evalP, evalL, evalOpnd, nth, setNth, COp.cls, COp.isStore, CVal.isUndef, CVal.whole, CVal.cells, CHeap.put, CHeap.get, CHeap.set, wantedC, getEnt, setEnt, partOf, writeBack, evalBin, evalInt, blockMost, initVar, descOf, List.take, List.drop, CVal.lenOf, CVal.isStr, CVal.bare, CVal.strip, CVal.flat, endsC, resultsC, oneOrTuple, finishC, cut, fillCells, setCells, szOf, szOf_desc, elems, evalAppend, fillElems, mkElem, List.replicate, sy_nbeq, sy_neqF, sy_leT, sy_leF, sy_setEnt_setEnt, dropped, sy_wrap64, dropEnts, dropCells, hg, hG, hC, hC0, hD, hN, hN2, sizeMost] at e
  subst e
  try dsimp only
  refine W.cond_true rfl ?_
  refine W.reg ?_
  generalize e : stepR _ _ _ = r
  simp (disch := omega) [stepR, evalOps, evalOper, evalE, evalP, evalL, evalOpnd, nth, setNth, COp.cls, COp.isStore, CVal.isUndef, CVal.whole, CVal.cells, CHeap.put, CHeap.get, CHeap.set, wantedC, getEnt, setEnt, partOf, writeBack, evalBin, evalInt, blockMost, initVar, descOf, List.take, List.drop, CVal.lenOf, CVal.isStr, CVal.bare, CVal.strip, CVal.flat, endsC, resultsC, oneOrTuple, finishC, cut, fillCells, setCells, szOf, szOf_desc, elems, evalAppend, fillElems, mkElem, List.replicate, sy_nbeq, sy_neqF, sy_leT, sy_leF, sy_setEnt_setEnt, dropped, sy_wrap64, dropEnts, dropCells, hg, hG, hC, hC0, hD, hN, hN2, sizeMost] at e
  subst e
  try dsimp only
  refine W.seq ?_
  refine W.seq ?_
  refine W.reg ?_
  generalize e : stepR _ _ _ = r
  simp (disch := omega) [stepR, evalOps, evalOper, evalE, evalP, evalL, evalOpnd, nth, setNth, COp.cls, COp.isStore, CVal.isUndef, CVal.whole, CVal.cells, CHeap.put, CHeap.get, CHeap.set, wantedC, getEnt, setEnt, partOf, writeBack, evalBin, evalInt, blockMost, initVar, descOf, List.take, List.drop, CVal.lenOf, CVal.isStr, CVal.bare, CVal.strip, CVal.flat, endsC, resultsC, oneOrTuple, finishC, cut, fillCells, setCells, szOf, szOf_desc, elems, evalAppend, fillElems, mkElem, List.replicate, sy_nbeq, sy_neqF, sy_leT, sy_leF, sy_setEnt_setEnt, dropped, sy_wrap64, dropEnts, dropCells, hg, hG, hC, hC0, hD, hN, hN2, sizeMost] at e
  subst e
  try dsimp only
  refine W.cond_false rfl (W.skip ?_)
  refine W.seq ?_
  refine W.region (Wo.upto 5 rfl ?_)
  generalize e : evalOps _ _ _ _ _ = r
  simp (disch := omega) [stepR, evalOps, evalOper, evalE, evalP, evalL, evalOpnd, nth, setNth, COp.cls, COp.isStore, CVal.isUndef, CVal.whole, CVal.cells, CHeap.put, CHeap.get, CHeap.set, wantedC, getEnt, setEnt, partOf, writeBack, evalBin, evalInt, blockMost, initVar, descOf, List.take, List.drop, CVal.lenOf, CVal.isStr, CVal.bare, CVal.strip, CVal.flat, endsC, resultsC, oneOrTuple, finishC, cut, fillCells, setCells, szOf, szOf_desc, elems, evalAppend, fillElems, mkElem, List.replicate, sy_nbeq, sy_neqF, sy_leT, sy_leF, sy_setEnt_setEnt, dropped, sy_wrap64, dropEnts, dropCells, hg, hG, hC, hC0, hD, hN, hN2, sizeMost] at e
  subst e
  try dsimp only
  refine Wo.call ?_
  refine V deep c _ _ (by simp (disch := omega) [getEnt, setEnt, sy_nbeq, sy_neqF, sy_setEnt_setEnt, hg, hG]) (by repeat (first | exact hu.le (by dsimp only; omega) | exact hu.set.le (by dsimp only; omega) | refine Under.cons (by dsimp only; omega) ?_)) (by dsimp only; omega) (by omega) (by omega) hd0 hdd (fun hfit1 m1 hm1 => ⟨rfl, ?_⟩) (fun hno m1 c' hm1 => ⟨rfl, ?_⟩) <;> try dsimp only at hm1
  rotate_left
  · refine Wo.rest ?_
    generalize e : evalOps _ _ _ _ _ = r
    simp (disch := omega) [stepR, evalOps, evalOper, evalE, evalP, evalL, evalOpnd, nth, setNth, COp.cls, COp.isStore, CVal.isUndef, CVal.whole, CVal.cells, CHeap.put, CHeap.get, CHeap.set, wantedC, getEnt, setEnt, partOf, writeBack, evalBin, evalInt, blockMost, initVar, descOf, List.take, List.drop, CVal.lenOf, CVal.isStr, CVal.bare, CVal.strip, CVal.flat, endsC, resultsC, oneOrTuple, finishC, cut, fillCells, setCells, szOf, szOf_desc, elems, evalAppend, fillElems, mkElem, List.replicate, sy_nbeq, sy_neqF, sy_leT, sy_leF, sy_setEnt_setEnt, dropped, sy_wrap64, dropEnts, dropCells, hg, hG, hC, hC0, hD, hN, hN2, sizeMost] at e
    subst e
    try dsimp only
    refine W.seq ?_
    refine W.seq ?_
    refine W.reg ?_
    generalize e : stepR _ _ _ = r
    simp (disch := omega) [stepR, evalOps, evalOper, evalE, evalP, evalL, evalOpnd, nth, setNth, COp.cls, COp.isStore, CVal.isUndef, CVal.whole, CVal.cells, CHeap.put, CHeap.get, CHeap.set, wantedC, getEnt, setEnt, partOf, writeBack, evalBin, evalInt, blockMost, initVar, descOf, List.take, List.drop, CVal.lenOf, CVal.isStr, CVal.bare, CVal.strip, CVal.flat, endsC, resultsC, oneOrTuple, finishC, cut, fillCells, setCells, szOf, szOf_desc, elems, evalAppend, fillElems, mkElem, List.replicate, sy_nbeq, sy_neqF, sy_leT, sy_leF, sy_setEnt_setEnt, dropped, sy_wrap64, dropEnts, dropCells, hg, hG, hC, hC0, hD, hN, hN2, sizeMost] at e
    subst e
    try dsimp only
    refine W.cond_true rfl ?_
    refine W.seq ?_
    refine W.reg ?_
    generalize e : stepR _ _ _ = r
    simp (disch := omega) [stepR, evalOps, evalOper, evalE, evalP, evalL, evalOpnd, nth, setNth, COp.cls, COp.isStore, CVal.isUndef, CVal.whole, CVal.cells, CHeap.put, CHeap.get, CHeap.set, wantedC, getEnt, setEnt, partOf, writeBack, evalBin, evalInt, blockMost, initVar, descOf, List.take, List.drop, CVal.lenOf, CVal.isStr, CVal.bare, CVal.strip, CVal.flat, endsC, resultsC, oneOrTuple, finishC, cut, fillCells, setCells, szOf, szOf_desc, elems, evalAppend, fillElems, mkElem, List.replicate, sy_nbeq, sy_neqF, sy_leT, sy_leF, sy_setEnt_setEnt, dropped, sy_wrap64, dropEnts, dropCells, hg, hG, hC, hC0, hD, hN, hN2, sizeMost] at e
    subst e
    try dsimp only
    refine W.ret (endW.intro rfl ?_)
    generalize e : endsC _ _ _ = r
    simp (disch := omega) [stepR, evalOps, evalOper, evalE, evalP, evalL, evalOpnd, nth, setNth, COp.cls, COp.isStore, CVal.isUndef, CVal.whole, CVal.cells, CHeap.put, CHeap.get, CHeap.set, wantedC, getEnt, setEnt, partOf, writeBack, evalBin, evalInt, blockMost, initVar, descOf, List.take, List.drop, CVal.lenOf, CVal.isStr, CVal.bare, CVal.strip, CVal.flat, endsC, resultsC, oneOrTuple, finishC, cut, fillCells, setCells, szOf, szOf_desc, elems, evalAppend, fillElems, mkElem, List.replicate, sy_nbeq, sy_neqF, sy_leT, sy_leF, sy_setEnt_setEnt, dropped, sy_wrap64, dropEnts, dropCells, c14, hg, hG, hC, hC0, hD, hN, hN2, sizeMost] at e
    subst e
    try dsimp only
    exact he (by omega) _ _ (by omega)
  refine Wo.rest ?_
  generalize e : evalOps _ _ _ _ _ = r
  simp (disch := omega) [stepR, evalOps, evalOper, evalE, evalP, evalL, evalOpnd, nth, setNth, COp.cls, COp.isStore, CVal.isUndef, CVal.whole, CVal.cells, CHeap.put, CHeap.get, CHeap.set, wantedC, getEnt, setEnt, partOf, writeBack, evalBin, evalInt, blockMost, initVar, descOf, List.take, List.drop, CVal.lenOf, CVal.isStr, CVal.bare, CVal.strip, CVal.flat, endsC, resultsC, oneOrTuple, finishC, cut, fillCells, setCells, szOf, szOf_desc, elems, evalAppend, fillElems, mkElem, List.replicate, sy_nbeq, sy_neqF, sy_leT, sy_leF, sy_setEnt_setEnt, dropped, sy_wrap64, dropEnts, dropCells, hg, hG, hC, hC0, hD, hN, hN2, sizeMost] at e
  subst e
  try dsimp only
  refine W.seq ?_
  refine W.seq ?_
  refine W.reg ?_
  generalize e : stepR _ _ _ = r
  simp (disch := omega) [stepR, evalOps, evalOper, evalE, evalP, evalL, evalOpnd, nth, setNth, COp.cls, COp.isStore, CVal.isUndef, CVal.whole, CVal.cells, CHeap.put, CHeap.get, CHeap.set, wantedC, getEnt, setEnt, partOf, writeBack, evalBin, evalInt, blockMost, initVar, descOf, List.take, List.drop, CVal.lenOf, CVal.isStr, CVal.bare, CVal.strip, CVal.flat, endsC, resultsC, oneOrTuple, finishC, cut, fillCells, setCells, szOf, szOf_desc, elems, evalAppend, fillElems, mkElem, List.replicate, sy_nbeq, sy_neqF, sy_leT, sy_leF, sy_setEnt_setEnt, dropped, sy_wrap64, dropEnts, dropCells, hg, hG, hC, hC0, hD, hN, hN2, sizeMost] at e
  subst e
  try dsimp only
  refine W.cond_false rfl (W.skip ?_)
  refine W.reg ?_
  generalize e : stepR _ _ _ = r
  simp (disch := omega) [stepR, evalOps, evalOper, evalE, evalP, evalL, evalOpnd, nth, setNth, COp.cls, COp.isStore, CVal.isUndef, CVal.whole, CVal.cells, CHeap.put, CHeap.get, CHeap.set, wantedC, getEnt, setEnt, partOf, writeBack, evalBin, evalInt, blockMost, initVar, descOf, List.take, List.drop, CVal.lenOf, CVal.isStr, CVal.bare, CVal.strip, CVal.flat, endsC, resultsC, oneOrTuple, finishC, cut, fillCells, setCells, szOf, szOf_desc, elems, evalAppend, fillElems, mkElem, List.replicate, sy_nbeq, sy_neqF, sy_leT, sy_leF, sy_setEnt_setEnt, dropped, sy_wrap64, dropEnts, dropCells, hg, hG, hC, hC0, hD, hN, hN2, sizeMost] at e
  subst e
  try dsimp only
  refine W.reg ?_
  generalize e : stepR _ _ _ = r
  simp (disch := omega) [stepR, evalOps, evalOper, evalE, evalP, evalL, evalOpnd, nth, setNth, COp.cls, COp.isStore, CVal.isUndef, CVal.whole, CVal.cells, CHeap.put, CHeap.get, CHeap.set, wantedC, getEnt, setEnt, partOf, writeBack, evalBin, evalInt, blockMost, initVar, descOf, List.take, List.drop, CVal.lenOf, CVal.isStr, CVal.bare, CVal.strip, CVal.flat, endsC, resultsC, oneOrTuple, finishC, cut, fillCells, setCells, szOf, szOf_desc, elems, evalAppend, fillElems, mkElem, List.replicate, sy_nbeq, sy_neqF, sy_leT, sy_leF, sy_setEnt_setEnt, dropped, sy_wrap64, dropEnts, dropCells, hg, hG, hC, hC0, hD, hN, hN2, sizeMost] at e
  subst e
  try dsimp only
  refine W.loop (W.seq ?_)
  refine W.reg ?_
  generalize e : stepR _ _ _ = r
  simp (disch := omega) [stepR, evalOps, evalOper, evalE, evalP, evalL, evalOpnd, nth, setNth, COp.cls, COp.isStore, CVal.isUndef, CVal.whole, CVal.cells, CHeap.put, CHeap.get, CHeap.set, wantedC, getEnt, setEnt, partOf, writeBack, evalBin, evalInt, blockMost, initVar, descOf, List.take, List.drop, CVal.lenOf, CVal.isStr, CVal.bare, CVal.strip, CVal.flat, endsC, resultsC, oneOrTuple, finishC, cut, fillCells, setCells, szOf, szOf_desc, elems, evalAppend, fillElems, mkElem, List.replicate, sy_nbeq, sy_neqF, sy_leT, sy_leF, sy_setEnt_setEnt, dropped, sy_wrap64, dropEnts, dropCells, hg, hG, hC, hC0, hD, hN, hN2, sizeMost] at e
  subst e
  try dsimp only
  refine W.seq (W.cond_true rfl (W.skip ?_))
  refine W.seq (W.block ?_)
  refine W.seq ?_
  refine W.reg ?_
  generalize e : stepR _ _ _ = r
  simp (disch := omega) [stepR, evalOps, evalOper, evalE, evalP, evalL, evalOpnd, nth, setNth, COp.cls, COp.isStore, CVal.isUndef, CVal.whole, CVal.cells, CHeap.put, CHeap.get, CHeap.set, wantedC, getEnt, setEnt, partOf, writeBack, evalBin, evalInt, blockMost, initVar, descOf, List.take, List.drop, CVal.lenOf, CVal.isStr, CVal.bare, CVal.strip, CVal.flat, endsC, resultsC, oneOrTuple, finishC, cut, fillCells, setCells, szOf, szOf_desc, elems, evalAppend, fillElems, mkElem, List.replicate, sy_nbeq, sy_neqF, sy_leT, sy_leF, sy_setEnt_setEnt, dropped, sy_wrap64, dropEnts, dropCells, hg, hG, hC, hC0, hD, hN, hN2, sizeMost] at e
  subst e
  try dsimp only
  refine W.seq ?_
  refine W.region (Wo.upto 3 rfl ?_)
  generalize e : evalOps _ _ _ _ _ = r
  simp (disch := omega) [stepR, evalOps, evalOper, evalE, evalP, evalL, evalOpnd, nth, setNth, COp.cls, COp.isStore, CVal.isUndef, CVal.whole, CVal.cells, CHeap.put, CHeap.get, CHeap.set, wantedC, getEnt, setEnt, partOf, writeBack, evalBin, evalInt, blockMost, initVar, descOf, List.take, List.drop, CVal.lenOf, CVal.isStr, CVal.bare, CVal.strip, CVal.flat, endsC, resultsC, oneOrTuple, finishC, cut, fillCells, setCells, szOf, szOf_desc, elems, evalAppend, fillElems, mkElem, List.replicate, sy_nbeq, sy_neqF, sy_leT, sy_leF, sy_setEnt_setEnt, dropped, sy_wrap64, dropEnts, dropCells, hg, hG, hC, hC0, hD, hN, hN2, sizeMost] at e
  subst e
  try dsimp only
  refine Wo.call ?_
  try dsimp only
  refine get_none _ _ (by repeat (first | exact hu.le (by dsimp only; omega) | exact hu.set.le (by dsimp only; omega) | refine Under.cons (by dsimp only; omega) ?_)) _ fun n2 hn2 => ⟨rfl, ?_⟩
  try dsimp only at hn2
  refine Wo.rest ?_
  generalize e : evalOps _ _ _ _ _ = r
  simp (disch := omega) [stepR, evalOps, evalOper, evalE, evalP, evalL, evalOpnd, nth, setNth, COp.cls, COp.isStore, CVal.isUndef, CVal.whole, CVal.cells, CHeap.put, CHeap.get, CHeap.set, wantedC, getEnt, setEnt, partOf, writeBack, evalBin, evalInt, blockMost, initVar, descOf, List.take, List.drop, CVal.lenOf, CVal.isStr, CVal.bare, CVal.strip, CVal.flat, endsC, resultsC, oneOrTuple, finishC, cut, fillCells, setCells, szOf, szOf_desc, elems, evalAppend, fillElems, mkElem, List.replicate, sy_nbeq, sy_neqF, sy_leT, sy_leF, sy_setEnt_setEnt, dropped, sy_wrap64, dropEnts, dropCells, hg, hG, hC, hC0, hD, hN, hN2, sizeMost] at e
  subst e
  try dsimp only
  refine W.seq ?_
  refine W.seq ?_
  refine W.reg ?_
  generalize e : stepR _ _ _ = r
  simp (disch := omega) [stepR, evalOps, evalOper, evalE, evalP, evalL, evalOpnd, nth, setNth, COp.cls, COp.isStore, CVal.isUndef, CVal.whole, CVal.cells, CHeap.put, CHeap.get, CHeap.set, wantedC, getEnt, setEnt, partOf, writeBack, evalBin, evalInt, blockMost, initVar, descOf, List.take, List.drop, CVal.lenOf, CVal.isStr, CVal.bare, CVal.strip, CVal.flat, endsC, resultsC, oneOrTuple, finishC, cut, fillCells, setCells, szOf, szOf_desc, elems, evalAppend, fillElems, mkElem, List.replicate, sy_nbeq, sy_neqF, sy_leT, sy_leF, sy_setEnt_setEnt, dropped, sy_wrap64, dropEnts, dropCells, hg, hG, hC, hC0, hD, hN, hN2, sizeMost] at e
  subst e
  try dsimp only
  refine W.cond_true rfl ?_
  refine W.reg ?_
  generalize e : stepR _ _ _ = r
  simp (disch := omega) [stepR, evalOps, evalOper, evalE, evalP, evalL, evalOpnd, nth, setNth, COp.cls, COp.isStore, CVal.isUndef, CVal.whole, CVal.cells, CHeap.put, CHeap.get, CHeap.set, wantedC, getEnt, setEnt, partOf, writeBack, evalBin, evalInt, blockMost, initVar, descOf, List.take, List.drop, CVal.lenOf, CVal.isStr, CVal.bare, CVal.strip, CVal.flat, endsC, resultsC, oneOrTuple, finishC, cut, fillCells, setCells, szOf, szOf_desc, elems, evalAppend, fillElems, mkElem, List.replicate, sy_nbeq, sy_neqF, sy_leT, sy_leF, sy_setEnt_setEnt, dropped, sy_wrap64, dropEnts, dropCells, hg, hG, hC, hC0, hD, hN, hN2, sizeMost] at e
  subst e
  try dsimp only
  refine W.seq ?_
  refine W.seq ?_
  refine W.reg ?_
  generalize e : stepR _ _ _ = r
  simp (disch := omega) [stepR, evalOps, evalOper, evalE, evalP, evalL, evalOpnd, nth, setNth, COp.cls, COp.isStore, CVal.isUndef, CVal.whole, CVal.cells, CHeap.put, CHeap.get, CHeap.set, wantedC, getEnt, setEnt, partOf, writeBack, evalBin, evalInt, blockMost, initVar, descOf, List.take, List.drop, CVal.lenOf, CVal.isStr, CVal.bare, CVal.strip, CVal.flat, endsC, resultsC, oneOrTuple, finishC, cut, fillCells, setCells, szOf, szOf_desc, elems, evalAppend, fillElems, mkElem, List.replicate, sy_nbeq, sy_neqF, sy_leT, sy_leF, sy_setEnt_setEnt, dropped, sy_wrap64, dropEnts, dropCells, hg, hG, hC, hC0, hD, hN, hN2, sizeMost] at e
  subst e
  try dsimp only
  refine W.cond_false rfl (W.skip ?_)
  refine W.seq ?_
  refine W.region (Wo.upto 5 rfl ?_)
  generalize e : evalOps _ _ _ _ _ = r
  simp (disch := omega) [stepR, evalOps, evalOper, evalE, evalP, evalL, evalOpnd, nth, setNth, COp.cls, COp.isStore, CVal.isUndef, CVal.whole, CVal.cells, CHeap.put, CHeap.get, CHeap.set, wantedC, getEnt, setEnt, partOf, writeBack, evalBin, evalInt, blockMost, initVar, descOf, List.take, List.drop, CVal.lenOf, CVal.isStr, CVal.bare, CVal.strip, CVal.flat, endsC, resultsC, oneOrTuple, finishC, cut, fillCells, setCells, szOf, szOf_desc, elems, evalAppend, fillElems, mkElem, List.replicate, sy_nbeq, sy_neqF, sy_leT, sy_leF, sy_setEnt_setEnt, dropped, sy_wrap64, dropEnts, dropCells, hg, hG, hC, hC0, hD, hN, hN2, sizeMost] at e
  subst e
  try dsimp only
  refine Wo.call ?_
  refine V deep (c + sz) _ _ (by simp (disch := omega) [getEnt, setEnt, sy_nbeq, sy_neqF, sy_setEnt_setEnt, hg, hG]) (by repeat (first | exact hu.le (by dsimp only; omega) | exact hu.set.le (by dsimp only; omega) | refine Under.cons (by dsimp only; omega) ?_)) (by dsimp only; omega) (by omega) (by omega) hd0 hdd (fun hfit2 m2 hm2 => ⟨rfl, ?_⟩) (fun hno m2 c' hm2 => ⟨rfl, ?_⟩) <;> try dsimp only at hm2
  rotate_left
  · refine Wo.rest ?_
    generalize e : evalOps _ _ _ _ _ = r
    simp (disch := omega) [stepR, evalOps, evalOper, evalE, evalP, evalL, evalOpnd, nth, setNth, COp.cls, COp.isStore, CVal.isUndef, CVal.whole, CVal.cells, CHeap.put, CHeap.get, CHeap.set, wantedC, getEnt, setEnt, partOf, writeBack, evalBin, evalInt, blockMost, initVar, descOf, List.take, List.drop, CVal.lenOf, CVal.isStr, CVal.bare, CVal.strip, CVal.flat, endsC, resultsC, oneOrTuple, finishC, cut, fillCells, setCells, szOf, szOf_desc, elems, evalAppend, fillElems, mkElem, List.replicate, sy_nbeq, sy_neqF, sy_leT, sy_leF, sy_setEnt_setEnt, dropped, sy_wrap64, dropEnts, dropCells, hg, hG, hC, hC0, hD, hN, hN2, sizeMost] at e
    subst e
    try dsimp only
    refine W.seq ?_
    refine W.seq ?_
    refine W.reg ?_
    generalize e : stepR _ _ _ = r
    simp (disch := omega) [stepR, evalOps, evalOper, evalE, evalP, evalL, evalOpnd, nth, setNth, COp.cls, COp.isStore, CVal.isUndef, CVal.whole, CVal.cells, CHeap.put, CHeap.get, CHeap.set, wantedC, getEnt, setEnt, partOf, writeBack, evalBin, evalInt, blockMost, initVar, descOf, List.take, List.drop, CVal.lenOf, CVal.isStr, CVal.bare, CVal.strip, CVal.flat, endsC, resultsC, oneOrTuple, finishC, cut, fillCells, setCells, szOf, szOf_desc, elems, evalAppend, fillElems, mkElem, List.replicate, sy_nbeq, sy_neqF, sy_leT, sy_leF, sy_setEnt_setEnt, dropped, sy_wrap64, dropEnts, dropCells, hg, hG, hC, hC0, hD, hN, hN2, sizeMost] at e
    subst e
    try dsimp only
    refine W.cond_true rfl ?_
    refine W.seq ?_
    refine W.reg ?_
    generalize e : stepR _ _ _ = r
    simp (disch := omega) [stepR, evalOps, evalOper, evalE, evalP, evalL, evalOpnd, nth, setNth, COp.cls, COp.isStore, CVal.isUndef, CVal.whole, CVal.cells, CHeap.put, CHeap.get, CHeap.set, wantedC, getEnt, setEnt, partOf, writeBack, evalBin, evalInt, blockMost, initVar, descOf, List.take, List.drop, CVal.lenOf, CVal.isStr, CVal.bare, CVal.strip, CVal.flat, endsC, resultsC, oneOrTuple, finishC, cut, fillCells, setCells, szOf, szOf_desc, elems, evalAppend, fillElems, mkElem, List.replicate, sy_nbeq, sy_neqF, sy_leT, sy_leF, sy_setEnt_setEnt, dropped, sy_wrap64, dropEnts, dropCells, hg, hG, hC, hC0, hD, hN, hN2, sizeMost] at e
    subst e
    try dsimp only
    refine W.ret (endW.intro rfl ?_)
    generalize e : endsC _ _ _ = r
    simp (disch := omega) [stepR, evalOps, evalOper, evalE, evalP, evalL, evalOpnd, nth, setNth, COp.cls, COp.isStore, CVal.isUndef, CVal.whole, CVal.cells, CHeap.put, CHeap.get, CHeap.set, wantedC, getEnt, setEnt, partOf, writeBack, evalBin, evalInt, blockMost, initVar, descOf, List.take, List.drop, CVal.lenOf, CVal.isStr, CVal.bare, CVal.strip, CVal.flat, endsC, resultsC, oneOrTuple, finishC, cut, fillCells, setCells, szOf, szOf_desc, elems, evalAppend, fillElems, mkElem, List.replicate, sy_nbeq, sy_neqF, sy_leT, sy_leF, sy_setEnt_setEnt, dropped, sy_wrap64, dropEnts, dropCells, c14, hg, hG, hC, hC0, hD, hN, hN2, sizeMost] at e
    subst e
    try dsimp only
    exact he (by omega) _ _ (by omega)
  refine Wo.rest ?_
  generalize e : evalOps _ _ _ _ _ = r
  simp (disch := omega) [stepR, evalOps, evalOper, evalE, evalP, evalL, evalOpnd, nth, setNth, COp.cls, COp.isStore, CVal.isUndef, CVal.whole, CVal.cells, CHeap.put, CHeap.get, CHeap.set, wantedC, getEnt, setEnt, partOf, writeBack, evalBin, evalInt, blockMost, initVar, descOf, List.take, List.drop, CVal.lenOf, CVal.isStr, CVal.bare, CVal.strip, CVal.flat, endsC, resultsC, oneOrTuple, finishC, cut, fillCells, setCells, szOf, szOf_desc, elems, evalAppend, fillElems, mkElem, List.replicate, sy_nbeq, sy_neqF, sy_leT, sy_leF, sy_setEnt_setEnt, dropped, sy_wrap64, dropEnts, dropCells, hg, hG, hC, hC0, hD, hN, hN2, sizeMost] at e
  subst e
  try dsimp only
  refine W.seq ?_
  refine W.seq ?_
  refine W.reg ?_
  generalize e : stepR _ _ _ = r
  simp (disch := omega) [stepR, evalOps, evalOper, evalE, evalP, evalL, evalOpnd, nth, setNth, COp.cls, COp.isStore, CVal.isUndef, CVal.whole, CVal.cells, CHeap.put, CHeap.get, CHeap.set, wantedC, getEnt, setEnt, partOf, writeBack, evalBin, evalInt, blockMost, initVar, descOf, List.take, List.drop, CVal.lenOf, CVal.isStr, CVal.bare, CVal.strip, CVal.flat, endsC, resultsC, oneOrTuple, finishC, cut, fillCells, setCells, szOf, szOf_desc, elems, evalAppend, fillElems, mkElem, List.replicate, sy_nbeq, sy_neqF, sy_leT, sy_leF, sy_setEnt_setEnt, dropped, sy_wrap64, dropEnts, dropCells, hg, hG, hC, hC0, hD, hN, hN2, sizeMost] at e
  subst e
  try dsimp only
  refine W.cond_false rfl (W.skip ?_)
  refine W.reg ?_
  generalize e : stepR _ _ _ = r
  simp (disch := omega) [stepR, evalOps, evalOper, evalE, evalP, evalL, evalOpnd, nth, setNth, COp.cls, COp.isStore, CVal.isUndef, CVal.whole, CVal.cells, CHeap.put, CHeap.get, CHeap.set, wantedC, getEnt, setEnt, partOf, writeBack, evalBin, evalInt, blockMost, initVar, descOf, List.take, List.drop, CVal.lenOf, CVal.isStr, CVal.bare, CVal.strip, CVal.flat, endsC, resultsC, oneOrTuple, finishC, cut, fillCells, setCells, szOf, szOf_desc, elems, evalAppend, fillElems, mkElem, List.replicate, sy_nbeq, sy_neqF, sy_leT, sy_leF, sy_setEnt_setEnt, dropped, sy_wrap64, dropEnts, dropCells, hg, hG, hC, hC0, hD, hN, hN2, sizeMost] at e
  subst e
  try dsimp only
  refine W.reg ?_
  generalize e : stepR _ _ _ = r
  simp (disch := omega) [stepR, evalOps, evalOper, evalE, evalP, evalL, evalOpnd, nth, setNth, COp.cls, COp.isStore, CVal.isUndef, CVal.whole, CVal.cells, CHeap.put, CHeap.get, CHeap.set, wantedC, getEnt, setEnt, partOf, writeBack, evalBin, evalInt, blockMost, initVar, descOf, List.take, List.drop, CVal.lenOf, CVal.isStr, CVal.bare, CVal.strip, CVal.flat, endsC, resultsC, oneOrTuple, finishC, cut, fillCells, setCells, szOf, szOf_desc, elems, evalAppend, fillElems, mkElem, List.replicate, sy_nbeq, sy_neqF, sy_leT, sy_leF, sy_setEnt_setEnt, dropped, sy_wrap64, dropEnts, dropCells, hg, hG, hC, hC0, hD, hN, hN2, sizeMost] at e
  subst e
  try dsimp only
  refine W.loop (W.seq ?_)
  refine W.reg ?_
  generalize e : stepR _ _ _ = r
  simp (disch := omega) [stepR, evalOps, evalOper, evalE, evalP, evalL, evalOpnd, nth, setNth, COp.cls, COp.isStore, CVal.isUndef, CVal.whole, CVal.cells, CHeap.put, CHeap.get, CHeap.set, wantedC, getEnt, setEnt, partOf, writeBack, evalBin, evalInt, blockMost, initVar, descOf, List.take, List.drop, CVal.lenOf, CVal.isStr, CVal.bare, CVal.strip, CVal.flat, endsC, resultsC, oneOrTuple, finishC, cut, fillCells, setCells, szOf, szOf_desc, elems, evalAppend, fillElems, mkElem, List.replicate, sy_nbeq, sy_neqF, sy_leT, sy_leF, sy_setEnt_setEnt, dropped, sy_wrap64, dropEnts, dropCells, hg, hG, hC, hC0, hD, hN, hN2, sizeMost] at e
  subst e
  try dsimp only
  refine W.seq (W.cond_false rfl (W.exit ?_))
  refine W.seq ?_
  refine W.reg ?_
  generalize e : stepR _ _ _ = r
  simp (disch := omega) [stepR, evalOps, evalOper, evalE, evalP, evalL, evalOpnd, nth, setNth, COp.cls, COp.isStore, CVal.isUndef, CVal.whole, CVal.cells, CHeap.put, CHeap.get, CHeap.set, wantedC, getEnt, setEnt, partOf, writeBack, evalBin, evalInt, blockMost, initVar, descOf, List.take, List.drop, CVal.lenOf, CVal.isStr, CVal.bare, CVal.strip, CVal.flat, endsC, resultsC, oneOrTuple, finishC, cut, fillCells, setCells, szOf, szOf_desc, elems, evalAppend, fillElems, mkElem, List.replicate, sy_nbeq, sy_neqF, sy_leT, sy_leF, sy_setEnt_setEnt, dropped, sy_wrap64, dropEnts, dropCells, hg, hG, hC, hC0, hD, hN, hN2, sizeMost] at e
  subst e
  try dsimp only
  refine W.ret (endW.intro rfl ?_)
  generalize e : endsC _ _ _ = r
  simp (disch := omega) [stepR, evalOps, evalOper, evalE, evalP, evalL, evalOpnd, nth, setNth, COp.cls, COp.isStore, CVal.isUndef, CVal.whole, CVal.cells, CHeap.put, CHeap.get, CHeap.set, wantedC, getEnt, setEnt, partOf, writeBack, evalBin, evalInt, blockMost, initVar, descOf, List.take, List.drop, CVal.lenOf, CVal.isStr, CVal.bare, CVal.strip, CVal.flat, endsC, resultsC, oneOrTuple, finishC, cut, fillCells, setCells, szOf, szOf_desc, elems, evalAppend, fillElems, mkElem, List.replicate, sy_nbeq, sy_neqF, sy_leT, sy_leF, sy_setEnt_setEnt, dropped, sy_wrap64, dropEnts, dropCells, c14, hg, hG, hC, hC0, hD, hN, hN2, sizeMost] at e
  subst e
  try dsimp only
  have hk2 := hk (by push_cast; omega)
  rw [show c + ((sz + sz : Nat) : Int) = c + sz + sz by push_cast; omega] at hk2
  exact hk2 _ (by omega)

theorem record_node0 (ts : List CVal) (nm : List UInt8) (m d i sz : Nat) (dm : Int) (hdm : dm ≤ 20) (V : VSpec ts m d i sz [.int .u64 0, .str [], .nils, .nils, .int .i64 0] dm)
    (deep c : Int) (h : CHeap) (hg : getEnt h.ents m = some (.cells [.imm .none 10 ts, .int .i64 c])) (hu : Under h.ents h.next) (hm : m < h.next) (hc0 : 0 ≤ c) (hc : c ≤ 2000) (hd0 : 0 ≤ deep) (hdd : deep ≤ dm) (K : CVal → CHeap → Prop)
    (hk : c + (sz + sz : Nat) ≤ 2000 → ∀ n', h.next ≤ n' → K (.tup [.agg [.int .u64 0, .str [], .imm .none 5 [.agg [.int .u64 0, .str [], .nils, .nils, .int .i64 0], .agg [.int .u64 0, .str [], .nils, .nils, .int .i64 0]], .nils, .int .i64 0], .int .i64 0]) { h with ents := setEnt h.ents m (.cells [.imm .none 10 ts, .int .i64 (c + (sz + sz : Nat))]), next := n' })
    (he : 2000 < c + (sz + sz : Nat) → ∀ n' (c' : Int), h.next ≤ n' → K (.tup [.agg zA, .int .i64 3]) { h with ents := setEnt h.ents m (.cells [.imm .none 10 ts, .int .i64 c']), next := n' }) :
    Wc tree.getF 14 [.ptr m d 0, .agg (tyC nm (.imm .full 9 [fld [97] i, fld [98] i])), .agg nJ, .int .i64 deep] h K := by
  have hD : ∀ x, dropEnts (setEnt h.ents m x) h.next = setEnt h.ents m x := fun x => dropEnts_under hu.set
  have hC : ∀ x n, h.next ≤ n → dropCells (setEnt h.ents m x) n = setEnt h.ents m x := fun x n hn => dropCells_under (hu.set.le hn)
  have hC0 : ∀ n, h.next ≤ n → dropCells h.ents n = h.ents := fun n hn => dropCells_under (hu.le hn)
  have hN : ∀ b, h.next ≤ b → getEnt h.ents b = none := fun b hb => getEnt_under hu hb
  have hN2 : ∀ x b, h.next ≤ b → getEnt (setEnt h.ents m x) b = none := fun x b hb => getEnt_under hu.set hb
  have hG : ∀ x, getEnt (setEnt h.ents m x) m = some x := fun x => sy_getEnt_setEnt hg
  refine Wc.mk' (fn := c14) (by kernel_rfl) rfl ?_
  refine W.seq ?_
  refine W.reg ?_
  generalize e : stepR _ _ _ = r
  simp (disch := omega) [stepR, evalOps, evalOper, evalE, evalP, evalL, evalOpnd, nth, setNth, COp.cls, COp.isStore, CVal.isUndef, CVal.whole, CVal.cells, CHeap.put, CHeap.get, CHeap.set, wantedC, getEnt, setEnt, partOf, writeBack, evalBin, evalInt, blockMost, initVar, descOf, List.take, List.drop, CVal.lenOf, CVal.isStr, CVal.bare, CVal.strip, CVal.flat, endsC, resultsC, oneOrTuple, finishC, cut, fillCells, setCells, szOf, szOf_desc, elems, evalAppend, fillElems, mkElem, List.replicate, sy_nbeq, sy_neqF, sy_leT, sy_leF, sy_setEnt_setEnt, dropped, sy_wrap64, dropEnts, dropCells, c14] at e
  subst e
  try dsimp only
  refine W.seq ?_
  refine W.seq ?_
  refine W.reg ?_
  generalize e : stepR _ _ _ = r
  simp (disch := omega) [stepR, evalOps, evalOper, evalE, evalP, evalL, evalOpnd, nth, setNth, COp.cls, COp.isStore, CVal.isUndef, CVal.whole, CVal.cells, CHeap.put, CHeap.get, CHeap.set, wantedC, getEnt, setEnt, partOf, writeBack, evalBin, evalInt, blockMost, initVar, descOf, List.take, List.drop, CVal.lenOf, CVal.isStr, CVal.bare, CVal.strip, CVal.flat, endsC, resultsC, oneOrTuple, finishC, cut, fillCells, setCells, szOf, szOf_desc, elems, evalAppend, fillElems, mkElem, List.replicate, sy_nbeq, sy_neqF, sy_leT, sy_leF, sy_setEnt_setEnt, dropped, sy_wrap64, dropEnts, dropCells, hg, hG, hC, hC0, hD, hN, hN2, sizeMost] at e
  subst e
  try dsimp only
  refine W.block (W.loop (W.seq ?_))
  refine W.reg ?_
  generalize e : stepR _ _ _ = r
  simp (disch := omega) [stepR, evalOps, evalOper, evalE, evalP, evalL, evalOpnd, nth, setNth, COp.cls, COp.isStore, CVal.isUndef, CVal.whole, CVal.cells, CHeap.put, CHeap.get, CHeap.set, wantedC, getEnt, setEnt, partOf, writeBack, evalBin, evalInt, blockMost, initVar, descOf, List.take, List.drop, CVal.lenOf, CVal.isStr, CVal.bare, CVal.strip, CVal.flat, endsC, resultsC, oneOrTuple, finishC, cut, fillCells, setCells, szOf, szOf_desc, elems, evalAppend, fillElems, mkElem, List.replicate, sy_nbeq, sy_neqF, sy_leT, sy_leF, sy_setEnt_setEnt, dropped, sy_wrap64, dropEnts, dropCells, hg, hG, hC, hC0, hD, hN, hN2, sizeMost] at e
  subst e
  try dsimp only
  refine W.seq (W.cond_true rfl (W.skip ?_))
  refine W.seq (W.block ?_)
  refine W.seq ?_
  refine W.reg ?_
  generalize e : stepR _ _ _ = r
  simp (disch := omega) [stepR, evalOps, evalOper, evalE, evalP, evalL, evalOpnd, nth, setNth, COp.cls, COp.isStore, CVal.isUndef, CVal.whole, CVal.cells, CHeap.put, CHeap.get, CHeap.set, wantedC, getEnt, setEnt, partOf, writeBack, evalBin, evalInt, blockMost, initVar, descOf, List.take, List.drop, CVal.lenOf, CVal.isStr, CVal.bare, CVal.strip, CVal.flat, endsC, resultsC, oneOrTuple, finishC, cut, fillCells, setCells, szOf, szOf_desc, elems, evalAppend, fillElems, mkElem, List.replicate, sy_nbeq, sy_neqF, sy_leT, sy_leF, sy_setEnt_setEnt, dropped, sy_wrap64, dropEnts, dropCells, hg, hG, hC, hC0, hD, hN, hN2, sizeMost] at e
  subst e
  try dsimp only
  refine W.seq ?_
  refine W.region (Wo.upto 3 rfl ?_)
  generalize e : evalOps _ _ _ _ _ = r
  simp (disch := omega) [stepR, evalOps, evalOper, evalE, evalP, evalL, evalOpnd, nth, setNth, COp.cls, COp.isStore, CVal.isUndef, CVal.whole, CVal.cells, CHeap.put, CHeap.get, CHeap.set, wantedC, getEnt, setEnt, partOf, writeBack, evalBin, evalInt, blockMost, initVar, descOf, List.take, List.drop, CVal.lenOf, CVal.isStr, CVal.bare, CVal.strip, CVal.flat, endsC, resultsC, oneOrTuple, finishC, cut, fillCells, setCells, szOf, szOf_desc, elems, evalAppend, fillElems, mkElem, List.replicate, sy_nbeq, sy_neqF, sy_leT, sy_leF, sy_setEnt_setEnt, dropped, sy_wrap64, dropEnts, dropCells, hg, hG, hC, hC0, hD, hN, hN2, sizeMost] at e
  subst e
  try dsimp only
  refine Wo.call ?_
  try dsimp only
  refine get_none _ _ (by repeat (first | exact hu.le (by dsimp only; omega) | exact hu.set.le (by dsimp only; omega) | refine Under.cons (by dsimp only; omega) ?_)) _ fun n1 hn1 => ⟨rfl, ?_⟩
  try dsimp only at hn1
  refine Wo.rest ?_
  generalize e : evalOps _ _ _ _ _ = r
  simp (disch := omega) [stepR, evalOps, evalOper, evalE, evalP, evalL, evalOpnd, nth, setNth, COp.cls, COp.isStore, CVal.isUndef, CVal.whole, CVal.cells, CHeap.put, CHeap.get, CHeap.set, wantedC, getEnt, setEnt, partOf, writeBack, evalBin, evalInt, blockMost, initVar, descOf, List.take, List.drop, CVal.lenOf, CVal.isStr, CVal.bare, CVal.strip, CVal.flat, endsC, resultsC, oneOrTuple, finishC, cut, fillCells, setCells, szOf, szOf_desc, elems, evalAppend, fillElems, mkElem, List.replicate, sy_nbeq, sy_neqF, sy_leT, sy_leF, sy_setEnt_setEnt, dropped, sy_wrap64, dropEnts, dropCells, hg, hG, hC, hC0, hD, hN, hN2, sizeMost] at e
  subst e
  try dsimp only
  refine W.seq ?_
  refine W.seq ?_
  refine W.reg ?_
  generalize e : stepR _ _ _ = r
  simp (disch := omega) [stepR, evalOps, evalOper, evalE, evalP, evalL, evalOpnd, nth, setNth, COp.cls, COp.isStore, CVal.isUndef, CVal.whole, CVal.cells, CHeap.put, CHeap.get, CHeap.set, wantedC, getEnt, setEnt, partOf, writeBack, evalBin, evalInt, blockMost, initVar, descOf, List.take, List.drop, CVal.lenOf, CVal.isStr, CVal.bare, CVal.strip, CVal.flat, endsC, resultsC, oneOrTuple, finishC, cut, fillCells, setCells, szOf, szOf_desc, elems, evalAppend, fillElems, mkElem, List.replicate, sy_nbeq, sy_neqF, sy_leT, sy_leF, sy_setEnt_setEnt, dropped, sy_wrap64, dropEnts, dropCells, hg, hG, hC, hC0, hD, hN, hN2, sizeMost] at e
  subst e
  try dsimp only
  refine W.cond_true rfl ?_
  refine W.reg ?_
  generalize e : stepR _ _ _ = r
  simp (disch := omega) [stepR, evalOps, evalOper, evalE, evalP, evalL, evalOpnd, nth, setNth, COp.cls, COp.isStore, CVal.isUndef, CVal.whole, CVal.cells, CHeap.put, CHeap.get, CHeap.set, wantedC, getEnt, setEnt, partOf, writeBack, evalBin, evalInt, blockMost, initVar, descOf, List.take, List.drop, CVal.lenOf, CVal.isStr, CVal.bare, CVal.strip, CVal.flat, endsC, resultsC, oneOrTuple, finishC, cut, fillCells, setCells, szOf, szOf_desc, elems, evalAppend, fillElems, mkElem, List.replicate, sy_nbeq, sy_neqF, sy_leT, sy_leF, sy_setEnt_setEnt, dropped, sy_wrap64, dropEnts, dropCells, hg, hG, hC, hC0, hD, hN, hN2, sizeMost] at e
  subst e
  try dsimp only
  refine W.seq ?_
  refine W.seq ?_
  refine W.reg ?_
  generalize e : stepR _ _ _ = r
  simp (disch := omega) [stepR, evalOps, evalOper, evalE, evalP, evalL, evalOpnd, nth, setNth, COp.cls, COp.isStore, CVal.isUndef, CVal.whole, CVal.cells, CHeap.put, CHeap.get, CHeap.set, wantedC, getEnt, setEnt, partOf, writeBack, evalBin, evalInt, blockMost, initVar, descOf, List.take, List.drop, CVal.lenOf, CVal.isStr, CVal.bare, CVal.strip, CVal.flat, endsC, resultsC, oneOrTuple, finishC, cut, fillCells, setCells, szOf, szOf_desc, elems, evalAppend, fillElems, mkElem, List.replicate, sy_nbeq, sy_neqF, sy_leT, sy_leF, sy_setEnt_setEnt, dropped, sy_wrap64, dropEnts, dropCells, hg, hG, hC, hC0, hD, hN, hN2, sizeMost] at e
  subst e
  try dsimp only
  refine W.cond_false rfl (W.skip ?_)
  refine W.seq ?_
  refine W.region (Wo.upto 5 rfl ?_)
  generalize e : evalOps _ _ _ _ _ = r
  simp (disch := omega) [stepR, evalOps, evalOper, evalE, evalP, evalL, evalOpnd, nth, setNth, COp.cls, COp.isStore, CVal.isUndef, CVal.whole, CVal.cells, CHeap.put, CHeap.get, CHeap.set, wantedC, getEnt, setEnt, partOf, writeBack, evalBin, evalInt, blockMost, initVar, descOf, List.take, List.drop, CVal.lenOf, CVal.isStr, CVal.bare, CVal.strip, CVal.flat, endsC, resultsC, oneOrTuple, finishC, cut, fillCells, setCells, szOf, szOf_desc, elems, evalAppend, fillElems, mkElem, List.replicate, sy_nbeq, sy_neqF, sy_leT, sy_leF, sy_setEnt_setEnt, dropped, sy_wrap64, dropEnts, dropCells, hg, hG, hC, hC0, hD, hN, hN2, sizeMost] at e
  subst e
  try dsimp only
  refine Wo.call ?_
  refine V deep c _ _ (by simp (disch := omega) [getEnt, setEnt, sy_nbeq, sy_neqF, sy_setEnt_setEnt, hg, hG]) (by repeat (first | exact hu.le (by dsimp only; omega) | exact hu.set.le (by dsimp only; omega) | refine Under.cons (by dsimp only; omega) ?_)) (by dsimp only; omega) (by omega) (by omega) hd0 hdd (fun hfit1 m1 hm1 => ⟨rfl, ?_⟩) (fun hno m1 c' hm1 => ⟨rfl, ?_⟩) <;> try dsimp only at hm1
  rotate_left
  · refine Wo.rest ?_
    generalize e : evalOps _ _ _ _ _ = r
    simp (disch := omega) [stepR, evalOps, evalOper, evalE, evalP, evalL, evalOpnd, nth, setNth, COp.cls, COp.isStore, CVal.isUndef, CVal.whole, CVal.cells, CHeap.put, CHeap.get, CHeap.set, wantedC, getEnt, setEnt, partOf, writeBack, evalBin, evalInt, blockMost, initVar, descOf, List.take, List.drop, CVal.lenOf, CVal.isStr, CVal.bare, CVal.strip, CVal.flat, endsC, resultsC, oneOrTuple, finishC, cut, fillCells, setCells, szOf, szOf_desc, elems, evalAppend, fillElems, mkElem, List.replicate, sy_nbeq, sy_neqF, sy_leT, sy_leF, sy_setEnt_setEnt, dropped, sy_wrap64, dropEnts, dropCells, hg, hG, hC, hC0, hD, hN, hN2, sizeMost] at e
    subst e
    try dsimp only
    refine W.seq ?_
    refine W.seq ?_
    refine W.reg ?_
    generalize e : stepR _ _ _ = r
    simp (disch := omega) [stepR, evalOps, evalOper, evalE, evalP, evalL, evalOpnd, nth, setNth, COp.cls, COp.isStore, CVal.isUndef, CVal.whole, CVal.cells, CHeap.put, CHeap.get, CHeap.set, wantedC, getEnt, setEnt, partOf, writeBack, evalBin, evalInt, blockMost, initVar, descOf, List.take, List.drop, CVal.lenOf, CVal.isStr, CVal.bare, CVal.strip, CVal.flat, endsC, resultsC, oneOrTuple, finishC, cut, fillCells, setCells, szOf, szOf_desc, elems, evalAppend, fillElems, mkElem, List.replicate, sy_nbeq, sy_neqF, sy_leT, sy_leF, sy_setEnt_setEnt, dropped, sy_wrap64, dropEnts, dropCells, hg, hG, hC, hC0, hD, hN, hN2, sizeMost] at e
    subst e
    try dsimp only
    refine W.cond_true rfl ?_
    refine W.seq ?_
    refine W.reg ?_
    generalize e : stepR _ _ _ = r
    simp (disch := omega) [stepR, evalOps, evalOper, evalE, evalP, evalL, evalOpnd, nth, setNth, COp.cls, COp.isStore, CVal.isUndef, CVal.whole, CVal.cells, CHeap.put, CHeap.get, CHeap.set, wantedC, getEnt, setEnt, partOf, writeBack, evalBin, evalInt, blockMost, initVar, descOf, List.take, List.drop, CVal.lenOf, CVal.isStr, CVal.bare, CVal.strip, CVal.flat, endsC, resultsC, oneOrTuple, finishC, cut, fillCells, setCells, szOf, szOf_desc, elems, evalAppend, fillElems, mkElem, List.replicate, sy_nbeq, sy_neqF, sy_leT, sy_leF, sy_setEnt_setEnt, dropped, sy_wrap64, dropEnts, dropCells, hg, hG, hC, hC0, hD, hN, hN2, sizeMost] at e
    subst e
    try dsimp only
    refine W.ret (endW.intro rfl ?_)
    generalize e : endsC _ _ _ = r
    simp (disch := omega) [stepR, evalOps, evalOper, evalE, evalP, evalL, evalOpnd, nth, setNth, COp.cls, COp.isStore, CVal.isUndef, CVal.whole, CVal.cells, CHeap.put, CHeap.get, CHeap.set, wantedC, getEnt, setEnt, partOf, writeBack, evalBin, evalInt, blockMost, initVar, descOf, List.take, List.drop, CVal.lenOf, CVal.isStr, CVal.bare, CVal.strip, CVal.flat, endsC, resultsC, oneOrTuple, finishC, cut, fillCells, setCells, szOf, szOf_desc, elems, evalAppend, fillElems, mkElem, List.replicate, sy_nbeq, sy_neqF, sy_leT, sy_leF, sy_setEnt_setEnt, dropped, sy_wrap64, dropEnts, dropCells, c14, hg, hG, hC, hC0, hD, hN, hN2, sizeMost] at e
    subst e
    try dsimp only
    exact he (by omega) _ _ (by omega)
  refine Wo.rest ?_
  generalize e : evalOps _ _ _ _ _ = r
  simp (disch := omega) [stepR, evalOps, evalOper, evalE, evalP, evalL, evalOpnd, nth, setNth, COp.cls, COp.isStore, CVal.isUndef, CVal.whole, CVal.cells, CHeap.put, CHeap.get, CHeap.set, wantedC, getEnt, setEnt, partOf, writeBack, evalBin, evalInt, blockMost, initVar, descOf, List.take, List.drop, CVal.lenOf, CVal.isStr, CVal.bare, CVal.strip, CVal.flat, endsC, resultsC, oneOrTuple, finishC, cut, fillCells, setCells, szOf, szOf_desc, elems, evalAppend, fillElems, mkElem, List.replicate, sy_nbeq, sy_neqF, sy_leT, sy_leF, sy_setEnt_setEnt, dropped, sy_wrap64, dropEnts, dropCells, hg, hG, hC, hC0, hD, hN, hN2, sizeMost] at e
  subst e
  try dsimp only
  refine W.seq ?_
  refine W.seq ?_
  refine W.reg ?_
  generalize e : stepR _ _ _ = r
  simp (disch := omega) [stepR, evalOps, evalOper, evalE, evalP, evalL, evalOpnd, nth, setNth, COp.cls, COp.isStore, CVal.isUndef, CVal.whole, CVal.cells, CHeap.put, CHeap.get, CHeap.set, wantedC, getEnt, setEnt, partOf, writeBack, evalBin, evalInt, blockMost, initVar, descOf, List.take, List.drop, CVal.lenOf, CVal.isStr, CVal.bare, CVal.strip, CVal.flat, endsC, resultsC, oneOrTuple, finishC, cut, fillCells, setCells, szOf, szOf_desc, elems, evalAppend, fillElems, mkElem, List.replicate, sy_nbeq, sy_neqF, sy_leT, sy_leF, sy_setEnt_setEnt, dropped, sy_wrap64, dropEnts, dropCells, hg, hG, hC, hC0, hD, hN, hN2, sizeMost] at e
  subst e
  try dsimp only
  refine W.cond_false rfl (W.skip ?_)
  refine W.reg ?_
  generalize e : stepR _ _ _ = r
  simp (disch := omega) [stepR, evalOps, evalOper, evalE, evalP, evalL, evalOpnd, nth, setNth, COp.cls, COp.isStore, CVal.isUndef, CVal.whole, CVal.cells, CHeap.put, CHeap.get, CHeap.set, wantedC, getEnt, setEnt, partOf, writeBack, evalBin, evalInt, blockMost, initVar, descOf, List.take, List.drop, CVal.lenOf, CVal.isStr, CVal.bare, CVal.strip, CVal.flat, endsC, resultsC, oneOrTuple, finishC, cut, fillCells, setCells, szOf, szOf_desc, elems, evalAppend, fillElems, mkElem, List.replicate, sy_nbeq, sy_neqF, sy_leT, sy_leF, sy_setEnt_setEnt, dropped, sy_wrap64, dropEnts, dropCells, hg, hG, hC, hC0, hD, hN, hN2, sizeMost] at e
  subst e
  try dsimp only
  refine W.reg ?_
  generalize e : stepR _ _ _ = r
  simp (disch := omega) [stepR, evalOps, evalOper, evalE, evalP, evalL, evalOpnd, nth, setNth, COp.cls, COp.isStore, CVal.isUndef, CVal.whole, CVal.cells, CHeap.put, CHeap.get, CHeap.set, wantedC, getEnt, setEnt, partOf, writeBack, evalBin, evalInt, blockMost, initVar, descOf, List.take, List.drop, CVal.lenOf, CVal.isStr, CVal.bare, CVal.strip, CVal.flat, endsC, resultsC, oneOrTuple, finishC, cut, fillCells, setCells, szOf, szOf_desc, elems, evalAppend, fillElems, mkElem, List.replicate, sy_nbeq, sy_neqF, sy_leT, sy_leF, sy_setEnt_setEnt, dropped, sy_wrap64, dropEnts, dropCells, hg, hG, hC, hC0, hD, hN, hN2, sizeMost] at e
  subst e
  try dsimp only
  refine W.loop (W.seq ?_)
  refine W.reg ?_
  generalize e : stepR _ _ _ = r
  simp (disch := omega) [stepR, evalOps, evalOper, evalE, evalP, evalL, evalOpnd, nth, setNth, COp.cls, COp.isStore, CVal.isUndef, CVal.whole, CVal.cells, CHeap.put, CHeap.get, CHeap.set, wantedC, getEnt, setEnt, partOf, writeBack, evalBin, evalInt, blockMost, initVar, descOf, List.take, List.drop, CVal.lenOf, CVal.isStr, CVal.bare, CVal.strip, CVal.flat, endsC, resultsC, oneOrTuple, finishC, cut, fillCells, setCells, szOf, szOf_desc, elems, evalAppend, fillElems, mkElem, List.replicate, sy_nbeq, sy_neqF, sy_leT, sy_leF, sy_setEnt_setEnt, dropped, sy_wrap64, dropEnts, dropCells, hg, hG, hC, hC0, hD, hN, hN2, sizeMost] at e
  subst e
  try dsimp only
  refine W.seq (W.cond_true rfl (W.skip ?_))
  refine W.seq (W.block ?_)
  refine W.seq ?_
  refine W.reg ?_
  generalize e : stepR _ _ _ = r
  simp (disch := omega) [stepR, evalOps, evalOper, evalE, evalP, evalL, evalOpnd, nth, setNth, COp.cls, COp.isStore, CVal.isUndef, CVal.whole, CVal.cells, CHeap.put, CHeap.get, CHeap.set, wantedC, getEnt, setEnt, partOf, writeBack, evalBin, evalInt, blockMost, initVar, descOf, List.take, List.drop, CVal.lenOf, CVal.isStr, CVal.bare, CVal.strip, CVal.flat, endsC, resultsC, oneOrTuple, finishC, cut, fillCells, setCells, szOf, szOf_desc, elems, evalAppend, fillElems, mkElem, List.replicate, sy_nbeq, sy_neqF, sy_leT, sy_leF, sy_setEnt_setEnt, dropped, sy_wrap64, dropEnts, dropCells, hg, hG, hC, hC0, hD, hN, hN2, sizeMost] at e
  subst e
  try dsimp only
  refine W.seq ?_
  refine W.region (Wo.upto 3 rfl ?_)
  generalize e : evalOps _ _ _ _ _ = r
  simp (disch := omega) [stepR, evalOps, evalOper, evalE, evalP, evalL, evalOpnd, nth, setNth, COp.cls, COp.isStore, CVal.isUndef, CVal.whole, CVal.cells, CHeap.put, CHeap.get, CHeap.set, wantedC, getEnt, setEnt, partOf, writeBack, evalBin, evalInt, blockMost, initVar, descOf, List.take, List.drop, CVal.lenOf, CVal.isStr, CVal.bare, CVal.strip, CVal.flat, endsC, resultsC, oneOrTuple, finishC, cut, fillCells, setCells, szOf, szOf_desc, elems, evalAppend, fillElems, mkElem, List.replicate, sy_nbeq, sy_neqF, sy_leT, sy_leF, sy_setEnt_setEnt, dropped, sy_wrap64, dropEnts, dropCells, hg, hG, hC, hC0, hD, hN, hN2, sizeMost] at e
  subst e
  try dsimp only
  refine Wo.call ?_
  try dsimp only
  refine get_none _ _ (by repeat (first | exact hu.le (by dsimp only; omega) | exact hu.set.le (by dsimp only; omega) | refine Under.cons (by dsimp only; omega) ?_)) _ fun n2 hn2 => ⟨rfl, ?_⟩
  try dsimp only at hn2
  refine Wo.rest ?_
  generalize e : evalOps _ _ _ _ _ = r
  simp (disch := omega) [stepR, evalOps, evalOper, evalE, evalP, evalL, evalOpnd, nth, setNth, COp.cls, COp.isStore, CVal.isUndef, CVal.whole, CVal.cells, CHeap.put, CHeap.get, CHeap.set, wantedC, getEnt, setEnt, partOf, writeBack, evalBin, evalInt, blockMost, initVar, descOf, List.take, List.drop, CVal.lenOf, CVal.isStr, CVal.bare, CVal.strip, CVal.flat, endsC, resultsC, oneOrTuple, finishC, cut, fillCells, setCells, szOf, szOf_desc, elems, evalAppend, fillElems, mkElem, List.replicate, sy_nbeq, sy_neqF, sy_leT, sy_leF, sy_setEnt_setEnt, dropped, sy_wrap64, dropEnts, dropCells, hg, hG, hC, hC0, hD, hN, hN2, sizeMost] at e
  subst e
  try dsimp only
  refine W.seq ?_
  refine W.seq ?_
  refine W.reg ?_
  generalize e : stepR _ _ _ = r
  simp (disch := omega) [stepR, evalOps, evalOper, evalE, evalP, evalL, evalOpnd, nth, setNth, COp.cls, COp.isStore, CVal.isUndef, CVal.whole, CVal.cells, CHeap.put, CHeap.get, CHeap.set, wantedC, getEnt, setEnt, partOf, writeBack, evalBin, evalInt, blockMost, initVar, descOf, List.take, List.drop, CVal.lenOf, CVal.isStr, CVal.bare, CVal.strip, CVal.flat, endsC, resultsC, oneOrTuple, finishC, cut, fillCells, setCells, szOf, szOf_desc, elems, evalAppend, fillElems, mkElem, List.replicate, sy_nbeq, sy_neqF, sy_leT, sy_leF, sy_setEnt_setEnt, dropped, sy_wrap64, dropEnts, dropCells, hg, hG, hC, hC0, hD, hN, hN2, sizeMost] at e
  subst e
  try dsimp only
  refine W.cond_true rfl ?_
  refine W.reg ?_
  generalize e : stepR _ _ _ = r
  simp (disch := omega) [stepR, evalOps, evalOper, evalE, evalP, evalL, evalOpnd, nth, setNth, COp.cls, COp.isStore, CVal.isUndef, CVal.whole, CVal.cells, CHeap.put, CHeap.get, CHeap.set, wantedC, getEnt, setEnt, partOf, writeBack, evalBin, evalInt, blockMost, initVar, descOf, List.take, List.drop, CVal.lenOf, CVal.isStr, CVal.bare, CVal.strip, CVal.flat, endsC, resultsC, oneOrTuple, finishC, cut, fillCells, setCells, szOf, szOf_desc, elems, evalAppend, fillElems, mkElem, List.replicate, sy_nbeq, sy_neqF, sy_leT, sy_leF, sy_setEnt_setEnt, dropped, sy_wrap64, dropEnts, dropCells, hg, hG, hC, hC0, hD, hN, hN2, sizeMost] at e
  subst e
  try dsimp only
  refine W.seq ?_
  refine W.seq ?_
  refine W.reg ?_
  generalize e : stepR _ _ _ = r
  simp (disch := omega) [stepR, evalOps, evalOper, evalE, evalP, evalL, evalOpnd, nth, setNth, COp.cls, COp.isStore, CVal.isUndef, CVal.whole, CVal.cells, CHeap.put, CHeap.get, CHeap.set, wantedC, getEnt, setEnt, partOf, writeBack, evalBin, evalInt, blockMost, initVar, descOf, List.take, List.drop, CVal.lenOf, CVal.isStr, CVal.bare, CVal.strip, CVal.flat, endsC, resultsC, oneOrTuple, finishC, cut, fillCells, setCells, szOf, szOf_desc, elems, evalAppend, fillElems, mkElem, List.replicate, sy_nbeq, sy_neqF, sy_leT, sy_leF, sy_setEnt_setEnt, dropped, sy_wrap64, dropEnts, dropCells, hg, hG, hC, hC0, hD, hN, hN2, sizeMost] at e
  subst e
  try dsimp only
  refine W.cond_false rfl (W.skip ?_)
  refine W.seq ?_
  refine W.region (Wo.upto 5 rfl ?_)
  generalize e : evalOps _ _ _ _ _ = r
  simp (disch := omega) [stepR, evalOps, evalOper, evalE, evalP, evalL, evalOpnd, nth, setNth, COp.cls, COp.isStore, CVal.isUndef, CVal.whole, CVal.cells, CHeap.put, CHeap.get, CHeap.set, wantedC, getEnt, setEnt, partOf, writeBack, evalBin, evalInt, blockMost, initVar, descOf, List.take, List.drop, CVal.lenOf, CVal.isStr, CVal.bare, CVal.strip, CVal.flat, endsC, resultsC, oneOrTuple, finishC, cut, fillCells, setCells, szOf, szOf_desc, elems, evalAppend, fillElems, mkElem, List.replicate, sy_nbeq, sy_neqF, sy_leT, sy_leF, sy_setEnt_setEnt, dropped, sy_wrap64, dropEnts, dropCells, hg, hG, hC, hC0, hD, hN, hN2, sizeMost] at e
  subst e
  try dsimp only
  refine Wo.call ?_
  refine V deep (c + sz) _ _ (by simp (disch := omega) [getEnt, setEnt, sy_nbeq, sy_neqF, sy_setEnt_setEnt, hg, hG]) (by repeat (first | exact hu.le (by dsimp only; omega) | exact hu.set.le (by dsimp only; omega) | refine Under.cons (by dsimp only; omega) ?_)) (by dsimp only; omega) (by omega) (by omega) hd0 hdd (fun hfit2 m2 hm2 => ⟨rfl, ?_⟩) (fun hno m2 c' hm2 => ⟨rfl, ?_⟩) <;> try dsimp only at hm2
  rotate_left
  · refine Wo.rest ?_
    generalize e : evalOps _ _ _ _ _ = r
    simp (disch := omega) [stepR, evalOps, evalOper, evalE, evalP, evalL, evalOpnd, nth, setNth, COp.cls, COp.isStore, CVal.isUndef, CVal.whole, CVal.cells, CHeap.put, CHeap.get, CHeap.set, wantedC, getEnt, setEnt, partOf, writeBack, evalBin, evalInt, blockMost, initVar, descOf, List.take, List.drop, CVal.lenOf, CVal.isStr, CVal.bare, CVal.strip, CVal.flat, endsC, resultsC, oneOrTuple, finishC, cut, fillCells, setCells, szOf, szOf_desc, elems, evalAppend, fillElems, mkElem, List.replicate, sy_nbeq, sy_neqF, sy_leT, sy_leF, sy_setEnt_setEnt, dropped, sy_wrap64, dropEnts, dropCells, hg, hG, hC, hC0, hD, hN, hN2, sizeMost] at e
    subst e
    try dsimp only
    refine W.seq ?_
    refine W.seq ?_
    refine W.reg ?_
    generalize e : stepR _ _ _ = r
    simp (disch := omega) [stepR, evalOps, evalOper, evalE, evalP, evalL, evalOpnd, nth, setNth, COp.cls, COp.isStore, CVal.isUndef, CVal.whole, CVal.cells, CHeap.put, CHeap.get, CHeap.set, wantedC, getEnt, setEnt, partOf, writeBack, evalBin, evalInt, blockMost, initVar, descOf, List.take, List.drop, CVal.lenOf, CVal.isStr, CVal.bare, CVal.strip, CVal.flat, endsC, resultsC, oneOrTuple, finishC, cut, fillCells, setCells, szOf, szOf_desc, elems, evalAppend, fillElems, mkElem, List.replicate, sy_nbeq, sy_neqF, sy_leT, sy_leF, sy_setEnt_setEnt, dropped, sy_wrap64, dropEnts, dropCells, hg, hG, hC, hC0, hD, hN, hN2, sizeMost] at e
    subst e
    try dsimp only
    refine W.cond_true rfl ?_
    refine W.seq ?_
    refine W.reg ?_
    generalize e : stepR _ _ _ = r
    simp (disch := omega) [stepR, evalOps, evalOper, evalE, evalP, evalL, evalOpnd, nth, setNth, COp.cls, COp.isStore, CVal.isUndef, CVal.whole, CVal.cells, CHeap.put, CHeap.get, CHeap.set, wantedC, getEnt, setEnt, partOf, writeBack, evalBin, evalInt, blockMost, initVar, descOf, List.take, List.drop, CVal.lenOf, CVal.isStr, CVal.bare, CVal.strip, CVal.flat, endsC, resultsC, oneOrTuple, finishC, cut, fillCells, setCells, szOf, szOf_desc, elems, evalAppend, fillElems, mkElem, List.replicate, sy_nbeq, sy_neqF, sy_leT, sy_leF, sy_setEnt_setEnt, dropped, sy_wrap64, dropEnts, dropCells, hg, hG, hC, hC0, hD, hN, hN2, sizeMost] at e
    subst e
    try dsimp only
    refine W.ret (endW.intro rfl ?_)
    generalize e : endsC _ _ _ = r
    simp (disch := omega) [stepR, evalOps, evalOper, evalE, evalP, evalL, evalOpnd, nth, setNth, COp.cls, COp.isStore, CVal.isUndef, CVal.whole, CVal.cells, CHeap.put, CHeap.get, CHeap.set, wantedC, getEnt, setEnt, partOf, writeBack, evalBin, evalInt, blockMost, initVar, descOf, List.take, List.drop, CVal.lenOf, CVal.isStr, CVal.bare, CVal.strip, CVal.flat, endsC, resultsC, oneOrTuple, finishC, cut, fillCells, setCells, szOf, szOf_desc, elems, evalAppend, fillElems, mkElem, List.replicate, sy_nbeq, sy_neqF, sy_leT, sy_leF, sy_setEnt_setEnt, dropped, sy_wrap64, dropEnts, dropCells, c14, hg, hG, hC, hC0, hD, hN, hN2, sizeMost] at e
    subst e
    try dsimp only
    exact he (by omega) _ _ (by omega)
  refine Wo.rest ?_
  generalize e : evalOps _ _ _ _ _ = r
  simp (disch := omega) [stepR, evalOps, evalOper, evalE, evalP, evalL, evalOpnd, nth, setNth, COp.cls, COp.isStore, CVal.isUndef, CVal.whole, CVal.cells, CHeap.put, CHeap.get, CHeap.set, wantedC, getEnt, setEnt, partOf, writeBack, evalBin, evalInt, blockMost, initVar, descOf, List.take, List.drop, CVal.lenOf, CVal.isStr, CVal.bare, CVal.strip, CVal.flat, endsC, resultsC, oneOrTuple, finishC, cut, fillCells, setCells, szOf, szOf_desc, elems, evalAppend, fillElems, mkElem, List.replicate, sy_nbeq, sy_neqF, sy_leT, sy_leF, sy_setEnt_setEnt, dropped, sy_wrap64, dropEnts, dropCells, hg, hG, hC, hC0, hD, hN, hN2, sizeMost] at e
  subst e
  try dsimp only
  refine W.seq ?_
  refine W.seq ?_
  refine W.reg ?_
  generalize e : stepR _ _ _ = r
  simp (disch := omega) [stepR, evalOps, evalOper, evalE, evalP, evalL, evalOpnd, nth, setNth, COp.cls, COp.isStore, CVal.isUndef, CVal.whole, CVal.cells, CHeap.put, CHeap.get, CHeap.set, wantedC, getEnt, setEnt, partOf, writeBack, evalBin, evalInt, blockMost, initVar, descOf, List.take, List.drop, CVal.lenOf, CVal.isStr, CVal.bare, CVal.strip, CVal.flat, endsC, resultsC, oneOrTuple, finishC, cut, fillCells, setCells, szOf, szOf_desc, elems, evalAppend, fillElems, mkElem, List.replicate, sy_nbeq, sy_neqF, sy_leT, sy_leF, sy_setEnt_setEnt, dropped, sy_wrap64, dropEnts, dropCells, hg, hG, hC, hC0, hD, hN, hN2, sizeMost] at e
  subst e
  try dsimp only
  refine W.cond_false rfl (W.skip ?_)
  refine W.reg ?_
  generalize e : stepR _ _ _ = r
  simp (disch := omega) [stepR, evalOps, evalOper, evalE, evalP, evalL, evalOpnd, nth, setNth, COp.cls, COp.isStore, CVal.isUndef, CVal.whole, CVal.cells, CHeap.put, CHeap.get, CHeap.set, wantedC, getEnt, setEnt, partOf, writeBack, evalBin, evalInt, blockMost, initVar, descOf, List.take, List.drop, CVal.lenOf, CVal.isStr, CVal.bare, CVal.strip, CVal.flat, endsC, resultsC, oneOrTuple, finishC, cut, fillCells, setCells, szOf, szOf_desc, elems, evalAppend, fillElems, mkElem, List.replicate, sy_nbeq, sy_neqF, sy_leT, sy_leF, sy_setEnt_setEnt, dropped, sy_wrap64, dropEnts, dropCells, hg, hG, hC, hC0, hD, hN, hN2, sizeMost] at e
  subst e
  try dsimp only
  refine W.reg ?_
  generalize e : stepR _ _ _ = r
  simp (disch := omega) [stepR, evalOps, evalOper, evalE, evalP, evalL, evalOpnd, nth, setNth, COp.cls, COp.isStore, CVal.isUndef, CVal.whole, CVal.cells, CHeap.put, CHeap.get, CHeap.set, wantedC, getEnt, setEnt, partOf, writeBack, evalBin, evalInt, blockMost, initVar, descOf, List.take, List.drop, CVal.lenOf, CVal.isStr, CVal.bare, CVal.strip, CVal.flat, endsC, resultsC, oneOrTuple, finishC, cut, fillCells, setCells, szOf, szOf_desc, elems, evalAppend, fillElems, mkElem, List.replicate, sy_nbeq, sy_neqF, sy_leT, sy_leF, sy_setEnt_setEnt, dropped, sy_wrap64, dropEnts, dropCells, hg, hG, hC, hC0, hD, hN, hN2, sizeMost] at e
  subst e
  try dsimp only
  refine W.loop (W.seq ?_)
  refine W.reg ?_
  generalize e : stepR _ _ _ = r
  simp (disch := omega) [stepR, evalOps, evalOper, evalE, evalP, evalL, evalOpnd, nth, setNth, COp.cls, COp.isStore, CVal.isUndef, CVal.whole, CVal.cells, CHeap.put, CHeap.get, CHeap.set, wantedC, getEnt, setEnt, partOf, writeBack, evalBin, evalInt, blockMost, initVar, descOf, List.take, List.drop, CVal.lenOf, CVal.isStr, CVal.bare, CVal.strip, CVal.flat, endsC, resultsC, oneOrTuple, finishC, cut, fillCells, setCells, szOf, szOf_desc, elems, evalAppend, fillElems, mkElem, List.replicate, sy_nbeq, sy_neqF, sy_leT, sy_leF, sy_setEnt_setEnt, dropped, sy_wrap64, dropEnts, dropCells, hg, hG, hC, hC0, hD, hN, hN2, sizeMost] at e
  subst e
  try dsimp only
  refine W.seq (W.cond_false rfl (W.exit ?_))
  refine W.seq ?_
  refine W.reg ?_
  generalize e : stepR _ _ _ = r
  simp (disch := omega) [stepR, evalOps, evalOper, evalE, evalP, evalL, evalOpnd, nth, setNth, COp.cls, COp.isStore, CVal.isUndef, CVal.whole, CVal.cells, CHeap.put, CHeap.get, CHeap.set, wantedC, getEnt, setEnt, partOf, writeBack, evalBin, evalInt, blockMost, initVar, descOf, List.take, List.drop, CVal.lenOf, CVal.isStr, CVal.bare, CVal.strip, CVal.flat, endsC, resultsC, oneOrTuple, finishC, cut, fillCells, setCells, szOf, szOf_desc, elems, evalAppend, fillElems, mkElem, List.replicate, sy_nbeq, sy_neqF, sy_leT, sy_leF, sy_setEnt_setEnt, dropped, sy_wrap64, dropEnts, dropCells, hg, hG, hC, hC0, hD, hN, hN2, sizeMost] at e
  subst e
  try dsimp only
  refine W.ret (endW.intro rfl ?_)
  generalize e : endsC _ _ _ = r
  simp (disch := omega) [stepR, evalOps, evalOper, evalE, evalP, evalL, evalOpnd, nth, setNth, COp.cls, COp.isStore, CVal.isUndef, CVal.whole, CVal.cells, CHeap.put, CHeap.get, CHeap.set, wantedC, getEnt, setEnt, partOf, writeBack, evalBin, evalInt, blockMost, initVar, descOf, List.take, List.drop, CVal.lenOf, CVal.isStr, CVal.bare, CVal.strip, CVal.flat, endsC, resultsC, oneOrTuple, finishC, cut, fillCells, setCells, szOf, szOf_desc, elems, evalAppend, fillElems, mkElem, List.replicate, sy_nbeq, sy_neqF, sy_leT, sy_leF, sy_setEnt_setEnt, dropped, sy_wrap64, dropEnts, dropCells, c14, hg, hG, hC, hC0, hD, hN, hN2, sizeMost] at e
  subst e
  try dsimp only
  have hk2 := hk (by push_cast; omega)
  rw [show c + ((sz + sz : Nat) : Int) = c + sz + sz by push_cast; omega] at hk2
  exact hk2 _ (by omega)


/-- A chain of records: each has two fields of the next one. -/
structure Chain (ts : List CVal) (k : Nat) : Prop where
  len : ts.length = k + 1
  last : ∃ nm, nth ts k = .agg (tyC nm .nils)
  each : ∀ i, i < k → ∃ nm, nth ts i = .agg (tyC nm (.imm .full 9 [fld [97] (i + 1), fld [98] (i + 1)]))

theorem value_leaf (ts : List CVal) (nm : List UInt8) (m d i : Nat) (hi : i < ts.length) (ht : nth ts i = .agg (tyC nm .nils)) (dm : Int) (hdm : dm ≤ 20) : VSpec ts m d i (1) zA dm := by
  intro deep c h K hg hu hm hc0 hc hd0 hdd hk he
  have hD : ∀ x, dropEnts (setEnt h.ents m x) h.next = setEnt h.ents m x := fun x => dropEnts_under hu.set
  have hC : ∀ x n, h.next ≤ n → dropCells (setEnt h.ents m x) n = setEnt h.ents m x := fun x n hn => dropCells_under (hu.set.le hn)
  have hC0 : ∀ n, h.next ≤ n → dropCells h.ents n = h.ents := fun n hn => dropCells_under (hu.le hn)
  have hN : ∀ b, h.next ≤ b → getEnt h.ents b = none := fun b hb => getEnt_under hu hb
  have hN2 : ∀ x b, h.next ≤ b → getEnt (setEnt h.ents m x) b = none := fun x b hb => getEnt_under hu.set hb
  have hG : ∀ x, getEnt (setEnt h.ents m x) m = some x := fun x => sy_getEnt_setEnt hg
  refine Wc.mk' (fn := c11) (by kernel_rfl) rfl ?_
  have hdl : ¬ (20 < deep) := by omega
  refine W.seq ?_
  refine W.reg ?_
  generalize e : stepR _ _ _ = r
  simp (disch := omega) [stepR, evalOps, evalOper, evalE, evalP, evalL, evalOpnd, nth, setNth, COp.cls, COp.isStore, CVal.isUndef, CVal.whole, CVal.cells, CHeap.put, CHeap.get, CHeap.set, wantedC, getEnt, setEnt, partOf, writeBack, evalBin, evalInt, blockMost, initVar, descOf, List.take, List.drop, CVal.lenOf, CVal.isStr, CVal.bare, CVal.strip, CVal.flat, endsC, resultsC, oneOrTuple, finishC, cut, fillCells, setCells, szOf, szOf_desc, elems, evalAppend, fillElems, mkElem, List.replicate, sy_nbeq, sy_neqF, sy_leT, sy_leF, sy_setEnt_setEnt, dropped, sy_wrap64, dropEnts, dropCells, c11] at e
  subst e
  try dsimp only
  refine W.seq ?_
  refine W.reg ?_
  generalize e : stepR _ _ _ = r
  simp (disch := omega) [stepR, evalOps, evalOper, evalE, evalP, evalL, evalOpnd, nth, setNth, COp.cls, COp.isStore, CVal.isUndef, CVal.whole, CVal.cells, CHeap.put, CHeap.get, CHeap.set, wantedC, getEnt, setEnt, partOf, writeBack, evalBin, evalInt, blockMost, initVar, descOf, List.take, List.drop, CVal.lenOf, CVal.isStr, CVal.bare, CVal.strip, CVal.flat, endsC, resultsC, oneOrTuple, finishC, cut, fillCells, setCells, szOf, szOf_desc, elems, evalAppend, fillElems, mkElem, List.replicate, sy_nbeq, sy_neqF, sy_leT, sy_leF, sy_setEnt_setEnt, dropped, sy_wrap64, dropEnts, dropCells, hg, hG, hC, hC0, hD, hN, hN2, sizeMost, ht, hi] at e
  subst e
  try dsimp only
  refine W.seq ?_
  refine W.seq ?_
  by_cases hfit : c + 1 ≤ 2000
  rotate_left
  · have hcf : 2000 < c + 1 := by omega
    refine W.reg ?_
    generalize e : stepR _ _ _ = r
    simp (disch := omega) [stepR, evalOps, evalOper, evalE, evalP, evalL, evalOpnd, nth, setNth, COp.cls, COp.isStore, CVal.isUndef, CVal.whole, CVal.cells, CHeap.put, CHeap.get, CHeap.set, wantedC, getEnt, setEnt, partOf, writeBack, evalBin, evalInt, blockMost, initVar, descOf, List.take, List.drop, CVal.lenOf, CVal.isStr, CVal.bare, CVal.strip, CVal.flat, endsC, resultsC, oneOrTuple, finishC, cut, fillCells, setCells, szOf, szOf_desc, elems, evalAppend, fillElems, mkElem, List.replicate, sy_nbeq, sy_neqF, sy_leT, sy_leF, sy_setEnt_setEnt, dropped, sy_wrap64, dropEnts, dropCells, hg, hG, hC, hC0, hD, hN, hN2, sizeMost, ht, hi, hdl, hcf] at e
    subst e
    try dsimp only
    refine W.cond_true rfl ?_
    refine W.seq ?_
    refine W.reg ?_
    generalize e : stepR _ _ _ = r
    simp (disch := omega) [stepR, evalOps, evalOper, evalE, evalP, evalL, evalOpnd, nth, setNth, COp.cls, COp.isStore, CVal.isUndef, CVal.whole, CVal.cells, CHeap.put, CHeap.get, CHeap.set, wantedC, getEnt, setEnt, partOf, writeBack, evalBin, evalInt, blockMost, initVar, descOf, List.take, List.drop, CVal.lenOf, CVal.isStr, CVal.bare, CVal.strip, CVal.flat, endsC, resultsC, oneOrTuple, finishC, cut, fillCells, setCells, szOf, szOf_desc, elems, evalAppend, fillElems, mkElem, List.replicate, sy_nbeq, sy_neqF, sy_leT, sy_leF, sy_setEnt_setEnt, dropped, sy_wrap64, dropEnts, dropCells, hg, hG, hC, hC0, hD, hN, hN2, sizeMost, ht, hi] at e
    subst e
    try dsimp only
    refine W.ret (endW.intro rfl ?_)
    generalize e : endsC _ _ _ = r
    simp (disch := omega) [stepR, evalOps, evalOper, evalE, evalP, evalL, evalOpnd, nth, setNth, COp.cls, COp.isStore, CVal.isUndef, CVal.whole, CVal.cells, CHeap.put, CHeap.get, CHeap.set, wantedC, getEnt, setEnt, partOf, writeBack, evalBin, evalInt, blockMost, initVar, descOf, List.take, List.drop, CVal.lenOf, CVal.isStr, CVal.bare, CVal.strip, CVal.flat, endsC, resultsC, oneOrTuple, finishC, cut, fillCells, setCells, szOf, szOf_desc, elems, evalAppend, fillElems, mkElem, List.replicate, sy_nbeq, sy_neqF, sy_leT, sy_leF, sy_setEnt_setEnt, dropped, sy_wrap64, dropEnts, dropCells, c11, hg, hG, hC, hC0, hD, hN, hN2, sizeMost, ht, hi] at e
    subst e
    try dsimp only
    exact he (by omega) _ _ (by omega)
  have hcf : ¬ (2000 < c + 1) := by omega
  refine W.reg ?_
  generalize e : stepR _ _ _ = r
  simp (disch := omega) [stepR, evalOps, evalOper, evalE, evalP, evalL, evalOpnd, nth, setNth, COp.cls, COp.isStore, CVal.isUndef, CVal.whole, CVal.cells, CHeap.put, CHeap.get, CHeap.set, wantedC, getEnt, setEnt, partOf, writeBack, evalBin, evalInt, blockMost, initVar, descOf, List.take, List.drop, CVal.lenOf, CVal.isStr, CVal.bare, CVal.strip, CVal.flat, endsC, resultsC, oneOrTuple, finishC, cut, fillCells, setCells, szOf, szOf_desc, elems, evalAppend, fillElems, mkElem, List.replicate, sy_nbeq, sy_neqF, sy_leT, sy_leF, sy_setEnt_setEnt, dropped, sy_wrap64, dropEnts, dropCells, hg, hG, hC, hC0, hD, hN, hN2, sizeMost, ht, hi, hdl, hcf] at e
  subst e
  try dsimp only
  refine W.cond_false rfl (W.skip ?_)
  refine W.seq ?_
  refine W.reg ?_
  generalize e : stepR _ _ _ = r
  simp (disch := omega) [stepR, evalOps, evalOper, evalE, evalP, evalL, evalOpnd, nth, setNth, COp.cls, COp.isStore, CVal.isUndef, CVal.whole, CVal.cells, CHeap.put, CHeap.get, CHeap.set, wantedC, getEnt, setEnt, partOf, writeBack, evalBin, evalInt, blockMost, initVar, descOf, List.take, List.drop, CVal.lenOf, CVal.isStr, CVal.bare, CVal.strip, CVal.flat, endsC, resultsC, oneOrTuple, finishC, cut, fillCells, setCells, szOf, szOf_desc, elems, evalAppend, fillElems, mkElem, List.replicate, sy_nbeq, sy_neqF, sy_leT, sy_leF, sy_setEnt_setEnt, dropped, sy_wrap64, dropEnts, dropCells, hg, hG, hC, hC0, hD, hN, hN2, sizeMost, ht, hi] at e
  subst e
  try dsimp only
  refine W.seq (W.block ?_)
  refine W.seq ?_
  refine W.reg ?_
  generalize e : stepR _ _ _ = r
  simp (disch := omega) [stepR, evalOps, evalOper, evalE, evalP, evalL, evalOpnd, nth, setNth, COp.cls, COp.isStore, CVal.isUndef, CVal.whole, CVal.cells, CHeap.put, CHeap.get, CHeap.set, wantedC, getEnt, setEnt, partOf, writeBack, evalBin, evalInt, blockMost, initVar, descOf, List.take, List.drop, CVal.lenOf, CVal.isStr, CVal.bare, CVal.strip, CVal.flat, endsC, resultsC, oneOrTuple, finishC, cut, fillCells, setCells, szOf, szOf_desc, elems, evalAppend, fillElems, mkElem, List.replicate, sy_nbeq, sy_neqF, sy_leT, sy_leF, sy_setEnt_setEnt, dropped, sy_wrap64, dropEnts, dropCells, hg, hG, hC, hC0, hD, hN, hN2, sizeMost, ht, hi] at e
  subst e
  try dsimp only
  refine W.cond_true rfl ?_
  refine W.seq ?_
  refine W.region (Wo.upto 5 rfl ?_)
  generalize e : evalOps _ _ _ _ _ = r
  simp (disch := omega) [stepR, evalOps, evalOper, evalE, evalP, evalL, evalOpnd, nth, setNth, COp.cls, COp.isStore, CVal.isUndef, CVal.whole, CVal.cells, CHeap.put, CHeap.get, CHeap.set, wantedC, getEnt, setEnt, partOf, writeBack, evalBin, evalInt, blockMost, initVar, descOf, List.take, List.drop, CVal.lenOf, CVal.isStr, CVal.bare, CVal.strip, CVal.flat, endsC, resultsC, oneOrTuple, finishC, cut, fillCells, setCells, szOf, szOf_desc, elems, evalAppend, fillElems, mkElem, List.replicate, sy_nbeq, sy_neqF, sy_leT, sy_leF, sy_setEnt_setEnt, dropped, sy_wrap64, dropEnts, dropCells, hg, hG, hC, hC0, hD, hN, hN2, sizeMost, ht, hi] at e
  subst e
  try dsimp only
  refine Wo.call ?_
  refine record_leaf nm (deep + 1) m d _ (by repeat (first | exact hu.le (by dsimp only; omega) | exact hu.set.le (by dsimp only; omega) | refine Under.cons (by dsimp only; omega) ?_)) _ fun n1 hn1 => ⟨rfl, ?_⟩
  try dsimp only at hn1
  refine Wo.rest ?_
  generalize e : evalOps _ _ _ _ _ = r
  simp (disch := omega) [stepR, evalOps, evalOper, evalE, evalP, evalL, evalOpnd, nth, setNth, COp.cls, COp.isStore, CVal.isUndef, CVal.whole, CVal.cells, CHeap.put, CHeap.get, CHeap.set, wantedC, getEnt, setEnt, partOf, writeBack, evalBin, evalInt, blockMost, initVar, descOf, List.take, List.drop, CVal.lenOf, CVal.isStr, CVal.bare, CVal.strip, CVal.flat, endsC, resultsC, oneOrTuple, finishC, cut, fillCells, setCells, szOf, szOf_desc, elems, evalAppend, fillElems, mkElem, List.replicate, sy_nbeq, sy_neqF, sy_leT, sy_leF, sy_setEnt_setEnt, dropped, sy_wrap64, dropEnts, dropCells, hg, hG, hC, hC0, hD, hN, hN2, sizeMost, ht, hi] at e
  subst e
  try dsimp only
  refine W.ret (endW.intro rfl ?_)
  generalize e : endsC _ _ _ = r
  simp (disch := omega) [stepR, evalOps, evalOper, evalE, evalP, evalL, evalOpnd, nth, setNth, COp.cls, COp.isStore, CVal.isUndef, CVal.whole, CVal.cells, CHeap.put, CHeap.get, CHeap.set, wantedC, getEnt, setEnt, partOf, writeBack, evalBin, evalInt, blockMost, initVar, descOf, List.take, List.drop, CVal.lenOf, CVal.isStr, CVal.bare, CVal.strip, CVal.flat, endsC, resultsC, oneOrTuple, finishC, cut, fillCells, setCells, szOf, szOf_desc, elems, evalAppend, fillElems, mkElem, List.replicate, sy_nbeq, sy_neqF, sy_leT, sy_leF, sy_setEnt_setEnt, dropped, sy_wrap64, dropEnts, dropCells, c11, hg, hG, hC, hC0, hD, hN, hN2, sizeMost, ht, hi] at e
  subst e
  try dsimp only
  exact hk (by omega) _ (by omega)


theorem value_node0 (ts : List CVal) (nm : List UInt8) (m d i sz : Nat) (hi : i < ts.length) (ht : nth ts i = .agg (tyC nm (.imm .full 9 [fld [97] (i + 1), fld [98] (i + 1)]))) (dm : Int) (hdm : dm + 1 ≤ 20) (V : VSpec ts m d (i + 1) sz zA (dm + 1)) : VSpec ts m d i (1 + (sz + sz)) [.int .u64 0, .str [], .imm .none 5 [.agg zA, .agg zA], .nils, .int .i64 0] dm := by
  intro deep c h K hg hu hm hc0 hc hd0 hdd hk he
  have hD : ∀ x, dropEnts (setEnt h.ents m x) h.next = setEnt h.ents m x := fun x => dropEnts_under hu.set
  have hC : ∀ x n, h.next ≤ n → dropCells (setEnt h.ents m x) n = setEnt h.ents m x := fun x n hn => dropCells_under (hu.set.le hn)
  have hC0 : ∀ n, h.next ≤ n → dropCells h.ents n = h.ents := fun n hn => dropCells_under (hu.le hn)
  have hN : ∀ b, h.next ≤ b → getEnt h.ents b = none := fun b hb => getEnt_under hu hb
  have hN2 : ∀ x b, h.next ≤ b → getEnt (setEnt h.ents m x) b = none := fun x b hb => getEnt_under hu.set hb
  have hG : ∀ x, getEnt (setEnt h.ents m x) m = some x := fun x => sy_getEnt_setEnt hg
  refine Wc.mk' (fn := c11) (by kernel_rfl) rfl ?_
  have hdl : ¬ (20 < deep) := by omega
  refine W.seq ?_
  refine W.reg ?_
  generalize e : stepR _ _ _ = r
  simp (disch := omega) [stepR, evalOps, evalOper, evalE, evalP, evalL, evalOpnd, nth, setNth, COp.cls, COp.isStore, CVal.isUndef, CVal.whole, CVal.cells, CHeap.put, CHeap.get, CHeap.set, wantedC, getEnt, setEnt, partOf, writeBack, evalBin, evalInt, blockMost, initVar, descOf, List.take, List.drop, CVal.lenOf, CVal.isStr, CVal.bare, CVal.strip, CVal.flat, endsC, resultsC, oneOrTuple, finishC, cut, fillCells, setCells, szOf, szOf_desc, elems, evalAppend, fillElems, mkElem, List.replicate, sy_nbeq, sy_neqF, sy_leT, sy_leF, sy_setEnt_setEnt, dropped, sy_wrap64, dropEnts, dropCells, c11] at e
  subst e
  try dsimp only
  refine W.seq ?_
  refine W.reg ?_
  generalize e : stepR _ _ _ = r
  simp (disch := omega) [stepR, evalOps, evalOper, evalE, evalP, evalL, evalOpnd, nth, setNth, COp.cls, COp.isStore, CVal.isUndef, CVal.whole, CVal.cells, CHeap.put, CHeap.get, CHeap.set, wantedC, getEnt, setEnt, partOf, writeBack, evalBin, evalInt, blockMost, initVar, descOf, List.take, List.drop, CVal.lenOf, CVal.isStr, CVal.bare, CVal.strip, CVal.flat, endsC, resultsC, oneOrTuple, finishC, cut, fillCells, setCells, szOf, szOf_desc, elems, evalAppend, fillElems, mkElem, List.replicate, sy_nbeq, sy_neqF, sy_leT, sy_leF, sy_setEnt_setEnt, dropped, sy_wrap64, dropEnts, dropCells, hg, hG, hC, hC0, hD, hN, hN2, sizeMost, ht, hi] at e
  subst e
  try dsimp only
  refine W.seq ?_
  refine W.seq ?_
  by_cases hfit : c + 1 ≤ 2000
  rotate_left
  · have hcf : 2000 < c + 1 := by omega
    refine W.reg ?_
    generalize e : stepR _ _ _ = r
    simp (disch := omega) [stepR, evalOps, evalOper, evalE, evalP, evalL, evalOpnd, nth, setNth, COp.cls, COp.isStore, CVal.isUndef, CVal.whole, CVal.cells, CHeap.put, CHeap.get, CHeap.set, wantedC, getEnt, setEnt, partOf, writeBack, evalBin, evalInt, blockMost, initVar, descOf, List.take, List.drop, CVal.lenOf, CVal.isStr, CVal.bare, CVal.strip, CVal.flat, endsC, resultsC, oneOrTuple, finishC, cut, fillCells, setCells, szOf, szOf_desc, elems, evalAppend, fillElems, mkElem, List.replicate, sy_nbeq, sy_neqF, sy_leT, sy_leF, sy_setEnt_setEnt, dropped, sy_wrap64, dropEnts, dropCells, hg, hG, hC, hC0, hD, hN, hN2, sizeMost, ht, hi, hdl, hcf] at e
    subst e
    try dsimp only
    refine W.cond_true rfl ?_
    refine W.seq ?_
    refine W.reg ?_
    generalize e : stepR _ _ _ = r
    simp (disch := omega) [stepR, evalOps, evalOper, evalE, evalP, evalL, evalOpnd, nth, setNth, COp.cls, COp.isStore, CVal.isUndef, CVal.whole, CVal.cells, CHeap.put, CHeap.get, CHeap.set, wantedC, getEnt, setEnt, partOf, writeBack, evalBin, evalInt, blockMost, initVar, descOf, List.take, List.drop, CVal.lenOf, CVal.isStr, CVal.bare, CVal.strip, CVal.flat, endsC, resultsC, oneOrTuple, finishC, cut, fillCells, setCells, szOf, szOf_desc, elems, evalAppend, fillElems, mkElem, List.replicate, sy_nbeq, sy_neqF, sy_leT, sy_leF, sy_setEnt_setEnt, dropped, sy_wrap64, dropEnts, dropCells, hg, hG, hC, hC0, hD, hN, hN2, sizeMost, ht, hi] at e
    subst e
    try dsimp only
    refine W.ret (endW.intro rfl ?_)
    generalize e : endsC _ _ _ = r
    simp (disch := omega) [stepR, evalOps, evalOper, evalE, evalP, evalL, evalOpnd, nth, setNth, COp.cls, COp.isStore, CVal.isUndef, CVal.whole, CVal.cells, CHeap.put, CHeap.get, CHeap.set, wantedC, getEnt, setEnt, partOf, writeBack, evalBin, evalInt, blockMost, initVar, descOf, List.take, List.drop, CVal.lenOf, CVal.isStr, CVal.bare, CVal.strip, CVal.flat, endsC, resultsC, oneOrTuple, finishC, cut, fillCells, setCells, szOf, szOf_desc, elems, evalAppend, fillElems, mkElem, List.replicate, sy_nbeq, sy_neqF, sy_leT, sy_leF, sy_setEnt_setEnt, dropped, sy_wrap64, dropEnts, dropCells, c11, hg, hG, hC, hC0, hD, hN, hN2, sizeMost, ht, hi] at e
    subst e
    try dsimp only
    exact he (by omega) _ _ (by omega)
  have hcf : ¬ (2000 < c + 1) := by omega
  refine W.reg ?_
  generalize e : stepR _ _ _ = r
  simp (disch := omega) [stepR, evalOps, evalOper, evalE, evalP, evalL, evalOpnd, nth, setNth, COp.cls, COp.isStore, CVal.isUndef, CVal.whole, CVal.cells, CHeap.put, CHeap.get, CHeap.set, wantedC, getEnt, setEnt, partOf, writeBack, evalBin, evalInt, blockMost, initVar, descOf, List.take, List.drop, CVal.lenOf, CVal.isStr, CVal.bare, CVal.strip, CVal.flat, endsC, resultsC, oneOrTuple, finishC, cut, fillCells, setCells, szOf, szOf_desc, elems, evalAppend, fillElems, mkElem, List.replicate, sy_nbeq, sy_neqF, sy_leT, sy_leF, sy_setEnt_setEnt, dropped, sy_wrap64, dropEnts, dropCells, hg, hG, hC, hC0, hD, hN, hN2, sizeMost, ht, hi, hdl, hcf] at e
  subst e
  try dsimp only
  refine W.cond_false rfl (W.skip ?_)
  refine W.seq ?_
  refine W.reg ?_
  generalize e : stepR _ _ _ = r
  simp (disch := omega) [stepR, evalOps, evalOper, evalE, evalP, evalL, evalOpnd, nth, setNth, COp.cls, COp.isStore, CVal.isUndef, CVal.whole, CVal.cells, CHeap.put, CHeap.get, CHeap.set, wantedC, getEnt, setEnt, partOf, writeBack, evalBin, evalInt, blockMost, initVar, descOf, List.take, List.drop, CVal.lenOf, CVal.isStr, CVal.bare, CVal.strip, CVal.flat, endsC, resultsC, oneOrTuple, finishC, cut, fillCells, setCells, szOf, szOf_desc, elems, evalAppend, fillElems, mkElem, List.replicate, sy_nbeq, sy_neqF, sy_leT, sy_leF, sy_setEnt_setEnt, dropped, sy_wrap64, dropEnts, dropCells, hg, hG, hC, hC0, hD, hN, hN2, sizeMost, ht, hi] at e
  subst e
  try dsimp only
  refine W.seq (W.block ?_)
  refine W.seq ?_
  refine W.reg ?_
  generalize e : stepR _ _ _ = r
  simp (disch := omega) [stepR, evalOps, evalOper, evalE, evalP, evalL, evalOpnd, nth, setNth, COp.cls, COp.isStore, CVal.isUndef, CVal.whole, CVal.cells, CHeap.put, CHeap.get, CHeap.set, wantedC, getEnt, setEnt, partOf, writeBack, evalBin, evalInt, blockMost, initVar, descOf, List.take, List.drop, CVal.lenOf, CVal.isStr, CVal.bare, CVal.strip, CVal.flat, endsC, resultsC, oneOrTuple, finishC, cut, fillCells, setCells, szOf, szOf_desc, elems, evalAppend, fillElems, mkElem, List.replicate, sy_nbeq, sy_neqF, sy_leT, sy_leF, sy_setEnt_setEnt, dropped, sy_wrap64, dropEnts, dropCells, hg, hG, hC, hC0, hD, hN, hN2, sizeMost, ht, hi] at e
  subst e
  try dsimp only
  refine W.cond_true rfl ?_
  refine W.seq ?_
  refine W.region (Wo.upto 5 rfl ?_)
  generalize e : evalOps _ _ _ _ _ = r
  simp (disch := omega) [stepR, evalOps, evalOper, evalE, evalP, evalL, evalOpnd, nth, setNth, COp.cls, COp.isStore, CVal.isUndef, CVal.whole, CVal.cells, CHeap.put, CHeap.get, CHeap.set, wantedC, getEnt, setEnt, partOf, writeBack, evalBin, evalInt, blockMost, initVar, descOf, List.take, List.drop, CVal.lenOf, CVal.isStr, CVal.bare, CVal.strip, CVal.flat, endsC, resultsC, oneOrTuple, finishC, cut, fillCells, setCells, szOf, szOf_desc, elems, evalAppend, fillElems, mkElem, List.replicate, sy_nbeq, sy_neqF, sy_leT, sy_leF, sy_setEnt_setEnt, dropped, sy_wrap64, dropEnts, dropCells, hg, hG, hC, hC0, hD, hN, hN2, sizeMost, ht, hi] at e
  subst e
  try dsimp only
  refine Wo.call ?_
  refine record_node0 ts nm m d (i + 1) sz (dm + 1) hdm V (deep + 1) (c + 1) _ (by simp (disch := omega) [getEnt, setEnt, sy_nbeq, sy_neqF, sy_setEnt_setEnt, hg, hG]) (by repeat (first | exact hu.le (by dsimp only; omega) | exact hu.set.le (by dsimp only; omega) | refine Under.cons (by dsimp only; omega) ?_)) (by dsimp only; omega) (by omega) (by omega) (by omega) (by omega) _ (fun hf1 n1 hn1 => ⟨rfl, ?_⟩) (fun hn n1 c' hn1 => ⟨rfl, ?_⟩) <;> try dsimp only at hn1
  rotate_left
  · refine Wo.rest ?_
    generalize e : evalOps _ _ _ _ _ = r
    simp (disch := omega) [stepR, evalOps, evalOper, evalE, evalP, evalL, evalOpnd, nth, setNth, COp.cls, COp.isStore, CVal.isUndef, CVal.whole, CVal.cells, CHeap.put, CHeap.get, CHeap.set, wantedC, getEnt, setEnt, partOf, writeBack, evalBin, evalInt, blockMost, initVar, descOf, List.take, List.drop, CVal.lenOf, CVal.isStr, CVal.bare, CVal.strip, CVal.flat, endsC, resultsC, oneOrTuple, finishC, cut, fillCells, setCells, szOf, szOf_desc, elems, evalAppend, fillElems, mkElem, List.replicate, sy_nbeq, sy_neqF, sy_leT, sy_leF, sy_setEnt_setEnt, dropped, sy_wrap64, dropEnts, dropCells, hg, hG, hC, hC0, hD, hN, hN2, sizeMost, ht, hi] at e
    subst e
    try dsimp only
    refine W.ret (endW.intro rfl ?_)
    generalize e : endsC _ _ _ = r
    simp (disch := omega) [stepR, evalOps, evalOper, evalE, evalP, evalL, evalOpnd, nth, setNth, COp.cls, COp.isStore, CVal.isUndef, CVal.whole, CVal.cells, CHeap.put, CHeap.get, CHeap.set, wantedC, getEnt, setEnt, partOf, writeBack, evalBin, evalInt, blockMost, initVar, descOf, List.take, List.drop, CVal.lenOf, CVal.isStr, CVal.bare, CVal.strip, CVal.flat, endsC, resultsC, oneOrTuple, finishC, cut, fillCells, setCells, szOf, szOf_desc, elems, evalAppend, fillElems, mkElem, List.replicate, sy_nbeq, sy_neqF, sy_leT, sy_leF, sy_setEnt_setEnt, dropped, sy_wrap64, dropEnts, dropCells, c11, hg, hG, hC, hC0, hD, hN, hN2, sizeMost, ht, hi] at e
    subst e
    try dsimp only
    exact he (by push_cast at hn ⊢; omega) _ _ (by omega)
  refine Wo.rest ?_
  generalize e : evalOps _ _ _ _ _ = r
  simp (disch := omega) [stepR, evalOps, evalOper, evalE, evalP, evalL, evalOpnd, nth, setNth, COp.cls, COp.isStore, CVal.isUndef, CVal.whole, CVal.cells, CHeap.put, CHeap.get, CHeap.set, wantedC, getEnt, setEnt, partOf, writeBack, evalBin, evalInt, blockMost, initVar, descOf, List.take, List.drop, CVal.lenOf, CVal.isStr, CVal.bare, CVal.strip, CVal.flat, endsC, resultsC, oneOrTuple, finishC, cut, fillCells, setCells, szOf, szOf_desc, elems, evalAppend, fillElems, mkElem, List.replicate, sy_nbeq, sy_neqF, sy_leT, sy_leF, sy_setEnt_setEnt, dropped, sy_wrap64, dropEnts, dropCells, hg, hG, hC, hC0, hD, hN, hN2, sizeMost, ht, hi] at e
  subst e
  try dsimp only
  refine W.ret (endW.intro rfl ?_)
  generalize e : endsC _ _ _ = r
  simp (disch := omega) [stepR, evalOps, evalOper, evalE, evalP, evalL, evalOpnd, nth, setNth, COp.cls, COp.isStore, CVal.isUndef, CVal.whole, CVal.cells, CHeap.put, CHeap.get, CHeap.set, wantedC, getEnt, setEnt, partOf, writeBack, evalBin, evalInt, blockMost, initVar, descOf, List.take, List.drop, CVal.lenOf, CVal.isStr, CVal.bare, CVal.strip, CVal.flat, endsC, resultsC, oneOrTuple, finishC, cut, fillCells, setCells, szOf, szOf_desc, elems, evalAppend, fillElems, mkElem, List.replicate, sy_nbeq, sy_neqF, sy_leT, sy_leF, sy_setEnt_setEnt, dropped, sy_wrap64, dropEnts, dropCells, c11, hg, hG, hC, hC0, hD, hN, hN2, sizeMost, ht, hi] at e
  subst e
  try dsimp only
  have hk2 := hk (by push_cast at hf1 ⊢; omega)
  rw [show c + ((1 + (sz + sz) : Nat) : Int) = c + 1 + ((sz + sz : Nat) : Int) by push_cast; omega] at hk2
  exact hk2 _ (by omega)


theorem value_node (ts : List CVal) (nm : List UInt8) (m d i sz : Nat) (l : List CVal) (hi : i < ts.length) (ht : nth ts i = .agg (tyC nm (.imm .full 9 [fld [97] (i + 1), fld [98] (i + 1)]))) (dm : Int) (hdm : dm + 1 ≤ 20) (V : VSpec ts m d (i + 1) sz [.int .u64 0, .str [], .imm .none 5 l, .nils, .int .i64 0] (dm + 1)) : VSpec ts m d i (1 + (sz + sz)) [.int .u64 0, .str [], .imm .none 5 [.agg [.int .u64 0, .str [], .imm .none 5 l, .nils, .int .i64 0], .agg [.int .u64 0, .str [], .imm .none 5 l, .nils, .int .i64 0]], .nils, .int .i64 0] dm := by
  intro deep c h K hg hu hm hc0 hc hd0 hdd hk he
  have hD : ∀ x, dropEnts (setEnt h.ents m x) h.next = setEnt h.ents m x := fun x => dropEnts_under hu.set
  have hC : ∀ x n, h.next ≤ n → dropCells (setEnt h.ents m x) n = setEnt h.ents m x := fun x n hn => dropCells_under (hu.set.le hn)
  have hC0 : ∀ n, h.next ≤ n → dropCells h.ents n = h.ents := fun n hn => dropCells_under (hu.le hn)
  have hN : ∀ b, h.next ≤ b → getEnt h.ents b = none := fun b hb => getEnt_under hu hb
  have hN2 : ∀ x b, h.next ≤ b → getEnt (setEnt h.ents m x) b = none := fun x b hb => getEnt_under hu.set hb
  have hG : ∀ x, getEnt (setEnt h.ents m x) m = some x := fun x => sy_getEnt_setEnt hg
  refine Wc.mk' (fn := c11) (by kernel_rfl) rfl ?_
  have hdl : ¬ (20 < deep) := by omega
  refine W.seq ?_
  refine W.reg ?_
  generalize e : stepR _ _ _ = r
  simp (disch := omega) [stepR, evalOps, evalOper, evalE, evalP, evalL, evalOpnd, nth, setNth, COp.cls, COp.isStore, CVal.isUndef, CVal.whole, CVal.cells, CHeap.put, CHeap.get, CHeap.set, wantedC, getEnt, setEnt, partOf, writeBack, evalBin, evalInt, blockMost, initVar, descOf, List.take, List.drop, CVal.lenOf, CVal.isStr, CVal.bare, CVal.strip, CVal.flat, endsC, resultsC, oneOrTuple, finishC, cut, fillCells, setCells, szOf, szOf_desc, elems, evalAppend, fillElems, mkElem, List.replicate, sy_nbeq, sy_neqF, sy_leT, sy_leF, sy_setEnt_setEnt, dropped, sy_wrap64, dropEnts, dropCells, c11] at e
  subst e
  try dsimp only
  refine W.seq ?_
  refine W.reg ?_
  generalize e : stepR _ _ _ = r
  simp (disch := omega) [stepR, evalOps, evalOper, evalE, evalP, evalL, evalOpnd, nth, setNth, COp.cls, COp.isStore, CVal.isUndef, CVal.whole, CVal.cells, CHeap.put, CHeap.get, CHeap.set, wantedC, getEnt, setEnt, partOf, writeBack, evalBin, evalInt, blockMost, initVar, descOf, List.take, List.drop, CVal.lenOf, CVal.isStr, CVal.bare, CVal.strip, CVal.flat, endsC, resultsC, oneOrTuple, finishC, cut, fillCells, setCells, szOf, szOf_desc, elems, evalAppend, fillElems, mkElem, List.replicate, sy_nbeq, sy_neqF, sy_leT, sy_leF, sy_setEnt_setEnt, dropped, sy_wrap64, dropEnts, dropCells, hg, hG, hC, hC0, hD, hN, hN2, sizeMost, ht, hi] at e
  subst e
  try dsimp only
  refine W.seq ?_
  refine W.seq ?_
  by_cases hfit : c + 1 ≤ 2000
  rotate_left
  · have hcf : 2000 < c + 1 := by omega
    refine W.reg ?_
    generalize e : stepR _ _ _ = r
    simp (disch := omega) [stepR, evalOps, evalOper, evalE, evalP, evalL, evalOpnd, nth, setNth, COp.cls, COp.isStore, CVal.isUndef, CVal.whole, CVal.cells, CHeap.put, CHeap.get, CHeap.set, wantedC, getEnt, setEnt, partOf, writeBack, evalBin, evalInt, blockMost, initVar, descOf, List.take, List.drop, CVal.lenOf, CVal.isStr, CVal.bare, CVal.strip, CVal.flat, endsC, resultsC, oneOrTuple, finishC, cut, fillCells, setCells, szOf, szOf_desc, elems, evalAppend, fillElems, mkElem, List.replicate, sy_nbeq, sy_neqF, sy_leT, sy_leF, sy_setEnt_setEnt, dropped, sy_wrap64, dropEnts, dropCells, hg, hG, hC, hC0, hD, hN, hN2, sizeMost, ht, hi, hdl, hcf] at e
    subst e
    try dsimp only
    refine W.cond_true rfl ?_
    refine W.seq ?_
    refine W.reg ?_
    generalize e : stepR _ _ _ = r
    simp (disch := omega) [stepR, evalOps, evalOper, evalE, evalP, evalL, evalOpnd, nth, setNth, COp.cls, COp.isStore, CVal.isUndef, CVal.whole, CVal.cells, CHeap.put, CHeap.get, CHeap.set, wantedC, getEnt, setEnt, partOf, writeBack, evalBin, evalInt, blockMost, initVar, descOf, List.take, List.drop, CVal.lenOf, CVal.isStr, CVal.bare, CVal.strip, CVal.flat, endsC, resultsC, oneOrTuple, finishC, cut, fillCells, setCells, szOf, szOf_desc, elems, evalAppend, fillElems, mkElem, List.replicate, sy_nbeq, sy_neqF, sy_leT, sy_leF, sy_setEnt_setEnt, dropped, sy_wrap64, dropEnts, dropCells, hg, hG, hC, hC0, hD, hN, hN2, sizeMost, ht, hi] at e
    subst e
    try dsimp only
    refine W.ret (endW.intro rfl ?_)
    generalize e : endsC _ _ _ = r
    simp (disch := omega) [stepR, evalOps, evalOper, evalE, evalP, evalL, evalOpnd, nth, setNth, COp.cls, COp.isStore, CVal.isUndef, CVal.whole, CVal.cells, CHeap.put, CHeap.get, CHeap.set, wantedC, getEnt, setEnt, partOf, writeBack, evalBin, evalInt, blockMost, initVar, descOf, List.take, List.drop, CVal.lenOf, CVal.isStr, CVal.bare, CVal.strip, CVal.flat, endsC, resultsC, oneOrTuple, finishC, cut, fillCells, setCells, szOf, szOf_desc, elems, evalAppend, fillElems, mkElem, List.replicate, sy_nbeq, sy_neqF, sy_leT, sy_leF, sy_setEnt_setEnt, dropped, sy_wrap64, dropEnts, dropCells, c11, hg, hG, hC, hC0, hD, hN, hN2, sizeMost, ht, hi] at e
    subst e
    try dsimp only
    exact he (by omega) _ _ (by omega)
  have hcf : ¬ (2000 < c + 1) := by omega
  refine W.reg ?_
  generalize e : stepR _ _ _ = r
  simp (disch := omega) [stepR, evalOps, evalOper, evalE, evalP, evalL, evalOpnd, nth, setNth, COp.cls, COp.isStore, CVal.isUndef, CVal.whole, CVal.cells, CHeap.put, CHeap.get, CHeap.set, wantedC, getEnt, setEnt, partOf, writeBack, evalBin, evalInt, blockMost, initVar, descOf, List.take, List.drop, CVal.lenOf, CVal.isStr, CVal.bare, CVal.strip, CVal.flat, endsC, resultsC, oneOrTuple, finishC, cut, fillCells, setCells, szOf, szOf_desc, elems, evalAppend, fillElems, mkElem, List.replicate, sy_nbeq, sy_neqF, sy_leT, sy_leF, sy_setEnt_setEnt, dropped, sy_wrap64, dropEnts, dropCells, hg, hG, hC, hC0, hD, hN, hN2, sizeMost, ht, hi, hdl, hcf] at e
  subst e
  try dsimp only
  refine W.cond_false rfl (W.skip ?_)
  refine W.seq ?_
  refine W.reg ?_
  generalize e : stepR _ _ _ = r
  simp (disch := omega) [stepR, evalOps, evalOper, evalE, evalP, evalL, evalOpnd, nth, setNth, COp.cls, COp.isStore, CVal.isUndef, CVal.whole, CVal.cells, CHeap.put, CHeap.get, CHeap.set, wantedC, getEnt, setEnt, partOf, writeBack, evalBin, evalInt, blockMost, initVar, descOf, List.take, List.drop, CVal.lenOf, CVal.isStr, CVal.bare, CVal.strip, CVal.flat, endsC, resultsC, oneOrTuple, finishC, cut, fillCells, setCells, szOf, szOf_desc, elems, evalAppend, fillElems, mkElem, List.replicate, sy_nbeq, sy_neqF, sy_leT, sy_leF, sy_setEnt_setEnt, dropped, sy_wrap64, dropEnts, dropCells, hg, hG, hC, hC0, hD, hN, hN2, sizeMost, ht, hi] at e
  subst e
  try dsimp only
  refine W.seq (W.block ?_)
  refine W.seq ?_
  refine W.reg ?_
  generalize e : stepR _ _ _ = r
  simp (disch := omega) [stepR, evalOps, evalOper, evalE, evalP, evalL, evalOpnd, nth, setNth, COp.cls, COp.isStore, CVal.isUndef, CVal.whole, CVal.cells, CHeap.put, CHeap.get, CHeap.set, wantedC, getEnt, setEnt, partOf, writeBack, evalBin, evalInt, blockMost, initVar, descOf, List.take, List.drop, CVal.lenOf, CVal.isStr, CVal.bare, CVal.strip, CVal.flat, endsC, resultsC, oneOrTuple, finishC, cut, fillCells, setCells, szOf, szOf_desc, elems, evalAppend, fillElems, mkElem, List.replicate, sy_nbeq, sy_neqF, sy_leT, sy_leF, sy_setEnt_setEnt, dropped, sy_wrap64, dropEnts, dropCells, hg, hG, hC, hC0, hD, hN, hN2, sizeMost, ht, hi] at e
  subst e
  try dsimp only
  refine W.cond_true rfl ?_
  refine W.seq ?_
  refine W.region (Wo.upto 5 rfl ?_)
  generalize e : evalOps _ _ _ _ _ = r
  simp (disch := omega) [stepR, evalOps, evalOper, evalE, evalP, evalL, evalOpnd, nth, setNth, COp.cls, COp.isStore, CVal.isUndef, CVal.whole, CVal.cells, CHeap.put, CHeap.get, CHeap.set, wantedC, getEnt, setEnt, partOf, writeBack, evalBin, evalInt, blockMost, initVar, descOf, List.take, List.drop, CVal.lenOf, CVal.isStr, CVal.bare, CVal.strip, CVal.flat, endsC, resultsC, oneOrTuple, finishC, cut, fillCells, setCells, szOf, szOf_desc, elems, evalAppend, fillElems, mkElem, List.replicate, sy_nbeq, sy_neqF, sy_leT, sy_leF, sy_setEnt_setEnt, dropped, sy_wrap64, dropEnts, dropCells, hg, hG, hC, hC0, hD, hN, hN2, sizeMost, ht, hi] at e
  subst e
  try dsimp only
  refine Wo.call ?_
  refine record_node ts nm m d (i + 1) sz l (dm + 1) hdm V (deep + 1) (c + 1) _ (by simp (disch := omega) [getEnt, setEnt, sy_nbeq, sy_neqF, sy_setEnt_setEnt, hg, hG]) (by repeat (first | exact hu.le (by dsimp only; omega) | exact hu.set.le (by dsimp only; omega) | refine Under.cons (by dsimp only; omega) ?_)) (by dsimp only; omega) (by omega) (by omega) (by omega) (by omega) _ (fun hf1 n1 hn1 => ⟨rfl, ?_⟩) (fun hn n1 c' hn1 => ⟨rfl, ?_⟩) <;> try dsimp only at hn1
  rotate_left
  · refine Wo.rest ?_
    generalize e : evalOps _ _ _ _ _ = r
    simp (disch := omega) [stepR, evalOps, evalOper, evalE, evalP, evalL, evalOpnd, nth, setNth, COp.cls, COp.isStore, CVal.isUndef, CVal.whole, CVal.cells, CHeap.put, CHeap.get, CHeap.set, wantedC, getEnt, setEnt, partOf, writeBack, evalBin, evalInt, blockMost, initVar, descOf, List.take, List.drop, CVal.lenOf, CVal.isStr, CVal.bare, CVal.strip, CVal.flat, endsC, resultsC, oneOrTuple, finishC, cut, fillCells, setCells, szOf, szOf_desc, elems, evalAppend, fillElems, mkElem, List.replicate, sy_nbeq, sy_neqF, sy_leT, sy_leF, sy_setEnt_setEnt, dropped, sy_wrap64, dropEnts, dropCells, hg, hG, hC, hC0, hD, hN, hN2, sizeMost, ht, hi] at e
    subst e
    try dsimp only
    refine W.ret (endW.intro rfl ?_)
    generalize e : endsC _ _ _ = r
    simp (disch := omega) [stepR, evalOps, evalOper, evalE, evalP, evalL, evalOpnd, nth, setNth, COp.cls, COp.isStore, CVal.isUndef, CVal.whole, CVal.cells, CHeap.put, CHeap.get, CHeap.set, wantedC, getEnt, setEnt, partOf, writeBack, evalBin, evalInt, blockMost, initVar, descOf, List.take, List.drop, CVal.lenOf, CVal.isStr, CVal.bare, CVal.strip, CVal.flat, endsC, resultsC, oneOrTuple, finishC, cut, fillCells, setCells, szOf, szOf_desc, elems, evalAppend, fillElems, mkElem, List.replicate, sy_nbeq, sy_neqF, sy_leT, sy_leF, sy_setEnt_setEnt, dropped, sy_wrap64, dropEnts, dropCells, c11, hg, hG, hC, hC0, hD, hN, hN2, sizeMost, ht, hi] at e
    subst e
    try dsimp only
    exact he (by push_cast at hn ⊢; omega) _ _ (by omega)
  refine Wo.rest ?_
  generalize e : evalOps _ _ _ _ _ = r
  simp (disch := omega) [stepR, evalOps, evalOper, evalE, evalP, evalL, evalOpnd, nth, setNth, COp.cls, COp.isStore, CVal.isUndef, CVal.whole, CVal.cells, CHeap.put, CHeap.get, CHeap.set, wantedC, getEnt, setEnt, partOf, writeBack, evalBin, evalInt, blockMost, initVar, descOf, List.take, List.drop, CVal.lenOf, CVal.isStr, CVal.bare, CVal.strip, CVal.flat, endsC, resultsC, oneOrTuple, finishC, cut, fillCells, setCells, szOf, szOf_desc, elems, evalAppend, fillElems, mkElem, List.replicate, sy_nbeq, sy_neqF, sy_leT, sy_leF, sy_setEnt_setEnt, dropped, sy_wrap64, dropEnts, dropCells, hg, hG, hC, hC0, hD, hN, hN2, sizeMost, ht, hi] at e
  subst e
  try dsimp only
  refine W.ret (endW.intro rfl ?_)
  generalize e : endsC _ _ _ = r
  simp (disch := omega) [stepR, evalOps, evalOper, evalE, evalP, evalL, evalOpnd, nth, setNth, COp.cls, COp.isStore, CVal.isUndef, CVal.whole, CVal.cells, CHeap.put, CHeap.get, CHeap.set, wantedC, getEnt, setEnt, partOf, writeBack, evalBin, evalInt, blockMost, initVar, descOf, List.take, List.drop, CVal.lenOf, CVal.isStr, CVal.bare, CVal.strip, CVal.flat, endsC, resultsC, oneOrTuple, finishC, cut, fillCells, setCells, szOf, szOf_desc, elems, evalAppend, fillElems, mkElem, List.replicate, sy_nbeq, sy_neqF, sy_leT, sy_leF, sy_setEnt_setEnt, dropped, sy_wrap64, dropEnts, dropCells, c11, hg, hG, hC, hC0, hD, hN, hN2, sizeMost, ht, hi] at e
  subst e
  try dsimp only
  have hk2 := hk (by push_cast at hf1 ⊢; omega)
  rw [show c + ((1 + (sz + sz) : Nat) : Int) = c + 1 + ((sz + sz : Nat) : Int) by push_cast; omega] at hk2
  exact hk2 _ (by omega)


def Aof : Nat → List CVal
  | 0 => zA
  | j + 1 => [.int .u64 0, .str [], .imm .none 5 [.agg (Aof j), .agg (Aof j)], .nils, .int .i64 0]
def szA : Nat → Nat
  | 0 => 1
  | j + 1 => 1 + (szA j + szA j)

theorem vchain {ts : List CVal} {k : Nat} (C : Chain ts k) (m d : Nat) : ∀ j, j ≤ k → j ≤ 20 → VSpec ts m d (k - j) (szA j) (Aof j) (20 - j)
  | 0, hj, _ => by
    obtain ⟨nm, hl⟩ := C.last
    exact value_leaf ts nm m d (k - 0) (by rw [C.len]; omega) hl _ (by omega)
  | 1, hj, h20 => by
    obtain ⟨nm, hl⟩ := C.each (k - 1) (by omega)
    have V := vchain C m d 0 (by omega) (by omega)
    refine value_node0 ts nm m d (k - 1) (szA 0) (by rw [C.len]; omega) hl _ (by omega) ?_
    rw [show k - 1 + 1 = k - 0 by omega]
    exact V
  | j + 2, hj, h20 => by
    obtain ⟨nm, hl⟩ := C.each (k - (j + 2)) (by omega)
    have V := vchain C m d (j + 1) (by omega) (by omega)
    refine value_node ts nm m d (k - (j + 2)) (szA (j + 1)) [.agg (Aof j), .agg (Aof j)] (by rw [C.len]; omega) hl _ (by push_cast; omega) ?_
    rw [show k - (j + 2) + 1 = k - (j + 1) by omega, show (20 : Int) - ((j + 2 : Nat) : Int) + 1 = 20 - ((j + 1 : Nat) : Int) by push_cast; omega]
    exact V

theorem aof_shape (k : Nat) : ∃ X, Aof k = [.int .u64 0, .str [], X, .nils, .int .i64 0] ∧ (X = .nils ∨ ∃ l, X = .imm .none 5 l) := by
  cases k with
  | zero => exact ⟨_, rfl, .inl rfl⟩
  | succ j => exact ⟨_, rfl, .inr ⟨_, rfl⟩⟩

theorem value_top (ts : List CVal) (k : Nat) (C : Chain ts k) (hk : k ≤ 17) (h : CHeap) (hu : Under h.ents h.next) (K : CVal → CHeap → Prop)
    (hok : szA k ≤ 2000 → ∀ n' X, h.next ≤ n' → (X = .nils ∨ ∃ l, X = .imm .none 5 l) → K (.tup [.agg [.int .u64 0, .str [], X, .nils, .int .i64 0], .int .i64 0]) { h with next := n' })
    (hno : 2000 < szA k → ∀ n', h.next ≤ n' → K (.tup [.agg zA, .int .i64 3]) { h with next := n' }) :
    Wc tree.getF 7 [.agg [.imm .none 10 ts], .int .i64 0, .agg nJ] h K := by
  have hD : dropEnts h.ents h.next = h.ents := dropEnts_under hu
  have hN : ∀ b, h.next ≤ b → getEnt h.ents b = none := fun b hb => getEnt_under hu hb
  have hlen := C.len
  have hpos : ¬ ((k : Int) + 1 ≤ 0) := by omega
  refine Wc.mk' (fn := c7) (by kernel_rfl) rfl ?_
  refine W.seq ?_
  refine W.reg ?_
  generalize e : stepR _ _ _ = r
  simp (disch := omega) [stepR, evalOps, evalOper, evalE, evalP, evalL, evalOpnd, nth, setNth, COp.cls, COp.isStore, CVal.isUndef, CVal.whole, CVal.cells, CHeap.put, CHeap.get, CHeap.set, wantedC, getEnt, setEnt, partOf, writeBack, evalBin, evalInt, blockMost, initVar, descOf, List.take, List.drop, CVal.lenOf, CVal.isStr, CVal.bare, CVal.strip, CVal.flat, endsC, resultsC, oneOrTuple, finishC, cut, fillCells, setCells, szOf, szOf_desc, elems, evalAppend, fillElems, mkElem, List.replicate, sy_nbeq, sy_neqF, sy_leT, sy_leF, sy_setEnt_setEnt, dropped, sy_wrap64, dropEnts, dropCells, c7] at e
  subst e
  try dsimp only
  refine W.seq ?_
  refine W.seq ?_
  refine W.reg ?_
  generalize e : stepR _ _ _ = r
  simp (disch := omega) [stepR, evalOps, evalOper, evalE, evalP, evalL, evalOpnd, nth, setNth, COp.cls, COp.isStore, CVal.isUndef, CVal.whole, CVal.cells, CHeap.put, CHeap.get, CHeap.set, wantedC, getEnt, setEnt, partOf, writeBack, evalBin, evalInt, blockMost, initVar, descOf, List.take, List.drop, CVal.lenOf, CVal.isStr, CVal.bare, CVal.strip, CVal.flat, endsC, resultsC, oneOrTuple, finishC, cut, fillCells, setCells, szOf, szOf_desc, elems, evalAppend, fillElems, mkElem, List.replicate, sy_nbeq, sy_neqF, sy_leT, sy_leF, sy_setEnt_setEnt, dropped, sy_wrap64, dropEnts, dropCells, hN, hlen, hpos, sizeMost] at e
  subst e
  try dsimp only
  refine W.cond_false rfl (W.skip ?_)
  refine W.seq ?_
  refine W.reg ?_
  generalize e : stepR _ _ _ = r
  simp (disch := omega) [stepR, evalOps, evalOper, evalE, evalP, evalL, evalOpnd, nth, setNth, COp.cls, COp.isStore, CVal.isUndef, CVal.whole, CVal.cells, CHeap.put, CHeap.get, CHeap.set, wantedC, getEnt, setEnt, partOf, writeBack, evalBin, evalInt, blockMost, initVar, descOf, List.take, List.drop, CVal.lenOf, CVal.isStr, CVal.bare, CVal.strip, CVal.flat, endsC, resultsC, oneOrTuple, finishC, cut, fillCells, setCells, szOf, szOf_desc, elems, evalAppend, fillElems, mkElem, List.replicate, sy_nbeq, sy_neqF, sy_leT, sy_leF, sy_setEnt_setEnt, dropped, sy_wrap64, dropEnts, dropCells, hN, hlen, hpos, sizeMost] at e
  subst e
  try dsimp only
  refine W.seq ?_
  refine W.region (Wo.upto 3 rfl ?_)
  generalize e : evalOps _ _ _ _ _ = r
  simp (disch := omega) [stepR, evalOps, evalOper, evalE, evalP, evalL, evalOpnd, nth, setNth, COp.cls, COp.isStore, CVal.isUndef, CVal.whole, CVal.cells, CHeap.put, CHeap.get, CHeap.set, wantedC, getEnt, setEnt, partOf, writeBack, evalBin, evalInt, blockMost, initVar, descOf, List.take, List.drop, CVal.lenOf, CVal.isStr, CVal.bare, CVal.strip, CVal.flat, endsC, resultsC, oneOrTuple, finishC, cut, fillCells, setCells, szOf, szOf_desc, elems, evalAppend, fillElems, mkElem, List.replicate, sy_nbeq, sy_neqF, sy_leT, sy_leF, sy_setEnt_setEnt, dropped, sy_wrap64, dropEnts, dropCells, hN, hlen, hpos, sizeMost] at e
  subst e
  try dsimp only
  refine Wo.call ?_
  have V := vchain C (h.next + 4 + 9 + 1 + 1) 60817410 k (Nat.le_refl _) (by omega)
  rw [Nat.sub_self] at V
  obtain ⟨X, hX, hXs⟩ := aof_shape k
  rw [hX] at V
  refine V 1 0 _ _ (by simp (disch := omega) [getEnt, sy_nbeq, sy_neqF]) (by repeat (first | exact hu.le (by dsimp only; omega) | exact hu.set.le (by dsimp only; omega) | refine Under.cons (by dsimp only; omega) ?_)) (by dsimp only; omega) (by omega) (by omega) (by omega) (by omega) (fun hf n1 hn1 => ⟨rfl, ?_⟩) (fun hn n1 c' hn1 => ⟨rfl, ?_⟩) <;> try dsimp only at hn1
  · rcases hXs with rfl | ⟨l, rfl⟩
    · refine Wo.rest ?_
      generalize e : evalOps _ _ _ _ _ = r
      simp (disch := omega) [stepR, evalOps, evalOper, evalE, evalP, evalL, evalOpnd, nth, setNth, COp.cls, COp.isStore, CVal.isUndef, CVal.whole, CVal.cells, CHeap.put, CHeap.get, CHeap.set, wantedC, getEnt, setEnt, partOf, writeBack, evalBin, evalInt, blockMost, initVar, descOf, List.take, List.drop, CVal.lenOf, CVal.isStr, CVal.bare, CVal.strip, CVal.flat, endsC, resultsC, oneOrTuple, finishC, cut, fillCells, setCells, szOf, szOf_desc, elems, evalAppend, fillElems, mkElem, List.replicate, sy_nbeq, sy_neqF, sy_leT, sy_leF, sy_setEnt_setEnt, dropped, sy_wrap64, dropEnts, dropCells, hN, hlen, hpos, sizeMost] at e
      subst e
      try dsimp only
      refine W.ret (endW.intro rfl ?_)
      generalize e : endsC _ _ _ = r
      simp (disch := omega) [stepR, evalOps, evalOper, evalE, evalP, evalL, evalOpnd, nth, setNth, COp.cls, COp.isStore, CVal.isUndef, CVal.whole, CVal.cells, CHeap.put, CHeap.get, CHeap.set, wantedC, getEnt, setEnt, partOf, writeBack, evalBin, evalInt, blockMost, initVar, descOf, List.take, List.drop, CVal.lenOf, CVal.isStr, CVal.bare, CVal.strip, CVal.flat, endsC, resultsC, oneOrTuple, finishC, cut, fillCells, setCells, szOf, szOf_desc, elems, evalAppend, fillElems, mkElem, List.replicate, sy_nbeq, sy_neqF, sy_leT, sy_leF, sy_setEnt_setEnt, dropped, sy_wrap64, dropEnts, dropCells, c7, hD, hN, hlen, hpos, sizeMost] at e
      subst e
      try dsimp only
      exact hok (by omega) _ _ (by omega) (.inl rfl)
    · refine Wo.rest ?_
      generalize e : evalOps _ _ _ _ _ = r
      simp (disch := omega) [stepR, evalOps, evalOper, evalE, evalP, evalL, evalOpnd, nth, setNth, COp.cls, COp.isStore, CVal.isUndef, CVal.whole, CVal.cells, CHeap.put, CHeap.get, CHeap.set, wantedC, getEnt, setEnt, partOf, writeBack, evalBin, evalInt, blockMost, initVar, descOf, List.take, List.drop, CVal.lenOf, CVal.isStr, CVal.bare, CVal.strip, CVal.flat, endsC, resultsC, oneOrTuple, finishC, cut, fillCells, setCells, szOf, szOf_desc, elems, evalAppend, fillElems, mkElem, List.replicate, sy_nbeq, sy_neqF, sy_leT, sy_leF, sy_setEnt_setEnt, dropped, sy_wrap64, dropEnts, dropCells, hN, hlen, hpos, sizeMost] at e
      subst e
      try dsimp only
      refine W.ret (endW.intro rfl ?_)
      generalize e : endsC _ _ _ = r
      simp (disch := omega) [stepR, evalOps, evalOper, evalE, evalP, evalL, evalOpnd, nth, setNth, COp.cls, COp.isStore, CVal.isUndef, CVal.whole, CVal.cells, CHeap.put, CHeap.get, CHeap.set, wantedC, getEnt, setEnt, partOf, writeBack, evalBin, evalInt, blockMost, initVar, descOf, List.take, List.drop, CVal.lenOf, CVal.isStr, CVal.bare, CVal.strip, CVal.flat, endsC, resultsC, oneOrTuple, finishC, cut, fillCells, setCells, szOf, szOf_desc, elems, evalAppend, fillElems, mkElem, List.replicate, sy_nbeq, sy_neqF, sy_leT, sy_leF, sy_setEnt_setEnt, dropped, sy_wrap64, dropEnts, dropCells, c7, hD, hN, hlen, hpos, sizeMost] at e
      subst e
      try dsimp only
      exact hok (by omega) _ _ (by omega) (.inr ⟨_, rfl⟩)
  · refine Wo.rest ?_
    generalize e : evalOps _ _ _ _ _ = r
    simp (disch := omega) [stepR, evalOps, evalOper, evalE, evalP, evalL, evalOpnd, nth, setNth, COp.cls, COp.isStore, CVal.isUndef, CVal.whole, CVal.cells, CHeap.put, CHeap.get, CHeap.set, wantedC, getEnt, setEnt, partOf, writeBack, evalBin, evalInt, blockMost, initVar, descOf, List.take, List.drop, CVal.lenOf, CVal.isStr, CVal.bare, CVal.strip, CVal.flat, endsC, resultsC, oneOrTuple, finishC, cut, fillCells, setCells, szOf, szOf_desc, elems, evalAppend, fillElems, mkElem, List.replicate, sy_nbeq, sy_neqF, sy_leT, sy_leF, sy_setEnt_setEnt, dropped, sy_wrap64, dropEnts, dropCells, hN, hlen, hpos, sizeMost] at e
    subst e
    try dsimp only
    refine W.ret (endW.intro rfl ?_)
    generalize e : endsC _ _ _ = r
    simp (disch := omega) [stepR, evalOps, evalOper, evalE, evalP, evalL, evalOpnd, nth, setNth, COp.cls, COp.isStore, CVal.isUndef, CVal.whole, CVal.cells, CHeap.put, CHeap.get, CHeap.set, wantedC, getEnt, setEnt, partOf, writeBack, evalBin, evalInt, blockMost, initVar, descOf, List.take, List.drop, CVal.lenOf, CVal.isStr, CVal.bare, CVal.strip, CVal.flat, endsC, resultsC, oneOrTuple, finishC, cut, fillCells, setCells, szOf, szOf_desc, elems, evalAppend, fillElems, mkElem, List.replicate, sy_nbeq, sy_neqF, sy_leT, sy_leF, sy_setEnt_setEnt, dropped, sy_wrap64, dropEnts, dropCells, c7, hD, hN, hlen, hpos, sizeMost] at e
    subst e
    try dsimp only
    exact hno (by omega) _ (by omega)


def pieces : CCode → List CCode
  | .seq a b => a :: pieces b
  | c => [c]
def nthC : List CCode → Nat → CCode
  | [], _ => .skip
  | a :: _, 0 => a
  | _ :: r, i + 1 => nthC r i
def pc (i : Nat) : CCode := nthC (pieces c3.body) i
def ents5 : List (Nat × CObj) := [(375, (.cells [(.int .u64 0), (.str []), .nils, .nils, (.int .i64 0)])), (367, (.cells [(.imm .full 10 [(.agg [(.int .i64 9), (.str [82]), .nils, (.int .i64 0), .nils, (.bool false), (.str []), (.int .i64 0), (.imm .full 9 [(.agg [(.str [97]), .nils, (.int .i64 0), (.bool true), (.int .i64 6), (.int .i64 0), (.str []), .nils, .nils])]), .nils])])])), (359, (.cells [(.int .i64 6), (.int .i64 0), (.str []), .nils, .nils]))]
def tm5 (n : Int) : List CVal := [(.bool false), (.ptr 359 28311557 0), (.ptr 367 37748737 0), (.int .u8 n), .undef, .undef, .undef, .undef, .undef, .undef, (.int .i64 3), (.int .i64 3), (.int .i64 0), (.int .i64 0), .undef, .undef, (.bool false)]
def tsK (k : Nat) : List CVal := (List.range (k + 1)).map fun i => .agg (tyC [82, UInt8.ofNat (65 + i)] (if i < k then .imm .full 9 [fld [97] (i + 1), fld [98] (i + 1)] else .nils))
def tid (k : Nat) : Nat := if k = 0 then 5797 else 5808
def st6 (n : Int) (k : Nat) : CSt := ⟨setNth (tm5 n) 5 (.int .i64 k), ⟨ents5, 5776, []⟩, []⟩
def st7 (n : Int) (k : Nat) : CSt := ⟨[.bool false, .ptr 359 28311557 0, .ptr 367 37748737 0, .int .u8 n, .int .i64 (k + 1 : Nat), .int .i64 k, .bool false, .bool false, .ptr (5788 + 36 * k) 34603018 0, .ptr 5776 37748737 0, .int .i64 3, .int .i64 3, .int .i64 0, .int .i64 0, .undef, .undef, .bool false],
  ⟨(tid k, .tok k) :: (5776, .cells [.imm (.own (tid k) k) 10 (tsK k)]) :: ents5, 5806 + 36 * k, []⟩, []⟩
theorem f1 (n : Int) : execF tree.getF 100000 (.seq (.seq (.seq (.seq (.seq (pc 0) (pc 1)) (pc 2)) (pc 3)) (pc 4)) (pc 5)) ⟨[.undef, .undef, .undef, .int .u8 n, .undef, .undef, .undef, .undef, .undef, .undef, .undef, .undef, .undef, .undef, .undef, .undef, .undef], noHeap, []⟩ = some (.normal, ⟨tm5 n, ⟨ents5, 5772, []⟩, []⟩) := by kernel_rfl
theorem f2_0 (n : Int) : execF tree.getF 100000 (.seq (pc 7) (pc 8)) (st6 n 0) = some (.normal, st7 n 0) := by kernel_rfl
theorem f2_1 (n : Int) : execF tree.getF 100000 (.seq (pc 7) (pc 8)) (st6 n 1) = some (.normal, st7 n 1) := by kernel_rfl
theorem f2_2 (n : Int) : execF tree.getF 100000 (.seq (pc 7) (pc 8)) (st6 n 2) = some (.normal, st7 n 2) := by kernel_rfl
theorem f2_3 (n : Int) : execF tree.getF 100000 (.seq (pc 7) (pc 8)) (st6 n 3) = some (.normal, st7 n 3) := by kernel_rfl
theorem f2_4 (n : Int) : execF tree.getF 100000 (.seq (pc 7) (pc 8)) (st6 n 4) = some (.normal, st7 n 4) := by kernel_rfl
theorem f2_5 (n : Int) : execF tree.getF 100000 (.seq (pc 7) (pc 8)) (st6 n 5) = some (.normal, st7 n 5) := by kernel_rfl
theorem f2_6 (n : Int) : execF tree.getF 100000 (.seq (pc 7) (pc 8)) (st6 n 6) = some (.normal, st7 n 6) := by kernel_rfl
theorem f2_7 (n : Int) : execF tree.getF 100000 (.seq (pc 7) (pc 8)) (st6 n 7) = some (.normal, st7 n 7) := by kernel_rfl
theorem f2_8 (n : Int) : execF tree.getF 100000 (.seq (pc 7) (pc 8)) (st6 n 8) = some (.normal, st7 n 8) := by kernel_rfl
theorem f2_9 (n : Int) : execF tree.getF 100000 (.seq (pc 7) (pc 8)) (st6 n 9) = some (.normal, st7 n 9) := by kernel_rfl
theorem f2_10 (n : Int) : execF tree.getF 100000 (.seq (pc 7) (pc 8)) (st6 n 10) = some (.normal, st7 n 10) := by kernel_rfl
theorem f2_11 (n : Int) : execF tree.getF 100000 (.seq (pc 7) (pc 8)) (st6 n 11) = some (.normal, st7 n 11) := by kernel_rfl
theorem f2_12 (n : Int) : execF tree.getF 100000 (.seq (pc 7) (pc 8)) (st6 n 12) = some (.normal, st7 n 12) := by kernel_rfl
theorem f2_13 (n : Int) : execF tree.getF 100000 (.seq (pc 7) (pc 8)) (st6 n 13) = some (.normal, st7 n 13) := by kernel_rfl
theorem f2_14 (n : Int) : execF tree.getF 100000 (.seq (pc 7) (pc 8)) (st6 n 14) = some (.normal, st7 n 14) := by kernel_rfl
theorem f2_15 (n : Int) : execF tree.getF 100000 (.seq (pc 7) (pc 8)) (st6 n 15) = some (.normal, st7 n 15) := by kernel_rfl
theorem f2_16 (n : Int) : execF tree.getF 100000 (.seq (pc 7) (pc 8)) (st6 n 16) = some (.normal, st7 n 16) := by kernel_rfl
theorem f2_17 (n : Int) : execF tree.getF 100000 (.seq (pc 7) (pc 8)) (st6 n 17) = some (.normal, st7 n 17) := by kernel_rfl
theorem f2 (n : Int) : ∀ k, k < 18 → execF tree.getF 100000 (.seq (pc 7) (pc 8)) (st6 n k) = some (.normal, st7 n k)
  | 0, _ => f2_0 n
  | 1, _ => f2_1 n
  | 2, _ => f2_2 n
  | 3, _ => f2_3 n
  | 4, _ => f2_4 n
  | 5, _ => f2_5 n
  | 6, _ => f2_6 n
  | 7, _ => f2_7 n
  | 8, _ => f2_8 n
  | 9, _ => f2_9 n
  | 10, _ => f2_10 n
  | 11, _ => f2_11 n
  | 12, _ => f2_12 n
  | 13, _ => f2_13 n
  | 14, _ => f2_14 n
  | 15, _ => f2_15 n
  | 16, _ => f2_16 n
  | 17, _ => f2_17 n
  | k + 18, h => absurd h (by omega)

theorem chainK (k : Nat) : Chain (tsK k) k where
  len := by simp [tsK]
  last := ⟨[82, UInt8.ofNat (65 + k)], by simp [nth_eq, tsK]⟩
  each i hi := ⟨[82, UInt8.ofNat (65 + i)], by
    have h1 : i < k + 1 := by omega
    simp [nth_eq, tsK, h1, hi]⟩


theorem main_0 (n : Int) (hn : n.tmod 18 = 0) : Wc tree.getF 3 [.int .u8 n] noHeap fun v h => v = .bool true := by
  have hsz : szA 0 = 1 := by decide +kernel
  refine Wc.mk' (fn := c3) (by kernel_rfl) rfl ?_
  refine W.assoc (W.assoc (W.assoc (W.assoc (W.assoc (W.seq (W.of_exec (f1 n) ?_))))))
  refine W.seq ?_
  refine W.reg ?_
  generalize e : stepR _ _ _ = r
  simp (disch := omega) [stepR, evalOps, evalOper, evalE, evalP, evalL, evalOpnd, nth, setNth, COp.cls, COp.isStore, CVal.isUndef, CVal.whole, CVal.cells, CHeap.put, CHeap.get, CHeap.set, wantedC, getEnt, setEnt, partOf, writeBack, evalBin, evalInt, blockMost, initVar, descOf, List.take, List.drop, CVal.lenOf, CVal.isStr, CVal.bare, CVal.strip, CVal.flat, endsC, resultsC, oneOrTuple, finishC, cut, fillCells, setCells, szOf, szOf_desc, elems, evalAppend, fillElems, mkElem, List.replicate, sy_nbeq, sy_neqF, sy_leT, sy_leF, sy_setEnt_setEnt, dropped, sy_wrap64, dropEnts, dropCells, hn, tm5, ents5] at e
  subst e
  try dsimp only
  refine W.assoc (W.seq (W.of_exec (f2_0 n) ?_))
  refine W.seq ?_
  refine W.region (Wo.upto 2 rfl ?_)
  generalize e : evalOps _ _ _ _ _ = r
  simp (disch := omega) [stepR, evalOps, evalOper, evalE, evalP, evalL, evalOpnd, nth, setNth, COp.cls, COp.isStore, CVal.isUndef, CVal.whole, CVal.cells, CHeap.put, CHeap.get, CHeap.set, wantedC, getEnt, setEnt, partOf, writeBack, evalBin, evalInt, blockMost, initVar, descOf, List.take, List.drop, CVal.lenOf, CVal.isStr, CVal.bare, CVal.strip, CVal.flat, endsC, resultsC, oneOrTuple, finishC, cut, fillCells, setCells, szOf, szOf_desc, elems, evalAppend, fillElems, mkElem, List.replicate, sy_nbeq, sy_neqF, sy_leT, sy_leF, sy_setEnt_setEnt, dropped, sy_wrap64, dropEnts, dropCells, st7, tid, ents5, noHeap] at e
  subst e
  try dsimp only
  refine Wo.call ?_
  refine value_top (tsK 0) 0 (chainK 0) (by omega) _ (by repeat (first | refine Under.cons (by dsimp only; omega) ?_ | exact Under.nil)) _ (fun hf n1 X hn1 hX => ⟨rfl, ?_⟩) (fun hf n1 hn1 => ⟨rfl, ?_⟩) <;> try dsimp only at hn1
  · rcases hX with rfl | ⟨l, rfl⟩
    · refine Wo.rest ?_
      generalize e : evalOps _ _ _ _ _ = r
      simp (disch := omega) [stepR, evalOps, evalOper, evalE, evalP, evalL, evalOpnd, nth, setNth, COp.cls, COp.isStore, CVal.isUndef, CVal.whole, CVal.cells, CHeap.put, CHeap.get, CHeap.set, wantedC, getEnt, setEnt, partOf, writeBack, evalBin, evalInt, blockMost, initVar, descOf, List.take, List.drop, CVal.lenOf, CVal.isStr, CVal.bare, CVal.strip, CVal.flat, endsC, resultsC, oneOrTuple, finishC, cut, fillCells, setCells, szOf, szOf_desc, elems, evalAppend, fillElems, mkElem, List.replicate, sy_nbeq, sy_neqF, sy_leT, sy_leF, sy_setEnt_setEnt, dropped, sy_wrap64, dropEnts, dropCells, st7, tid, ents5, noHeap] at e
      subst e
      try dsimp only
      refine W.seq ?_
      refine W.reg ?_
      generalize e : stepR _ _ _ = r
      simp (disch := omega) [stepR, evalOps, evalOper, evalE, evalP, evalL, evalOpnd, nth, setNth, COp.cls, COp.isStore, CVal.isUndef, CVal.whole, CVal.cells, CHeap.put, CHeap.get, CHeap.set, wantedC, getEnt, setEnt, partOf, writeBack, evalBin, evalInt, blockMost, initVar, descOf, List.take, List.drop, CVal.lenOf, CVal.isStr, CVal.bare, CVal.strip, CVal.flat, endsC, resultsC, oneOrTuple, finishC, cut, fillCells, setCells, szOf, szOf_desc, elems, evalAppend, fillElems, mkElem, List.replicate, sy_nbeq, sy_neqF, sy_leT, sy_leF, sy_setEnt_setEnt, dropped, sy_wrap64, dropEnts, dropCells, st7, tid, ents5, noHeap] at e
      subst e
      try dsimp only
      refine W.seq ?_
      refine W.reg ?_
      generalize e : stepR _ _ _ = r
      simp (disch := omega) [stepR, evalOps, evalOper, evalE, evalP, evalL, evalOpnd, nth, setNth, COp.cls, COp.isStore, CVal.isUndef, CVal.whole, CVal.cells, CHeap.put, CHeap.get, CHeap.set, wantedC, getEnt, setEnt, partOf, writeBack, evalBin, evalInt, blockMost, initVar, descOf, List.take, List.drop, CVal.lenOf, CVal.isStr, CVal.bare, CVal.strip, CVal.flat, endsC, resultsC, oneOrTuple, finishC, cut, fillCells, setCells, szOf, szOf_desc, elems, evalAppend, fillElems, mkElem, List.replicate, sy_nbeq, sy_neqF, sy_leT, sy_leF, sy_setEnt_setEnt, dropped, sy_wrap64, dropEnts, dropCells, st7, tid, ents5, noHeap] at e
      subst e
      try dsimp only
      refine W.ret (endW.intro rfl ?_)
      generalize e : endsC _ _ _ = r
      simp (disch := omega) [stepR, evalOps, evalOper, evalE, evalP, evalL, evalOpnd, nth, setNth, COp.cls, COp.isStore, CVal.isUndef, CVal.whole, CVal.cells, CHeap.put, CHeap.get, CHeap.set, wantedC, getEnt, setEnt, partOf, writeBack, evalBin, evalInt, blockMost, initVar, descOf, List.take, List.drop, CVal.lenOf, CVal.isStr, CVal.bare, CVal.strip, CVal.flat, endsC, resultsC, oneOrTuple, finishC, cut, fillCells, setCells, szOf, szOf_desc, elems, evalAppend, fillElems, mkElem, List.replicate, sy_nbeq, sy_neqF, sy_leT, sy_leF, sy_setEnt_setEnt, dropped, sy_wrap64, dropEnts, dropCells, c3, st7, tid, ents5, noHeap] at e
      subst e
      try dsimp only
    · refine Wo.rest ?_
      generalize e : evalOps _ _ _ _ _ = r
      simp (disch := omega) [stepR, evalOps, evalOper, evalE, evalP, evalL, evalOpnd, nth, setNth, COp.cls, COp.isStore, CVal.isUndef, CVal.whole, CVal.cells, CHeap.put, CHeap.get, CHeap.set, wantedC, getEnt, setEnt, partOf, writeBack, evalBin, evalInt, blockMost, initVar, descOf, List.take, List.drop, CVal.lenOf, CVal.isStr, CVal.bare, CVal.strip, CVal.flat, endsC, resultsC, oneOrTuple, finishC, cut, fillCells, setCells, szOf, szOf_desc, elems, evalAppend, fillElems, mkElem, List.replicate, sy_nbeq, sy_neqF, sy_leT, sy_leF, sy_setEnt_setEnt, dropped, sy_wrap64, dropEnts, dropCells, st7, tid, ents5, noHeap] at e
      subst e
      try dsimp only
      refine W.seq ?_
      refine W.reg ?_
      generalize e : stepR _ _ _ = r
      simp (disch := omega) [stepR, evalOps, evalOper, evalE, evalP, evalL, evalOpnd, nth, setNth, COp.cls, COp.isStore, CVal.isUndef, CVal.whole, CVal.cells, CHeap.put, CHeap.get, CHeap.set, wantedC, getEnt, setEnt, partOf, writeBack, evalBin, evalInt, blockMost, initVar, descOf, List.take, List.drop, CVal.lenOf, CVal.isStr, CVal.bare, CVal.strip, CVal.flat, endsC, resultsC, oneOrTuple, finishC, cut, fillCells, setCells, szOf, szOf_desc, elems, evalAppend, fillElems, mkElem, List.replicate, sy_nbeq, sy_neqF, sy_leT, sy_leF, sy_setEnt_setEnt, dropped, sy_wrap64, dropEnts, dropCells, st7, tid, ents5, noHeap] at e
      subst e
      try dsimp only
      refine W.seq ?_
      refine W.reg ?_
      generalize e : stepR _ _ _ = r
      simp (disch := omega) [stepR, evalOps, evalOper, evalE, evalP, evalL, evalOpnd, nth, setNth, COp.cls, COp.isStore, CVal.isUndef, CVal.whole, CVal.cells, CHeap.put, CHeap.get, CHeap.set, wantedC, getEnt, setEnt, partOf, writeBack, evalBin, evalInt, blockMost, initVar, descOf, List.take, List.drop, CVal.lenOf, CVal.isStr, CVal.bare, CVal.strip, CVal.flat, endsC, resultsC, oneOrTuple, finishC, cut, fillCells, setCells, szOf, szOf_desc, elems, evalAppend, fillElems, mkElem, List.replicate, sy_nbeq, sy_neqF, sy_leT, sy_leF, sy_setEnt_setEnt, dropped, sy_wrap64, dropEnts, dropCells, st7, tid, ents5, noHeap] at e
      subst e
      try dsimp only
      refine W.ret (endW.intro rfl ?_)
      generalize e : endsC _ _ _ = r
      simp (disch := omega) [stepR, evalOps, evalOper, evalE, evalP, evalL, evalOpnd, nth, setNth, COp.cls, COp.isStore, CVal.isUndef, CVal.whole, CVal.cells, CHeap.put, CHeap.get, CHeap.set, wantedC, getEnt, setEnt, partOf, writeBack, evalBin, evalInt, blockMost, initVar, descOf, List.take, List.drop, CVal.lenOf, CVal.isStr, CVal.bare, CVal.strip, CVal.flat, endsC, resultsC, oneOrTuple, finishC, cut, fillCells, setCells, szOf, szOf_desc, elems, evalAppend, fillElems, mkElem, List.replicate, sy_nbeq, sy_neqF, sy_leT, sy_leF, sy_setEnt_setEnt, dropped, sy_wrap64, dropEnts, dropCells, c3, st7, tid, ents5, noHeap] at e
      subst e
      try dsimp only
  · exfalso; rw [hsz] at hf; omega

theorem main_1 (n : Int) (hn : n.tmod 18 = 1) : Wc tree.getF 3 [.int .u8 n] noHeap fun v h => v = .bool true := by
  have hsz : szA 1 = 3 := by decide +kernel
  refine Wc.mk' (fn := c3) (by kernel_rfl) rfl ?_
  refine W.assoc (W.assoc (W.assoc (W.assoc (W.assoc (W.seq (W.of_exec (f1 n) ?_))))))
  refine W.seq ?_
  refine W.reg ?_
  generalize e : stepR _ _ _ = r
  simp (disch := omega) [stepR, evalOps, evalOper, evalE, evalP, evalL, evalOpnd, nth, setNth, COp.cls, COp.isStore, CVal.isUndef, CVal.whole, CVal.cells, CHeap.put, CHeap.get, CHeap.set, wantedC, getEnt, setEnt, partOf, writeBack, evalBin, evalInt, blockMost, initVar, descOf, List.take, List.drop, CVal.lenOf, CVal.isStr, CVal.bare, CVal.strip, CVal.flat, endsC, resultsC, oneOrTuple, finishC, cut, fillCells, setCells, szOf, szOf_desc, elems, evalAppend, fillElems, mkElem, List.replicate, sy_nbeq, sy_neqF, sy_leT, sy_leF, sy_setEnt_setEnt, dropped, sy_wrap64, dropEnts, dropCells, hn, tm5, ents5] at e
  subst e
  try dsimp only
  refine W.assoc (W.seq (W.of_exec (f2_1 n) ?_))
  refine W.seq ?_
  refine W.region (Wo.upto 2 rfl ?_)
  generalize e : evalOps _ _ _ _ _ = r
  simp (disch := omega) [stepR, evalOps, evalOper, evalE, evalP, evalL, evalOpnd, nth, setNth, COp.cls, COp.isStore, CVal.isUndef, CVal.whole, CVal.cells, CHeap.put, CHeap.get, CHeap.set, wantedC, getEnt, setEnt, partOf, writeBack, evalBin, evalInt, blockMost, initVar, descOf, List.take, List.drop, CVal.lenOf, CVal.isStr, CVal.bare, CVal.strip, CVal.flat, endsC, resultsC, oneOrTuple, finishC, cut, fillCells, setCells, szOf, szOf_desc, elems, evalAppend, fillElems, mkElem, List.replicate, sy_nbeq, sy_neqF, sy_leT, sy_leF, sy_setEnt_setEnt, dropped, sy_wrap64, dropEnts, dropCells, st7, tid, ents5, noHeap] at e
  subst e
  try dsimp only
  refine Wo.call ?_
  refine value_top (tsK 1) 1 (chainK 1) (by omega) _ (by repeat (first | refine Under.cons (by dsimp only; omega) ?_ | exact Under.nil)) _ (fun hf n1 X hn1 hX => ⟨rfl, ?_⟩) (fun hf n1 hn1 => ⟨rfl, ?_⟩) <;> try dsimp only at hn1
  · rcases hX with rfl | ⟨l, rfl⟩
    · refine Wo.rest ?_
      generalize e : evalOps _ _ _ _ _ = r
      simp (disch := omega) [stepR, evalOps, evalOper, evalE, evalP, evalL, evalOpnd, nth, setNth, COp.cls, COp.isStore, CVal.isUndef, CVal.whole, CVal.cells, CHeap.put, CHeap.get, CHeap.set, wantedC, getEnt, setEnt, partOf, writeBack, evalBin, evalInt, blockMost, initVar, descOf, List.take, List.drop, CVal.lenOf, CVal.isStr, CVal.bare, CVal.strip, CVal.flat, endsC, resultsC, oneOrTuple, finishC, cut, fillCells, setCells, szOf, szOf_desc, elems, evalAppend, fillElems, mkElem, List.replicate, sy_nbeq, sy_neqF, sy_leT, sy_leF, sy_setEnt_setEnt, dropped, sy_wrap64, dropEnts, dropCells, st7, tid, ents5, noHeap] at e
      subst e
      try dsimp only
      refine W.seq ?_
      refine W.reg ?_
      generalize e : stepR _ _ _ = r
      simp (disch := omega) [stepR, evalOps, evalOper, evalE, evalP, evalL, evalOpnd, nth, setNth, COp.cls, COp.isStore, CVal.isUndef, CVal.whole, CVal.cells, CHeap.put, CHeap.get, CHeap.set, wantedC, getEnt, setEnt, partOf, writeBack, evalBin, evalInt, blockMost, initVar, descOf, List.take, List.drop, CVal.lenOf, CVal.isStr, CVal.bare, CVal.strip, CVal.flat, endsC, resultsC, oneOrTuple, finishC, cut, fillCells, setCells, szOf, szOf_desc, elems, evalAppend, fillElems, mkElem, List.replicate, sy_nbeq, sy_neqF, sy_leT, sy_leF, sy_setEnt_setEnt, dropped, sy_wrap64, dropEnts, dropCells, st7, tid, ents5, noHeap] at e
      subst e
      try dsimp only
      refine W.seq ?_
      refine W.reg ?_
      generalize e : stepR _ _ _ = r
      simp (disch := omega) [stepR, evalOps, evalOper, evalE, evalP, evalL, evalOpnd, nth, setNth, COp.cls, COp.isStore, CVal.isUndef, CVal.whole, CVal.cells, CHeap.put, CHeap.get, CHeap.set, wantedC, getEnt, setEnt, partOf, writeBack, evalBin, evalInt, blockMost, initVar, descOf, List.take, List.drop, CVal.lenOf, CVal.isStr, CVal.bare, CVal.strip, CVal.flat, endsC, resultsC, oneOrTuple, finishC, cut, fillCells, setCells, szOf, szOf_desc, elems, evalAppend, fillElems, mkElem, List.replicate, sy_nbeq, sy_neqF, sy_leT, sy_leF, sy_setEnt_setEnt, dropped, sy_wrap64, dropEnts, dropCells, st7, tid, ents5, noHeap] at e
      subst e
      try dsimp only
      refine W.ret (endW.intro rfl ?_)
      generalize e : endsC _ _ _ = r
      simp (disch := omega) [stepR, evalOps, evalOper, evalE, evalP, evalL, evalOpnd, nth, setNth, COp.cls, COp.isStore, CVal.isUndef, CVal.whole, CVal.cells, CHeap.put, CHeap.get, CHeap.set, wantedC, getEnt, setEnt, partOf, writeBack, evalBin, evalInt, blockMost, initVar, descOf, List.take, List.drop, CVal.lenOf, CVal.isStr, CVal.bare, CVal.strip, CVal.flat, endsC, resultsC, oneOrTuple, finishC, cut, fillCells, setCells, szOf, szOf_desc, elems, evalAppend, fillElems, mkElem, List.replicate, sy_nbeq, sy_neqF, sy_leT, sy_leF, sy_setEnt_setEnt, dropped, sy_wrap64, dropEnts, dropCells, c3, st7, tid, ents5, noHeap] at e
      subst e
      try dsimp only
    · refine Wo.rest ?_
      generalize e : evalOps _ _ _ _ _ = r
      simp (disch := omega) [stepR, evalOps, evalOper, evalE, evalP, evalL, evalOpnd, nth, setNth, COp.cls, COp.isStore, CVal.isUndef, CVal.whole, CVal.cells, CHeap.put, CHeap.get, CHeap.set, wantedC, getEnt, setEnt, partOf, writeBack, evalBin, evalInt, blockMost, initVar, descOf, List.take, List.drop, CVal.lenOf, CVal.isStr, CVal.bare, CVal.strip, CVal.flat, endsC, resultsC, oneOrTuple, finishC, cut, fillCells, setCells, szOf, szOf_desc, elems, evalAppend, fillElems, mkElem, List.replicate, sy_nbeq, sy_neqF, sy_leT, sy_leF, sy_setEnt_setEnt, dropped, sy_wrap64, dropEnts, dropCells, st7, tid, ents5, noHeap] at e
      subst e
      try dsimp only
      refine W.seq ?_
      refine W.reg ?_
      generalize e : stepR _ _ _ = r
      simp (disch := omega) [stepR, evalOps, evalOper, evalE, evalP, evalL, evalOpnd, nth, setNth, COp.cls, COp.isStore, CVal.isUndef, CVal.whole, CVal.cells, CHeap.put, CHeap.get, CHeap.set, wantedC, getEnt, setEnt, partOf, writeBack, evalBin, evalInt, blockMost, initVar, descOf, List.take, List.drop, CVal.lenOf, CVal.isStr, CVal.bare, CVal.strip, CVal.flat, endsC, resultsC, oneOrTuple, finishC, cut, fillCells, setCells, szOf, szOf_desc, elems, evalAppend, fillElems, mkElem, List.replicate, sy_nbeq, sy_neqF, sy_leT, sy_leF, sy_setEnt_setEnt, dropped, sy_wrap64, dropEnts, dropCells, st7, tid, ents5, noHeap] at e
      subst e
      try dsimp only
      refine W.seq ?_
      refine W.reg ?_
      generalize e : stepR _ _ _ = r
      simp (disch := omega) [stepR, evalOps, evalOper, evalE, evalP, evalL, evalOpnd, nth, setNth, COp.cls, COp.isStore, CVal.isUndef, CVal.whole, CVal.cells, CHeap.put, CHeap.get, CHeap.set, wantedC, getEnt, setEnt, partOf, writeBack, evalBin, evalInt, blockMost, initVar, descOf, List.take, List.drop, CVal.lenOf, CVal.isStr, CVal.bare, CVal.strip, CVal.flat, endsC, resultsC, oneOrTuple, finishC, cut, fillCells, setCells, szOf, szOf_desc, elems, evalAppend, fillElems, mkElem, List.replicate, sy_nbeq, sy_neqF, sy_leT, sy_leF, sy_setEnt_setEnt, dropped, sy_wrap64, dropEnts, dropCells, st7, tid, ents5, noHeap] at e
      subst e
      try dsimp only
      refine W.ret (endW.intro rfl ?_)
      generalize e : endsC _ _ _ = r
      simp (disch := omega) [stepR, evalOps, evalOper, evalE, evalP, evalL, evalOpnd, nth, setNth, COp.cls, COp.isStore, CVal.isUndef, CVal.whole, CVal.cells, CHeap.put, CHeap.get, CHeap.set, wantedC, getEnt, setEnt, partOf, writeBack, evalBin, evalInt, blockMost, initVar, descOf, List.take, List.drop, CVal.lenOf, CVal.isStr, CVal.bare, CVal.strip, CVal.flat, endsC, resultsC, oneOrTuple, finishC, cut, fillCells, setCells, szOf, szOf_desc, elems, evalAppend, fillElems, mkElem, List.replicate, sy_nbeq, sy_neqF, sy_leT, sy_leF, sy_setEnt_setEnt, dropped, sy_wrap64, dropEnts, dropCells, c3, st7, tid, ents5, noHeap] at e
      subst e
      try dsimp only
  · exfalso; rw [hsz] at hf; omega

theorem main_2 (n : Int) (hn : n.tmod 18 = 2) : Wc tree.getF 3 [.int .u8 n] noHeap fun v h => v = .bool true := by
  have hsz : szA 2 = 7 := by decide +kernel
  refine Wc.mk' (fn := c3) (by kernel_rfl) rfl ?_
  refine W.assoc (W.assoc (W.assoc (W.assoc (W.assoc (W.seq (W.of_exec (f1 n) ?_))))))
  refine W.seq ?_
  refine W.reg ?_
  generalize e : stepR _ _ _ = r
  simp (disch := omega) [stepR, evalOps, evalOper, evalE, evalP, evalL, evalOpnd, nth, setNth, COp.cls, COp.isStore, CVal.isUndef, CVal.whole, CVal.cells, CHeap.put, CHeap.get, CHeap.set, wantedC, getEnt, setEnt, partOf, writeBack, evalBin, evalInt, blockMost, initVar, descOf, List.take, List.drop, CVal.lenOf, CVal.isStr, CVal.bare, CVal.strip, CVal.flat, endsC, resultsC, oneOrTuple, finishC, cut, fillCells, setCells, szOf, szOf_desc, elems, evalAppend, fillElems, mkElem, List.replicate, sy_nbeq, sy_neqF, sy_leT, sy_leF, sy_setEnt_setEnt, dropped, sy_wrap64, dropEnts, dropCells, hn, tm5, ents5] at e
  subst e
  try dsimp only
  refine W.assoc (W.seq (W.of_exec (f2_2 n) ?_))
  refine W.seq ?_
  refine W.region (Wo.upto 2 rfl ?_)
  generalize e : evalOps _ _ _ _ _ = r
  simp (disch := omega) [stepR, evalOps, evalOper, evalE, evalP, evalL, evalOpnd, nth, setNth, COp.cls, COp.isStore, CVal.isUndef, CVal.whole, CVal.cells, CHeap.put, CHeap.get, CHeap.set, wantedC, getEnt, setEnt, partOf, writeBack, evalBin, evalInt, blockMost, initVar, descOf, List.take, List.drop, CVal.lenOf, CVal.isStr, CVal.bare, CVal.strip, CVal.flat, endsC, resultsC, oneOrTuple, finishC, cut, fillCells, setCells, szOf, szOf_desc, elems, evalAppend, fillElems, mkElem, List.replicate, sy_nbeq, sy_neqF, sy_leT, sy_leF, sy_setEnt_setEnt, dropped, sy_wrap64, dropEnts, dropCells, st7, tid, ents5, noHeap] at e
  subst e
  try dsimp only
  refine Wo.call ?_
  refine value_top (tsK 2) 2 (chainK 2) (by omega) _ (by repeat (first | refine Under.cons (by dsimp only; omega) ?_ | exact Under.nil)) _ (fun hf n1 X hn1 hX => ⟨rfl, ?_⟩) (fun hf n1 hn1 => ⟨rfl, ?_⟩) <;> try dsimp only at hn1
  · rcases hX with rfl | ⟨l, rfl⟩
    · refine Wo.rest ?_
      generalize e : evalOps _ _ _ _ _ = r
      simp (disch := omega) [stepR, evalOps, evalOper, evalE, evalP, evalL, evalOpnd, nth, setNth, COp.cls, COp.isStore, CVal.isUndef, CVal.whole, CVal.cells, CHeap.put, CHeap.get, CHeap.set, wantedC, getEnt, setEnt, partOf, writeBack, evalBin, evalInt, blockMost, initVar, descOf, List.take, List.drop, CVal.lenOf, CVal.isStr, CVal.bare, CVal.strip, CVal.flat, endsC, resultsC, oneOrTuple, finishC, cut, fillCells, setCells, szOf, szOf_desc, elems, evalAppend, fillElems, mkElem, List.replicate, sy_nbeq, sy_neqF, sy_leT, sy_leF, sy_setEnt_setEnt, dropped, sy_wrap64, dropEnts, dropCells, st7, tid, ents5, noHeap] at e
      subst e
      try dsimp only
      refine W.seq ?_
      refine W.reg ?_
      generalize e : stepR _ _ _ = r
      simp (disch := omega) [stepR, evalOps, evalOper, evalE, evalP, evalL, evalOpnd, nth, setNth, COp.cls, COp.isStore, CVal.isUndef, CVal.whole, CVal.cells, CHeap.put, CHeap.get, CHeap.set, wantedC, getEnt, setEnt, partOf, writeBack, evalBin, evalInt, blockMost, initVar, descOf, List.take, List.drop, CVal.lenOf, CVal.isStr, CVal.bare, CVal.strip, CVal.flat, endsC, resultsC, oneOrTuple, finishC, cut, fillCells, setCells, szOf, szOf_desc, elems, evalAppend, fillElems, mkElem, List.replicate, sy_nbeq, sy_neqF, sy_leT, sy_leF, sy_setEnt_setEnt, dropped, sy_wrap64, dropEnts, dropCells, st7, tid, ents5, noHeap] at e
      subst e
      try dsimp only
      refine W.seq ?_
      refine W.reg ?_
      generalize e : stepR _ _ _ = r
      simp (disch := omega) [stepR, evalOps, evalOper, evalE, evalP, evalL, evalOpnd, nth, setNth, COp.cls, COp.isStore, CVal.isUndef, CVal.whole, CVal.cells, CHeap.put, CHeap.get, CHeap.set, wantedC, getEnt, setEnt, partOf, writeBack, evalBin, evalInt, blockMost, initVar, descOf, List.take, List.drop, CVal.lenOf, CVal.isStr, CVal.bare, CVal.strip, CVal.flat, endsC, resultsC, oneOrTuple, finishC, cut, fillCells, setCells, szOf, szOf_desc, elems, evalAppend, fillElems, mkElem, List.replicate, sy_nbeq, sy_neqF, sy_leT, sy_leF, sy_setEnt_setEnt, dropped, sy_wrap64, dropEnts, dropCells, st7, tid, ents5, noHeap] at e
      subst e
      try dsimp only
      refine W.ret (endW.intro rfl ?_)
      generalize e : endsC _ _ _ = r
      simp (disch := omega) [stepR, evalOps, evalOper, evalE, evalP, evalL, evalOpnd, nth, setNth, COp.cls, COp.isStore, CVal.isUndef, CVal.whole, CVal.cells, CHeap.put, CHeap.get, CHeap.set, wantedC, getEnt, setEnt, partOf, writeBack, evalBin, evalInt, blockMost, initVar, descOf, List.take, List.drop, CVal.lenOf, CVal.isStr, CVal.bare, CVal.strip, CVal.flat, endsC, resultsC, oneOrTuple, finishC, cut, fillCells, setCells, szOf, szOf_desc, elems, evalAppend, fillElems, mkElem, List.replicate, sy_nbeq, sy_neqF, sy_leT, sy_leF, sy_setEnt_setEnt, dropped, sy_wrap64, dropEnts, dropCells, c3, st7, tid, ents5, noHeap] at e
      subst e
      try dsimp only
    · refine Wo.rest ?_
      generalize e : evalOps _ _ _ _ _ = r
      simp (disch := omega) [stepR, evalOps, evalOper, evalE, evalP, evalL, evalOpnd, nth, setNth, COp.cls, COp.isStore, CVal.isUndef, CVal.whole, CVal.cells, CHeap.put, CHeap.get, CHeap.set, wantedC, getEnt, setEnt, partOf, writeBack, evalBin, evalInt, blockMost, initVar, descOf, List.take, List.drop, CVal.lenOf, CVal.isStr, CVal.bare, CVal.strip, CVal.flat, endsC, resultsC, oneOrTuple, finishC, cut, fillCells, setCells, szOf, szOf_desc, elems, evalAppend, fillElems, mkElem, List.replicate, sy_nbeq, sy_neqF, sy_leT, sy_leF, sy_setEnt_setEnt, dropped, sy_wrap64, dropEnts, dropCells, st7, tid, ents5, noHeap] at e
      subst e
      try dsimp only
      refine W.seq ?_
      refine W.reg ?_
      generalize e : stepR _ _ _ = r
      simp (disch := omega) [stepR, evalOps, evalOper, evalE, evalP, evalL, evalOpnd, nth, setNth, COp.cls, COp.isStore, CVal.isUndef, CVal.whole, CVal.cells, CHeap.put, CHeap.get, CHeap.set, wantedC, getEnt, setEnt, partOf, writeBack, evalBin, evalInt, blockMost, initVar, descOf, List.take, List.drop, CVal.lenOf, CVal.isStr, CVal.bare, CVal.strip, CVal.flat, endsC, resultsC, oneOrTuple, finishC, cut, fillCells, setCells, szOf, szOf_desc, elems, evalAppend, fillElems, mkElem, List.replicate, sy_nbeq, sy_neqF, sy_leT, sy_leF, sy_setEnt_setEnt, dropped, sy_wrap64, dropEnts, dropCells, st7, tid, ents5, noHeap] at e
      subst e
      try dsimp only
      refine W.seq ?_
      refine W.reg ?_
      generalize e : stepR _ _ _ = r
      simp (disch := omega) [stepR, evalOps, evalOper, evalE, evalP, evalL, evalOpnd, nth, setNth, COp.cls, COp.isStore, CVal.isUndef, CVal.whole, CVal.cells, CHeap.put, CHeap.get, CHeap.set, wantedC, getEnt, setEnt, partOf, writeBack, evalBin, evalInt, blockMost, initVar, descOf, List.take, List.drop, CVal.lenOf, CVal.isStr, CVal.bare, CVal.strip, CVal.flat, endsC, resultsC, oneOrTuple, finishC, cut, fillCells, setCells, szOf, szOf_desc, elems, evalAppend, fillElems, mkElem, List.replicate, sy_nbeq, sy_neqF, sy_leT, sy_leF, sy_setEnt_setEnt, dropped, sy_wrap64, dropEnts, dropCells, st7, tid, ents5, noHeap] at e
      subst e
      try dsimp only
      refine W.ret (endW.intro rfl ?_)
      generalize e : endsC _ _ _ = r
      simp (disch := omega) [stepR, evalOps, evalOper, evalE, evalP, evalL, evalOpnd, nth, setNth, COp.cls, COp.isStore, CVal.isUndef, CVal.whole, CVal.cells, CHeap.put, CHeap.get, CHeap.set, wantedC, getEnt, setEnt, partOf, writeBack, evalBin, evalInt, blockMost, initVar, descOf, List.take, List.drop, CVal.lenOf, CVal.isStr, CVal.bare, CVal.strip, CVal.flat, endsC, resultsC, oneOrTuple, finishC, cut, fillCells, setCells, szOf, szOf_desc, elems, evalAppend, fillElems, mkElem, List.replicate, sy_nbeq, sy_neqF, sy_leT, sy_leF, sy_setEnt_setEnt, dropped, sy_wrap64, dropEnts, dropCells, c3, st7, tid, ents5, noHeap] at e
      subst e
      try dsimp only
  · exfalso; rw [hsz] at hf; omega

theorem main_3 (n : Int) (hn : n.tmod 18 = 3) : Wc tree.getF 3 [.int .u8 n] noHeap fun v h => v = .bool true := by
  have hsz : szA 3 = 15 := by decide +kernel
  refine Wc.mk' (fn := c3) (by kernel_rfl) rfl ?_
  refine W.assoc (W.assoc (W.assoc (W.assoc (W.assoc (W.seq (W.of_exec (f1 n) ?_))))))
  refine W.seq ?_
  refine W.reg ?_
  generalize e : stepR _ _ _ = r
  simp (disch := omega) [stepR, evalOps, evalOper, evalE, evalP, evalL, evalOpnd, nth, setNth, COp.cls, COp.isStore, CVal.isUndef, CVal.whole, CVal.cells, CHeap.put, CHeap.get, CHeap.set, wantedC, getEnt, setEnt, partOf, writeBack, evalBin, evalInt, blockMost, initVar, descOf, List.take, List.drop, CVal.lenOf, CVal.isStr, CVal.bare, CVal.strip, CVal.flat, endsC, resultsC, oneOrTuple, finishC, cut, fillCells, setCells, szOf, szOf_desc, elems, evalAppend, fillElems, mkElem, List.replicate, sy_nbeq, sy_neqF, sy_leT, sy_leF, sy_setEnt_setEnt, dropped, sy_wrap64, dropEnts, dropCells, hn, tm5, ents5] at e
  subst e
  try dsimp only
  refine W.assoc (W.seq (W.of_exec (f2_3 n) ?_))
  refine W.seq ?_
  refine W.region (Wo.upto 2 rfl ?_)
  generalize e : evalOps _ _ _ _ _ = r
  simp (disch := omega) [stepR, evalOps, evalOper, evalE, evalP, evalL, evalOpnd, nth, setNth, COp.cls, COp.isStore, CVal.isUndef, CVal.whole, CVal.cells, CHeap.put, CHeap.get, CHeap.set, wantedC, getEnt, setEnt, partOf, writeBack, evalBin, evalInt, blockMost, initVar, descOf, List.take, List.drop, CVal.lenOf, CVal.isStr, CVal.bare, CVal.strip, CVal.flat, endsC, resultsC, oneOrTuple, finishC, cut, fillCells, setCells, szOf, szOf_desc, elems, evalAppend, fillElems, mkElem, List.replicate, sy_nbeq, sy_neqF, sy_leT, sy_leF, sy_setEnt_setEnt, dropped, sy_wrap64, dropEnts, dropCells, st7, tid, ents5, noHeap] at e
  subst e
  try dsimp only
  refine Wo.call ?_
  refine value_top (tsK 3) 3 (chainK 3) (by omega) _ (by repeat (first | refine Under.cons (by dsimp only; omega) ?_ | exact Under.nil)) _ (fun hf n1 X hn1 hX => ⟨rfl, ?_⟩) (fun hf n1 hn1 => ⟨rfl, ?_⟩) <;> try dsimp only at hn1
  · rcases hX with rfl | ⟨l, rfl⟩
    · refine Wo.rest ?_
      generalize e : evalOps _ _ _ _ _ = r
      simp (disch := omega) [stepR, evalOps, evalOper, evalE, evalP, evalL, evalOpnd, nth, setNth, COp.cls, COp.isStore, CVal.isUndef, CVal.whole, CVal.cells, CHeap.put, CHeap.get, CHeap.set, wantedC, getEnt, setEnt, partOf, writeBack, evalBin, evalInt, blockMost, initVar, descOf, List.take, List.drop, CVal.lenOf, CVal.isStr, CVal.bare, CVal.strip, CVal.flat, endsC, resultsC, oneOrTuple, finishC, cut, fillCells, setCells, szOf, szOf_desc, elems, evalAppend, fillElems, mkElem, List.replicate, sy_nbeq, sy_neqF, sy_leT, sy_leF, sy_setEnt_setEnt, dropped, sy_wrap64, dropEnts, dropCells, st7, tid, ents5, noHeap] at e
      subst e
      try dsimp only
      refine W.seq ?_
      refine W.reg ?_
      generalize e : stepR _ _ _ = r
      simp (disch := omega) [stepR, evalOps, evalOper, evalE, evalP, evalL, evalOpnd, nth, setNth, COp.cls, COp.isStore, CVal.isUndef, CVal.whole, CVal.cells, CHeap.put, CHeap.get, CHeap.set, wantedC, getEnt, setEnt, partOf, writeBack, evalBin, evalInt, blockMost, initVar, descOf, List.take, List.drop, CVal.lenOf, CVal.isStr, CVal.bare, CVal.strip, CVal.flat, endsC, resultsC, oneOrTuple, finishC, cut, fillCells, setCells, szOf, szOf_desc, elems, evalAppend, fillElems, mkElem, List.replicate, sy_nbeq, sy_neqF, sy_leT, sy_leF, sy_setEnt_setEnt, dropped, sy_wrap64, dropEnts, dropCells, st7, tid, ents5, noHeap] at e
      subst e
      try dsimp only
      refine W.seq ?_
      refine W.reg ?_
      generalize e : stepR _ _ _ = r
      simp (disch := omega) [stepR, evalOps, evalOper, evalE, evalP, evalL, evalOpnd, nth, setNth, COp.cls, COp.isStore, CVal.isUndef, CVal.whole, CVal.cells, CHeap.put, CHeap.get, CHeap.set, wantedC, getEnt, setEnt, partOf, writeBack, evalBin, evalInt, blockMost, initVar, descOf, List.take, List.drop, CVal.lenOf, CVal.isStr, CVal.bare, CVal.strip, CVal.flat, endsC, resultsC, oneOrTuple, finishC, cut, fillCells, setCells, szOf, szOf_desc, elems, evalAppend, fillElems, mkElem, List.replicate, sy_nbeq, sy_neqF, sy_leT, sy_leF, sy_setEnt_setEnt, dropped, sy_wrap64, dropEnts, dropCells, st7, tid, ents5, noHeap] at e
      subst e
      try dsimp only
      refine W.ret (endW.intro rfl ?_)
      generalize e : endsC _ _ _ = r
      simp (disch := omega) [stepR, evalOps, evalOper, evalE, evalP, evalL, evalOpnd, nth, setNth, COp.cls, COp.isStore, CVal.isUndef, CVal.whole, CVal.cells, CHeap.put, CHeap.get, CHeap.set, wantedC, getEnt, setEnt, partOf, writeBack, evalBin, evalInt, blockMost, initVar, descOf, List.take, List.drop, CVal.lenOf, CVal.isStr, CVal.bare, CVal.strip, CVal.flat, endsC, resultsC, oneOrTuple, finishC, cut, fillCells, setCells, szOf, szOf_desc, elems, evalAppend, fillElems, mkElem, List.replicate, sy_nbeq, sy_neqF, sy_leT, sy_leF, sy_setEnt_setEnt, dropped, sy_wrap64, dropEnts, dropCells, c3, st7, tid, ents5, noHeap] at e
      subst e
      try dsimp only
    · refine Wo.rest ?_
      generalize e : evalOps _ _ _ _ _ = r
      simp (disch := omega) [stepR, evalOps, evalOper, evalE, evalP, evalL, evalOpnd, nth, setNth, COp.cls, COp.isStore, CVal.isUndef, CVal.whole, CVal.cells, CHeap.put, CHeap.get, CHeap.set, wantedC, getEnt, setEnt, partOf, writeBack, evalBin, evalInt, blockMost, initVar, descOf, List.take, List.drop, CVal.lenOf, CVal.isStr, CVal.bare, CVal.strip, CVal.flat, endsC, resultsC, oneOrTuple, finishC, cut, fillCells, setCells, szOf, szOf_desc, elems, evalAppend, fillElems, mkElem, List.replicate, sy_nbeq, sy_neqF, sy_leT, sy_leF, sy_setEnt_setEnt, dropped, sy_wrap64, dropEnts, dropCells, st7, tid, ents5, noHeap] at e
      subst e
      try dsimp only
      refine W.seq ?_
      refine W.reg ?_
      generalize e : stepR _ _ _ = r
      simp (disch := omega) [stepR, evalOps, evalOper, evalE, evalP, evalL, evalOpnd, nth, setNth, COp.cls, COp.isStore, CVal.isUndef, CVal.whole, CVal.cells, CHeap.put, CHeap.get, CHeap.set, wantedC, getEnt, setEnt, partOf, writeBack, evalBin, evalInt, blockMost, initVar, descOf, List.take, List.drop, CVal.lenOf, CVal.isStr, CVal.bare, CVal.strip, CVal.flat, endsC, resultsC, oneOrTuple, finishC, cut, fillCells, setCells, szOf, szOf_desc, elems, evalAppend, fillElems, mkElem, List.replicate, sy_nbeq, sy_neqF, sy_leT, sy_leF, sy_setEnt_setEnt, dropped, sy_wrap64, dropEnts, dropCells, st7, tid, ents5, noHeap] at e
      subst e
      try dsimp only
      refine W.seq ?_
      refine W.reg ?_
      generalize e : stepR _ _ _ = r
      simp (disch := omega) [stepR, evalOps, evalOper, evalE, evalP, evalL, evalOpnd, nth, setNth, COp.cls, COp.isStore, CVal.isUndef, CVal.whole, CVal.cells, CHeap.put, CHeap.get, CHeap.set, wantedC, getEnt, setEnt, partOf, writeBack, evalBin, evalInt, blockMost, initVar, descOf, List.take, List.drop, CVal.lenOf, CVal.isStr, CVal.bare, CVal.strip, CVal.flat, endsC, resultsC, oneOrTuple, finishC, cut, fillCells, setCells, szOf, szOf_desc, elems, evalAppend, fillElems, mkElem, List.replicate, sy_nbeq, sy_neqF, sy_leT, sy_leF, sy_setEnt_setEnt, dropped, sy_wrap64, dropEnts, dropCells, st7, tid, ents5, noHeap] at e
      subst e
      try dsimp only
      refine W.ret (endW.intro rfl ?_)
      generalize e : endsC _ _ _ = r
      simp (disch := omega) [stepR, evalOps, evalOper, evalE, evalP, evalL, evalOpnd, nth, setNth, COp.cls, COp.isStore, CVal.isUndef, CVal.whole, CVal.cells, CHeap.put, CHeap.get, CHeap.set, wantedC, getEnt, setEnt, partOf, writeBack, evalBin, evalInt, blockMost, initVar, descOf, List.take, List.drop, CVal.lenOf, CVal.isStr, CVal.bare, CVal.strip, CVal.flat, endsC, resultsC, oneOrTuple, finishC, cut, fillCells, setCells, szOf, szOf_desc, elems, evalAppend, fillElems, mkElem, List.replicate, sy_nbeq, sy_neqF, sy_leT, sy_leF, sy_setEnt_setEnt, dropped, sy_wrap64, dropEnts, dropCells, c3, st7, tid, ents5, noHeap] at e
      subst e
      try dsimp only
  · exfalso; rw [hsz] at hf; omega

theorem main_4 (n : Int) (hn : n.tmod 18 = 4) : Wc tree.getF 3 [.int .u8 n] noHeap fun v h => v = .bool true := by
  have hsz : szA 4 = 31 := by decide +kernel
  refine Wc.mk' (fn := c3) (by kernel_rfl) rfl ?_
  refine W.assoc (W.assoc (W.assoc (W.assoc (W.assoc (W.seq (W.of_exec (f1 n) ?_))))))
  refine W.seq ?_
  refine W.reg ?_
  generalize e : stepR _ _ _ = r
  simp (disch := omega) [stepR, evalOps, evalOper, evalE, evalP, evalL, evalOpnd, nth, setNth, COp.cls, COp.isStore, CVal.isUndef, CVal.whole, CVal.cells, CHeap.put, CHeap.get, CHeap.set, wantedC, getEnt, setEnt, partOf, writeBack, evalBin, evalInt, blockMost, initVar, descOf, List.take, List.drop, CVal.lenOf, CVal.isStr, CVal.bare, CVal.strip, CVal.flat, endsC, resultsC, oneOrTuple, finishC, cut, fillCells, setCells, szOf, szOf_desc, elems, evalAppend, fillElems, mkElem, List.replicate, sy_nbeq, sy_neqF, sy_leT, sy_leF, sy_setEnt_setEnt, dropped, sy_wrap64, dropEnts, dropCells, hn, tm5, ents5] at e
  subst e
  try dsimp only
  refine W.assoc (W.seq (W.of_exec (f2_4 n) ?_))
  refine W.seq ?_
  refine W.region (Wo.upto 2 rfl ?_)
  generalize e : evalOps _ _ _ _ _ = r
  simp (disch := omega) [stepR, evalOps, evalOper, evalE, evalP, evalL, evalOpnd, nth, setNth, COp.cls, COp.isStore, CVal.isUndef, CVal.whole, CVal.cells, CHeap.put, CHeap.get, CHeap.set, wantedC, getEnt, setEnt, partOf, writeBack, evalBin, evalInt, blockMost, initVar, descOf, List.take, List.drop, CVal.lenOf, CVal.isStr, CVal.bare, CVal.strip, CVal.flat, endsC, resultsC, oneOrTuple, finishC, cut, fillCells, setCells, szOf, szOf_desc, elems, evalAppend, fillElems, mkElem, List.replicate, sy_nbeq, sy_neqF, sy_leT, sy_leF, sy_setEnt_setEnt, dropped, sy_wrap64, dropEnts, dropCells, st7, tid, ents5, noHeap] at e
  subst e
  try dsimp only
  refine Wo.call ?_
  refine value_top (tsK 4) 4 (chainK 4) (by omega) _ (by repeat (first | refine Under.cons (by dsimp only; omega) ?_ | exact Under.nil)) _ (fun hf n1 X hn1 hX => ⟨rfl, ?_⟩) (fun hf n1 hn1 => ⟨rfl, ?_⟩) <;> try dsimp only at hn1
  · rcases hX with rfl | ⟨l, rfl⟩
    · refine Wo.rest ?_
      generalize e : evalOps _ _ _ _ _ = r
      simp (disch := omega) [stepR, evalOps, evalOper, evalE, evalP, evalL, evalOpnd, nth, setNth, COp.cls, COp.isStore, CVal.isUndef, CVal.whole, CVal.cells, CHeap.put, CHeap.get, CHeap.set, wantedC, getEnt, setEnt, partOf, writeBack, evalBin, evalInt, blockMost, initVar, descOf, List.take, List.drop, CVal.lenOf, CVal.isStr, CVal.bare, CVal.strip, CVal.flat, endsC, resultsC, oneOrTuple, finishC, cut, fillCells, setCells, szOf, szOf_desc, elems, evalAppend, fillElems, mkElem, List.replicate, sy_nbeq, sy_neqF, sy_leT, sy_leF, sy_setEnt_setEnt, dropped, sy_wrap64, dropEnts, dropCells, st7, tid, ents5, noHeap] at e
      subst e
      try dsimp only
      refine W.seq ?_
      refine W.reg ?_
      generalize e : stepR _ _ _ = r
      simp (disch := omega) [stepR, evalOps, evalOper, evalE, evalP, evalL, evalOpnd, nth, setNth, COp.cls, COp.isStore, CVal.isUndef, CVal.whole, CVal.cells, CHeap.put, CHeap.get, CHeap.set, wantedC, getEnt, setEnt, partOf, writeBack, evalBin, evalInt, blockMost, initVar, descOf, List.take, List.drop, CVal.lenOf, CVal.isStr, CVal.bare, CVal.strip, CVal.flat, endsC, resultsC, oneOrTuple, finishC, cut, fillCells, setCells, szOf, szOf_desc, elems, evalAppend, fillElems, mkElem, List.replicate, sy_nbeq, sy_neqF, sy_leT, sy_leF, sy_setEnt_setEnt, dropped, sy_wrap64, dropEnts, dropCells, st7, tid, ents5, noHeap] at e
      subst e
      try dsimp only
      refine W.seq ?_
      refine W.reg ?_
      generalize e : stepR _ _ _ = r
      simp (disch := omega) [stepR, evalOps, evalOper, evalE, evalP, evalL, evalOpnd, nth, setNth, COp.cls, COp.isStore, CVal.isUndef, CVal.whole, CVal.cells, CHeap.put, CHeap.get, CHeap.set, wantedC, getEnt, setEnt, partOf, writeBack, evalBin, evalInt, blockMost, initVar, descOf, List.take, List.drop, CVal.lenOf, CVal.isStr, CVal.bare, CVal.strip, CVal.flat, endsC, resultsC, oneOrTuple, finishC, cut, fillCells, setCells, szOf, szOf_desc, elems, evalAppend, fillElems, mkElem, List.replicate, sy_nbeq, sy_neqF, sy_leT, sy_leF, sy_setEnt_setEnt, dropped, sy_wrap64, dropEnts, dropCells, st7, tid, ents5, noHeap] at e
      subst e
      try dsimp only
      refine W.ret (endW.intro rfl ?_)
      generalize e : endsC _ _ _ = r
      simp (disch := omega) [stepR, evalOps, evalOper, evalE, evalP, evalL, evalOpnd, nth, setNth, COp.cls, COp.isStore, CVal.isUndef, CVal.whole, CVal.cells, CHeap.put, CHeap.get, CHeap.set, wantedC, getEnt, setEnt, partOf, writeBack, evalBin, evalInt, blockMost, initVar, descOf, List.take, List.drop, CVal.lenOf, CVal.isStr, CVal.bare, CVal.strip, CVal.flat, endsC, resultsC, oneOrTuple, finishC, cut, fillCells, setCells, szOf, szOf_desc, elems, evalAppend, fillElems, mkElem, List.replicate, sy_nbeq, sy_neqF, sy_leT, sy_leF, sy_setEnt_setEnt, dropped, sy_wrap64, dropEnts, dropCells, c3, st7, tid, ents5, noHeap] at e
      subst e
      try dsimp only
    · refine Wo.rest ?_
      generalize e : evalOps _ _ _ _ _ = r
      simp (disch := omega) [stepR, evalOps, evalOper, evalE, evalP, evalL, evalOpnd, nth, setNth, COp.cls, COp.isStore, CVal.isUndef, CVal.whole, CVal.cells, CHeap.put, CHeap.get, CHeap.set, wantedC, getEnt, setEnt, partOf, writeBack, evalBin, evalInt, blockMost, initVar, descOf, List.take, List.drop, CVal.lenOf, CVal.isStr, CVal.bare, CVal.strip, CVal.flat, endsC, resultsC, oneOrTuple, finishC, cut, fillCells, setCells, szOf, szOf_desc, elems, evalAppend, fillElems, mkElem, List.replicate, sy_nbeq, sy_neqF, sy_leT, sy_leF, sy_setEnt_setEnt, dropped, sy_wrap64, dropEnts, dropCells, st7, tid, ents5, noHeap] at e
      subst e
      try dsimp only
      refine W.seq ?_
      refine W.reg ?_
      generalize e : stepR _ _ _ = r
      simp (disch := omega) [stepR, evalOps, evalOper, evalE, evalP, evalL, evalOpnd, nth, setNth, COp.cls, COp.isStore, CVal.isUndef, CVal.whole, CVal.cells, CHeap.put, CHeap.get, CHeap.set, wantedC, getEnt, setEnt, partOf, writeBack, evalBin, evalInt, blockMost, initVar, descOf, List.take, List.drop, CVal.lenOf, CVal.isStr, CVal.bare, CVal.strip, CVal.flat, endsC, resultsC, oneOrTuple, finishC, cut, fillCells, setCells, szOf, szOf_desc, elems, evalAppend, fillElems, mkElem, List.replicate, sy_nbeq, sy_neqF, sy_leT, sy_leF, sy_setEnt_setEnt, dropped, sy_wrap64, dropEnts, dropCells, st7, tid, ents5, noHeap] at e
      subst e
      try dsimp only
      refine W.seq ?_
      refine W.reg ?_
      generalize e : stepR _ _ _ = r
      simp (disch := omega) [stepR, evalOps, evalOper, evalE, evalP, evalL, evalOpnd, nth, setNth, COp.cls, COp.isStore, CVal.isUndef, CVal.whole, CVal.cells, CHeap.put, CHeap.get, CHeap.set, wantedC, getEnt, setEnt, partOf, writeBack, evalBin, evalInt, blockMost, initVar, descOf, List.take, List.drop, CVal.lenOf, CVal.isStr, CVal.bare, CVal.strip, CVal.flat, endsC, resultsC, oneOrTuple, finishC, cut, fillCells, setCells, szOf, szOf_desc, elems, evalAppend, fillElems, mkElem, List.replicate, sy_nbeq, sy_neqF, sy_leT, sy_leF, sy_setEnt_setEnt, dropped, sy_wrap64, dropEnts, dropCells, st7, tid, ents5, noHeap] at e
      subst e
      try dsimp only
      refine W.ret (endW.intro rfl ?_)
      generalize e : endsC _ _ _ = r
      simp (disch := omega) [stepR, evalOps, evalOper, evalE, evalP, evalL, evalOpnd, nth, setNth, COp.cls, COp.isStore, CVal.isUndef, CVal.whole, CVal.cells, CHeap.put, CHeap.get, CHeap.set, wantedC, getEnt, setEnt, partOf, writeBack, evalBin, evalInt, blockMost, initVar, descOf, List.take, List.drop, CVal.lenOf, CVal.isStr, CVal.bare, CVal.strip, CVal.flat, endsC, resultsC, oneOrTuple, finishC, cut, fillCells, setCells, szOf, szOf_desc, elems, evalAppend, fillElems, mkElem, List.replicate, sy_nbeq, sy_neqF, sy_leT, sy_leF, sy_setEnt_setEnt, dropped, sy_wrap64, dropEnts, dropCells, c3, st7, tid, ents5, noHeap] at e
      subst e
      try dsimp only
  · exfalso; rw [hsz] at hf; omega

theorem main_5 (n : Int) (hn : n.tmod 18 = 5) : Wc tree.getF 3 [.int .u8 n] noHeap fun v h => v = .bool true := by
  have hsz : szA 5 = 63 := by decide +kernel
  refine Wc.mk' (fn := c3) (by kernel_rfl) rfl ?_
  refine W.assoc (W.assoc (W.assoc (W.assoc (W.assoc (W.seq (W.of_exec (f1 n) ?_))))))
  refine W.seq ?_
  refine W.reg ?_
  generalize e : stepR _ _ _ = r
  simp (disch := omega) [stepR, evalOps, evalOper, evalE, evalP, evalL, evalOpnd, nth, setNth, COp.cls, COp.isStore, CVal.isUndef, CVal.whole, CVal.cells, CHeap.put, CHeap.get, CHeap.set, wantedC, getEnt, setEnt, partOf, writeBack, evalBin, evalInt, blockMost, initVar, descOf, List.take, List.drop, CVal.lenOf, CVal.isStr, CVal.bare, CVal.strip, CVal.flat, endsC, resultsC, oneOrTuple, finishC, cut, fillCells, setCells, szOf, szOf_desc, elems, evalAppend, fillElems, mkElem, List.replicate, sy_nbeq, sy_neqF, sy_leT, sy_leF, sy_setEnt_setEnt, dropped, sy_wrap64, dropEnts, dropCells, hn, tm5, ents5] at e
  subst e
  try dsimp only
  refine W.assoc (W.seq (W.of_exec (f2_5 n) ?_))
  refine W.seq ?_
  refine W.region (Wo.upto 2 rfl ?_)
  generalize e : evalOps _ _ _ _ _ = r
  simp (disch := omega) [stepR, evalOps, evalOper, evalE, evalP, evalL, evalOpnd, nth, setNth, COp.cls, COp.isStore, CVal.isUndef, CVal.whole, CVal.cells, CHeap.put, CHeap.get, CHeap.set, wantedC, getEnt, setEnt, partOf, writeBack, evalBin, evalInt, blockMost, initVar, descOf, List.take, List.drop, CVal.lenOf, CVal.isStr, CVal.bare, CVal.strip, CVal.flat, endsC, resultsC, oneOrTuple, finishC, cut, fillCells, setCells, szOf, szOf_desc, elems, evalAppend, fillElems, mkElem, List.replicate, sy_nbeq, sy_neqF, sy_leT, sy_leF, sy_setEnt_setEnt, dropped, sy_wrap64, dropEnts, dropCells, st7, tid, ents5, noHeap] at e
  subst e
  try dsimp only
  refine Wo.call ?_
  refine value_top (tsK 5) 5 (chainK 5) (by omega) _ (by repeat (first | refine Under.cons (by dsimp only; omega) ?_ | exact Under.nil)) _ (fun hf n1 X hn1 hX => ⟨rfl, ?_⟩) (fun hf n1 hn1 => ⟨rfl, ?_⟩) <;> try dsimp only at hn1
  · rcases hX with rfl | ⟨l, rfl⟩
    · refine Wo.rest ?_
      generalize e : evalOps _ _ _ _ _ = r
      simp (disch := omega) [stepR, evalOps, evalOper, evalE, evalP, evalL, evalOpnd, nth, setNth, COp.cls, COp.isStore, CVal.isUndef, CVal.whole, CVal.cells, CHeap.put, CHeap.get, CHeap.set, wantedC, getEnt, setEnt, partOf, writeBack, evalBin, evalInt, blockMost, initVar, descOf, List.take, List.drop, CVal.lenOf, CVal.isStr, CVal.bare, CVal.strip, CVal.flat, endsC, resultsC, oneOrTuple, finishC, cut, fillCells, setCells, szOf, szOf_desc, elems, evalAppend, fillElems, mkElem, List.replicate, sy_nbeq, sy_neqF, sy_leT, sy_leF, sy_setEnt_setEnt, dropped, sy_wrap64, dropEnts, dropCells, st7, tid, ents5, noHeap] at e
      subst e
      try dsimp only
      refine W.seq ?_
      refine W.reg ?_
      generalize e : stepR _ _ _ = r
      simp (disch := omega) [stepR, evalOps, evalOper, evalE, evalP, evalL, evalOpnd, nth, setNth, COp.cls, COp.isStore, CVal.isUndef, CVal.whole, CVal.cells, CHeap.put, CHeap.get, CHeap.set, wantedC, getEnt, setEnt, partOf, writeBack, evalBin, evalInt, blockMost, initVar, descOf, List.take, List.drop, CVal.lenOf, CVal.isStr, CVal.bare, CVal.strip, CVal.flat, endsC, resultsC, oneOrTuple, finishC, cut, fillCells, setCells, szOf, szOf_desc, elems, evalAppend, fillElems, mkElem, List.replicate, sy_nbeq, sy_neqF, sy_leT, sy_leF, sy_setEnt_setEnt, dropped, sy_wrap64, dropEnts, dropCells, st7, tid, ents5, noHeap] at e
      subst e
      try dsimp only
      refine W.seq ?_
      refine W.reg ?_
      generalize e : stepR _ _ _ = r
      simp (disch := omega) [stepR, evalOps, evalOper, evalE, evalP, evalL, evalOpnd, nth, setNth, COp.cls, COp.isStore, CVal.isUndef, CVal.whole, CVal.cells, CHeap.put, CHeap.get, CHeap.set, wantedC, getEnt, setEnt, partOf, writeBack, evalBin, evalInt, blockMost, initVar, descOf, List.take, List.drop, CVal.lenOf, CVal.isStr, CVal.bare, CVal.strip, CVal.flat, endsC, resultsC, oneOrTuple, finishC, cut, fillCells, setCells, szOf, szOf_desc, elems, evalAppend, fillElems, mkElem, List.replicate, sy_nbeq, sy_neqF, sy_leT, sy_leF, sy_setEnt_setEnt, dropped, sy_wrap64, dropEnts, dropCells, st7, tid, ents5, noHeap] at e
      subst e
      try dsimp only
      refine W.ret (endW.intro rfl ?_)
      generalize e : endsC _ _ _ = r
      simp (disch := omega) [stepR, evalOps, evalOper, evalE, evalP, evalL, evalOpnd, nth, setNth, COp.cls, COp.isStore, CVal.isUndef, CVal.whole, CVal.cells, CHeap.put, CHeap.get, CHeap.set, wantedC, getEnt, setEnt, partOf, writeBack, evalBin, evalInt, blockMost, initVar, descOf, List.take, List.drop, CVal.lenOf, CVal.isStr, CVal.bare, CVal.strip, CVal.flat, endsC, resultsC, oneOrTuple, finishC, cut, fillCells, setCells, szOf, szOf_desc, elems, evalAppend, fillElems, mkElem, List.replicate, sy_nbeq, sy_neqF, sy_leT, sy_leF, sy_setEnt_setEnt, dropped, sy_wrap64, dropEnts, dropCells, c3, st7, tid, ents5, noHeap] at e
      subst e
      try dsimp only
    · refine Wo.rest ?_
      generalize e : evalOps _ _ _ _ _ = r
      simp (disch := omega) [stepR, evalOps, evalOper, evalE, evalP, evalL, evalOpnd, nth, setNth, COp.cls, COp.isStore, CVal.isUndef, CVal.whole, CVal.cells, CHeap.put, CHeap.get, CHeap.set, wantedC, getEnt, setEnt, partOf, writeBack, evalBin, evalInt, blockMost, initVar, descOf, List.take, List.drop, CVal.lenOf, CVal.isStr, CVal.bare, CVal.strip, CVal.flat, endsC, resultsC, oneOrTuple, finishC, cut, fillCells, setCells, szOf, szOf_desc, elems, evalAppend, fillElems, mkElem, List.replicate, sy_nbeq, sy_neqF, sy_leT, sy_leF, sy_setEnt_setEnt, dropped, sy_wrap64, dropEnts, dropCells, st7, tid, ents5, noHeap] at e
      subst e
      try dsimp only
      refine W.seq ?_
      refine W.reg ?_
      generalize e : stepR _ _ _ = r
      simp (disch := omega) [stepR, evalOps, evalOper, evalE, evalP, evalL, evalOpnd, nth, setNth, COp.cls, COp.isStore, CVal.isUndef, CVal.whole, CVal.cells, CHeap.put, CHeap.get, CHeap.set, wantedC, getEnt, setEnt, partOf, writeBack, evalBin, evalInt, blockMost, initVar, descOf, List.take, List.drop, CVal.lenOf, CVal.isStr, CVal.bare, CVal.strip, CVal.flat, endsC, resultsC, oneOrTuple, finishC, cut, fillCells, setCells, szOf, szOf_desc, elems, evalAppend, fillElems, mkElem, List.replicate, sy_nbeq, sy_neqF, sy_leT, sy_leF, sy_setEnt_setEnt, dropped, sy_wrap64, dropEnts, dropCells, st7, tid, ents5, noHeap] at e
      subst e
      try dsimp only
      refine W.seq ?_
      refine W.reg ?_
      generalize e : stepR _ _ _ = r
      simp (disch := omega) [stepR, evalOps, evalOper, evalE, evalP, evalL, evalOpnd, nth, setNth, COp.cls, COp.isStore, CVal.isUndef, CVal.whole, CVal.cells, CHeap.put, CHeap.get, CHeap.set, wantedC, getEnt, setEnt, partOf, writeBack, evalBin, evalInt, blockMost, initVar, descOf, List.take, List.drop, CVal.lenOf, CVal.isStr, CVal.bare, CVal.strip, CVal.flat, endsC, resultsC, oneOrTuple, finishC, cut, fillCells, setCells, szOf, szOf_desc, elems, evalAppend, fillElems, mkElem, List.replicate, sy_nbeq, sy_neqF, sy_leT, sy_leF, sy_setEnt_setEnt, dropped, sy_wrap64, dropEnts, dropCells, st7, tid, ents5, noHeap] at e
      subst e
      try dsimp only
      refine W.ret (endW.intro rfl ?_)
      generalize e : endsC _ _ _ = r
      simp (disch := omega) [stepR, evalOps, evalOper, evalE, evalP, evalL, evalOpnd, nth, setNth, COp.cls, COp.isStore, CVal.isUndef, CVal.whole, CVal.cells, CHeap.put, CHeap.get, CHeap.set, wantedC, getEnt, setEnt, partOf, writeBack, evalBin, evalInt, blockMost, initVar, descOf, List.take, List.drop, CVal.lenOf, CVal.isStr, CVal.bare, CVal.strip, CVal.flat, endsC, resultsC, oneOrTuple, finishC, cut, fillCells, setCells, szOf, szOf_desc, elems, evalAppend, fillElems, mkElem, List.replicate, sy_nbeq, sy_neqF, sy_leT, sy_leF, sy_setEnt_setEnt, dropped, sy_wrap64, dropEnts, dropCells, c3, st7, tid, ents5, noHeap] at e
      subst e
      try dsimp only
  · exfalso; rw [hsz] at hf; omega

theorem main_6 (n : Int) (hn : n.tmod 18 = 6) : Wc tree.getF 3 [.int .u8 n] noHeap fun v h => v = .bool true := by
  have hsz : szA 6 = 127 := by decide +kernel
  refine Wc.mk' (fn := c3) (by kernel_rfl) rfl ?_
  refine W.assoc (W.assoc (W.assoc (W.assoc (W.assoc (W.seq (W.of_exec (f1 n) ?_))))))
  refine W.seq ?_
  refine W.reg ?_
  generalize e : stepR _ _ _ = r
  simp (disch := omega) [stepR, evalOps, evalOper, evalE, evalP, evalL, evalOpnd, nth, setNth, COp.cls, COp.isStore, CVal.isUndef, CVal.whole, CVal.cells, CHeap.put, CHeap.get, CHeap.set, wantedC, getEnt, setEnt, partOf, writeBack, evalBin, evalInt, blockMost, initVar, descOf, List.take, List.drop, CVal.lenOf, CVal.isStr, CVal.bare, CVal.strip, CVal.flat, endsC, resultsC, oneOrTuple, finishC, cut, fillCells, setCells, szOf, szOf_desc, elems, evalAppend, fillElems, mkElem, List.replicate, sy_nbeq, sy_neqF, sy_leT, sy_leF, sy_setEnt_setEnt, dropped, sy_wrap64, dropEnts, dropCells, hn, tm5, ents5] at e
  subst e
  try dsimp only
  refine W.assoc (W.seq (W.of_exec (f2_6 n) ?_))
  refine W.seq ?_
  refine W.region (Wo.upto 2 rfl ?_)
  generalize e : evalOps _ _ _ _ _ = r
  simp (disch := omega) [stepR, evalOps, evalOper, evalE, evalP, evalL, evalOpnd, nth, setNth, COp.cls, COp.isStore, CVal.isUndef, CVal.whole, CVal.cells, CHeap.put, CHeap.get, CHeap.set, wantedC, getEnt, setEnt, partOf, writeBack, evalBin, evalInt, blockMost, initVar, descOf, List.take, List.drop, CVal.lenOf, CVal.isStr, CVal.bare, CVal.strip, CVal.flat, endsC, resultsC, oneOrTuple, finishC, cut, fillCells, setCells, szOf, szOf_desc, elems, evalAppend, fillElems, mkElem, List.replicate, sy_nbeq, sy_neqF, sy_leT, sy_leF, sy_setEnt_setEnt, dropped, sy_wrap64, dropEnts, dropCells, st7, tid, ents5, noHeap] at e
  subst e
  try dsimp only
  refine Wo.call ?_
  refine value_top (tsK 6) 6 (chainK 6) (by omega) _ (by repeat (first | refine Under.cons (by dsimp only; omega) ?_ | exact Under.nil)) _ (fun hf n1 X hn1 hX => ⟨rfl, ?_⟩) (fun hf n1 hn1 => ⟨rfl, ?_⟩) <;> try dsimp only at hn1
  · rcases hX with rfl | ⟨l, rfl⟩
    · refine Wo.rest ?_
      generalize e : evalOps _ _ _ _ _ = r
      simp (disch := omega) [stepR, evalOps, evalOper, evalE, evalP, evalL, evalOpnd, nth, setNth, COp.cls, COp.isStore, CVal.isUndef, CVal.whole, CVal.cells, CHeap.put, CHeap.get, CHeap.set, wantedC, getEnt, setEnt, partOf, writeBack, evalBin, evalInt, blockMost, initVar, descOf, List.take, List.drop, CVal.lenOf, CVal.isStr, CVal.bare, CVal.strip, CVal.flat, endsC, resultsC, oneOrTuple, finishC, cut, fillCells, setCells, szOf, szOf_desc, elems, evalAppend, fillElems, mkElem, List.replicate, sy_nbeq, sy_neqF, sy_leT, sy_leF, sy_setEnt_setEnt, dropped, sy_wrap64, dropEnts, dropCells, st7, tid, ents5, noHeap] at e
      subst e
      try dsimp only
      refine W.seq ?_
      refine W.reg ?_
      generalize e : stepR _ _ _ = r
      simp (disch := omega) [stepR, evalOps, evalOper, evalE, evalP, evalL, evalOpnd, nth, setNth, COp.cls, COp.isStore, CVal.isUndef, CVal.whole, CVal.cells, CHeap.put, CHeap.get, CHeap.set, wantedC, getEnt, setEnt, partOf, writeBack, evalBin, evalInt, blockMost, initVar, descOf, List.take, List.drop, CVal.lenOf, CVal.isStr, CVal.bare, CVal.strip, CVal.flat, endsC, resultsC, oneOrTuple, finishC, cut, fillCells, setCells, szOf, szOf_desc, elems, evalAppend, fillElems, mkElem, List.replicate, sy_nbeq, sy_neqF, sy_leT, sy_leF, sy_setEnt_setEnt, dropped, sy_wrap64, dropEnts, dropCells, st7, tid, ents5, noHeap] at e
      subst e
      try dsimp only
      refine W.seq ?_
      refine W.reg ?_
      generalize e : stepR _ _ _ = r
      simp (disch := omega) [stepR, evalOps, evalOper, evalE, evalP, evalL, evalOpnd, nth, setNth, COp.cls, COp.isStore, CVal.isUndef, CVal.whole, CVal.cells, CHeap.put, CHeap.get, CHeap.set, wantedC, getEnt, setEnt, partOf, writeBack, evalBin, evalInt, blockMost, initVar, descOf, List.take, List.drop, CVal.lenOf, CVal.isStr, CVal.bare, CVal.strip, CVal.flat, endsC, resultsC, oneOrTuple, finishC, cut, fillCells, setCells, szOf, szOf_desc, elems, evalAppend, fillElems, mkElem, List.replicate, sy_nbeq, sy_neqF, sy_leT, sy_leF, sy_setEnt_setEnt, dropped, sy_wrap64, dropEnts, dropCells, st7, tid, ents5, noHeap] at e
      subst e
      try dsimp only
      refine W.ret (endW.intro rfl ?_)
      generalize e : endsC _ _ _ = r
      simp (disch := omega) [stepR, evalOps, evalOper, evalE, evalP, evalL, evalOpnd, nth, setNth, COp.cls, COp.isStore, CVal.isUndef, CVal.whole, CVal.cells, CHeap.put, CHeap.get, CHeap.set, wantedC, getEnt, setEnt, partOf, writeBack, evalBin, evalInt, blockMost, initVar, descOf, List.take, List.drop, CVal.lenOf, CVal.isStr, CVal.bare, CVal.strip, CVal.flat, endsC, resultsC, oneOrTuple, finishC, cut, fillCells, setCells, szOf, szOf_desc, elems, evalAppend, fillElems, mkElem, List.replicate, sy_nbeq, sy_neqF, sy_leT, sy_leF, sy_setEnt_setEnt, dropped, sy_wrap64, dropEnts, dropCells, c3, st7, tid, ents5, noHeap] at e
      subst e
      try dsimp only
    · refine Wo.rest ?_
      generalize e : evalOps _ _ _ _ _ = r
      simp (disch := omega) [stepR, evalOps, evalOper, evalE, evalP, evalL, evalOpnd, nth, setNth, COp.cls, COp.isStore, CVal.isUndef, CVal.whole, CVal.cells, CHeap.put, CHeap.get, CHeap.set, wantedC, getEnt, setEnt, partOf, writeBack, evalBin, evalInt, blockMost, initVar, descOf, List.take, List.drop, CVal.lenOf, CVal.isStr, CVal.bare, CVal.strip, CVal.flat, endsC, resultsC, oneOrTuple, finishC, cut, fillCells, setCells, szOf, szOf_desc, elems, evalAppend, fillElems, mkElem, List.replicate, sy_nbeq, sy_neqF, sy_leT, sy_leF, sy_setEnt_setEnt, dropped, sy_wrap64, dropEnts, dropCells, st7, tid, ents5, noHeap] at e
      subst e
      try dsimp only
      refine W.seq ?_
      refine W.reg ?_
      generalize e : stepR _ _ _ = r
      simp (disch := omega) [stepR, evalOps, evalOper, evalE, evalP, evalL, evalOpnd, nth, setNth, COp.cls, COp.isStore, CVal.isUndef, CVal.whole, CVal.cells, CHeap.put, CHeap.get, CHeap.set, wantedC, getEnt, setEnt, partOf, writeBack, evalBin, evalInt, blockMost, initVar, descOf, List.take, List.drop, CVal.lenOf, CVal.isStr, CVal.bare, CVal.strip, CVal.flat, endsC, resultsC, oneOrTuple, finishC, cut, fillCells, setCells, szOf, szOf_desc, elems, evalAppend, fillElems, mkElem, List.replicate, sy_nbeq, sy_neqF, sy_leT, sy_leF, sy_setEnt_setEnt, dropped, sy_wrap64, dropEnts, dropCells, st7, tid, ents5, noHeap] at e
      subst e
      try dsimp only
      refine W.seq ?_
      refine W.reg ?_
      generalize e : stepR _ _ _ = r
      simp (disch := omega) [stepR, evalOps, evalOper, evalE, evalP, evalL, evalOpnd, nth, setNth, COp.cls, COp.isStore, CVal.isUndef, CVal.whole, CVal.cells, CHeap.put, CHeap.get, CHeap.set, wantedC, getEnt, setEnt, partOf, writeBack, evalBin, evalInt, blockMost, initVar, descOf, List.take, List.drop, CVal.lenOf, CVal.isStr, CVal.bare, CVal.strip, CVal.flat, endsC, resultsC, oneOrTuple, finishC, cut, fillCells, setCells, szOf, szOf_desc, elems, evalAppend, fillElems, mkElem, List.replicate, sy_nbeq, sy_neqF, sy_leT, sy_leF, sy_setEnt_setEnt, dropped, sy_wrap64, dropEnts, dropCells, st7, tid, ents5, noHeap] at e
      subst e
      try dsimp only
      refine W.ret (endW.intro rfl ?_)
      generalize e : endsC _ _ _ = r
      simp (disch := omega) [stepR, evalOps, evalOper, evalE, evalP, evalL, evalOpnd, nth, setNth, COp.cls, COp.isStore, CVal.isUndef, CVal.whole, CVal.cells, CHeap.put, CHeap.get, CHeap.set, wantedC, getEnt, setEnt, partOf, writeBack, evalBin, evalInt, blockMost, initVar, descOf, List.take, List.drop, CVal.lenOf, CVal.isStr, CVal.bare, CVal.strip, CVal.flat, endsC, resultsC, oneOrTuple, finishC, cut, fillCells, setCells, szOf, szOf_desc, elems, evalAppend, fillElems, mkElem, List.replicate, sy_nbeq, sy_neqF, sy_leT, sy_leF, sy_setEnt_setEnt, dropped, sy_wrap64, dropEnts, dropCells, c3, st7, tid, ents5, noHeap] at e
      subst e
      try dsimp only
  · exfalso; rw [hsz] at hf; omega

theorem main_7 (n : Int) (hn : n.tmod 18 = 7) : Wc tree.getF 3 [.int .u8 n] noHeap fun v h => v = .bool true := by
  have hsz : szA 7 = 255 := by decide +kernel
  refine Wc.mk' (fn := c3) (by kernel_rfl) rfl ?_
  refine W.assoc (W.assoc (W.assoc (W.assoc (W.assoc (W.seq (W.of_exec (f1 n) ?_))))))
  refine W.seq ?_
  refine W.reg ?_
  generalize e : stepR _ _ _ = r
  simp (disch := omega) [stepR, evalOps, evalOper, evalE, evalP, evalL, evalOpnd, nth, setNth, COp.cls, COp.isStore, CVal.isUndef, CVal.whole, CVal.cells, CHeap.put, CHeap.get, CHeap.set, wantedC, getEnt, setEnt, partOf, writeBack, evalBin, evalInt, blockMost, initVar, descOf, List.take, List.drop, CVal.lenOf, CVal.isStr, CVal.bare, CVal.strip, CVal.flat, endsC, resultsC, oneOrTuple, finishC, cut, fillCells, setCells, szOf, szOf_desc, elems, evalAppend, fillElems, mkElem, List.replicate, sy_nbeq, sy_neqF, sy_leT, sy_leF, sy_setEnt_setEnt, dropped, sy_wrap64, dropEnts, dropCells, hn, tm5, ents5] at e
  subst e
  try dsimp only
  refine W.assoc (W.seq (W.of_exec (f2_7 n) ?_))
  refine W.seq ?_
  refine W.region (Wo.upto 2 rfl ?_)
  generalize e : evalOps _ _ _ _ _ = r
  simp (disch := omega) [stepR, evalOps, evalOper, evalE, evalP, evalL, evalOpnd, nth, setNth, COp.cls, COp.isStore, CVal.isUndef, CVal.whole, CVal.cells, CHeap.put, CHeap.get, CHeap.set, wantedC, getEnt, setEnt, partOf, writeBack, evalBin, evalInt, blockMost, initVar, descOf, List.take, List.drop, CVal.lenOf, CVal.isStr, CVal.bare, CVal.strip, CVal.flat, endsC, resultsC, oneOrTuple, finishC, cut, fillCells, setCells, szOf, szOf_desc, elems, evalAppend, fillElems, mkElem, List.replicate, sy_nbeq, sy_neqF, sy_leT, sy_leF, sy_setEnt_setEnt, dropped, sy_wrap64, dropEnts, dropCells, st7, tid, ents5, noHeap] at e
  subst e
  try dsimp only
  refine Wo.call ?_
  refine value_top (tsK 7) 7 (chainK 7) (by omega) _ (by repeat (first | refine Under.cons (by dsimp only; omega) ?_ | exact Under.nil)) _ (fun hf n1 X hn1 hX => ⟨rfl, ?_⟩) (fun hf n1 hn1 => ⟨rfl, ?_⟩) <;> try dsimp only at hn1
  · rcases hX with rfl | ⟨l, rfl⟩
    · refine Wo.rest ?_
      generalize e : evalOps _ _ _ _ _ = r
      simp (disch := omega) [stepR, evalOps, evalOper, evalE, evalP, evalL, evalOpnd, nth, setNth, COp.cls, COp.isStore, CVal.isUndef, CVal.whole, CVal.cells, CHeap.put, CHeap.get, CHeap.set, wantedC, getEnt, setEnt, partOf, writeBack, evalBin, evalInt, blockMost, initVar, descOf, List.take, List.drop, CVal.lenOf, CVal.isStr, CVal.bare, CVal.strip, CVal.flat, endsC, resultsC, oneOrTuple, finishC, cut, fillCells, setCells, szOf, szOf_desc, elems, evalAppend, fillElems, mkElem, List.replicate, sy_nbeq, sy_neqF, sy_leT, sy_leF, sy_setEnt_setEnt, dropped, sy_wrap64, dropEnts, dropCells, st7, tid, ents5, noHeap] at e
      subst e
      try dsimp only
      refine W.seq ?_
      refine W.reg ?_
      generalize e : stepR _ _ _ = r
      simp (disch := omega) [stepR, evalOps, evalOper, evalE, evalP, evalL, evalOpnd, nth, setNth, COp.cls, COp.isStore, CVal.isUndef, CVal.whole, CVal.cells, CHeap.put, CHeap.get, CHeap.set, wantedC, getEnt, setEnt, partOf, writeBack, evalBin, evalInt, blockMost, initVar, descOf, List.take, List.drop, CVal.lenOf, CVal.isStr, CVal.bare, CVal.strip, CVal.flat, endsC, resultsC, oneOrTuple, finishC, cut, fillCells, setCells, szOf, szOf_desc, elems, evalAppend, fillElems, mkElem, List.replicate, sy_nbeq, sy_neqF, sy_leT, sy_leF, sy_setEnt_setEnt, dropped, sy_wrap64, dropEnts, dropCells, st7, tid, ents5, noHeap] at e
      subst e
      try dsimp only
      refine W.seq ?_
      refine W.reg ?_
      generalize e : stepR _ _ _ = r
      simp (disch := omega) [stepR, evalOps, evalOper, evalE, evalP, evalL, evalOpnd, nth, setNth, COp.cls, COp.isStore, CVal.isUndef, CVal.whole, CVal.cells, CHeap.put, CHeap.get, CHeap.set, wantedC, getEnt, setEnt, partOf, writeBack, evalBin, evalInt, blockMost, initVar, descOf, List.take, List.drop, CVal.lenOf, CVal.isStr, CVal.bare, CVal.strip, CVal.flat, endsC, resultsC, oneOrTuple, finishC, cut, fillCells, setCells, szOf, szOf_desc, elems, evalAppend, fillElems, mkElem, List.replicate, sy_nbeq, sy_neqF, sy_leT, sy_leF, sy_setEnt_setEnt, dropped, sy_wrap64, dropEnts, dropCells, st7, tid, ents5, noHeap] at e
      subst e
      try dsimp only
      refine W.ret (endW.intro rfl ?_)
      generalize e : endsC _ _ _ = r
      simp (disch := omega) [stepR, evalOps, evalOper, evalE, evalP, evalL, evalOpnd, nth, setNth, COp.cls, COp.isStore, CVal.isUndef, CVal.whole, CVal.cells, CHeap.put, CHeap.get, CHeap.set, wantedC, getEnt, setEnt, partOf, writeBack, evalBin, evalInt, blockMost, initVar, descOf, List.take, List.drop, CVal.lenOf, CVal.isStr, CVal.bare, CVal.strip, CVal.flat, endsC, resultsC, oneOrTuple, finishC, cut, fillCells, setCells, szOf, szOf_desc, elems, evalAppend, fillElems, mkElem, List.replicate, sy_nbeq, sy_neqF, sy_leT, sy_leF, sy_setEnt_setEnt, dropped, sy_wrap64, dropEnts, dropCells, c3, st7, tid, ents5, noHeap] at e
      subst e
      try dsimp only
    · refine Wo.rest ?_
      generalize e : evalOps _ _ _ _ _ = r
      simp (disch := omega) [stepR, evalOps, evalOper, evalE, evalP, evalL, evalOpnd, nth, setNth, COp.cls, COp.isStore, CVal.isUndef, CVal.whole, CVal.cells, CHeap.put, CHeap.get, CHeap.set, wantedC, getEnt, setEnt, partOf, writeBack, evalBin, evalInt, blockMost, initVar, descOf, List.take, List.drop, CVal.lenOf, CVal.isStr, CVal.bare, CVal.strip, CVal.flat, endsC, resultsC, oneOrTuple, finishC, cut, fillCells, setCells, szOf, szOf_desc, elems, evalAppend, fillElems, mkElem, List.replicate, sy_nbeq, sy_neqF, sy_leT, sy_leF, sy_setEnt_setEnt, dropped, sy_wrap64, dropEnts, dropCells, st7, tid, ents5, noHeap] at e
      subst e
      try dsimp only
      refine W.seq ?_
      refine W.reg ?_
      generalize e : stepR _ _ _ = r
      simp (disch := omega) [stepR, evalOps, evalOper, evalE, evalP, evalL, evalOpnd, nth, setNth, COp.cls, COp.isStore, CVal.isUndef, CVal.whole, CVal.cells, CHeap.put, CHeap.get, CHeap.set, wantedC, getEnt, setEnt, partOf, writeBack, evalBin, evalInt, blockMost, initVar, descOf, List.take, List.drop, CVal.lenOf, CVal.isStr, CVal.bare, CVal.strip, CVal.flat, endsC, resultsC, oneOrTuple, finishC, cut, fillCells, setCells, szOf, szOf_desc, elems, evalAppend, fillElems, mkElem, List.replicate, sy_nbeq, sy_neqF, sy_leT, sy_leF, sy_setEnt_setEnt, dropped, sy_wrap64, dropEnts, dropCells, st7, tid, ents5, noHeap] at e
      subst e
      try dsimp only
      refine W.seq ?_
      refine W.reg ?_
      generalize e : stepR _ _ _ = r
      simp (disch := omega) [stepR, evalOps, evalOper, evalE, evalP, evalL, evalOpnd, nth, setNth, COp.cls, COp.isStore, CVal.isUndef, CVal.whole, CVal.cells, CHeap.put, CHeap.get, CHeap.set, wantedC, getEnt, setEnt, partOf, writeBack, evalBin, evalInt, blockMost, initVar, descOf, List.take, List.drop, CVal.lenOf, CVal.isStr, CVal.bare, CVal.strip, CVal.flat, endsC, resultsC, oneOrTuple, finishC, cut, fillCells, setCells, szOf, szOf_desc, elems, evalAppend, fillElems, mkElem, List.replicate, sy_nbeq, sy_neqF, sy_leT, sy_leF, sy_setEnt_setEnt, dropped, sy_wrap64, dropEnts, dropCells, st7, tid, ents5, noHeap] at e
      subst e
      try dsimp only
      refine W.ret (endW.intro rfl ?_)
      generalize e : endsC _ _ _ = r
      simp (disch := omega) [stepR, evalOps, evalOper, evalE, evalP, evalL, evalOpnd, nth, setNth, COp.cls, COp.isStore, CVal.isUndef, CVal.whole, CVal.cells, CHeap.put, CHeap.get, CHeap.set, wantedC, getEnt, setEnt, partOf, writeBack, evalBin, evalInt, blockMost, initVar, descOf, List.take, List.drop, CVal.lenOf, CVal.isStr, CVal.bare, CVal.strip, CVal.flat, endsC, resultsC, oneOrTuple, finishC, cut, fillCells, setCells, szOf, szOf_desc, elems, evalAppend, fillElems, mkElem, List.replicate, sy_nbeq, sy_neqF, sy_leT, sy_leF, sy_setEnt_setEnt, dropped, sy_wrap64, dropEnts, dropCells, c3, st7, tid, ents5, noHeap] at e
      subst e
      try dsimp only
  · exfalso; rw [hsz] at hf; omega

theorem main_8 (n : Int) (hn : n.tmod 18 = 8) : Wc tree.getF 3 [.int .u8 n] noHeap fun v h => v = .bool true := by
  have hsz : szA 8 = 511 := by decide +kernel
  refine Wc.mk' (fn := c3) (by kernel_rfl) rfl ?_
  refine W.assoc (W.assoc (W.assoc (W.assoc (W.assoc (W.seq (W.of_exec (f1 n) ?_))))))
  refine W.seq ?_
  refine W.reg ?_
  generalize e : stepR _ _ _ = r
  simp (disch := omega) [stepR, evalOps, evalOper, evalE, evalP, evalL, evalOpnd, nth, setNth, COp.cls, COp.isStore, CVal.isUndef, CVal.whole, CVal.cells, CHeap.put, CHeap.get, CHeap.set, wantedC, getEnt, setEnt, partOf, writeBack, evalBin, evalInt, blockMost, initVar, descOf, List.take, List.drop, CVal.lenOf, CVal.isStr, CVal.bare, CVal.strip, CVal.flat, endsC, resultsC, oneOrTuple, finishC, cut, fillCells, setCells, szOf, szOf_desc, elems, evalAppend, fillElems, mkElem, List.replicate, sy_nbeq, sy_neqF, sy_leT, sy_leF, sy_setEnt_setEnt, dropped, sy_wrap64, dropEnts, dropCells, hn, tm5, ents5] at e
  subst e
  try dsimp only
  refine W.assoc (W.seq (W.of_exec (f2_8 n) ?_))
  refine W.seq ?_
  refine W.region (Wo.upto 2 rfl ?_)
  generalize e : evalOps _ _ _ _ _ = r
  simp (disch := omega) [stepR, evalOps, evalOper, evalE, evalP, evalL, evalOpnd, nth, setNth, COp.cls, COp.isStore, CVal.isUndef, CVal.whole, CVal.cells, CHeap.put, CHeap.get, CHeap.set, wantedC, getEnt, setEnt, partOf, writeBack, evalBin, evalInt, blockMost, initVar, descOf, List.take, List.drop, CVal.lenOf, CVal.isStr, CVal.bare, CVal.strip, CVal.flat, endsC, resultsC, oneOrTuple, finishC, cut, fillCells, setCells, szOf, szOf_desc, elems, evalAppend, fillElems, mkElem, List.replicate, sy_nbeq, sy_neqF, sy_leT, sy_leF, sy_setEnt_setEnt, dropped, sy_wrap64, dropEnts, dropCells, st7, tid, ents5, noHeap] at e
  subst e
  try dsimp only
  refine Wo.call ?_
  refine value_top (tsK 8) 8 (chainK 8) (by omega) _ (by repeat (first | refine Under.cons (by dsimp only; omega) ?_ | exact Under.nil)) _ (fun hf n1 X hn1 hX => ⟨rfl, ?_⟩) (fun hf n1 hn1 => ⟨rfl, ?_⟩) <;> try dsimp only at hn1
  · rcases hX with rfl | ⟨l, rfl⟩
    · refine Wo.rest ?_
      generalize e : evalOps _ _ _ _ _ = r
      simp (disch := omega) [stepR, evalOps, evalOper, evalE, evalP, evalL, evalOpnd, nth, setNth, COp.cls, COp.isStore, CVal.isUndef, CVal.whole, CVal.cells, CHeap.put, CHeap.get, CHeap.set, wantedC, getEnt, setEnt, partOf, writeBack, evalBin, evalInt, blockMost, initVar, descOf, List.take, List.drop, CVal.lenOf, CVal.isStr, CVal.bare, CVal.strip, CVal.flat, endsC, resultsC, oneOrTuple, finishC, cut, fillCells, setCells, szOf, szOf_desc, elems, evalAppend, fillElems, mkElem, List.replicate, sy_nbeq, sy_neqF, sy_leT, sy_leF, sy_setEnt_setEnt, dropped, sy_wrap64, dropEnts, dropCells, st7, tid, ents5, noHeap] at e
      subst e
      try dsimp only
      refine W.seq ?_
      refine W.reg ?_
      generalize e : stepR _ _ _ = r
      simp (disch := omega) [stepR, evalOps, evalOper, evalE, evalP, evalL, evalOpnd, nth, setNth, COp.cls, COp.isStore, CVal.isUndef, CVal.whole, CVal.cells, CHeap.put, CHeap.get, CHeap.set, wantedC, getEnt, setEnt, partOf, writeBack, evalBin, evalInt, blockMost, initVar, descOf, List.take, List.drop, CVal.lenOf, CVal.isStr, CVal.bare, CVal.strip, CVal.flat, endsC, resultsC, oneOrTuple, finishC, cut, fillCells, setCells, szOf, szOf_desc, elems, evalAppend, fillElems, mkElem, List.replicate, sy_nbeq, sy_neqF, sy_leT, sy_leF, sy_setEnt_setEnt, dropped, sy_wrap64, dropEnts, dropCells, st7, tid, ents5, noHeap] at e
      subst e
      try dsimp only
      refine W.seq ?_
      refine W.reg ?_
      generalize e : stepR _ _ _ = r
      simp (disch := omega) [stepR, evalOps, evalOper, evalE, evalP, evalL, evalOpnd, nth, setNth, COp.cls, COp.isStore, CVal.isUndef, CVal.whole, CVal.cells, CHeap.put, CHeap.get, CHeap.set, wantedC, getEnt, setEnt, partOf, writeBack, evalBin, evalInt, blockMost, initVar, descOf, List.take, List.drop, CVal.lenOf, CVal.isStr, CVal.bare, CVal.strip, CVal.flat, endsC, resultsC, oneOrTuple, finishC, cut, fillCells, setCells, szOf, szOf_desc, elems, evalAppend, fillElems, mkElem, List.replicate, sy_nbeq, sy_neqF, sy_leT, sy_leF, sy_setEnt_setEnt, dropped, sy_wrap64, dropEnts, dropCells, st7, tid, ents5, noHeap] at e
      subst e
      try dsimp only
      refine W.ret (endW.intro rfl ?_)
      generalize e : endsC _ _ _ = r
      simp (disch := omega) [stepR, evalOps, evalOper, evalE, evalP, evalL, evalOpnd, nth, setNth, COp.cls, COp.isStore, CVal.isUndef, CVal.whole, CVal.cells, CHeap.put, CHeap.get, CHeap.set, wantedC, getEnt, setEnt, partOf, writeBack, evalBin, evalInt, blockMost, initVar, descOf, List.take, List.drop, CVal.lenOf, CVal.isStr, CVal.bare, CVal.strip, CVal.flat, endsC, resultsC, oneOrTuple, finishC, cut, fillCells, setCells, szOf, szOf_desc, elems, evalAppend, fillElems, mkElem, List.replicate, sy_nbeq, sy_neqF, sy_leT, sy_leF, sy_setEnt_setEnt, dropped, sy_wrap64, dropEnts, dropCells, c3, st7, tid, ents5, noHeap] at e
      subst e
      try dsimp only
    · refine Wo.rest ?_
      generalize e : evalOps _ _ _ _ _ = r
      simp (disch := omega) [stepR, evalOps, evalOper, evalE, evalP, evalL, evalOpnd, nth, setNth, COp.cls, COp.isStore, CVal.isUndef, CVal.whole, CVal.cells, CHeap.put, CHeap.get, CHeap.set, wantedC, getEnt, setEnt, partOf, writeBack, evalBin, evalInt, blockMost, initVar, descOf, List.take, List.drop, CVal.lenOf, CVal.isStr, CVal.bare, CVal.strip, CVal.flat, endsC, resultsC, oneOrTuple, finishC, cut, fillCells, setCells, szOf, szOf_desc, elems, evalAppend, fillElems, mkElem, List.replicate, sy_nbeq, sy_neqF, sy_leT, sy_leF, sy_setEnt_setEnt, dropped, sy_wrap64, dropEnts, dropCells, st7, tid, ents5, noHeap] at e
      subst e
      try dsimp only
      refine W.seq ?_
      refine W.reg ?_
      generalize e : stepR _ _ _ = r
      simp (disch := omega) [stepR, evalOps, evalOper, evalE, evalP, evalL, evalOpnd, nth, setNth, COp.cls, COp.isStore, CVal.isUndef, CVal.whole, CVal.cells, CHeap.put, CHeap.get, CHeap.set, wantedC, getEnt, setEnt, partOf, writeBack, evalBin, evalInt, blockMost, initVar, descOf, List.take, List.drop, CVal.lenOf, CVal.isStr, CVal.bare, CVal.strip, CVal.flat, endsC, resultsC, oneOrTuple, finishC, cut, fillCells, setCells, szOf, szOf_desc, elems, evalAppend, fillElems, mkElem, List.replicate, sy_nbeq, sy_neqF, sy_leT, sy_leF, sy_setEnt_setEnt, dropped, sy_wrap64, dropEnts, dropCells, st7, tid, ents5, noHeap] at e
      subst e
      try dsimp only
      refine W.seq ?_
      refine W.reg ?_
      generalize e : stepR _ _ _ = r
      simp (disch := omega) [stepR, evalOps, evalOper, evalE, evalP, evalL, evalOpnd, nth, setNth, COp.cls, COp.isStore, CVal.isUndef, CVal.whole, CVal.cells, CHeap.put, CHeap.get, CHeap.set, wantedC, getEnt, setEnt, partOf, writeBack, evalBin, evalInt, blockMost, initVar, descOf, List.take, List.drop, CVal.lenOf, CVal.isStr, CVal.bare, CVal.strip, CVal.flat, endsC, resultsC, oneOrTuple, finishC, cut, fillCells, setCells, szOf, szOf_desc, elems, evalAppend, fillElems, mkElem, List.replicate, sy_nbeq, sy_neqF, sy_leT, sy_leF, sy_setEnt_setEnt, dropped, sy_wrap64, dropEnts, dropCells, st7, tid, ents5, noHeap] at e
      subst e
      try dsimp only
      refine W.ret (endW.intro rfl ?_)
      generalize e : endsC _ _ _ = r
      simp (disch := omega) [stepR, evalOps, evalOper, evalE, evalP, evalL, evalOpnd, nth, setNth, COp.cls, COp.isStore, CVal.isUndef, CVal.whole, CVal.cells, CHeap.put, CHeap.get, CHeap.set, wantedC, getEnt, setEnt, partOf, writeBack, evalBin, evalInt, blockMost, initVar, descOf, List.take, List.drop, CVal.lenOf, CVal.isStr, CVal.bare, CVal.strip, CVal.flat, endsC, resultsC, oneOrTuple, finishC, cut, fillCells, setCells, szOf, szOf_desc, elems, evalAppend, fillElems, mkElem, List.replicate, sy_nbeq, sy_neqF, sy_leT, sy_leF, sy_setEnt_setEnt, dropped, sy_wrap64, dropEnts, dropCells, c3, st7, tid, ents5, noHeap] at e
      subst e
      try dsimp only
  · exfalso; rw [hsz] at hf; omega

theorem main_9 (n : Int) (hn : n.tmod 18 = 9) : Wc tree.getF 3 [.int .u8 n] noHeap fun v h => v = .bool true := by
  have hsz : szA 9 = 1023 := by decide +kernel
  refine Wc.mk' (fn := c3) (by kernel_rfl) rfl ?_
  refine W.assoc (W.assoc (W.assoc (W.assoc (W.assoc (W.seq (W.of_exec (f1 n) ?_))))))
  refine W.seq ?_
  refine W.reg ?_
  generalize e : stepR _ _ _ = r
  simp (disch := omega) [stepR, evalOps, evalOper, evalE, evalP, evalL, evalOpnd, nth, setNth, COp.cls, COp.isStore, CVal.isUndef, CVal.whole, CVal.cells, CHeap.put, CHeap.get, CHeap.set, wantedC, getEnt, setEnt, partOf, writeBack, evalBin, evalInt, blockMost, initVar, descOf, List.take, List.drop, CVal.lenOf, CVal.isStr, CVal.bare, CVal.strip, CVal.flat, endsC, resultsC, oneOrTuple, finishC, cut, fillCells, setCells, szOf, szOf_desc, elems, evalAppend, fillElems, mkElem, List.replicate, sy_nbeq, sy_neqF, sy_leT, sy_leF, sy_setEnt_setEnt, dropped, sy_wrap64, dropEnts, dropCells, hn, tm5, ents5] at e
  subst e
  try dsimp only
  refine W.assoc (W.seq (W.of_exec (f2_9 n) ?_))
  refine W.seq ?_
  refine W.region (Wo.upto 2 rfl ?_)
  generalize e : evalOps _ _ _ _ _ = r
  simp (disch := omega) [stepR, evalOps, evalOper, evalE, evalP, evalL, evalOpnd, nth, setNth, COp.cls, COp.isStore, CVal.isUndef, CVal.whole, CVal.cells, CHeap.put, CHeap.get, CHeap.set, wantedC, getEnt, setEnt, partOf, writeBack, evalBin, evalInt, blockMost, initVar, descOf, List.take, List.drop, CVal.lenOf, CVal.isStr, CVal.bare, CVal.strip, CVal.flat, endsC, resultsC, oneOrTuple, finishC, cut, fillCells, setCells, szOf, szOf_desc, elems, evalAppend, fillElems, mkElem, List.replicate, sy_nbeq, sy_neqF, sy_leT, sy_leF, sy_setEnt_setEnt, dropped, sy_wrap64, dropEnts, dropCells, st7, tid, ents5, noHeap] at e
  subst e
  try dsimp only
  refine Wo.call ?_
  refine value_top (tsK 9) 9 (chainK 9) (by omega) _ (by repeat (first | refine Under.cons (by dsimp only; omega) ?_ | exact Under.nil)) _ (fun hf n1 X hn1 hX => ⟨rfl, ?_⟩) (fun hf n1 hn1 => ⟨rfl, ?_⟩) <;> try dsimp only at hn1
  · rcases hX with rfl | ⟨l, rfl⟩
    · refine Wo.rest ?_
      generalize e : evalOps _ _ _ _ _ = r
      simp (disch := omega) [stepR, evalOps, evalOper, evalE, evalP, evalL, evalOpnd, nth, setNth, COp.cls, COp.isStore, CVal.isUndef, CVal.whole, CVal.cells, CHeap.put, CHeap.get, CHeap.set, wantedC, getEnt, setEnt, partOf, writeBack, evalBin, evalInt, blockMost, initVar, descOf, List.take, List.drop, CVal.lenOf, CVal.isStr, CVal.bare, CVal.strip, CVal.flat, endsC, resultsC, oneOrTuple, finishC, cut, fillCells, setCells, szOf, szOf_desc, elems, evalAppend, fillElems, mkElem, List.replicate, sy_nbeq, sy_neqF, sy_leT, sy_leF, sy_setEnt_setEnt, dropped, sy_wrap64, dropEnts, dropCells, st7, tid, ents5, noHeap] at e
      subst e
      try dsimp only
      refine W.seq ?_
      refine W.reg ?_
      generalize e : stepR _ _ _ = r
      simp (disch := omega) [stepR, evalOps, evalOper, evalE, evalP, evalL, evalOpnd, nth, setNth, COp.cls, COp.isStore, CVal.isUndef, CVal.whole, CVal.cells, CHeap.put, CHeap.get, CHeap.set, wantedC, getEnt, setEnt, partOf, writeBack, evalBin, evalInt, blockMost, initVar, descOf, List.take, List.drop, CVal.lenOf, CVal.isStr, CVal.bare, CVal.strip, CVal.flat, endsC, resultsC, oneOrTuple, finishC, cut, fillCells, setCells, szOf, szOf_desc, elems, evalAppend, fillElems, mkElem, List.replicate, sy_nbeq, sy_neqF, sy_leT, sy_leF, sy_setEnt_setEnt, dropped, sy_wrap64, dropEnts, dropCells, st7, tid, ents5, noHeap] at e
      subst e
      try dsimp only
      refine W.seq ?_
      refine W.reg ?_
      generalize e : stepR _ _ _ = r
      simp (disch := omega) [stepR, evalOps, evalOper, evalE, evalP, evalL, evalOpnd, nth, setNth, COp.cls, COp.isStore, CVal.isUndef, CVal.whole, CVal.cells, CHeap.put, CHeap.get, CHeap.set, wantedC, getEnt, setEnt, partOf, writeBack, evalBin, evalInt, blockMost, initVar, descOf, List.take, List.drop, CVal.lenOf, CVal.isStr, CVal.bare, CVal.strip, CVal.flat, endsC, resultsC, oneOrTuple, finishC, cut, fillCells, setCells, szOf, szOf_desc, elems, evalAppend, fillElems, mkElem, List.replicate, sy_nbeq, sy_neqF, sy_leT, sy_leF, sy_setEnt_setEnt, dropped, sy_wrap64, dropEnts, dropCells, st7, tid, ents5, noHeap] at e
      subst e
      try dsimp only
      refine W.ret (endW.intro rfl ?_)
      generalize e : endsC _ _ _ = r
      simp (disch := omega) [stepR, evalOps, evalOper, evalE, evalP, evalL, evalOpnd, nth, setNth, COp.cls, COp.isStore, CVal.isUndef, CVal.whole, CVal.cells, CHeap.put, CHeap.get, CHeap.set, wantedC, getEnt, setEnt, partOf, writeBack, evalBin, evalInt, blockMost, initVar, descOf, List.take, List.drop, CVal.lenOf, CVal.isStr, CVal.bare, CVal.strip, CVal.flat, endsC, resultsC, oneOrTuple, finishC, cut, fillCells, setCells, szOf, szOf_desc, elems, evalAppend, fillElems, mkElem, List.replicate, sy_nbeq, sy_neqF, sy_leT, sy_leF, sy_setEnt_setEnt, dropped, sy_wrap64, dropEnts, dropCells, c3, st7, tid, ents5, noHeap] at e
      subst e
      try dsimp only
    · refine Wo.rest ?_
      generalize e : evalOps _ _ _ _ _ = r
      simp (disch := omega) [stepR, evalOps, evalOper, evalE, evalP, evalL, evalOpnd, nth, setNth, COp.cls, COp.isStore, CVal.isUndef, CVal.whole, CVal.cells, CHeap.put, CHeap.get, CHeap.set, wantedC, getEnt, setEnt, partOf, writeBack, evalBin, evalInt, blockMost, initVar, descOf, List.take, List.drop, CVal.lenOf, CVal.isStr, CVal.bare, CVal.strip, CVal.flat, endsC, resultsC, oneOrTuple, finishC, cut, fillCells, setCells, szOf, szOf_desc, elems, evalAppend, fillElems, mkElem, List.replicate, sy_nbeq, sy_neqF, sy_leT, sy_leF, sy_setEnt_setEnt, dropped, sy_wrap64, dropEnts, dropCells, st7, tid, ents5, noHeap] at e
      subst e
      try dsimp only
      refine W.seq ?_
      refine W.reg ?_
      generalize e : stepR _ _ _ = r
      simp (disch := omega) [stepR, evalOps, evalOper, evalE, evalP, evalL, evalOpnd, nth, setNth, COp.cls, COp.isStore, CVal.isUndef, CVal.whole, CVal.cells, CHeap.put, CHeap.get, CHeap.set, wantedC, getEnt, setEnt, partOf, writeBack, evalBin, evalInt, blockMost, initVar, descOf, List.take, List.drop, CVal.lenOf, CVal.isStr, CVal.bare, CVal.strip, CVal.flat, endsC, resultsC, oneOrTuple, finishC, cut, fillCells, setCells, szOf, szOf_desc, elems, evalAppend, fillElems, mkElem, List.replicate, sy_nbeq, sy_neqF, sy_leT, sy_leF, sy_setEnt_setEnt, dropped, sy_wrap64, dropEnts, dropCells, st7, tid, ents5, noHeap] at e
      subst e
      try dsimp only
      refine W.seq ?_
      refine W.reg ?_
      generalize e : stepR _ _ _ = r
      simp (disch := omega) [stepR, evalOps, evalOper, evalE, evalP, evalL, evalOpnd, nth, setNth, COp.cls, COp.isStore, CVal.isUndef, CVal.whole, CVal.cells, CHeap.put, CHeap.get, CHeap.set, wantedC, getEnt, setEnt, partOf, writeBack, evalBin, evalInt, blockMost, initVar, descOf, List.take, List.drop, CVal.lenOf, CVal.isStr, CVal.bare, CVal.strip, CVal.flat, endsC, resultsC, oneOrTuple, finishC, cut, fillCells, setCells, szOf, szOf_desc, elems, evalAppend, fillElems, mkElem, List.replicate, sy_nbeq, sy_neqF, sy_leT, sy_leF, sy_setEnt_setEnt, dropped, sy_wrap64, dropEnts, dropCells, st7, tid, ents5, noHeap] at e
      subst e
      try dsimp only
      refine W.ret (endW.intro rfl ?_)
      generalize e : endsC _ _ _ = r
      simp (disch := omega) [stepR, evalOps, evalOper, evalE, evalP, evalL, evalOpnd, nth, setNth, COp.cls, COp.isStore, CVal.isUndef, CVal.whole, CVal.cells, CHeap.put, CHeap.get, CHeap.set, wantedC, getEnt, setEnt, partOf, writeBack, evalBin, evalInt, blockMost, initVar, descOf, List.take, List.drop, CVal.lenOf, CVal.isStr, CVal.bare, CVal.strip, CVal.flat, endsC, resultsC, oneOrTuple, finishC, cut, fillCells, setCells, szOf, szOf_desc, elems, evalAppend, fillElems, mkElem, List.replicate, sy_nbeq, sy_neqF, sy_leT, sy_leF, sy_setEnt_setEnt, dropped, sy_wrap64, dropEnts, dropCells, c3, st7, tid, ents5, noHeap] at e
      subst e
      try dsimp only
  · exfalso; rw [hsz] at hf; omega

theorem main_10 (n : Int) (hn : n.tmod 18 = 10) : Wc tree.getF 3 [.int .u8 n] noHeap fun v h => v = .bool true := by
  have hsz : szA 10 = 2047 := by decide +kernel
  refine Wc.mk' (fn := c3) (by kernel_rfl) rfl ?_
  refine W.assoc (W.assoc (W.assoc (W.assoc (W.assoc (W.seq (W.of_exec (f1 n) ?_))))))
  refine W.seq ?_
  refine W.reg ?_
  generalize e : stepR _ _ _ = r
  simp (disch := omega) [stepR, evalOps, evalOper, evalE, evalP, evalL, evalOpnd, nth, setNth, COp.cls, COp.isStore, CVal.isUndef, CVal.whole, CVal.cells, CHeap.put, CHeap.get, CHeap.set, wantedC, getEnt, setEnt, partOf, writeBack, evalBin, evalInt, blockMost, initVar, descOf, List.take, List.drop, CVal.lenOf, CVal.isStr, CVal.bare, CVal.strip, CVal.flat, endsC, resultsC, oneOrTuple, finishC, cut, fillCells, setCells, szOf, szOf_desc, elems, evalAppend, fillElems, mkElem, List.replicate, sy_nbeq, sy_neqF, sy_leT, sy_leF, sy_setEnt_setEnt, dropped, sy_wrap64, dropEnts, dropCells, hn, tm5, ents5] at e
  subst e
  try dsimp only
  refine W.assoc (W.seq (W.of_exec (f2_10 n) ?_))
  refine W.seq ?_
  refine W.region (Wo.upto 2 rfl ?_)
  generalize e : evalOps _ _ _ _ _ = r
  simp (disch := omega) [stepR, evalOps, evalOper, evalE, evalP, evalL, evalOpnd, nth, setNth, COp.cls, COp.isStore, CVal.isUndef, CVal.whole, CVal.cells, CHeap.put, CHeap.get, CHeap.set, wantedC, getEnt, setEnt, partOf, writeBack, evalBin, evalInt, blockMost, initVar, descOf, List.take, List.drop, CVal.lenOf, CVal.isStr, CVal.bare, CVal.strip, CVal.flat, endsC, resultsC, oneOrTuple, finishC, cut, fillCells, setCells, szOf, szOf_desc, elems, evalAppend, fillElems, mkElem, List.replicate, sy_nbeq, sy_neqF, sy_leT, sy_leF, sy_setEnt_setEnt, dropped, sy_wrap64, dropEnts, dropCells, st7, tid, ents5, noHeap] at e
  subst e
  try dsimp only
  refine Wo.call ?_
  refine value_top (tsK 10) 10 (chainK 10) (by omega) _ (by repeat (first | refine Under.cons (by dsimp only; omega) ?_ | exact Under.nil)) _ (fun hf n1 X hn1 hX => ⟨rfl, ?_⟩) (fun hf n1 hn1 => ⟨rfl, ?_⟩) <;> try dsimp only at hn1
  · exfalso; rw [hsz] at hf; omega
  · refine Wo.rest ?_
    generalize e : evalOps _ _ _ _ _ = r
    simp (disch := omega) [stepR, evalOps, evalOper, evalE, evalP, evalL, evalOpnd, nth, setNth, COp.cls, COp.isStore, CVal.isUndef, CVal.whole, CVal.cells, CHeap.put, CHeap.get, CHeap.set, wantedC, getEnt, setEnt, partOf, writeBack, evalBin, evalInt, blockMost, initVar, descOf, List.take, List.drop, CVal.lenOf, CVal.isStr, CVal.bare, CVal.strip, CVal.flat, endsC, resultsC, oneOrTuple, finishC, cut, fillCells, setCells, szOf, szOf_desc, elems, evalAppend, fillElems, mkElem, List.replicate, sy_nbeq, sy_neqF, sy_leT, sy_leF, sy_setEnt_setEnt, dropped, sy_wrap64, dropEnts, dropCells, st7, tid, ents5, noHeap] at e
    subst e
    try dsimp only
    refine W.seq ?_
    refine W.reg ?_
    generalize e : stepR _ _ _ = r
    simp (disch := omega) [stepR, evalOps, evalOper, evalE, evalP, evalL, evalOpnd, nth, setNth, COp.cls, COp.isStore, CVal.isUndef, CVal.whole, CVal.cells, CHeap.put, CHeap.get, CHeap.set, wantedC, getEnt, setEnt, partOf, writeBack, evalBin, evalInt, blockMost, initVar, descOf, List.take, List.drop, CVal.lenOf, CVal.isStr, CVal.bare, CVal.strip, CVal.flat, endsC, resultsC, oneOrTuple, finishC, cut, fillCells, setCells, szOf, szOf_desc, elems, evalAppend, fillElems, mkElem, List.replicate, sy_nbeq, sy_neqF, sy_leT, sy_leF, sy_setEnt_setEnt, dropped, sy_wrap64, dropEnts, dropCells, st7, tid, ents5, noHeap] at e
    subst e
    try dsimp only
    refine W.seq ?_
    refine W.reg ?_
    generalize e : stepR _ _ _ = r
    simp (disch := omega) [stepR, evalOps, evalOper, evalE, evalP, evalL, evalOpnd, nth, setNth, COp.cls, COp.isStore, CVal.isUndef, CVal.whole, CVal.cells, CHeap.put, CHeap.get, CHeap.set, wantedC, getEnt, setEnt, partOf, writeBack, evalBin, evalInt, blockMost, initVar, descOf, List.take, List.drop, CVal.lenOf, CVal.isStr, CVal.bare, CVal.strip, CVal.flat, endsC, resultsC, oneOrTuple, finishC, cut, fillCells, setCells, szOf, szOf_desc, elems, evalAppend, fillElems, mkElem, List.replicate, sy_nbeq, sy_neqF, sy_leT, sy_leF, sy_setEnt_setEnt, dropped, sy_wrap64, dropEnts, dropCells, st7, tid, ents5, noHeap] at e
    subst e
    try dsimp only
    refine W.ret (endW.intro rfl ?_)
    generalize e : endsC _ _ _ = r
    simp (disch := omega) [stepR, evalOps, evalOper, evalE, evalP, evalL, evalOpnd, nth, setNth, COp.cls, COp.isStore, CVal.isUndef, CVal.whole, CVal.cells, CHeap.put, CHeap.get, CHeap.set, wantedC, getEnt, setEnt, partOf, writeBack, evalBin, evalInt, blockMost, initVar, descOf, List.take, List.drop, CVal.lenOf, CVal.isStr, CVal.bare, CVal.strip, CVal.flat, endsC, resultsC, oneOrTuple, finishC, cut, fillCells, setCells, szOf, szOf_desc, elems, evalAppend, fillElems, mkElem, List.replicate, sy_nbeq, sy_neqF, sy_leT, sy_leF, sy_setEnt_setEnt, dropped, sy_wrap64, dropEnts, dropCells, c3, st7, tid, ents5, noHeap] at e
    subst e
    try dsimp only

theorem main_11 (n : Int) (hn : n.tmod 18 = 11) : Wc tree.getF 3 [.int .u8 n] noHeap fun v h => v = .bool true := by
  have hsz : szA 11 = 4095 := by decide +kernel
  refine Wc.mk' (fn := c3) (by kernel_rfl) rfl ?_
  refine W.assoc (W.assoc (W.assoc (W.assoc (W.assoc (W.seq (W.of_exec (f1 n) ?_))))))
  refine W.seq ?_
  refine W.reg ?_
  generalize e : stepR _ _ _ = r
  simp (disch := omega) [stepR, evalOps, evalOper, evalE, evalP, evalL, evalOpnd, nth, setNth, COp.cls, COp.isStore, CVal.isUndef, CVal.whole, CVal.cells, CHeap.put, CHeap.get, CHeap.set, wantedC, getEnt, setEnt, partOf, writeBack, evalBin, evalInt, blockMost, initVar, descOf, List.take, List.drop, CVal.lenOf, CVal.isStr, CVal.bare, CVal.strip, CVal.flat, endsC, resultsC, oneOrTuple, finishC, cut, fillCells, setCells, szOf, szOf_desc, elems, evalAppend, fillElems, mkElem, List.replicate, sy_nbeq, sy_neqF, sy_leT, sy_leF, sy_setEnt_setEnt, dropped, sy_wrap64, dropEnts, dropCells, hn, tm5, ents5] at e
  subst e
  try dsimp only
  refine W.assoc (W.seq (W.of_exec (f2_11 n) ?_))
  refine W.seq ?_
  refine W.region (Wo.upto 2 rfl ?_)
  generalize e : evalOps _ _ _ _ _ = r
  simp (disch := omega) [stepR, evalOps, evalOper, evalE, evalP, evalL, evalOpnd, nth, setNth, COp.cls, COp.isStore, CVal.isUndef, CVal.whole, CVal.cells, CHeap.put, CHeap.get, CHeap.set, wantedC, getEnt, setEnt, partOf, writeBack, evalBin, evalInt, blockMost, initVar, descOf, List.take, List.drop, CVal.lenOf, CVal.isStr, CVal.bare, CVal.strip, CVal.flat, endsC, resultsC, oneOrTuple, finishC, cut, fillCells, setCells, szOf, szOf_desc, elems, evalAppend, fillElems, mkElem, List.replicate, sy_nbeq, sy_neqF, sy_leT, sy_leF, sy_setEnt_setEnt, dropped, sy_wrap64, dropEnts, dropCells, st7, tid, ents5, noHeap] at e
  subst e
  try dsimp only
  refine Wo.call ?_
  refine value_top (tsK 11) 11 (chainK 11) (by omega) _ (by repeat (first | refine Under.cons (by dsimp only; omega) ?_ | exact Under.nil)) _ (fun hf n1 X hn1 hX => ⟨rfl, ?_⟩) (fun hf n1 hn1 => ⟨rfl, ?_⟩) <;> try dsimp only at hn1
  · exfalso; rw [hsz] at hf; omega
  · refine Wo.rest ?_
    generalize e : evalOps _ _ _ _ _ = r
    simp (disch := omega) [stepR, evalOps, evalOper, evalE, evalP, evalL, evalOpnd, nth, setNth, COp.cls, COp.isStore, CVal.isUndef, CVal.whole, CVal.cells, CHeap.put, CHeap.get, CHeap.set, wantedC, getEnt, setEnt, partOf, writeBack, evalBin, evalInt, blockMost, initVar, descOf, List.take, List.drop, CVal.lenOf, CVal.isStr, CVal.bare, CVal.strip, CVal.flat, endsC, resultsC, oneOrTuple, finishC, cut, fillCells, setCells, szOf, szOf_desc, elems, evalAppend, fillElems, mkElem, List.replicate, sy_nbeq, sy_neqF, sy_leT, sy_leF, sy_setEnt_setEnt, dropped, sy_wrap64, dropEnts, dropCells, st7, tid, ents5, noHeap] at e
    subst e
    try dsimp only
    refine W.seq ?_
    refine W.reg ?_
    generalize e : stepR _ _ _ = r
    simp (disch := omega) [stepR, evalOps, evalOper, evalE, evalP, evalL, evalOpnd, nth, setNth, COp.cls, COp.isStore, CVal.isUndef, CVal.whole, CVal.cells, CHeap.put, CHeap.get, CHeap.set, wantedC, getEnt, setEnt, partOf, writeBack, evalBin, evalInt, blockMost, initVar, descOf, List.take, List.drop, CVal.lenOf, CVal.isStr, CVal.bare, CVal.strip, CVal.flat, endsC, resultsC, oneOrTuple, finishC, cut, fillCells, setCells, szOf, szOf_desc, elems, evalAppend, fillElems, mkElem, List.replicate, sy_nbeq, sy_neqF, sy_leT, sy_leF, sy_setEnt_setEnt, dropped, sy_wrap64, dropEnts, dropCells, st7, tid, ents5, noHeap] at e
    subst e
    try dsimp only
    refine W.seq ?_
    refine W.reg ?_
    generalize e : stepR _ _ _ = r
    simp (disch := omega) [stepR, evalOps, evalOper, evalE, evalP, evalL, evalOpnd, nth, setNth, COp.cls, COp.isStore, CVal.isUndef, CVal.whole, CVal.cells, CHeap.put, CHeap.get, CHeap.set, wantedC, getEnt, setEnt, partOf, writeBack, evalBin, evalInt, blockMost, initVar, descOf, List.take, List.drop, CVal.lenOf, CVal.isStr, CVal.bare, CVal.strip, CVal.flat, endsC, resultsC, oneOrTuple, finishC, cut, fillCells, setCells, szOf, szOf_desc, elems, evalAppend, fillElems, mkElem, List.replicate, sy_nbeq, sy_neqF, sy_leT, sy_leF, sy_setEnt_setEnt, dropped, sy_wrap64, dropEnts, dropCells, st7, tid, ents5, noHeap] at e
    subst e
    try dsimp only
    refine W.ret (endW.intro rfl ?_)
    generalize e : endsC _ _ _ = r
    simp (disch := omega) [stepR, evalOps, evalOper, evalE, evalP, evalL, evalOpnd, nth, setNth, COp.cls, COp.isStore, CVal.isUndef, CVal.whole, CVal.cells, CHeap.put, CHeap.get, CHeap.set, wantedC, getEnt, setEnt, partOf, writeBack, evalBin, evalInt, blockMost, initVar, descOf, List.take, List.drop, CVal.lenOf, CVal.isStr, CVal.bare, CVal.strip, CVal.flat, endsC, resultsC, oneOrTuple, finishC, cut, fillCells, setCells, szOf, szOf_desc, elems, evalAppend, fillElems, mkElem, List.replicate, sy_nbeq, sy_neqF, sy_leT, sy_leF, sy_setEnt_setEnt, dropped, sy_wrap64, dropEnts, dropCells, c3, st7, tid, ents5, noHeap] at e
    subst e
    try dsimp only

theorem main_12 (n : Int) (hn : n.tmod 18 = 12) : Wc tree.getF 3 [.int .u8 n] noHeap fun v h => v = .bool true := by
  have hsz : szA 12 = 8191 := by decide +kernel
  refine Wc.mk' (fn := c3) (by kernel_rfl) rfl ?_
  refine W.assoc (W.assoc (W.assoc (W.assoc (W.assoc (W.seq (W.of_exec (f1 n) ?_))))))
  refine W.seq ?_
  refine W.reg ?_
  generalize e : stepR _ _ _ = r
  simp (disch := omega) [stepR, evalOps, evalOper, evalE, evalP, evalL, evalOpnd, nth, setNth, COp.cls, COp.isStore, CVal.isUndef, CVal.whole, CVal.cells, CHeap.put, CHeap.get, CHeap.set, wantedC, getEnt, setEnt, partOf, writeBack, evalBin, evalInt, blockMost, initVar, descOf, List.take, List.drop, CVal.lenOf, CVal.isStr, CVal.bare, CVal.strip, CVal.flat, endsC, resultsC, oneOrTuple, finishC, cut, fillCells, setCells, szOf, szOf_desc, elems, evalAppend, fillElems, mkElem, List.replicate, sy_nbeq, sy_neqF, sy_leT, sy_leF, sy_setEnt_setEnt, dropped, sy_wrap64, dropEnts, dropCells, hn, tm5, ents5] at e
  subst e
  try dsimp only
  refine W.assoc (W.seq (W.of_exec (f2_12 n) ?_))
  refine W.seq ?_
  refine W.region (Wo.upto 2 rfl ?_)
  generalize e : evalOps _ _ _ _ _ = r
  simp (disch := omega) [stepR, evalOps, evalOper, evalE, evalP, evalL, evalOpnd, nth, setNth, COp.cls, COp.isStore, CVal.isUndef, CVal.whole, CVal.cells, CHeap.put, CHeap.get, CHeap.set, wantedC, getEnt, setEnt, partOf, writeBack, evalBin, evalInt, blockMost, initVar, descOf, List.take, List.drop, CVal.lenOf, CVal.isStr, CVal.bare, CVal.strip, CVal.flat, endsC, resultsC, oneOrTuple, finishC, cut, fillCells, setCells, szOf, szOf_desc, elems, evalAppend, fillElems, mkElem, List.replicate, sy_nbeq, sy_neqF, sy_leT, sy_leF, sy_setEnt_setEnt, dropped, sy_wrap64, dropEnts, dropCells, st7, tid, ents5, noHeap] at e
  subst e
  try dsimp only
  refine Wo.call ?_
  refine value_top (tsK 12) 12 (chainK 12) (by omega) _ (by repeat (first | refine Under.cons (by dsimp only; omega) ?_ | exact Under.nil)) _ (fun hf n1 X hn1 hX => ⟨rfl, ?_⟩) (fun hf n1 hn1 => ⟨rfl, ?_⟩) <;> try dsimp only at hn1
  · exfalso; rw [hsz] at hf; omega
  · refine Wo.rest ?_
    generalize e : evalOps _ _ _ _ _ = r
    simp (disch := omega) [stepR, evalOps, evalOper, evalE, evalP, evalL, evalOpnd, nth, setNth, COp.cls, COp.isStore, CVal.isUndef, CVal.whole, CVal.cells, CHeap.put, CHeap.get, CHeap.set, wantedC, getEnt, setEnt, partOf, writeBack, evalBin, evalInt, blockMost, initVar, descOf, List.take, List.drop, CVal.lenOf, CVal.isStr, CVal.bare, CVal.strip, CVal.flat, endsC, resultsC, oneOrTuple, finishC, cut, fillCells, setCells, szOf, szOf_desc, elems, evalAppend, fillElems, mkElem, List.replicate, sy_nbeq, sy_neqF, sy_leT, sy_leF, sy_setEnt_setEnt, dropped, sy_wrap64, dropEnts, dropCells, st7, tid, ents5, noHeap] at e
    subst e
    try dsimp only
    refine W.seq ?_
    refine W.reg ?_
    generalize e : stepR _ _ _ = r
    simp (disch := omega) [stepR, evalOps, evalOper, evalE, evalP, evalL, evalOpnd, nth, setNth, COp.cls, COp.isStore, CVal.isUndef, CVal.whole, CVal.cells, CHeap.put, CHeap.get, CHeap.set, wantedC, getEnt, setEnt, partOf, writeBack, evalBin, evalInt, blockMost, initVar, descOf, List.take, List.drop, CVal.lenOf, CVal.isStr, CVal.bare, CVal.strip, CVal.flat, endsC, resultsC, oneOrTuple, finishC, cut, fillCells, setCells, szOf, szOf_desc, elems, evalAppend, fillElems, mkElem, List.replicate, sy_nbeq, sy_neqF, sy_leT, sy_leF, sy_setEnt_setEnt, dropped, sy_wrap64, dropEnts, dropCells, st7, tid, ents5, noHeap] at e
    subst e
    try dsimp only
    refine W.seq ?_
    refine W.reg ?_
    generalize e : stepR _ _ _ = r
    simp (disch := omega) [stepR, evalOps, evalOper, evalE, evalP, evalL, evalOpnd, nth, setNth, COp.cls, COp.isStore, CVal.isUndef, CVal.whole, CVal.cells, CHeap.put, CHeap.get, CHeap.set, wantedC, getEnt, setEnt, partOf, writeBack, evalBin, evalInt, blockMost, initVar, descOf, List.take, List.drop, CVal.lenOf, CVal.isStr, CVal.bare, CVal.strip, CVal.flat, endsC, resultsC, oneOrTuple, finishC, cut, fillCells, setCells, szOf, szOf_desc, elems, evalAppend, fillElems, mkElem, List.replicate, sy_nbeq, sy_neqF, sy_leT, sy_leF, sy_setEnt_setEnt, dropped, sy_wrap64, dropEnts, dropCells, st7, tid, ents5, noHeap] at e
    subst e
    try dsimp only
    refine W.ret (endW.intro rfl ?_)
    generalize e : endsC _ _ _ = r
    simp (disch := omega) [stepR, evalOps, evalOper, evalE, evalP, evalL, evalOpnd, nth, setNth, COp.cls, COp.isStore, CVal.isUndef, CVal.whole, CVal.cells, CHeap.put, CHeap.get, CHeap.set, wantedC, getEnt, setEnt, partOf, writeBack, evalBin, evalInt, blockMost, initVar, descOf, List.take, List.drop, CVal.lenOf, CVal.isStr, CVal.bare, CVal.strip, CVal.flat, endsC, resultsC, oneOrTuple, finishC, cut, fillCells, setCells, szOf, szOf_desc, elems, evalAppend, fillElems, mkElem, List.replicate, sy_nbeq, sy_neqF, sy_leT, sy_leF, sy_setEnt_setEnt, dropped, sy_wrap64, dropEnts, dropCells, c3, st7, tid, ents5, noHeap] at e
    subst e
    try dsimp only

theorem main_13 (n : Int) (hn : n.tmod 18 = 13) : Wc tree.getF 3 [.int .u8 n] noHeap fun v h => v = .bool true := by
  have hsz : szA 13 = 16383 := by decide +kernel
  refine Wc.mk' (fn := c3) (by kernel_rfl) rfl ?_
  refine W.assoc (W.assoc (W.assoc (W.assoc (W.assoc (W.seq (W.of_exec (f1 n) ?_))))))
  refine W.seq ?_
  refine W.reg ?_
  generalize e : stepR _ _ _ = r
  simp (disch := omega) [stepR, evalOps, evalOper, evalE, evalP, evalL, evalOpnd, nth, setNth, COp.cls, COp.isStore, CVal.isUndef, CVal.whole, CVal.cells, CHeap.put, CHeap.get, CHeap.set, wantedC, getEnt, setEnt, partOf, writeBack, evalBin, evalInt, blockMost, initVar, descOf, List.take, List.drop, CVal.lenOf, CVal.isStr, CVal.bare, CVal.strip, CVal.flat, endsC, resultsC, oneOrTuple, finishC, cut, fillCells, setCells, szOf, szOf_desc, elems, evalAppend, fillElems, mkElem, List.replicate, sy_nbeq, sy_neqF, sy_leT, sy_leF, sy_setEnt_setEnt, dropped, sy_wrap64, dropEnts, dropCells, hn, tm5, ents5] at e
  subst e
  try dsimp only
  refine W.assoc (W.seq (W.of_exec (f2_13 n) ?_))
  refine W.seq ?_
  refine W.region (Wo.upto 2 rfl ?_)
  generalize e : evalOps _ _ _ _ _ = r
  simp (disch := omega) [stepR, evalOps, evalOper, evalE, evalP, evalL, evalOpnd, nth, setNth, COp.cls, COp.isStore, CVal.isUndef, CVal.whole, CVal.cells, CHeap.put, CHeap.get, CHeap.set, wantedC, getEnt, setEnt, partOf, writeBack, evalBin, evalInt, blockMost, initVar, descOf, List.take, List.drop, CVal.lenOf, CVal.isStr, CVal.bare, CVal.strip, CVal.flat, endsC, resultsC, oneOrTuple, finishC, cut, fillCells, setCells, szOf, szOf_desc, elems, evalAppend, fillElems, mkElem, List.replicate, sy_nbeq, sy_neqF, sy_leT, sy_leF, sy_setEnt_setEnt, dropped, sy_wrap64, dropEnts, dropCells, st7, tid, ents5, noHeap] at e
  subst e
  try dsimp only
  refine Wo.call ?_
  refine value_top (tsK 13) 13 (chainK 13) (by omega) _ (by repeat (first | refine Under.cons (by dsimp only; omega) ?_ | exact Under.nil)) _ (fun hf n1 X hn1 hX => ⟨rfl, ?_⟩) (fun hf n1 hn1 => ⟨rfl, ?_⟩) <;> try dsimp only at hn1
  · exfalso; rw [hsz] at hf; omega
  · refine Wo.rest ?_
    generalize e : evalOps _ _ _ _ _ = r
    simp (disch := omega) [stepR, evalOps, evalOper, evalE, evalP, evalL, evalOpnd, nth, setNth, COp.cls, COp.isStore, CVal.isUndef, CVal.whole, CVal.cells, CHeap.put, CHeap.get, CHeap.set, wantedC, getEnt, setEnt, partOf, writeBack, evalBin, evalInt, blockMost, initVar, descOf, List.take, List.drop, CVal.lenOf, CVal.isStr, CVal.bare, CVal.strip, CVal.flat, endsC, resultsC, oneOrTuple, finishC, cut, fillCells, setCells, szOf, szOf_desc, elems, evalAppend, fillElems, mkElem, List.replicate, sy_nbeq, sy_neqF, sy_leT, sy_leF, sy_setEnt_setEnt, dropped, sy_wrap64, dropEnts, dropCells, st7, tid, ents5, noHeap] at e
    subst e
    try dsimp only
    refine W.seq ?_
    refine W.reg ?_
    generalize e : stepR _ _ _ = r
    simp (disch := omega) [stepR, evalOps, evalOper, evalE, evalP, evalL, evalOpnd, nth, setNth, COp.cls, COp.isStore, CVal.isUndef, CVal.whole, CVal.cells, CHeap.put, CHeap.get, CHeap.set, wantedC, getEnt, setEnt, partOf, writeBack, evalBin, evalInt, blockMost, initVar, descOf, List.take, List.drop, CVal.lenOf, CVal.isStr, CVal.bare, CVal.strip, CVal.flat, endsC, resultsC, oneOrTuple, finishC, cut, fillCells, setCells, szOf, szOf_desc, elems, evalAppend, fillElems, mkElem, List.replicate, sy_nbeq, sy_neqF, sy_leT, sy_leF, sy_setEnt_setEnt, dropped, sy_wrap64, dropEnts, dropCells, st7, tid, ents5, noHeap] at e
    subst e
    try dsimp only
    refine W.seq ?_
    refine W.reg ?_
    generalize e : stepR _ _ _ = r
    simp (disch := omega) [stepR, evalOps, evalOper, evalE, evalP, evalL, evalOpnd, nth, setNth, COp.cls, COp.isStore, CVal.isUndef, CVal.whole, CVal.cells, CHeap.put, CHeap.get, CHeap.set, wantedC, getEnt, setEnt, partOf, writeBack, evalBin, evalInt, blockMost, initVar, descOf, List.take, List.drop, CVal.lenOf, CVal.isStr, CVal.bare, CVal.strip, CVal.flat, endsC, resultsC, oneOrTuple, finishC, cut, fillCells, setCells, szOf, szOf_desc, elems, evalAppend, fillElems, mkElem, List.replicate, sy_nbeq, sy_neqF, sy_leT, sy_leF, sy_setEnt_setEnt, dropped, sy_wrap64, dropEnts, dropCells, st7, tid, ents5, noHeap] at e
    subst e
    try dsimp only
    refine W.ret (endW.intro rfl ?_)
    generalize e : endsC _ _ _ = r
    simp (disch := omega) [stepR, evalOps, evalOper, evalE, evalP, evalL, evalOpnd, nth, setNth, COp.cls, COp.isStore, CVal.isUndef, CVal.whole, CVal.cells, CHeap.put, CHeap.get, CHeap.set, wantedC, getEnt, setEnt, partOf, writeBack, evalBin, evalInt, blockMost, initVar, descOf, List.take, List.drop, CVal.lenOf, CVal.isStr, CVal.bare, CVal.strip, CVal.flat, endsC, resultsC, oneOrTuple, finishC, cut, fillCells, setCells, szOf, szOf_desc, elems, evalAppend, fillElems, mkElem, List.replicate, sy_nbeq, sy_neqF, sy_leT, sy_leF, sy_setEnt_setEnt, dropped, sy_wrap64, dropEnts, dropCells, c3, st7, tid, ents5, noHeap] at e
    subst e
    try dsimp only

theorem main_14 (n : Int) (hn : n.tmod 18 = 14) : Wc tree.getF 3 [.int .u8 n] noHeap fun v h => v = .bool true := by
  have hsz : szA 14 = 32767 := by decide +kernel
  refine Wc.mk' (fn := c3) (by kernel_rfl) rfl ?_
  refine W.assoc (W.assoc (W.assoc (W.assoc (W.assoc (W.seq (W.of_exec (f1 n) ?_))))))
  refine W.seq ?_
  refine W.reg ?_
  generalize e : stepR _ _ _ = r
  simp (disch := omega) [stepR, evalOps, evalOper, evalE, evalP, evalL, evalOpnd, nth, setNth, COp.cls, COp.isStore, CVal.isUndef, CVal.whole, CVal.cells, CHeap.put, CHeap.get, CHeap.set, wantedC, getEnt, setEnt, partOf, writeBack, evalBin, evalInt, blockMost, initVar, descOf, List.take, List.drop, CVal.lenOf, CVal.isStr, CVal.bare, CVal.strip, CVal.flat, endsC, resultsC, oneOrTuple, finishC, cut, fillCells, setCells, szOf, szOf_desc, elems, evalAppend, fillElems, mkElem, List.replicate, sy_nbeq, sy_neqF, sy_leT, sy_leF, sy_setEnt_setEnt, dropped, sy_wrap64, dropEnts, dropCells, hn, tm5, ents5] at e
  subst e
  try dsimp only
  refine W.assoc (W.seq (W.of_exec (f2_14 n) ?_))
  refine W.seq ?_
  refine W.region (Wo.upto 2 rfl ?_)
  generalize e : evalOps _ _ _ _ _ = r
  simp (disch := omega) [stepR, evalOps, evalOper, evalE, evalP, evalL, evalOpnd, nth, setNth, COp.cls, COp.isStore, CVal.isUndef, CVal.whole, CVal.cells, CHeap.put, CHeap.get, CHeap.set, wantedC, getEnt, setEnt, partOf, writeBack, evalBin, evalInt, blockMost, initVar, descOf, List.take, List.drop, CVal.lenOf, CVal.isStr, CVal.bare, CVal.strip, CVal.flat, endsC, resultsC, oneOrTuple, finishC, cut, fillCells, setCells, szOf, szOf_desc, elems, evalAppend, fillElems, mkElem, List.replicate, sy_nbeq, sy_neqF, sy_leT, sy_leF, sy_setEnt_setEnt, dropped, sy_wrap64, dropEnts, dropCells, st7, tid, ents5, noHeap] at e
  subst e
  try dsimp only
  refine Wo.call ?_
  refine value_top (tsK 14) 14 (chainK 14) (by omega) _ (by repeat (first | refine Under.cons (by dsimp only; omega) ?_ | exact Under.nil)) _ (fun hf n1 X hn1 hX => ⟨rfl, ?_⟩) (fun hf n1 hn1 => ⟨rfl, ?_⟩) <;> try dsimp only at hn1
  · exfalso; rw [hsz] at hf; omega
  · refine Wo.rest ?_
    generalize e : evalOps _ _ _ _ _ = r
    simp (disch := omega) [stepR, evalOps, evalOper, evalE, evalP, evalL, evalOpnd, nth, setNth, COp.cls, COp.isStore, CVal.isUndef, CVal.whole, CVal.cells, CHeap.put, CHeap.get, CHeap.set, wantedC, getEnt, setEnt, partOf, writeBack, evalBin, evalInt, blockMost, initVar, descOf, List.take, List.drop, CVal.lenOf, CVal.isStr, CVal.bare, CVal.strip, CVal.flat, endsC, resultsC, oneOrTuple, finishC, cut, fillCells, setCells, szOf, szOf_desc, elems, evalAppend, fillElems, mkElem, List.replicate, sy_nbeq, sy_neqF, sy_leT, sy_leF, sy_setEnt_setEnt, dropped, sy_wrap64, dropEnts, dropCells, st7, tid, ents5, noHeap] at e
    subst e
    try dsimp only
    refine W.seq ?_
    refine W.reg ?_
    generalize e : stepR _ _ _ = r
    simp (disch := omega) [stepR, evalOps, evalOper, evalE, evalP, evalL, evalOpnd, nth, setNth, COp.cls, COp.isStore, CVal.isUndef, CVal.whole, CVal.cells, CHeap.put, CHeap.get, CHeap.set, wantedC, getEnt, setEnt, partOf, writeBack, evalBin, evalInt, blockMost, initVar, descOf, List.take, List.drop, CVal.lenOf, CVal.isStr, CVal.bare, CVal.strip, CVal.flat, endsC, resultsC, oneOrTuple, finishC, cut, fillCells, setCells, szOf, szOf_desc, elems, evalAppend, fillElems, mkElem, List.replicate, sy_nbeq, sy_neqF, sy_leT, sy_leF, sy_setEnt_setEnt, dropped, sy_wrap64, dropEnts, dropCells, st7, tid, ents5, noHeap] at e
    subst e
    try dsimp only
    refine W.seq ?_
    refine W.reg ?_
    generalize e : stepR _ _ _ = r
    simp (disch := omega) [stepR, evalOps, evalOper, evalE, evalP, evalL, evalOpnd, nth, setNth, COp.cls, COp.isStore, CVal.isUndef, CVal.whole, CVal.cells, CHeap.put, CHeap.get, CHeap.set, wantedC, getEnt, setEnt, partOf, writeBack, evalBin, evalInt, blockMost, initVar, descOf, List.take, List.drop, CVal.lenOf, CVal.isStr, CVal.bare, CVal.strip, CVal.flat, endsC, resultsC, oneOrTuple, finishC, cut, fillCells, setCells, szOf, szOf_desc, elems, evalAppend, fillElems, mkElem, List.replicate, sy_nbeq, sy_neqF, sy_leT, sy_leF, sy_setEnt_setEnt, dropped, sy_wrap64, dropEnts, dropCells, st7, tid, ents5, noHeap] at e
    subst e
    try dsimp only
    refine W.ret (endW.intro rfl ?_)
    generalize e : endsC _ _ _ = r
    simp (disch := omega) [stepR, evalOps, evalOper, evalE, evalP, evalL, evalOpnd, nth, setNth, COp.cls, COp.isStore, CVal.isUndef, CVal.whole, CVal.cells, CHeap.put, CHeap.get, CHeap.set, wantedC, getEnt, setEnt, partOf, writeBack, evalBin, evalInt, blockMost, initVar, descOf, List.take, List.drop, CVal.lenOf, CVal.isStr, CVal.bare, CVal.strip, CVal.flat, endsC, resultsC, oneOrTuple, finishC, cut, fillCells, setCells, szOf, szOf_desc, elems, evalAppend, fillElems, mkElem, List.replicate, sy_nbeq, sy_neqF, sy_leT, sy_leF, sy_setEnt_setEnt, dropped, sy_wrap64, dropEnts, dropCells, c3, st7, tid, ents5, noHeap] at e
    subst e
    try dsimp only

theorem main_15 (n : Int) (hn : n.tmod 18 = 15) : Wc tree.getF 3 [.int .u8 n] noHeap fun v h => v = .bool true := by
  have hsz : szA 15 = 65535 := by decide +kernel
  refine Wc.mk' (fn := c3) (by kernel_rfl) rfl ?_
  refine W.assoc (W.assoc (W.assoc (W.assoc (W.assoc (W.seq (W.of_exec (f1 n) ?_))))))
  refine W.seq ?_
  refine W.reg ?_
  generalize e : stepR _ _ _ = r
  simp (disch := omega) [stepR, evalOps, evalOper, evalE, evalP, evalL, evalOpnd, nth, setNth, COp.cls, COp.isStore, CVal.isUndef, CVal.whole, CVal.cells, CHeap.put, CHeap.get, CHeap.set, wantedC, getEnt, setEnt, partOf, writeBack, evalBin, evalInt, blockMost, initVar, descOf, List.take, List.drop, CVal.lenOf, CVal.isStr, CVal.bare, CVal.strip, CVal.flat, endsC, resultsC, oneOrTuple, finishC, cut, fillCells, setCells, szOf, szOf_desc, elems, evalAppend, fillElems, mkElem, List.replicate, sy_nbeq, sy_neqF, sy_leT, sy_leF, sy_setEnt_setEnt, dropped, sy_wrap64, dropEnts, dropCells, hn, tm5, ents5] at e
  subst e
  try dsimp only
  refine W.assoc (W.seq (W.of_exec (f2_15 n) ?_))
  refine W.seq ?_
  refine W.region (Wo.upto 2 rfl ?_)
  generalize e : evalOps _ _ _ _ _ = r
  simp (disch := omega) [stepR, evalOps, evalOper, evalE, evalP, evalL, evalOpnd, nth, setNth, COp.cls, COp.isStore, CVal.isUndef, CVal.whole, CVal.cells, CHeap.put, CHeap.get, CHeap.set, wantedC, getEnt, setEnt, partOf, writeBack, evalBin, evalInt, blockMost, initVar, descOf, List.take, List.drop, CVal.lenOf, CVal.isStr, CVal.bare, CVal.strip, CVal.flat, endsC, resultsC, oneOrTuple, finishC, cut, fillCells, setCells, szOf, szOf_desc, elems, evalAppend, fillElems, mkElem, List.replicate, sy_nbeq, sy_neqF, sy_leT, sy_leF, sy_setEnt_setEnt, dropped, sy_wrap64, dropEnts, dropCells, st7, tid, ents5, noHeap] at e
  subst e
  try dsimp only
  refine Wo.call ?_
  refine value_top (tsK 15) 15 (chainK 15) (by omega) _ (by repeat (first | refine Under.cons (by dsimp only; omega) ?_ | exact Under.nil)) _ (fun hf n1 X hn1 hX => ⟨rfl, ?_⟩) (fun hf n1 hn1 => ⟨rfl, ?_⟩) <;> try dsimp only at hn1
  · exfalso; rw [hsz] at hf; omega
  · refine Wo.rest ?_
    generalize e : evalOps _ _ _ _ _ = r
    simp (disch := omega) [stepR, evalOps, evalOper, evalE, evalP, evalL, evalOpnd, nth, setNth, COp.cls, COp.isStore, CVal.isUndef, CVal.whole, CVal.cells, CHeap.put, CHeap.get, CHeap.set, wantedC, getEnt, setEnt, partOf, writeBack, evalBin, evalInt, blockMost, initVar, descOf, List.take, List.drop, CVal.lenOf, CVal.isStr, CVal.bare, CVal.strip, CVal.flat, endsC, resultsC, oneOrTuple, finishC, cut, fillCells, setCells, szOf, szOf_desc, elems, evalAppend, fillElems, mkElem, List.replicate, sy_nbeq, sy_neqF, sy_leT, sy_leF, sy_setEnt_setEnt, dropped, sy_wrap64, dropEnts, dropCells, st7, tid, ents5, noHeap] at e
    subst e
    try dsimp only
    refine W.seq ?_
    refine W.reg ?_
    generalize e : stepR _ _ _ = r
    simp (disch := omega) [stepR, evalOps, evalOper, evalE, evalP, evalL, evalOpnd, nth, setNth, COp.cls, COp.isStore, CVal.isUndef, CVal.whole, CVal.cells, CHeap.put, CHeap.get, CHeap.set, wantedC, getEnt, setEnt, partOf, writeBack, evalBin, evalInt, blockMost, initVar, descOf, List.take, List.drop, CVal.lenOf, CVal.isStr, CVal.bare, CVal.strip, CVal.flat, endsC, resultsC, oneOrTuple, finishC, cut, fillCells, setCells, szOf, szOf_desc, elems, evalAppend, fillElems, mkElem, List.replicate, sy_nbeq, sy_neqF, sy_leT, sy_leF, sy_setEnt_setEnt, dropped, sy_wrap64, dropEnts, dropCells, st7, tid, ents5, noHeap] at e
    subst e
    try dsimp only
    refine W.seq ?_
    refine W.reg ?_
    generalize e : stepR _ _ _ = r
    simp (disch := omega) [stepR, evalOps, evalOper, evalE, evalP, evalL, evalOpnd, nth, setNth, COp.cls, COp.isStore, CVal.isUndef, CVal.whole, CVal.cells, CHeap.put, CHeap.get, CHeap.set, wantedC, getEnt, setEnt, partOf, writeBack, evalBin, evalInt, blockMost, initVar, descOf, List.take, List.drop, CVal.lenOf, CVal.isStr, CVal.bare, CVal.strip, CVal.flat, endsC, resultsC, oneOrTuple, finishC, cut, fillCells, setCells, szOf, szOf_desc, elems, evalAppend, fillElems, mkElem, List.replicate, sy_nbeq, sy_neqF, sy_leT, sy_leF, sy_setEnt_setEnt, dropped, sy_wrap64, dropEnts, dropCells, st7, tid, ents5, noHeap] at e
    subst e
    try dsimp only
    refine W.ret (endW.intro rfl ?_)
    generalize e : endsC _ _ _ = r
    simp (disch := omega) [stepR, evalOps, evalOper, evalE, evalP, evalL, evalOpnd, nth, setNth, COp.cls, COp.isStore, CVal.isUndef, CVal.whole, CVal.cells, CHeap.put, CHeap.get, CHeap.set, wantedC, getEnt, setEnt, partOf, writeBack, evalBin, evalInt, blockMost, initVar, descOf, List.take, List.drop, CVal.lenOf, CVal.isStr, CVal.bare, CVal.strip, CVal.flat, endsC, resultsC, oneOrTuple, finishC, cut, fillCells, setCells, szOf, szOf_desc, elems, evalAppend, fillElems, mkElem, List.replicate, sy_nbeq, sy_neqF, sy_leT, sy_leF, sy_setEnt_setEnt, dropped, sy_wrap64, dropEnts, dropCells, c3, st7, tid, ents5, noHeap] at e
    subst e
    try dsimp only

theorem main_16 (n : Int) (hn : n.tmod 18 = 16) : Wc tree.getF 3 [.int .u8 n] noHeap fun v h => v = .bool true := by
  have hsz : szA 16 = 131071 := by decide +kernel
  refine Wc.mk' (fn := c3) (by kernel_rfl) rfl ?_
  refine W.assoc (W.assoc (W.assoc (W.assoc (W.assoc (W.seq (W.of_exec (f1 n) ?_))))))
  refine W.seq ?_
  refine W.reg ?_
  generalize e : stepR _ _ _ = r
  simp (disch := omega) [stepR, evalOps, evalOper, evalE, evalP, evalL, evalOpnd, nth, setNth, COp.cls, COp.isStore, CVal.isUndef, CVal.whole, CVal.cells, CHeap.put, CHeap.get, CHeap.set, wantedC, getEnt, setEnt, partOf, writeBack, evalBin, evalInt, blockMost, initVar, descOf, List.take, List.drop, CVal.lenOf, CVal.isStr, CVal.bare, CVal.strip, CVal.flat, endsC, resultsC, oneOrTuple, finishC, cut, fillCells, setCells, szOf, szOf_desc, elems, evalAppend, fillElems, mkElem, List.replicate, sy_nbeq, sy_neqF, sy_leT, sy_leF, sy_setEnt_setEnt, dropped, sy_wrap64, dropEnts, dropCells, hn, tm5, ents5] at e
  subst e
  try dsimp only
  refine W.assoc (W.seq (W.of_exec (f2_16 n) ?_))
  refine W.seq ?_
  refine W.region (Wo.upto 2 rfl ?_)
  generalize e : evalOps _ _ _ _ _ = r
  simp (disch := omega) [stepR, evalOps, evalOper, evalE, evalP, evalL, evalOpnd, nth, setNth, COp.cls, COp.isStore, CVal.isUndef, CVal.whole, CVal.cells, CHeap.put, CHeap.get, CHeap.set, wantedC, getEnt, setEnt, partOf, writeBack, evalBin, evalInt, blockMost, initVar, descOf, List.take, List.drop, CVal.lenOf, CVal.isStr, CVal.bare, CVal.strip, CVal.flat, endsC, resultsC, oneOrTuple, finishC, cut, fillCells, setCells, szOf, szOf_desc, elems, evalAppend, fillElems, mkElem, List.replicate, sy_nbeq, sy_neqF, sy_leT, sy_leF, sy_setEnt_setEnt, dropped, sy_wrap64, dropEnts, dropCells, st7, tid, ents5, noHeap] at e
  subst e
  try dsimp only
  refine Wo.call ?_
  refine value_top (tsK 16) 16 (chainK 16) (by omega) _ (by repeat (first | refine Under.cons (by dsimp only; omega) ?_ | exact Under.nil)) _ (fun hf n1 X hn1 hX => ⟨rfl, ?_⟩) (fun hf n1 hn1 => ⟨rfl, ?_⟩) <;> try dsimp only at hn1
  · exfalso; rw [hsz] at hf; omega
  · refine Wo.rest ?_
    generalize e : evalOps _ _ _ _ _ = r
    simp (disch := omega) [stepR, evalOps, evalOper, evalE, evalP, evalL, evalOpnd, nth, setNth, COp.cls, COp.isStore, CVal.isUndef, CVal.whole, CVal.cells, CHeap.put, CHeap.get, CHeap.set, wantedC, getEnt, setEnt, partOf, writeBack, evalBin, evalInt, blockMost, initVar, descOf, List.take, List.drop, CVal.lenOf, CVal.isStr, CVal.bare, CVal.strip, CVal.flat, endsC, resultsC, oneOrTuple, finishC, cut, fillCells, setCells, szOf, szOf_desc, elems, evalAppend, fillElems, mkElem, List.replicate, sy_nbeq, sy_neqF, sy_leT, sy_leF, sy_setEnt_setEnt, dropped, sy_wrap64, dropEnts, dropCells, st7, tid, ents5, noHeap] at e
    subst e
    try dsimp only
    refine W.seq ?_
    refine W.reg ?_
    generalize e : stepR _ _ _ = r
    simp (disch := omega) [stepR, evalOps, evalOper, evalE, evalP, evalL, evalOpnd, nth, setNth, COp.cls, COp.isStore, CVal.isUndef, CVal.whole, CVal.cells, CHeap.put, CHeap.get, CHeap.set, wantedC, getEnt, setEnt, partOf, writeBack, evalBin, evalInt, blockMost, initVar, descOf, List.take, List.drop, CVal.lenOf, CVal.isStr, CVal.bare, CVal.strip, CVal.flat, endsC, resultsC, oneOrTuple, finishC, cut, fillCells, setCells, szOf, szOf_desc, elems, evalAppend, fillElems, mkElem, List.replicate, sy_nbeq, sy_neqF, sy_leT, sy_leF, sy_setEnt_setEnt, dropped, sy_wrap64, dropEnts, dropCells, st7, tid, ents5, noHeap] at e
    subst e
    try dsimp only
    refine W.seq ?_
    refine W.reg ?_
    generalize e : stepR _ _ _ = r
    simp (disch := omega) [stepR, evalOps, evalOper, evalE, evalP, evalL, evalOpnd, nth, setNth, COp.cls, COp.isStore, CVal.isUndef, CVal.whole, CVal.cells, CHeap.put, CHeap.get, CHeap.set, wantedC, getEnt, setEnt, partOf, writeBack, evalBin, evalInt, blockMost, initVar, descOf, List.take, List.drop, CVal.lenOf, CVal.isStr, CVal.bare, CVal.strip, CVal.flat, endsC, resultsC, oneOrTuple, finishC, cut, fillCells, setCells, szOf, szOf_desc, elems, evalAppend, fillElems, mkElem, List.replicate, sy_nbeq, sy_neqF, sy_leT, sy_leF, sy_setEnt_setEnt, dropped, sy_wrap64, dropEnts, dropCells, st7, tid, ents5, noHeap] at e
    subst e
    try dsimp only
    refine W.ret (endW.intro rfl ?_)
    generalize e : endsC _ _ _ = r
    simp (disch := omega) [stepR, evalOps, evalOper, evalE, evalP, evalL, evalOpnd, nth, setNth, COp.cls, COp.isStore, CVal.isUndef, CVal.whole, CVal.cells, CHeap.put, CHeap.get, CHeap.set, wantedC, getEnt, setEnt, partOf, writeBack, evalBin, evalInt, blockMost, initVar, descOf, List.take, List.drop, CVal.lenOf, CVal.isStr, CVal.bare, CVal.strip, CVal.flat, endsC, resultsC, oneOrTuple, finishC, cut, fillCells, setCells, szOf, szOf_desc, elems, evalAppend, fillElems, mkElem, List.replicate, sy_nbeq, sy_neqF, sy_leT, sy_leF, sy_setEnt_setEnt, dropped, sy_wrap64, dropEnts, dropCells, c3, st7, tid, ents5, noHeap] at e
    subst e
    try dsimp only

theorem main_17 (n : Int) (hn : n.tmod 18 = 17) : Wc tree.getF 3 [.int .u8 n] noHeap fun v h => v = .bool true := by
  have hsz : szA 17 = 262143 := by decide +kernel
  refine Wc.mk' (fn := c3) (by kernel_rfl) rfl ?_
  refine W.assoc (W.assoc (W.assoc (W.assoc (W.assoc (W.seq (W.of_exec (f1 n) ?_))))))
  refine W.seq ?_
  refine W.reg ?_
  generalize e : stepR _ _ _ = r
  simp (disch := omega) [stepR, evalOps, evalOper, evalE, evalP, evalL, evalOpnd, nth, setNth, COp.cls, COp.isStore, CVal.isUndef, CVal.whole, CVal.cells, CHeap.put, CHeap.get, CHeap.set, wantedC, getEnt, setEnt, partOf, writeBack, evalBin, evalInt, blockMost, initVar, descOf, List.take, List.drop, CVal.lenOf, CVal.isStr, CVal.bare, CVal.strip, CVal.flat, endsC, resultsC, oneOrTuple, finishC, cut, fillCells, setCells, szOf, szOf_desc, elems, evalAppend, fillElems, mkElem, List.replicate, sy_nbeq, sy_neqF, sy_leT, sy_leF, sy_setEnt_setEnt, dropped, sy_wrap64, dropEnts, dropCells, hn, tm5, ents5] at e
  subst e
  try dsimp only
  refine W.assoc (W.seq (W.of_exec (f2_17 n) ?_))
  refine W.seq ?_
  refine W.region (Wo.upto 2 rfl ?_)
  generalize e : evalOps _ _ _ _ _ = r
  simp (disch := omega) [stepR, evalOps, evalOper, evalE, evalP, evalL, evalOpnd, nth, setNth, COp.cls, COp.isStore, CVal.isUndef, CVal.whole, CVal.cells, CHeap.put, CHeap.get, CHeap.set, wantedC, getEnt, setEnt, partOf, writeBack, evalBin, evalInt, blockMost, initVar, descOf, List.take, List.drop, CVal.lenOf, CVal.isStr, CVal.bare, CVal.strip, CVal.flat, endsC, resultsC, oneOrTuple, finishC, cut, fillCells, setCells, szOf, szOf_desc, elems, evalAppend, fillElems, mkElem, List.replicate, sy_nbeq, sy_neqF, sy_leT, sy_leF, sy_setEnt_setEnt, dropped, sy_wrap64, dropEnts, dropCells, st7, tid, ents5, noHeap] at e
  subst e
  try dsimp only
  refine Wo.call ?_
  refine value_top (tsK 17) 17 (chainK 17) (by omega) _ (by repeat (first | refine Under.cons (by dsimp only; omega) ?_ | exact Under.nil)) _ (fun hf n1 X hn1 hX => ⟨rfl, ?_⟩) (fun hf n1 hn1 => ⟨rfl, ?_⟩) <;> try dsimp only at hn1
  · exfalso; rw [hsz] at hf; omega
  · refine Wo.rest ?_
    generalize e : evalOps _ _ _ _ _ = r
    simp (disch := omega) [stepR, evalOps, evalOper, evalE, evalP, evalL, evalOpnd, nth, setNth, COp.cls, COp.isStore, CVal.isUndef, CVal.whole, CVal.cells, CHeap.put, CHeap.get, CHeap.set, wantedC, getEnt, setEnt, partOf, writeBack, evalBin, evalInt, blockMost, initVar, descOf, List.take, List.drop, CVal.lenOf, CVal.isStr, CVal.bare, CVal.strip, CVal.flat, endsC, resultsC, oneOrTuple, finishC, cut, fillCells, setCells, szOf, szOf_desc, elems, evalAppend, fillElems, mkElem, List.replicate, sy_nbeq, sy_neqF, sy_leT, sy_leF, sy_setEnt_setEnt, dropped, sy_wrap64, dropEnts, dropCells, st7, tid, ents5, noHeap] at e
    subst e
    try dsimp only
    refine W.seq ?_
    refine W.reg ?_
    generalize e : stepR _ _ _ = r
    simp (disch := omega) [stepR, evalOps, evalOper, evalE, evalP, evalL, evalOpnd, nth, setNth, COp.cls, COp.isStore, CVal.isUndef, CVal.whole, CVal.cells, CHeap.put, CHeap.get, CHeap.set, wantedC, getEnt, setEnt, partOf, writeBack, evalBin, evalInt, blockMost, initVar, descOf, List.take, List.drop, CVal.lenOf, CVal.isStr, CVal.bare, CVal.strip, CVal.flat, endsC, resultsC, oneOrTuple, finishC, cut, fillCells, setCells, szOf, szOf_desc, elems, evalAppend, fillElems, mkElem, List.replicate, sy_nbeq, sy_neqF, sy_leT, sy_leF, sy_setEnt_setEnt, dropped, sy_wrap64, dropEnts, dropCells, st7, tid, ents5, noHeap] at e
    subst e
    try dsimp only
    refine W.seq ?_
    refine W.reg ?_
    generalize e : stepR _ _ _ = r
    simp (disch := omega) [stepR, evalOps, evalOper, evalE, evalP, evalL, evalOpnd, nth, setNth, COp.cls, COp.isStore, CVal.isUndef, CVal.whole, CVal.cells, CHeap.put, CHeap.get, CHeap.set, wantedC, getEnt, setEnt, partOf, writeBack, evalBin, evalInt, blockMost, initVar, descOf, List.take, List.drop, CVal.lenOf, CVal.isStr, CVal.bare, CVal.strip, CVal.flat, endsC, resultsC, oneOrTuple, finishC, cut, fillCells, setCells, szOf, szOf_desc, elems, evalAppend, fillElems, mkElem, List.replicate, sy_nbeq, sy_neqF, sy_leT, sy_leF, sy_setEnt_setEnt, dropped, sy_wrap64, dropEnts, dropCells, st7, tid, ents5, noHeap] at e
    subst e
    try dsimp only
    refine W.ret (endW.intro rfl ?_)
    generalize e : endsC _ _ _ = r
    simp (disch := omega) [stepR, evalOps, evalOper, evalE, evalP, evalL, evalOpnd, nth, setNth, COp.cls, COp.isStore, CVal.isUndef, CVal.whole, CVal.cells, CHeap.put, CHeap.get, CHeap.set, wantedC, getEnt, setEnt, partOf, writeBack, evalBin, evalInt, blockMost, initVar, descOf, List.take, List.drop, CVal.lenOf, CVal.isStr, CVal.bare, CVal.strip, CVal.flat, endsC, resultsC, oneOrTuple, finishC, cut, fillCells, setCells, szOf, szOf_desc, elems, evalAppend, fillElems, mkElem, List.replicate, sy_nbeq, sy_neqF, sy_leT, sy_leF, sy_setEnt_setEnt, dropped, sy_wrap64, dropEnts, dropCells, c3, st7, tid, ents5, noHeap] at e
    subst e
    try dsimp only
end Go.Proofs.YtcehpodknbjimaaDoor.IrD
