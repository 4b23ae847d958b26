/- What the functions of the law 'JsonNumbers' do: part 8. -/
import Derived.Test.YtehdeihlahjglaaGreatDoorJnG
namespace Go.Proofs.YtehdeihlahjglaaGreatDoor.IrJ
open Go Go.CI
set_option maxRecDepth 100000
set_option linter.unusedVariables false
set_option linter.unusedSimpArgs false
attribute [local irreducible] W Wo Wc
/-- A digit's sign. -/
def ch (d : Nat) : UInt8 := if d < 10 then UInt8.ofNat (48 + d) else UInt8.ofNat (87 + d)
/-- A number's digits. -/
def digs (B x : Nat) (hB : 2 ≤ B) : List UInt8 := if h : x < B then [ch x] else digs B (x / B) hB ++ [ch (x % B)]
termination_by x
decreasing_by exact Nat.div_lt_self (by omega) (by omega)
theorem digs_small {B x : Nat} {hB : 2 ≤ B} (h : x < B) : digs B x hB = [ch x] := by rw [digs, dif_pos h]
theorem digs_great {B x : Nat} {hB : 2 ≤ B} (h : ¬ x < B) : digs B x hB = digs B (x / B) hB ++ [ch (x % B)] := by rw [digs, dif_neg h]
theorem ch_ok : ∀ d : Nat, d < 16 → (48 ≤ (ch d).toNat ∧ (ch d).toNat ≤ 57 ∨ 97 ≤ (ch d).toNat ∧ (ch d).toNat ≤ 102) ∧ dig (ch d) = d := by decide
theorem ch_okB {B d : Nat} (hB : B ≤ 16) (h : d < B) : okDig B (ch d) := ⟨(ch_ok d (by omega)).1, by rw [(ch_ok d (by omega)).2]; exact h⟩
theorem val_append (B : Nat) : ∀ (a b : List UInt8) (n : Nat), val B n (a ++ b) = val B (val B n a) b
  | [], b, n => rfl
  | c :: a, b, n => val_append B a b _
theorem digs_ne (B x : Nat) (hB : 2 ≤ B) : digs B x hB ≠ [] := by rw [digs]; split <;> simp
theorem digs_ok (B : Nat) (hB : 2 ≤ B) (hB2 : B ≤ 16) : ∀ x, ∀ c ∈ digs B x hB, okDig B c := by
  intro x
  induction x using Nat.strongRecOn with
  | _ x ih =>
    intro c hc
    by_cases h : x < B
    · rw [digs_small h] at hc
      simp at hc; subst hc
      exact ch_okB hB2 h
    · rw [digs_great h] at hc
      rcases List.mem_append.1 hc with h1 | h1
      · exact ih _ (Nat.div_lt_self (by omega) (by omega)) c h1
      · simp at h1; subst h1
        exact ch_okB hB2 (Nat.mod_lt _ (by omega))
theorem digs_val (B : Nat) (hB : 2 ≤ B) (hB2 : B ≤ 16) : ∀ x, val B 0 (digs B x hB) = x := by
  intro x
  induction x using Nat.strongRecOn with
  | _ x ih =>
    by_cases h : x < B
    · rw [digs_small h]
      show 0 * B + dig (ch x) = x
      rw [(ch_ok x (by omega)).2]; omega
    · rw [digs_great h, val_append, ih _ (Nat.div_lt_self (by omega) (by omega))]
      show x / B * B + dig (ch (x % B)) = x
      rw [(ch_ok (x % B) (by have := Nat.mod_lt x (show 0 < B by omega); omega)).2]
      exact Nat.div_add_mod' x B
theorem digs_head (B : Nat) (hB : 2 ≤ B) (hB2 : B ≤ 16) : ∀ x, 0 < x → ∀ r, digs B x hB ≠ 48 :: r := by
  intro x
  induction x using Nat.strongRecOn with
  | _ x ih =>
    intro hx r e
    by_cases h : x < B
    · rw [digs_small h] at e
      have h1 : ch x = 48 := (List.cons.inj e).1
      have h2 := (ch_ok x (by omega)).2
      rw [h1] at h2
      have : dig 48 = 0 := by decide
      omega
    · rw [digs_great h] at e
      have hd := ih (x / B) (Nat.div_lt_self (by omega) (by omega)) (Nat.div_pos (by omega) (by omega))
      cases hc : digs B (x / B) hB with
      | nil => exact digs_ne _ _ _ hc
      | cons c l =>
        rw [hc] at e
        have h1 : c = 48 := (List.cons.inj e).1
        exact hd l (by rw [hc, h1])
theorem digs_len (B : Nat) (hB : 2 ≤ B) : ∀ (n x : Nat), x < 2 ^ (n + 1) → (digs B x hB).length ≤ n + 1
  | 0, x, h => by rw [digs_small (by simp at h; omega)]; simp
  | n + 1, x, h => by
    by_cases hs : x < B
    · rw [digs_small hs]; simp
    · rw [digs_great hs]
      have h2 : x / B < 2 ^ (n + 1) := by
        rw [Nat.div_lt_iff_lt_mul (by omega)]
        have : 2 ^ (n + 1) * 2 ≤ 2 ^ (n + 1) * B := Nat.mul_le_mul_left _ hB
        rw [Nat.pow_succ] at h
        omega
      have := digs_len B hB n (x / B) h2
      simp; omega
theorem digs_len64 (B x : Nat) (hB : 2 ≤ B) (h : x < 18446744073709551616) : (digs B x hB).length ≤ 64 := digs_len B hB 63 x (by simpa using h)


theorem ch_low (d : Nat) (h : d < 10) : ch d = UInt8.ofNat (48 + d) := by unfold ch; rw [if_pos h]
abbrev plainLoop : CCode := (.loop true (.block 1 (.seq (.region [⟨.mv (.var 0), none⟩, ⟨.bin .rem (.loc 0) (.const (.int .u64 10)), none⟩, ⟨.bin .add (.const (.int .u64 48)) (.loc 0), none⟩, ⟨.conv .u8 (.loc 0), none⟩, ⟨.lit .imm false [(.int .u8 0)] 1 [(0, (.loc 0))], none⟩, ⟨.b2s (.loc 0), none⟩, ⟨.mv (.var 1), none⟩, ⟨.bin .add (.loc 1) (.loc 0), none⟩, ⟨.mv (.loc 0), none⟩] [(1, 8)] [] []) (.seq (.region [⟨.mv (.var 0), none⟩, ⟨.bin .quo (.loc 0) (.const (.int .u64 10)), none⟩, ⟨.mv (.loc 0), none⟩] [(0, 2)] [] []) (.seq (.region [⟨.mv (.var 0), none⟩, ⟨.bin .eql (.loc 0) (.const (.int .u64 0)), none⟩] [(2, 1)] [] []) (.cond (.var 2) (.seq (.region [⟨.mv (.var 1), none⟩, ⟨.mv (.loc 0), none⟩] [(3, 1)] [] []) .ret) .skip))))))
set_option maxHeartbeats 2000000 in
theorem plain_loop (v2 v3 : CVal) (Q : CExit → CSt → Prop) : ∀ (x : Nat), x < 18446744073709551616 → ∀ (t : List UInt8), t.length + (digs 10 x (by omega)).length ≤ 100 → ∀ (h : CHeap) (v2 v3 : CVal), Under h.ents h.next →
    (∀ n' w0 w1 w2, h.next ≤ n' → Q .ret ⟨[w0, w1, w2, .str (digs 10 x (by omega) ++ t)], { h with next := n' }, []⟩) →
    W tree.getF plainLoop ⟨[.int .u64 x, .str t, v2, v3], h, []⟩ Q := by
  intro x
  induction x using Nat.strongRecOn with
  | _ x ih =>
  intro hx t hlt h v2 v3 hu hq
  have hC : dropCells h.ents h.next = h.ents := dropCells_under hu
  obtain ⟨mm, hmm⟩ : ∃ mm, x % 10 = mm := ⟨_, rfl⟩
  obtain ⟨qq, hqq⟩ : ∃ qq, x / 10 = qq := ⟨_, rfl⟩
  have hm10 : mm < 10 := by omega
  have hm : (x : Int).tmod 10 = (mm : Int) := by rw [Int.tmod_eq_emod_of_nonneg (by omega)]; omega
  have hq0 : (x : Int).tdiv 10 = (qq : Int) := by rw [Int.tdiv_eq_ediv_of_nonneg (by omega)]; omega
  have hcm : UInt8.ofNat ((48 : Int) + (mm : Int)).toNat = ch mm := by
    rw [ch_low mm hm10, show ((48 : Int) + (mm : Int)).toNat = 48 + mm by omega]
  have hw8 : IntKind.u8.wrap (48 + (mm : Int)) = 48 + (mm : Int) := sy_wrapu8 (by omega) (by omega)
  have hwm : IntKind.u64.wrap (48 + (mm : Int)) = 48 + (mm : Int) := sy_wrapu64 (by omega) (by omega)
  have ht48 : ((48 : Int) + (mm : Int)).toNat = 48 + mm := by omega
  have hof : UInt8.ofNat (48 + mm) = ch mm := (ch_low mm hm10).symm
  have hof2 : (48 : UInt8) + UInt8.ofNat mm = ch mm := by rw [ch_low mm hm10, UInt8.ofNat_add]; rfl
  by_cases hs : x < 10
  · have hqz : qq = 0 := by omega
    have hmmx : mm = x := by omega
    have hdg : digs 10 x (by omega) = [ch mm] := by rw [digs_small hs, hmmx]
    rw [hdg] at hlt hq
    subst hqz
    have hl1 : t.length + 1 ≤ 100 := by simpa using hlt
    refine W.loop ?_
    repeat (first
      | refine W.seq ?_
      | refine W.block ?_
      | (refine W.reg ?_; generalize e : stepR _ _ _ = r; simp (disch := omega) [stepR, evalOps, evalOper, evalE, evalP, evalL, evalOpnd, nth, setNth, COp.cls, COp.isStore, CVal.isUndef, CVal.whole, CVal.cells, CHeap.put, CHeap.get, CHeap.set, wantedC, getEnt, setEnt, partOf, writeBack, evalBin, evalInt, evalStr, blockMost, initVar, descOf, List.take, List.drop, CVal.lenOf, CVal.isStr, CVal.bare, CVal.strip, CVal.flat, endsC, resultsC, oneOrTuple, finishC, cut, fillCells, setCells, szOf, szOf_desc, elems, bytesOf, evalAppend, fillElems, mkElem, List.replicate, sy_nbeq, sy_neqF, sy_leT, sy_leF, sy_setEnt_setEnt, dropped, sy_wrap64, dropEnts, dropCells, sizeMost, callAt, callAtG, sy_ibeqF, sy_ieqF, sy_ileT, sy_ileF, sy_iltT, sy_iltF, sy_ltT, sy_ltF, evalSlc, optBound, eqVal, hC, hm, hq0, hw8, hwm, ht48, hcm, hof2, sy_wrapu64] at e; replace e : some _ = _ := e; subst e; try dsimp only [callAt, callAtG, List.drop, List.take])
      | refine W.cond_true rfl ?_
      | refine W.cond_false rfl ?_
      | refine W.skip ?_
      | refine W.exit ?_
      | (refine W.region (Wo.next ?_); generalize e : evalOps _ _ _ _ _ = r; simp (disch := omega) [stepR, evalOps, evalOper, evalE, evalP, evalL, evalOpnd, nth, setNth, COp.cls, COp.isStore, CVal.isUndef, CVal.whole, CVal.cells, CHeap.put, CHeap.get, CHeap.set, wantedC, getEnt, setEnt, partOf, writeBack, evalBin, evalInt, evalStr, blockMost, initVar, descOf, List.take, List.drop, CVal.lenOf, CVal.isStr, CVal.bare, CVal.strip, CVal.flat, endsC, resultsC, oneOrTuple, finishC, cut, fillCells, setCells, szOf, szOf_desc, elems, bytesOf, evalAppend, fillElems, mkElem, List.replicate, sy_nbeq, sy_neqF, sy_leT, sy_leF, sy_setEnt_setEnt, dropped, sy_wrap64, dropEnts, dropCells, sizeMost, callAt, callAtG, sy_ibeqF, sy_ieqF, sy_ileT, sy_ileF, sy_iltT, sy_iltF, sy_ltT, sy_ltF, evalSlc, optBound, eqVal, hC, hm, hq0, hw8, hwm, ht48, hcm, hof2, sy_wrapu64] at e; replace e : some _ = _ := e; subst e; try dsimp only [callAt, callAtG, List.drop, List.take]; refine Wo.call ?_)
      | (refine W.regionC (Wo.next ?_); generalize e : evalOps _ _ _ _ _ = r; simp (disch := omega) [stepR, evalOps, evalOper, evalE, evalP, evalL, evalOpnd, nth, setNth, COp.cls, COp.isStore, CVal.isUndef, CVal.whole, CVal.cells, CHeap.put, CHeap.get, CHeap.set, wantedC, getEnt, setEnt, partOf, writeBack, evalBin, evalInt, evalStr, blockMost, initVar, descOf, List.take, List.drop, CVal.lenOf, CVal.isStr, CVal.bare, CVal.strip, CVal.flat, endsC, resultsC, oneOrTuple, finishC, cut, fillCells, setCells, szOf, szOf_desc, elems, bytesOf, evalAppend, fillElems, mkElem, List.replicate, sy_nbeq, sy_neqF, sy_leT, sy_leF, sy_setEnt_setEnt, dropped, sy_wrap64, dropEnts, dropCells, sizeMost, callAt, callAtG, sy_ibeqF, sy_ieqF, sy_ileT, sy_ileF, sy_iltT, sy_iltF, sy_ltT, sy_ltF, evalSlc, optBound, eqVal, hC, hm, hq0, hw8, hwm, ht48, hcm, hof2, sy_wrapu64] at e; replace e : some _ = _ := e; subst e; try dsimp only [callAt, callAtG, List.drop, List.take]; refine Wo.call ?_)
      | (refine Wo.rest ?_; generalize e : evalOps _ _ _ _ _ = r; simp (disch := omega) [stepR, evalOps, evalOper, evalE, evalP, evalL, evalOpnd, nth, setNth, COp.cls, COp.isStore, CVal.isUndef, CVal.whole, CVal.cells, CHeap.put, CHeap.get, CHeap.set, wantedC, getEnt, setEnt, partOf, writeBack, evalBin, evalInt, evalStr, blockMost, initVar, descOf, List.take, List.drop, CVal.lenOf, CVal.isStr, CVal.bare, CVal.strip, CVal.flat, endsC, resultsC, oneOrTuple, finishC, cut, fillCells, setCells, szOf, szOf_desc, elems, bytesOf, evalAppend, fillElems, mkElem, List.replicate, sy_nbeq, sy_neqF, sy_leT, sy_leF, sy_setEnt_setEnt, dropped, sy_wrap64, dropEnts, dropCells, sizeMost, callAt, callAtG, sy_ibeqF, sy_ieqF, sy_ileT, sy_ileF, sy_iltT, sy_iltF, sy_ltT, sy_ltF, evalSlc, optBound, eqVal, hC, hm, hq0, hw8, hwm, ht48, hcm, hof2, sy_wrapu64] at e; replace e : some _ = _ := e; subst e; try dsimp only [callAt, callAtG, List.drop, List.take])
      | (refine Wo.next ?_; generalize e : evalOps _ _ _ _ _ = r; simp (disch := omega) [stepR, evalOps, evalOper, evalE, evalP, evalL, evalOpnd, nth, setNth, COp.cls, COp.isStore, CVal.isUndef, CVal.whole, CVal.cells, CHeap.put, CHeap.get, CHeap.set, wantedC, getEnt, setEnt, partOf, writeBack, evalBin, evalInt, evalStr, blockMost, initVar, descOf, List.take, List.drop, CVal.lenOf, CVal.isStr, CVal.bare, CVal.strip, CVal.flat, endsC, resultsC, oneOrTuple, finishC, cut, fillCells, setCells, szOf, szOf_desc, elems, bytesOf, evalAppend, fillElems, mkElem, List.replicate, sy_nbeq, sy_neqF, sy_leT, sy_leF, sy_setEnt_setEnt, dropped, sy_wrap64, dropEnts, dropCells, sizeMost, callAt, callAtG, sy_ibeqF, sy_ieqF, sy_ileT, sy_ileF, sy_iltT, sy_iltF, sy_ltT, sy_ltF, evalSlc, optBound, eqVal, hC, hm, hq0, hw8, hwm, ht48, hcm, hof2, sy_wrapu64] at e; replace e : some _ = _ := e; subst e; try dsimp only [callAt, callAtG, List.drop, List.take]; refine Wo.call ?_))
    refine W.ret ?_
    refine hq _ _ _ _ ?_
    omega
  · have hqz : 0 < qq := by omega
    have hdg : digs 10 x (by omega) = digs 10 qq (by omega) ++ [ch mm] := by rw [digs_great hs, hqq, hmm]
    rw [hdg] at hlt hq
    have hl1 : t.length + (digs 10 qq (by omega)).length + 1 ≤ 100 := by simp at hlt; omega
    have hqn : ¬ ((qq : Int) = 0) := by omega
    refine W.loop ?_
    repeat (first
      | refine W.seq ?_
      | refine W.block ?_
      | (refine W.reg ?_; generalize e : stepR _ _ _ = r; simp (disch := omega) [stepR, evalOps, evalOper, evalE, evalP, evalL, evalOpnd, nth, setNth, COp.cls, COp.isStore, CVal.isUndef, CVal.whole, CVal.cells, CHeap.put, CHeap.get, CHeap.set, wantedC, getEnt, setEnt, partOf, writeBack, evalBin, evalInt, evalStr, blockMost, initVar, descOf, List.take, List.drop, CVal.lenOf, CVal.isStr, CVal.bare, CVal.strip, CVal.flat, endsC, resultsC, oneOrTuple, finishC, cut, fillCells, setCells, szOf, szOf_desc, elems, bytesOf, evalAppend, fillElems, mkElem, List.replicate, sy_nbeq, sy_neqF, sy_leT, sy_leF, sy_setEnt_setEnt, dropped, sy_wrap64, dropEnts, dropCells, sizeMost, callAt, callAtG, sy_ibeqF, sy_ieqF, sy_ileT, sy_ileF, sy_iltT, sy_iltF, sy_ltT, sy_ltF, evalSlc, optBound, eqVal, hC, hm, hq0, hw8, hwm, ht48, hcm, hof2, sy_wrapu64, hqn] at e; replace e : some _ = _ := e; subst e; try dsimp only [callAt, callAtG, List.drop, List.take])
      | refine W.cond_true rfl ?_
      | refine W.cond_false rfl ?_
      | refine W.skip ?_
      | refine W.exit ?_
      | (refine W.region (Wo.next ?_); generalize e : evalOps _ _ _ _ _ = r; simp (disch := omega) [stepR, evalOps, evalOper, evalE, evalP, evalL, evalOpnd, nth, setNth, COp.cls, COp.isStore, CVal.isUndef, CVal.whole, CVal.cells, CHeap.put, CHeap.get, CHeap.set, wantedC, getEnt, setEnt, partOf, writeBack, evalBin, evalInt, evalStr, blockMost, initVar, descOf, List.take, List.drop, CVal.lenOf, CVal.isStr, CVal.bare, CVal.strip, CVal.flat, endsC, resultsC, oneOrTuple, finishC, cut, fillCells, setCells, szOf, szOf_desc, elems, bytesOf, evalAppend, fillElems, mkElem, List.replicate, sy_nbeq, sy_neqF, sy_leT, sy_leF, sy_setEnt_setEnt, dropped, sy_wrap64, dropEnts, dropCells, sizeMost, callAt, callAtG, sy_ibeqF, sy_ieqF, sy_ileT, sy_ileF, sy_iltT, sy_iltF, sy_ltT, sy_ltF, evalSlc, optBound, eqVal, hC, hm, hq0, hw8, hwm, ht48, hcm, hof2, sy_wrapu64, hqn] at e; replace e : some _ = _ := e; subst e; try dsimp only [callAt, callAtG, List.drop, List.take]; refine Wo.call ?_)
      | (refine W.regionC (Wo.next ?_); generalize e : evalOps _ _ _ _ _ = r; simp (disch := omega) [stepR, evalOps, evalOper, evalE, evalP, evalL, evalOpnd, nth, setNth, COp.cls, COp.isStore, CVal.isUndef, CVal.whole, CVal.cells, CHeap.put, CHeap.get, CHeap.set, wantedC, getEnt, setEnt, partOf, writeBack, evalBin, evalInt, evalStr, blockMost, initVar, descOf, List.take, List.drop, CVal.lenOf, CVal.isStr, CVal.bare, CVal.strip, CVal.flat, endsC, resultsC, oneOrTuple, finishC, cut, fillCells, setCells, szOf, szOf_desc, elems, bytesOf, evalAppend, fillElems, mkElem, List.replicate, sy_nbeq, sy_neqF, sy_leT, sy_leF, sy_setEnt_setEnt, dropped, sy_wrap64, dropEnts, dropCells, sizeMost, callAt, callAtG, sy_ibeqF, sy_ieqF, sy_ileT, sy_ileF, sy_iltT, sy_iltF, sy_ltT, sy_ltF, evalSlc, optBound, eqVal, hC, hm, hq0, hw8, hwm, ht48, hcm, hof2, sy_wrapu64, hqn] at e; replace e : some _ = _ := e; subst e; try dsimp only [callAt, callAtG, List.drop, List.take]; refine Wo.call ?_)
      | (refine Wo.rest ?_; generalize e : evalOps _ _ _ _ _ = r; simp (disch := omega) [stepR, evalOps, evalOper, evalE, evalP, evalL, evalOpnd, nth, setNth, COp.cls, COp.isStore, CVal.isUndef, CVal.whole, CVal.cells, CHeap.put, CHeap.get, CHeap.set, wantedC, getEnt, setEnt, partOf, writeBack, evalBin, evalInt, evalStr, blockMost, initVar, descOf, List.take, List.drop, CVal.lenOf, CVal.isStr, CVal.bare, CVal.strip, CVal.flat, endsC, resultsC, oneOrTuple, finishC, cut, fillCells, setCells, szOf, szOf_desc, elems, bytesOf, evalAppend, fillElems, mkElem, List.replicate, sy_nbeq, sy_neqF, sy_leT, sy_leF, sy_setEnt_setEnt, dropped, sy_wrap64, dropEnts, dropCells, sizeMost, callAt, callAtG, sy_ibeqF, sy_ieqF, sy_ileT, sy_ileF, sy_iltT, sy_iltF, sy_ltT, sy_ltF, evalSlc, optBound, eqVal, hC, hm, hq0, hw8, hwm, ht48, hcm, hof2, sy_wrapu64, hqn] at e; replace e : some _ = _ := e; subst e; try dsimp only [callAt, callAtG, List.drop, List.take])
      | (refine Wo.next ?_; generalize e : evalOps _ _ _ _ _ = r; simp (disch := omega) [stepR, evalOps, evalOper, evalE, evalP, evalL, evalOpnd, nth, setNth, COp.cls, COp.isStore, CVal.isUndef, CVal.whole, CVal.cells, CHeap.put, CHeap.get, CHeap.set, wantedC, getEnt, setEnt, partOf, writeBack, evalBin, evalInt, evalStr, blockMost, initVar, descOf, List.take, List.drop, CVal.lenOf, CVal.isStr, CVal.bare, CVal.strip, CVal.flat, endsC, resultsC, oneOrTuple, finishC, cut, fillCells, setCells, szOf, szOf_desc, elems, bytesOf, evalAppend, fillElems, mkElem, List.replicate, sy_nbeq, sy_neqF, sy_leT, sy_leF, sy_setEnt_setEnt, dropped, sy_wrap64, dropEnts, dropCells, sizeMost, callAt, callAtG, sy_ibeqF, sy_ieqF, sy_ileT, sy_ileF, sy_iltT, sy_iltF, sy_ltT, sy_ltF, evalSlc, optBound, eqVal, hC, hm, hq0, hw8, hwm, ht48, hcm, hof2, sy_wrapu64, hqn] at e; replace e : some _ = _ := e; subst e; try dsimp only [callAt, callAtG, List.drop, List.take]; refine Wo.call ?_))
    show W tree.getF plainLoop (dropped true _ _) Q
    generalize e : dropped _ _ _ = r
    simp (disch := omega) [stepR, evalOps, evalOper, evalE, evalP, evalL, evalOpnd, nth, setNth, COp.cls, COp.isStore, CVal.isUndef, CVal.whole, CVal.cells, CHeap.put, CHeap.get, CHeap.set, wantedC, getEnt, setEnt, partOf, writeBack, evalBin, evalInt, evalStr, blockMost, initVar, descOf, List.take, List.drop, CVal.lenOf, CVal.isStr, CVal.bare, CVal.strip, CVal.flat, endsC, resultsC, oneOrTuple, finishC, cut, fillCells, setCells, szOf, szOf_desc, elems, bytesOf, evalAppend, fillElems, mkElem, List.replicate, sy_nbeq, sy_neqF, sy_leT, sy_leF, sy_setEnt_setEnt, dropped, sy_wrap64, dropEnts, dropCells, sizeMost, hC, hm, hq0, hw8, hwm, ht48, hcm, hof2, sy_wrapu64] at e
    subst e
    try dsimp only
    refine ih qq (by omega) (by omega) (ch mm :: t) (by simp; omega) _ _ _ (by exact hu.le (by (try dsimp only); omega)) fun n' w0 w1 w2 hn' => ?_
    have := hq n' w0 w1 w2 (by dsimp only at hn'; omega)
    rw [List.append_assoc] at this
    exact this

theorem plain_spec (x : Nat) (hx : x < 18446744073709551616) (h : CHeap) (hu : Under h.ents h.next) (K : CVal → CHeap → Prop) (hk : ∀ n', h.next ≤ n' → K (.str (digs 10 x (by omega))) { h with next := n' }) : Wc tree.getF 25 [.int .u64 x] h K := by
  have hD := dropEnts_under hu
  have hl := digs_len64 10 x (by omega) hx
  refine Wc.mk' (fn := c25) (by kernel_rfl) rfl ?_
  repeat (first
    | refine W.seq ?_
    | refine W.block ?_
    | (refine W.reg ?_; generalize e : stepR _ _ _ = r; simp (disch := omega) [stepR, evalOps, evalOper, evalE, evalP, evalL, evalOpnd, nth, setNth, COp.cls, COp.isStore, CVal.isUndef, CVal.whole, CVal.cells, CHeap.put, CHeap.get, CHeap.set, wantedC, getEnt, setEnt, partOf, writeBack, evalBin, evalInt, evalStr, blockMost, initVar, descOf, List.take, List.drop, CVal.lenOf, CVal.isStr, CVal.bare, CVal.strip, CVal.flat, endsC, resultsC, oneOrTuple, finishC, cut, fillCells, setCells, szOf, szOf_desc, elems, bytesOf, evalAppend, fillElems, mkElem, List.replicate, sy_nbeq, sy_neqF, sy_leT, sy_leF, sy_setEnt_setEnt, dropped, sy_wrap64, dropEnts, dropCells, sizeMost, callAt, callAtG, sy_ibeqF, sy_ieqF, sy_ileT, sy_ileF, sy_iltT, sy_iltF, sy_ltT, sy_ltF, evalSlc, optBound, eqVal, c25, hD] at e; replace e : some _ = _ := e; subst e; try dsimp only [callAt, callAtG, List.drop, List.take])
    | refine W.cond_true rfl ?_
    | refine W.cond_false rfl ?_
    | refine W.skip ?_
    | refine W.exit ?_
    | (refine W.region (Wo.next ?_); generalize e : evalOps _ _ _ _ _ = r; simp (disch := omega) [stepR, evalOps, evalOper, evalE, evalP, evalL, evalOpnd, nth, setNth, COp.cls, COp.isStore, CVal.isUndef, CVal.whole, CVal.cells, CHeap.put, CHeap.get, CHeap.set, wantedC, getEnt, setEnt, partOf, writeBack, evalBin, evalInt, evalStr, blockMost, initVar, descOf, List.take, List.drop, CVal.lenOf, CVal.isStr, CVal.bare, CVal.strip, CVal.flat, endsC, resultsC, oneOrTuple, finishC, cut, fillCells, setCells, szOf, szOf_desc, elems, bytesOf, evalAppend, fillElems, mkElem, List.replicate, sy_nbeq, sy_neqF, sy_leT, sy_leF, sy_setEnt_setEnt, dropped, sy_wrap64, dropEnts, dropCells, sizeMost, callAt, callAtG, sy_ibeqF, sy_ieqF, sy_ileT, sy_ileF, sy_iltT, sy_iltF, sy_ltT, sy_ltF, evalSlc, optBound, eqVal, c25, hD] at e; replace e : some _ = _ := e; subst e; try dsimp only [callAt, callAtG, List.drop, List.take]; refine Wo.call ?_)
    | (refine W.regionC (Wo.next ?_); generalize e : evalOps _ _ _ _ _ = r; simp (disch := omega) [stepR, evalOps, evalOper, evalE, evalP, evalL, evalOpnd, nth, setNth, COp.cls, COp.isStore, CVal.isUndef, CVal.whole, CVal.cells, CHeap.put, CHeap.get, CHeap.set, wantedC, getEnt, setEnt, partOf, writeBack, evalBin, evalInt, evalStr, blockMost, initVar, descOf, List.take, List.drop, CVal.lenOf, CVal.isStr, CVal.bare, CVal.strip, CVal.flat, endsC, resultsC, oneOrTuple, finishC, cut, fillCells, setCells, szOf, szOf_desc, elems, bytesOf, evalAppend, fillElems, mkElem, List.replicate, sy_nbeq, sy_neqF, sy_leT, sy_leF, sy_setEnt_setEnt, dropped, sy_wrap64, dropEnts, dropCells, sizeMost, callAt, callAtG, sy_ibeqF, sy_ieqF, sy_ileT, sy_ileF, sy_iltT, sy_iltF, sy_ltT, sy_ltF, evalSlc, optBound, eqVal, c25, hD] at e; replace e : some _ = _ := e; subst e; try dsimp only [callAt, callAtG, List.drop, List.take]; refine Wo.call ?_)
    | (refine Wo.rest ?_; generalize e : evalOps _ _ _ _ _ = r; simp (disch := omega) [stepR, evalOps, evalOper, evalE, evalP, evalL, evalOpnd, nth, setNth, COp.cls, COp.isStore, CVal.isUndef, CVal.whole, CVal.cells, CHeap.put, CHeap.get, CHeap.set, wantedC, getEnt, setEnt, partOf, writeBack, evalBin, evalInt, evalStr, blockMost, initVar, descOf, List.take, List.drop, CVal.lenOf, CVal.isStr, CVal.bare, CVal.strip, CVal.flat, endsC, resultsC, oneOrTuple, finishC, cut, fillCells, setCells, szOf, szOf_desc, elems, bytesOf, evalAppend, fillElems, mkElem, List.replicate, sy_nbeq, sy_neqF, sy_leT, sy_leF, sy_setEnt_setEnt, dropped, sy_wrap64, dropEnts, dropCells, sizeMost, callAt, callAtG, sy_ibeqF, sy_ieqF, sy_ileT, sy_ileF, sy_iltT, sy_iltF, sy_ltT, sy_ltF, evalSlc, optBound, eqVal, c25, hD] at e; replace e : some _ = _ := e; subst e; try dsimp only [callAt, callAtG, List.drop, List.take])
    | (refine Wo.next ?_; generalize e : evalOps _ _ _ _ _ = r; simp (disch := omega) [stepR, evalOps, evalOper, evalE, evalP, evalL, evalOpnd, nth, setNth, COp.cls, COp.isStore, CVal.isUndef, CVal.whole, CVal.cells, CHeap.put, CHeap.get, CHeap.set, wantedC, getEnt, setEnt, partOf, writeBack, evalBin, evalInt, evalStr, blockMost, initVar, descOf, List.take, List.drop, CVal.lenOf, CVal.isStr, CVal.bare, CVal.strip, CVal.flat, endsC, resultsC, oneOrTuple, finishC, cut, fillCells, setCells, szOf, szOf_desc, elems, bytesOf, evalAppend, fillElems, mkElem, List.replicate, sy_nbeq, sy_neqF, sy_leT, sy_leF, sy_setEnt_setEnt, dropped, sy_wrap64, dropEnts, dropCells, sizeMost, callAt, callAtG, sy_ibeqF, sy_ieqF, sy_ileT, sy_ileF, sy_iltT, sy_iltF, sy_ltT, sy_ltF, evalSlc, optBound, eqVal, c25, hD] at e; replace e : some _ = _ := e; subst e; try dsimp only [callAt, callAtG, List.drop, List.take]; refine Wo.call ?_))
  refine plain_loop .undef .undef _ x hx [] (by simp; omega) _ _ _ (by repeat (first | exact hu.le (by (try dsimp only); omega) | exact hu.set.le (by (try dsimp only); omega) | refine Under.cons (by (try dsimp only); omega) ?_ | exact Under.nil)) fun n1 w0 w1 w2 hn1 => ?_
  try dsimp only at hn1
  show endW c25 h.next K .ret _
  refine endW.intro rfl ?_
  generalize e : endsC _ _ _ = r
  simp (disch := omega) [stepR, evalOps, evalOper, evalE, evalP, evalL, evalOpnd, nth, setNth, COp.cls, COp.isStore, CVal.isUndef, CVal.whole, CVal.cells, CHeap.put, CHeap.get, CHeap.set, wantedC, getEnt, setEnt, partOf, writeBack, evalBin, evalInt, evalStr, blockMost, initVar, descOf, List.take, List.drop, CVal.lenOf, CVal.isStr, CVal.bare, CVal.strip, CVal.flat, endsC, resultsC, oneOrTuple, finishC, cut, fillCells, setCells, szOf, szOf_desc, elems, bytesOf, evalAppend, fillElems, mkElem, List.replicate, sy_nbeq, sy_neqF, sy_leT, sy_leF, sy_setEnt_setEnt, dropped, sy_wrap64, dropEnts, dropCells, sizeMost, c25, hD, List.append_nil] at e
  subst e
  try dsimp only
  refine hk _ ?_; omega

theorem tens_pos (x : Nat) (hx : x < 9223372036854775808) (h : CHeap) (hu : Under h.ents h.next) (K : CVal → CHeap → Prop) (hk : ∀ n', h.next ≤ n' → K (.str (digs 10 x (by omega))) { h with next := n' }) : Wc tree.getF 11 [.int .i64 x] h K := by
  have hD := dropEnts_under hu
  refine Wc.mk' (fn := c11) (by kernel_rfl) rfl ?_
  repeat (first
    | refine W.seq ?_
    | refine W.block ?_
    | (refine W.reg ?_; generalize e : stepR _ _ _ = r; simp (disch := omega) [stepR, evalOps, evalOper, evalE, evalP, evalL, evalOpnd, nth, setNth, COp.cls, COp.isStore, CVal.isUndef, CVal.whole, CVal.cells, CHeap.put, CHeap.get, CHeap.set, wantedC, getEnt, setEnt, partOf, writeBack, evalBin, evalInt, evalStr, blockMost, initVar, descOf, List.take, List.drop, CVal.lenOf, CVal.isStr, CVal.bare, CVal.strip, CVal.flat, endsC, resultsC, oneOrTuple, finishC, cut, fillCells, setCells, szOf, szOf_desc, elems, bytesOf, evalAppend, fillElems, mkElem, List.replicate, sy_nbeq, sy_neqF, sy_leT, sy_leF, sy_setEnt_setEnt, dropped, sy_wrap64, dropEnts, dropCells, sizeMost, callAt, callAtG, sy_ibeqF, sy_ieqF, sy_ileT, sy_ileF, sy_iltT, sy_iltF, sy_ltT, sy_ltF, evalSlc, optBound, eqVal, c11, hD, sy_wrapu64] at e; replace e : some _ = _ := e; subst e; try dsimp only [callAt, callAtG, List.drop, List.take])
    | refine W.cond_true rfl ?_
    | refine W.cond_false rfl ?_
    | refine W.skip ?_
    | refine W.exit ?_
    | (refine W.region (Wo.next ?_); generalize e : evalOps _ _ _ _ _ = r; simp (disch := omega) [stepR, evalOps, evalOper, evalE, evalP, evalL, evalOpnd, nth, setNth, COp.cls, COp.isStore, CVal.isUndef, CVal.whole, CVal.cells, CHeap.put, CHeap.get, CHeap.set, wantedC, getEnt, setEnt, partOf, writeBack, evalBin, evalInt, evalStr, blockMost, initVar, descOf, List.take, List.drop, CVal.lenOf, CVal.isStr, CVal.bare, CVal.strip, CVal.flat, endsC, resultsC, oneOrTuple, finishC, cut, fillCells, setCells, szOf, szOf_desc, elems, bytesOf, evalAppend, fillElems, mkElem, List.replicate, sy_nbeq, sy_neqF, sy_leT, sy_leF, sy_setEnt_setEnt, dropped, sy_wrap64, dropEnts, dropCells, sizeMost, callAt, callAtG, sy_ibeqF, sy_ieqF, sy_ileT, sy_ileF, sy_iltT, sy_iltF, sy_ltT, sy_ltF, evalSlc, optBound, eqVal, c11, hD, sy_wrapu64] at e; replace e : some _ = _ := e; subst e; try dsimp only [callAt, callAtG, List.drop, List.take]; refine Wo.call ?_)
    | (refine W.regionC (Wo.next ?_); generalize e : evalOps _ _ _ _ _ = r; simp (disch := omega) [stepR, evalOps, evalOper, evalE, evalP, evalL, evalOpnd, nth, setNth, COp.cls, COp.isStore, CVal.isUndef, CVal.whole, CVal.cells, CHeap.put, CHeap.get, CHeap.set, wantedC, getEnt, setEnt, partOf, writeBack, evalBin, evalInt, evalStr, blockMost, initVar, descOf, List.take, List.drop, CVal.lenOf, CVal.isStr, CVal.bare, CVal.strip, CVal.flat, endsC, resultsC, oneOrTuple, finishC, cut, fillCells, setCells, szOf, szOf_desc, elems, bytesOf, evalAppend, fillElems, mkElem, List.replicate, sy_nbeq, sy_neqF, sy_leT, sy_leF, sy_setEnt_setEnt, dropped, sy_wrap64, dropEnts, dropCells, sizeMost, callAt, callAtG, sy_ibeqF, sy_ieqF, sy_ileT, sy_ileF, sy_iltT, sy_iltF, sy_ltT, sy_ltF, evalSlc, optBound, eqVal, c11, hD, sy_wrapu64] at e; replace e : some _ = _ := e; subst e; try dsimp only [callAt, callAtG, List.drop, List.take]; refine Wo.call ?_)
    | (refine Wo.rest ?_; generalize e : evalOps _ _ _ _ _ = r; simp (disch := omega) [stepR, evalOps, evalOper, evalE, evalP, evalL, evalOpnd, nth, setNth, COp.cls, COp.isStore, CVal.isUndef, CVal.whole, CVal.cells, CHeap.put, CHeap.get, CHeap.set, wantedC, getEnt, setEnt, partOf, writeBack, evalBin, evalInt, evalStr, blockMost, initVar, descOf, List.take, List.drop, CVal.lenOf, CVal.isStr, CVal.bare, CVal.strip, CVal.flat, endsC, resultsC, oneOrTuple, finishC, cut, fillCells, setCells, szOf, szOf_desc, elems, bytesOf, evalAppend, fillElems, mkElem, List.replicate, sy_nbeq, sy_neqF, sy_leT, sy_leF, sy_setEnt_setEnt, dropped, sy_wrap64, dropEnts, dropCells, sizeMost, callAt, callAtG, sy_ibeqF, sy_ieqF, sy_ileT, sy_ileF, sy_iltT, sy_iltF, sy_ltT, sy_ltF, evalSlc, optBound, eqVal, c11, hD, sy_wrapu64] at e; replace e : some _ = _ := e; subst e; try dsimp only [callAt, callAtG, List.drop, List.take])
    | (refine Wo.next ?_; generalize e : evalOps _ _ _ _ _ = r; simp (disch := omega) [stepR, evalOps, evalOper, evalE, evalP, evalL, evalOpnd, nth, setNth, COp.cls, COp.isStore, CVal.isUndef, CVal.whole, CVal.cells, CHeap.put, CHeap.get, CHeap.set, wantedC, getEnt, setEnt, partOf, writeBack, evalBin, evalInt, evalStr, blockMost, initVar, descOf, List.take, List.drop, CVal.lenOf, CVal.isStr, CVal.bare, CVal.strip, CVal.flat, endsC, resultsC, oneOrTuple, finishC, cut, fillCells, setCells, szOf, szOf_desc, elems, bytesOf, evalAppend, fillElems, mkElem, List.replicate, sy_nbeq, sy_neqF, sy_leT, sy_leF, sy_setEnt_setEnt, dropped, sy_wrap64, dropEnts, dropCells, sizeMost, callAt, callAtG, sy_ibeqF, sy_ieqF, sy_ileT, sy_ileF, sy_iltT, sy_iltF, sy_ltT, sy_ltF, evalSlc, optBound, eqVal, c11, hD, sy_wrapu64] at e; replace e : some _ = _ := e; subst e; try dsimp only [callAt, callAtG, List.drop, List.take]; refine Wo.call ?_)
    | (refine plain_spec x (by omega) _ (by repeat (first | exact hu.le (by (try dsimp only); omega) | exact hu.set.le (by (try dsimp only); omega) | refine Under.cons (by (try dsimp only); omega) ?_ | exact Under.nil)) _ fun n1 hn1 => ⟨rfl, ?_⟩; try dsimp only at hn1))
  refine W.ret ?_
  try simp only [outOf, thenW_ret]
  refine endW.intro rfl ?_
  generalize e : endsC _ _ _ = r
  simp (disch := omega) [stepR, evalOps, evalOper, evalE, evalP, evalL, evalOpnd, nth, setNth, COp.cls, COp.isStore, CVal.isUndef, CVal.whole, CVal.cells, CHeap.put, CHeap.get, CHeap.set, wantedC, getEnt, setEnt, partOf, writeBack, evalBin, evalInt, evalStr, blockMost, initVar, descOf, List.take, List.drop, CVal.lenOf, CVal.isStr, CVal.bare, CVal.strip, CVal.flat, endsC, resultsC, oneOrTuple, finishC, cut, fillCells, setCells, szOf, szOf_desc, elems, bytesOf, evalAppend, fillElems, mkElem, List.replicate, sy_nbeq, sy_neqF, sy_leT, sy_leF, sy_setEnt_setEnt, dropped, sy_wrap64, dropEnts, dropCells, sizeMost, c11, hD] at e
  subst e
  try dsimp only
  refine hk _ ?_; omega

theorem tens_neg (y : Int) (x : Nat) (hx : x ≤ 9223372036854775808) (hx1 : 1 ≤ x) (hy : y = -(x : Int)) (h : CHeap) (hu : Under h.ents h.next) (K : CVal → CHeap → Prop) (hk : ∀ n', h.next ≤ n' → K (.str (45 :: digs 10 x (by omega))) { h with next := n' }) : Wc tree.getF 11 [.int .i64 y] h K := by
  have hD := dropEnts_under hu
  have hl := digs_len64 10 x (by omega) (by omega)
  have hy0 : y < 0 := by omega
  have w1 : IntKind.i64.wrap (y + 1) = y + 1 := wrap_full (by omega) (by omega)
  obtain ⟨z, hz⟩ : ∃ z, -(y + 1) = z := ⟨_, rfl⟩
  have w2 : IntKind.i64.wrap z = z := wrap_full (by omega) (by omega)
  have e3 : z + 1 = (x : Int) := by omega
  have w3 : IntKind.u64.wrap (x : Int) = x := sy_wrapu64 (by omega) (by omega)
  have w4 : IntKind.u64.wrap z = z := sy_wrapu64 (by omega) (by omega)
  refine Wc.mk' (fn := c11) (by kernel_rfl) rfl ?_
  repeat (first
    | refine W.seq ?_
    | refine W.block ?_
    | (refine W.reg ?_; generalize e : stepR _ _ _ = r; simp (disch := omega) [stepR, evalOps, evalOper, evalE, evalP, evalL, evalOpnd, nth, setNth, COp.cls, COp.isStore, CVal.isUndef, CVal.whole, CVal.cells, CHeap.put, CHeap.get, CHeap.set, wantedC, getEnt, setEnt, partOf, writeBack, evalBin, evalInt, evalStr, blockMost, initVar, descOf, List.take, List.drop, CVal.lenOf, CVal.isStr, CVal.bare, CVal.strip, CVal.flat, endsC, resultsC, oneOrTuple, finishC, cut, fillCells, setCells, szOf, szOf_desc, elems, bytesOf, evalAppend, fillElems, mkElem, List.replicate, sy_nbeq, sy_neqF, sy_leT, sy_leF, sy_setEnt_setEnt, dropped, sy_wrap64, dropEnts, dropCells, sizeMost, callAt, callAtG, sy_ibeqF, sy_ieqF, sy_ileT, sy_ileF, sy_iltT, sy_iltF, sy_ltT, sy_ltF, evalSlc, optBound, eqVal, c11, hD, w1, hz, w2, e3, w3, w4] at e; replace e : some _ = _ := e; subst e; try dsimp only [callAt, callAtG, List.drop, List.take])
    | refine W.cond_true rfl ?_
    | refine W.cond_false rfl ?_
    | refine W.skip ?_
    | refine W.exit ?_
    | (refine W.region (Wo.next ?_); generalize e : evalOps _ _ _ _ _ = r; simp (disch := omega) [stepR, evalOps, evalOper, evalE, evalP, evalL, evalOpnd, nth, setNth, COp.cls, COp.isStore, CVal.isUndef, CVal.whole, CVal.cells, CHeap.put, CHeap.get, CHeap.set, wantedC, getEnt, setEnt, partOf, writeBack, evalBin, evalInt, evalStr, blockMost, initVar, descOf, List.take, List.drop, CVal.lenOf, CVal.isStr, CVal.bare, CVal.strip, CVal.flat, endsC, resultsC, oneOrTuple, finishC, cut, fillCells, setCells, szOf, szOf_desc, elems, bytesOf, evalAppend, fillElems, mkElem, List.replicate, sy_nbeq, sy_neqF, sy_leT, sy_leF, sy_setEnt_setEnt, dropped, sy_wrap64, dropEnts, dropCells, sizeMost, callAt, callAtG, sy_ibeqF, sy_ieqF, sy_ileT, sy_ileF, sy_iltT, sy_iltF, sy_ltT, sy_ltF, evalSlc, optBound, eqVal, c11, hD, w1, hz, w2, e3, w3, w4] at e; replace e : some _ = _ := e; subst e; try dsimp only [callAt, callAtG, List.drop, List.take]; refine Wo.call ?_)
    | (refine W.regionC (Wo.next ?_); generalize e : evalOps _ _ _ _ _ = r; simp (disch := omega) [stepR, evalOps, evalOper, evalE, evalP, evalL, evalOpnd, nth, setNth, COp.cls, COp.isStore, CVal.isUndef, CVal.whole, CVal.cells, CHeap.put, CHeap.get, CHeap.set, wantedC, getEnt, setEnt, partOf, writeBack, evalBin, evalInt, evalStr, blockMost, initVar, descOf, List.take, List.drop, CVal.lenOf, CVal.isStr, CVal.bare, CVal.strip, CVal.flat, endsC, resultsC, oneOrTuple, finishC, cut, fillCells, setCells, szOf, szOf_desc, elems, bytesOf, evalAppend, fillElems, mkElem, List.replicate, sy_nbeq, sy_neqF, sy_leT, sy_leF, sy_setEnt_setEnt, dropped, sy_wrap64, dropEnts, dropCells, sizeMost, callAt, callAtG, sy_ibeqF, sy_ieqF, sy_ileT, sy_ileF, sy_iltT, sy_iltF, sy_ltT, sy_ltF, evalSlc, optBound, eqVal, c11, hD, w1, hz, w2, e3, w3, w4] at e; replace e : some _ = _ := e; subst e; try dsimp only [callAt, callAtG, List.drop, List.take]; refine Wo.call ?_)
    | (refine Wo.rest ?_; generalize e : evalOps _ _ _ _ _ = r; simp (disch := omega) [stepR, evalOps, evalOper, evalE, evalP, evalL, evalOpnd, nth, setNth, COp.cls, COp.isStore, CVal.isUndef, CVal.whole, CVal.cells, CHeap.put, CHeap.get, CHeap.set, wantedC, getEnt, setEnt, partOf, writeBack, evalBin, evalInt, evalStr, blockMost, initVar, descOf, List.take, List.drop, CVal.lenOf, CVal.isStr, CVal.bare, CVal.strip, CVal.flat, endsC, resultsC, oneOrTuple, finishC, cut, fillCells, setCells, szOf, szOf_desc, elems, bytesOf, evalAppend, fillElems, mkElem, List.replicate, sy_nbeq, sy_neqF, sy_leT, sy_leF, sy_setEnt_setEnt, dropped, sy_wrap64, dropEnts, dropCells, sizeMost, callAt, callAtG, sy_ibeqF, sy_ieqF, sy_ileT, sy_ileF, sy_iltT, sy_iltF, sy_ltT, sy_ltF, evalSlc, optBound, eqVal, c11, hD, w1, hz, w2, e3, w3, w4] at e; replace e : some _ = _ := e; subst e; try dsimp only [callAt, callAtG, List.drop, List.take])
    | (refine Wo.next ?_; generalize e : evalOps _ _ _ _ _ = r; simp (disch := omega) [stepR, evalOps, evalOper, evalE, evalP, evalL, evalOpnd, nth, setNth, COp.cls, COp.isStore, CVal.isUndef, CVal.whole, CVal.cells, CHeap.put, CHeap.get, CHeap.set, wantedC, getEnt, setEnt, partOf, writeBack, evalBin, evalInt, evalStr, blockMost, initVar, descOf, List.take, List.drop, CVal.lenOf, CVal.isStr, CVal.bare, CVal.strip, CVal.flat, endsC, resultsC, oneOrTuple, finishC, cut, fillCells, setCells, szOf, szOf_desc, elems, bytesOf, evalAppend, fillElems, mkElem, List.replicate, sy_nbeq, sy_neqF, sy_leT, sy_leF, sy_setEnt_setEnt, dropped, sy_wrap64, dropEnts, dropCells, sizeMost, callAt, callAtG, sy_ibeqF, sy_ieqF, sy_ileT, sy_ileF, sy_iltT, sy_iltF, sy_ltT, sy_ltF, evalSlc, optBound, eqVal, c11, hD, w1, hz, w2, e3, w3, w4] at e; replace e : some _ = _ := e; subst e; try dsimp only [callAt, callAtG, List.drop, List.take]; refine Wo.call ?_)
    | (refine plain_spec x (by omega) _ (by repeat (first | exact hu.le (by (try dsimp only); omega) | exact hu.set.le (by (try dsimp only); omega) | refine Under.cons (by (try dsimp only); omega) ?_ | exact Under.nil)) _ fun n1 hn1 => ⟨rfl, ?_⟩; try dsimp only at hn1))
  refine W.ret ?_
  try simp only [outOf, thenW_ret]
  refine endW.intro rfl ?_
  generalize e : endsC _ _ _ = r
  simp (disch := omega) [stepR, evalOps, evalOper, evalE, evalP, evalL, evalOpnd, nth, setNth, COp.cls, COp.isStore, CVal.isUndef, CVal.whole, CVal.cells, CHeap.put, CHeap.get, CHeap.set, wantedC, getEnt, setEnt, partOf, writeBack, evalBin, evalInt, evalStr, blockMost, initVar, descOf, List.take, List.drop, CVal.lenOf, CVal.isStr, CVal.bare, CVal.strip, CVal.flat, endsC, resultsC, oneOrTuple, finishC, cut, fillCells, setCells, szOf, szOf_desc, elems, bytesOf, evalAppend, fillElems, mkElem, List.replicate, sy_nbeq, sy_neqF, sy_leT, sy_leF, sy_setEnt_setEnt, dropped, sy_wrap64, dropEnts, dropCells, sizeMost, c11, hD, w1, hz, w2, e3, w3, w4] at e
  subst e
  try dsimp only
  refine hk _ ?_; omega

theorem print_spec (v : Int) (t : List UInt8) (N : ∀ (h : CHeap), Under h.ents h.next → ∀ (K : CVal → CHeap → Prop), (∀ n', h.next ≤ n' → K (.str t) { h with next := n' }) → Wc tree.getF 11 [.int .i64 v] h K) (h : CHeap) (hu : Under h.ents h.next) (K : CVal → CHeap → Prop) (hk : ∀ n', h.next ≤ n' → K (.str t) { h with next := n' }) : Wc tree.getF 5 [jint v] h K := by
  have hD := dropEnts_under hu
  have hN : ∀ q, h.next ≤ q → getEnt h.ents q = none := fun q hq => getEnt_under hu hq
  refine Wc.mk' (fn := c5) (by kernel_rfl) rfl ?_
  repeat (first
    | refine W.seq ?_
    | refine W.block ?_
    | (refine W.reg ?_; generalize e : stepR _ _ _ = r; simp (disch := omega) [stepR, evalOps, evalOper, evalE, evalP, evalL, evalOpnd, nth, setNth, COp.cls, COp.isStore, CVal.isUndef, CVal.whole, CVal.cells, CHeap.put, CHeap.get, CHeap.set, wantedC, getEnt, setEnt, partOf, writeBack, evalBin, evalInt, evalStr, blockMost, initVar, descOf, List.take, List.drop, CVal.lenOf, CVal.isStr, CVal.bare, CVal.strip, CVal.flat, endsC, resultsC, oneOrTuple, finishC, cut, fillCells, setCells, szOf, szOf_desc, elems, bytesOf, evalAppend, fillElems, mkElem, List.replicate, sy_nbeq, sy_neqF, sy_leT, sy_leF, sy_setEnt_setEnt, dropped, sy_wrap64, dropEnts, dropCells, sizeMost, callAt, callAtG, sy_ibeqF, sy_ieqF, sy_ileT, sy_ileF, sy_iltT, sy_iltF, sy_ltT, sy_ltF, evalSlc, optBound, eqVal, c5, hD, hN] at e; replace e : some _ = _ := e; subst e; try dsimp only [callAt, callAtG, List.drop, List.take])
    | refine W.cond_true rfl ?_
    | refine W.cond_false rfl ?_
    | refine W.skip ?_
    | refine W.exit ?_
    | (refine W.region (Wo.next ?_); generalize e : evalOps _ _ _ _ _ = r; simp (disch := omega) [stepR, evalOps, evalOper, evalE, evalP, evalL, evalOpnd, nth, setNth, COp.cls, COp.isStore, CVal.isUndef, CVal.whole, CVal.cells, CHeap.put, CHeap.get, CHeap.set, wantedC, getEnt, setEnt, partOf, writeBack, evalBin, evalInt, evalStr, blockMost, initVar, descOf, List.take, List.drop, CVal.lenOf, CVal.isStr, CVal.bare, CVal.strip, CVal.flat, endsC, resultsC, oneOrTuple, finishC, cut, fillCells, setCells, szOf, szOf_desc, elems, bytesOf, evalAppend, fillElems, mkElem, List.replicate, sy_nbeq, sy_neqF, sy_leT, sy_leF, sy_setEnt_setEnt, dropped, sy_wrap64, dropEnts, dropCells, sizeMost, callAt, callAtG, sy_ibeqF, sy_ieqF, sy_ileT, sy_ileF, sy_iltT, sy_iltF, sy_ltT, sy_ltF, evalSlc, optBound, eqVal, c5, hD, hN] at e; replace e : some _ = _ := e; subst e; try dsimp only [callAt, callAtG, List.drop, List.take]; refine Wo.call ?_)
    | (refine W.regionC (Wo.next ?_); generalize e : evalOps _ _ _ _ _ = r; simp (disch := omega) [stepR, evalOps, evalOper, evalE, evalP, evalL, evalOpnd, nth, setNth, COp.cls, COp.isStore, CVal.isUndef, CVal.whole, CVal.cells, CHeap.put, CHeap.get, CHeap.set, wantedC, getEnt, setEnt, partOf, writeBack, evalBin, evalInt, evalStr, blockMost, initVar, descOf, List.take, List.drop, CVal.lenOf, CVal.isStr, CVal.bare, CVal.strip, CVal.flat, endsC, resultsC, oneOrTuple, finishC, cut, fillCells, setCells, szOf, szOf_desc, elems, bytesOf, evalAppend, fillElems, mkElem, List.replicate, sy_nbeq, sy_neqF, sy_leT, sy_leF, sy_setEnt_setEnt, dropped, sy_wrap64, dropEnts, dropCells, sizeMost, callAt, callAtG, sy_ibeqF, sy_ieqF, sy_ileT, sy_ileF, sy_iltT, sy_iltF, sy_ltT, sy_ltF, evalSlc, optBound, eqVal, c5, hD, hN] at e; replace e : some _ = _ := e; subst e; try dsimp only [callAt, callAtG, List.drop, List.take]; refine Wo.call ?_)
    | (refine Wo.rest ?_; generalize e : evalOps _ _ _ _ _ = r; simp (disch := omega) [stepR, evalOps, evalOper, evalE, evalP, evalL, evalOpnd, nth, setNth, COp.cls, COp.isStore, CVal.isUndef, CVal.whole, CVal.cells, CHeap.put, CHeap.get, CHeap.set, wantedC, getEnt, setEnt, partOf, writeBack, evalBin, evalInt, evalStr, blockMost, initVar, descOf, List.take, List.drop, CVal.lenOf, CVal.isStr, CVal.bare, CVal.strip, CVal.flat, endsC, resultsC, oneOrTuple, finishC, cut, fillCells, setCells, szOf, szOf_desc, elems, bytesOf, evalAppend, fillElems, mkElem, List.replicate, sy_nbeq, sy_neqF, sy_leT, sy_leF, sy_setEnt_setEnt, dropped, sy_wrap64, dropEnts, dropCells, sizeMost, callAt, callAtG, sy_ibeqF, sy_ieqF, sy_ileT, sy_ileF, sy_iltT, sy_iltF, sy_ltT, sy_ltF, evalSlc, optBound, eqVal, c5, hD, hN] at e; replace e : some _ = _ := e; subst e; try dsimp only [callAt, callAtG, List.drop, List.take])
    | (refine Wo.next ?_; generalize e : evalOps _ _ _ _ _ = r; simp (disch := omega) [stepR, evalOps, evalOper, evalE, evalP, evalL, evalOpnd, nth, setNth, COp.cls, COp.isStore, CVal.isUndef, CVal.whole, CVal.cells, CHeap.put, CHeap.get, CHeap.set, wantedC, getEnt, setEnt, partOf, writeBack, evalBin, evalInt, evalStr, blockMost, initVar, descOf, List.take, List.drop, CVal.lenOf, CVal.isStr, CVal.bare, CVal.strip, CVal.flat, endsC, resultsC, oneOrTuple, finishC, cut, fillCells, setCells, szOf, szOf_desc, elems, bytesOf, evalAppend, fillElems, mkElem, List.replicate, sy_nbeq, sy_neqF, sy_leT, sy_leF, sy_setEnt_setEnt, dropped, sy_wrap64, dropEnts, dropCells, sizeMost, callAt, callAtG, sy_ibeqF, sy_ieqF, sy_ileT, sy_ileF, sy_iltT, sy_iltF, sy_ltT, sy_ltF, evalSlc, optBound, eqVal, c5, hD, hN] at e; replace e : some _ = _ := e; subst e; try dsimp only [callAt, callAtG, List.drop, List.take]; refine Wo.call ?_)
    | (refine N _ (by repeat (first | exact hu.le (by (try dsimp only); omega) | refine Under.cons (by (try dsimp only); omega) ?_ | exact Under.nil)) _ fun n1 hn1 => ⟨rfl, ?_⟩; try dsimp only at hn1))
  refine W.ret ?_
  try simp only [outOf, thenW_ret]
  refine endW.intro rfl ?_
  generalize e : endsC _ _ _ = r
  simp (disch := omega) [stepR, evalOps, evalOper, evalE, evalP, evalL, evalOpnd, nth, setNth, COp.cls, COp.isStore, CVal.isUndef, CVal.whole, CVal.cells, CHeap.put, CHeap.get, CHeap.set, wantedC, getEnt, setEnt, partOf, writeBack, evalBin, evalInt, evalStr, blockMost, initVar, descOf, List.take, List.drop, CVal.lenOf, CVal.isStr, CVal.bare, CVal.strip, CVal.flat, endsC, resultsC, oneOrTuple, finishC, cut, fillCells, setCells, szOf, szOf_desc, elems, bytesOf, evalAppend, fillElems, mkElem, List.replicate, sy_nbeq, sy_neqF, sy_leT, sy_leF, sy_setEnt_setEnt, dropped, sy_wrap64, dropEnts, dropCells, sizeMost, c5, hD, hN] at e
  subst e
  try dsimp only
  refine hk _ ?_; omega
end Go.Proofs.YtehdeihlahjglaaGreatDoor.IrJ
