/- What the functions of the law 'WordNumbers' do: part 12. -/
import Derived.Test.YtcehpodknbjimaaDoorNumK
namespace Go.Proofs.YtcehpodknbjimaaDoor.IrN
open Go Go.CI
set_option maxRecDepth 100000
set_option linter.unusedVariables false
set_option linter.unusedSimpArgs false
attribute [local irreducible] W Wo Wc

/-- A digit's sign. -/
def ch (d : Nat) : UInt8 := if d < 10 then UInt8.ofNat (48 + d) else UInt8.ofNat (87 + d)
/-- A number's digits. -/
def digs (B x : Nat) (hB : 2 ≤ B) : List UInt8 := if h : x < B then [ch x] else digs B (x / B) hB ++ [ch (x % B)]
termination_by x
decreasing_by exact Nat.div_lt_self (by omega) (by omega)
theorem digs_small {B x : Nat} {hB : 2 ≤ B} (h : x < B) : digs B x hB = [ch x] := by rw [digs, dif_pos h]
theorem digs_great {B x : Nat} {hB : 2 ≤ B} (h : ¬ x < B) : digs B x hB = digs B (x / B) hB ++ [ch (x % B)] := by rw [digs, dif_neg h]
theorem ch_ok : ∀ d : Nat, d < 16 → (48 ≤ (ch d).toNat ∧ (ch d).toNat ≤ 57 ∨ 97 ≤ (ch d).toNat ∧ (ch d).toNat ≤ 102) ∧ dig (ch d) = d := by decide
theorem ch_okB {B d : Nat} (hB : B ≤ 16) (h : d < B) : okDig B (ch d) := ⟨(ch_ok d (by omega)).1, by rw [(ch_ok d (by omega)).2]; exact h⟩
abbrev hexS : List UInt8 := [48, 49, 50, 51, 52, 53, 54, 55, 56, 57, 97, 98, 99, 100, 101, 102]
theorem cut_hex : ∀ d : Nat, d < 16 → List.drop d (List.take (d + 1) hexS) = [ch d] := by decide
theorem val_append (B : Nat) : ∀ (a b : List UInt8) (n : Nat), val B n (a ++ b) = val B (val B n a) b
  | [], b, n => rfl
  | c :: a, b, n => val_append B a b _
theorem digs_ne (B x : Nat) (hB : 2 ≤ B) : digs B x hB ≠ [] := by rw [digs]; split <;> simp
theorem digs_ok (B : Nat) (hB : 2 ≤ B) (hB2 : B ≤ 16) : ∀ x, ∀ c ∈ digs B x hB, okDig B c := by
  intro x
  induction x using Nat.strongRecOn with
  | _ x ih =>
    intro c hc
    by_cases h : x < B
    · rw [digs_small h] at hc
      simp at hc; subst hc
      exact ch_okB hB2 h
    · rw [digs_great h] at hc
      rcases List.mem_append.1 hc with h1 | h1
      · exact ih _ (Nat.div_lt_self (by omega) (by omega)) c h1
      · simp at h1; subst h1
        exact ch_okB hB2 (Nat.mod_lt _ (by omega))
theorem digs_val (B : Nat) (hB : 2 ≤ B) (hB2 : B ≤ 16) : ∀ x, val B 0 (digs B x hB) = x := by
  intro x
  induction x using Nat.strongRecOn with
  | _ x ih =>
    by_cases h : x < B
    · rw [digs_small h]
      show 0 * B + dig (ch x) = x
      rw [(ch_ok x (by omega)).2]; omega
    · rw [digs_great h, val_append, ih _ (Nat.div_lt_self (by omega) (by omega))]
      show x / B * B + dig (ch (x % B)) = x
      rw [(ch_ok (x % B) (by have := Nat.mod_lt x (show 0 < B by omega); omega)).2]
      exact Nat.div_add_mod' x B
theorem digs_head (B : Nat) (hB : 2 ≤ B) (hB2 : B ≤ 16) : ∀ x, 0 < x → ∀ r, digs B x hB ≠ 48 :: r := by
  intro x
  induction x using Nat.strongRecOn with
  | _ x ih =>
    intro hx r e
    by_cases h : x < B
    · rw [digs_small h] at e
      have h1 : ch x = 48 := (List.cons.inj e).1
      have h2 := (ch_ok x (by omega)).2
      rw [h1] at h2
      have : dig 48 = 0 := by decide
      omega
    · rw [digs_great h] at e
      have hd := ih (x / B) (Nat.div_lt_self (by omega) (by omega)) (Nat.div_pos (by omega) (by omega))
      cases hc : digs B (x / B) hB with
      | nil => exact digs_ne _ _ _ hc
      | cons c l =>
        rw [hc] at e
        have h1 : c = 48 := (List.cons.inj e).1
        exact hd l (by rw [hc, h1])
theorem digs_len (B : Nat) (hB : 2 ≤ B) : ∀ (n x : Nat), x < 2 ^ (n + 1) → (digs B x hB).length ≤ n + 1
  | 0, x, h => by rw [digs_small (by simp at h; omega)]; simp
  | n + 1, x, h => by
    by_cases hs : x < B
    · rw [digs_small hs]; simp
    · rw [digs_great hs]
      have h2 : x / B < 2 ^ (n + 1) := by
        rw [Nat.div_lt_iff_lt_mul (by omega)]
        have : 2 ^ (n + 1) * 2 ≤ 2 ^ (n + 1) * B := Nat.mul_le_mul_left _ hB
        rw [Nat.pow_succ] at h
        omega
      have := digs_len B hB n (x / B) h2
      simp; omega
theorem digs_len64 (B x : Nat) (hB : 2 ≤ B) (h : x < 18446744073709551616) : (digs B x hB).length ≤ 64 := digs_len B hB 63 x (by simpa using h)

abbrev digLoop : CCode := (.loop true (.block 3 (.seq (.region [⟨.mv (.var 4), none⟩, ⟨.mv (.var 5), none⟩, ⟨.mv (.var 1), none⟩, ⟨.idxAddr 1 (.loc 1) (.loc 0), none⟩, ⟨.load none (.loc 0), none⟩, ⟨.bin .rem (.loc 4) (.loc 0), none⟩, ⟨.mv (.loc 0), none⟩] [(6, 6)] [] []) (.seq (.region [⟨.mv (.var 6), none⟩, ⟨.mv (.var 6), none⟩, ⟨.bin .add (.loc 0) (.const (.int .u64 1)), none⟩, ⟨.slc 0 (.const (.str [48, 49, 50, 51, 52, 53, 54, 55, 56, 57, 97, 98, 99, 100, 101, 102])) (some (.loc 2)) (some (.loc 0)), none⟩, ⟨.mv (.var 7), none⟩, ⟨.bin .add (.loc 1) (.loc 0), none⟩, ⟨.mv (.loc 0), none⟩] [(7, 6)] [] []) (.seq (.region [⟨.mv (.var 4), none⟩, ⟨.mv (.var 5), none⟩, ⟨.mv (.var 1), none⟩, ⟨.idxAddr 1 (.loc 1) (.loc 0), none⟩, ⟨.load none (.loc 0), none⟩, ⟨.bin .quo (.loc 4) (.loc 0), none⟩, ⟨.mv (.loc 0), none⟩] [(4, 6)] [] []) (.seq (.region [⟨.mv (.var 4), none⟩, ⟨.bin .eql (.loc 0) (.const (.int .u64 0)), none⟩] [(8, 1)] [] []) (.cond (.var 8) (.exit 2) .skip)))))))
set_option maxHeartbeats 2000000 in
theorem dig_loop (i B : Nat) (hB : 2 ≤ B) (hB2 : B ≤ 16) (bl : List CVal) (hbl : nth bl i = .int .u64 B) (hib : i < bl.length) (hi3 : i < 3) (v0 v2 v3 v9 v10 v11 v12 v13 : CVal) (Q : CExit → CSt → Prop) : ∀ (x : Nat), x < 18446744073709551616 → ∀ (t : List UInt8), t.length + (digs B x hB).length ≤ 100 → ∀ (h : CHeap) (v6 v8 : CVal), Under h.ents h.next →
    (∀ n' w4 w6 w8, h.next ≤ n' → Q (.exit 2) ⟨[v0, .int .i64 i, v2, v3, w4, .imm .full 1 bl, w6, .str (digs B x hB ++ t), w8, v9, v10, v11, v12, v13], { h with next := n' }, []⟩) →
    W tree.getF digLoop ⟨[v0, .int .i64 i, v2, v3, .int .u64 x, .imm .full 1 bl, v6, .str t, v8, v9, v10, v11, v12, v13], h, []⟩ Q := by
  intro x
  induction x using Nat.strongRecOn with
  | _ x ih =>
  intro hx t hlt h v6 v8 hu hq
  have hC : dropCells h.ents h.next = h.ents := dropCells_under hu
  have hmx : x % B < B := Nat.mod_lt _ (by omega)
  have hcx := cut_hex (x % B) (by omega)
  obtain ⟨mm, hmm⟩ : ∃ mm, x % B = mm := ⟨_, rfl⟩
  obtain ⟨qq, hqq⟩ : ∃ qq, x / B = qq := ⟨_, rfl⟩
  rw [hmm] at hmx hcx
  have hcx2 : List.drop mm (48 :: List.take mm [49, 50, 51, 52, 53, 54, 55, 56, 57, 97, 98, 99, 100, 101, 102]) = [ch mm] := hcx
  have hm : (x : Int).tmod (B : Int) = (mm : Int) := by rw [Int.tmod_eq_emod_of_nonneg (by omega), ← Int.natCast_emod, hmm]
  have hq0 : (x : Int).tdiv (B : Int) = (qq : Int) := by rw [Int.tdiv_eq_ediv_of_nonneg (by omega), ← Int.natCast_ediv, hqq]
  have hqx : qq ≤ x := by rw [← hqq]; exact Nat.div_le_self _ _
  have hB0 : ¬ ((B : Int) = 0) := by omega
  have hBn : ¬ (B = 0) := by omega
  have hmt : ((mm : Int) + 1).toNat = mm + 1 := by omega
  by_cases hs : x < B
  · have hqz : qq = 0 := by rw [← hqq]; exact Nat.div_eq_of_lt hs
    have hmmx : mm = x := by rw [← hmm]; exact Nat.mod_eq_of_lt hs
    have hdg : digs B x hB = [ch mm] := by rw [digs_small hs, hmmx]
    rw [hdg] at hlt hq
    subst hqz
    have hl1 : t.length + 1 ≤ 100 := by simpa using hlt
    refine W.loop ?_
    repeat (first
      | refine W.seq ?_
      | refine W.block ?_
      | (refine W.reg ?_; generalize e : stepR _ _ _ = r; simp (disch := omega) [stepR, evalOps, evalOper, evalE, evalP, evalL, evalOpnd, nth, setNth, COp.cls, COp.isStore, CVal.isUndef, CVal.whole, CVal.cells, CHeap.put, CHeap.get, CHeap.set, wantedC, getEnt, setEnt, partOf, writeBack, evalBin, evalInt, evalStr, blockMost, initVar, descOf, List.take, List.drop, CVal.lenOf, CVal.isStr, CVal.bare, CVal.strip, CVal.flat, endsC, resultsC, oneOrTuple, finishC, cut, fillCells, setCells, szOf, szOf_desc, elems, bytesOf, evalAppend, fillElems, mkElem, List.replicate, sy_nbeq, sy_neqF, sy_leT, sy_leF, sy_setEnt_setEnt, dropped, sy_wrap64, dropEnts, dropCells, sizeMost, callAt, callAtG, sy_ibeqF, sy_ieqF, sy_ileT, sy_ileF, sy_iltT, sy_iltF, sy_ltT, sy_ltF, evalSlc, optBound, eqVal, CHeap.note, hbl, hib, hC, hm, hq0, hB0, hBn, hcx, hcx2, hmt, sy_wrapu64] at e; replace e : some _ = _ := e; subst e; try dsimp only [callAt, callAtG, List.drop, List.take])
      | refine W.cond_true rfl ?_
      | refine W.cond_false rfl ?_
      | refine W.skip ?_
      | refine W.exit ?_
      | (refine W.region (Wo.next ?_); generalize e : evalOps _ _ _ _ _ = r; simp (disch := omega) [stepR, evalOps, evalOper, evalE, evalP, evalL, evalOpnd, nth, setNth, COp.cls, COp.isStore, CVal.isUndef, CVal.whole, CVal.cells, CHeap.put, CHeap.get, CHeap.set, wantedC, getEnt, setEnt, partOf, writeBack, evalBin, evalInt, evalStr, blockMost, initVar, descOf, List.take, List.drop, CVal.lenOf, CVal.isStr, CVal.bare, CVal.strip, CVal.flat, endsC, resultsC, oneOrTuple, finishC, cut, fillCells, setCells, szOf, szOf_desc, elems, bytesOf, evalAppend, fillElems, mkElem, List.replicate, sy_nbeq, sy_neqF, sy_leT, sy_leF, sy_setEnt_setEnt, dropped, sy_wrap64, dropEnts, dropCells, sizeMost, callAt, callAtG, sy_ibeqF, sy_ieqF, sy_ileT, sy_ileF, sy_iltT, sy_iltF, sy_ltT, sy_ltF, evalSlc, optBound, eqVal, CHeap.note, hbl, hib, hC, hm, hq0, hB0, hBn, hcx, hcx2, hmt, sy_wrapu64] at e; replace e : some _ = _ := e; subst e; try dsimp only [callAt, callAtG, List.drop, List.take]; refine Wo.call ?_)
      | (refine W.regionC (Wo.next ?_); generalize e : evalOps _ _ _ _ _ = r; simp (disch := omega) [stepR, evalOps, evalOper, evalE, evalP, evalL, evalOpnd, nth, setNth, COp.cls, COp.isStore, CVal.isUndef, CVal.whole, CVal.cells, CHeap.put, CHeap.get, CHeap.set, wantedC, getEnt, setEnt, partOf, writeBack, evalBin, evalInt, evalStr, blockMost, initVar, descOf, List.take, List.drop, CVal.lenOf, CVal.isStr, CVal.bare, CVal.strip, CVal.flat, endsC, resultsC, oneOrTuple, finishC, cut, fillCells, setCells, szOf, szOf_desc, elems, bytesOf, evalAppend, fillElems, mkElem, List.replicate, sy_nbeq, sy_neqF, sy_leT, sy_leF, sy_setEnt_setEnt, dropped, sy_wrap64, dropEnts, dropCells, sizeMost, callAt, callAtG, sy_ibeqF, sy_ieqF, sy_ileT, sy_ileF, sy_iltT, sy_iltF, sy_ltT, sy_ltF, evalSlc, optBound, eqVal, CHeap.note, hbl, hib, hC, hm, hq0, hB0, hBn, hcx, hcx2, hmt, sy_wrapu64] at e; replace e : some _ = _ := e; subst e; try dsimp only [callAt, callAtG, List.drop, List.take]; refine Wo.call ?_)
      | (refine Wo.rest ?_; generalize e : evalOps _ _ _ _ _ = r; simp (disch := omega) [stepR, evalOps, evalOper, evalE, evalP, evalL, evalOpnd, nth, setNth, COp.cls, COp.isStore, CVal.isUndef, CVal.whole, CVal.cells, CHeap.put, CHeap.get, CHeap.set, wantedC, getEnt, setEnt, partOf, writeBack, evalBin, evalInt, evalStr, blockMost, initVar, descOf, List.take, List.drop, CVal.lenOf, CVal.isStr, CVal.bare, CVal.strip, CVal.flat, endsC, resultsC, oneOrTuple, finishC, cut, fillCells, setCells, szOf, szOf_desc, elems, bytesOf, evalAppend, fillElems, mkElem, List.replicate, sy_nbeq, sy_neqF, sy_leT, sy_leF, sy_setEnt_setEnt, dropped, sy_wrap64, dropEnts, dropCells, sizeMost, callAt, callAtG, sy_ibeqF, sy_ieqF, sy_ileT, sy_ileF, sy_iltT, sy_iltF, sy_ltT, sy_ltF, evalSlc, optBound, eqVal, CHeap.note, hbl, hib, hC, hm, hq0, hB0, hBn, hcx, hcx2, hmt, sy_wrapu64] at e; replace e : some _ = _ := e; subst e; try dsimp only [callAt, callAtG, List.drop, List.take])
      | (refine Wo.next ?_; generalize e : evalOps _ _ _ _ _ = r; simp (disch := omega) [stepR, evalOps, evalOper, evalE, evalP, evalL, evalOpnd, nth, setNth, COp.cls, COp.isStore, CVal.isUndef, CVal.whole, CVal.cells, CHeap.put, CHeap.get, CHeap.set, wantedC, getEnt, setEnt, partOf, writeBack, evalBin, evalInt, evalStr, blockMost, initVar, descOf, List.take, List.drop, CVal.lenOf, CVal.isStr, CVal.bare, CVal.strip, CVal.flat, endsC, resultsC, oneOrTuple, finishC, cut, fillCells, setCells, szOf, szOf_desc, elems, bytesOf, evalAppend, fillElems, mkElem, List.replicate, sy_nbeq, sy_neqF, sy_leT, sy_leF, sy_setEnt_setEnt, dropped, sy_wrap64, dropEnts, dropCells, sizeMost, callAt, callAtG, sy_ibeqF, sy_ieqF, sy_ileT, sy_ileF, sy_iltT, sy_iltF, sy_ltT, sy_ltF, evalSlc, optBound, eqVal, CHeap.note, hbl, hib, hC, hm, hq0, hB0, hBn, hcx, hcx2, hmt, sy_wrapu64] at e; replace e : some _ = _ := e; subst e; try dsimp only [callAt, callAtG, List.drop, List.take]; refine Wo.call ?_))
    refine hq _ _ _ _ ?_
    omega
  · have hqz : 0 < qq := by rw [← hqq]; exact Nat.div_pos (by omega) (by omega)
    have hdg : digs B x hB = digs B qq hB ++ [ch mm] := by rw [digs_great hs, hqq, hmm]
    rw [hdg] at hlt hq
    have hl1 : t.length + (digs B qq hB).length + 1 ≤ 100 := by simp at hlt; omega
    have hqn : ¬ ((qq : Int) = 0) := by omega
    refine W.loop ?_
    repeat (first
      | refine W.seq ?_
      | refine W.block ?_
      | (refine W.reg ?_; generalize e : stepR _ _ _ = r; simp (disch := omega) [stepR, evalOps, evalOper, evalE, evalP, evalL, evalOpnd, nth, setNth, COp.cls, COp.isStore, CVal.isUndef, CVal.whole, CVal.cells, CHeap.put, CHeap.get, CHeap.set, wantedC, getEnt, setEnt, partOf, writeBack, evalBin, evalInt, evalStr, blockMost, initVar, descOf, List.take, List.drop, CVal.lenOf, CVal.isStr, CVal.bare, CVal.strip, CVal.flat, endsC, resultsC, oneOrTuple, finishC, cut, fillCells, setCells, szOf, szOf_desc, elems, bytesOf, evalAppend, fillElems, mkElem, List.replicate, sy_nbeq, sy_neqF, sy_leT, sy_leF, sy_setEnt_setEnt, dropped, sy_wrap64, dropEnts, dropCells, sizeMost, callAt, callAtG, sy_ibeqF, sy_ieqF, sy_ileT, sy_ileF, sy_iltT, sy_iltF, sy_ltT, sy_ltF, evalSlc, optBound, eqVal, CHeap.note, hbl, hib, hC, hm, hq0, hB0, hBn, hcx, hcx2, hmt, sy_wrapu64, hqn] at e; replace e : some _ = _ := e; subst e; try dsimp only [callAt, callAtG, List.drop, List.take])
      | refine W.cond_true rfl ?_
      | refine W.cond_false rfl ?_
      | refine W.skip ?_
      | refine W.exit ?_
      | (refine W.region (Wo.next ?_); generalize e : evalOps _ _ _ _ _ = r; simp (disch := omega) [stepR, evalOps, evalOper, evalE, evalP, evalL, evalOpnd, nth, setNth, COp.cls, COp.isStore, CVal.isUndef, CVal.whole, CVal.cells, CHeap.put, CHeap.get, CHeap.set, wantedC, getEnt, setEnt, partOf, writeBack, evalBin, evalInt, evalStr, blockMost, initVar, descOf, List.take, List.drop, CVal.lenOf, CVal.isStr, CVal.bare, CVal.strip, CVal.flat, endsC, resultsC, oneOrTuple, finishC, cut, fillCells, setCells, szOf, szOf_desc, elems, bytesOf, evalAppend, fillElems, mkElem, List.replicate, sy_nbeq, sy_neqF, sy_leT, sy_leF, sy_setEnt_setEnt, dropped, sy_wrap64, dropEnts, dropCells, sizeMost, callAt, callAtG, sy_ibeqF, sy_ieqF, sy_ileT, sy_ileF, sy_iltT, sy_iltF, sy_ltT, sy_ltF, evalSlc, optBound, eqVal, CHeap.note, hbl, hib, hC, hm, hq0, hB0, hBn, hcx, hcx2, hmt, sy_wrapu64, hqn] at e; replace e : some _ = _ := e; subst e; try dsimp only [callAt, callAtG, List.drop, List.take]; refine Wo.call ?_)
      | (refine W.regionC (Wo.next ?_); generalize e : evalOps _ _ _ _ _ = r; simp (disch := omega) [stepR, evalOps, evalOper, evalE, evalP, evalL, evalOpnd, nth, setNth, COp.cls, COp.isStore, CVal.isUndef, CVal.whole, CVal.cells, CHeap.put, CHeap.get, CHeap.set, wantedC, getEnt, setEnt, partOf, writeBack, evalBin, evalInt, evalStr, blockMost, initVar, descOf, List.take, List.drop, CVal.lenOf, CVal.isStr, CVal.bare, CVal.strip, CVal.flat, endsC, resultsC, oneOrTuple, finishC, cut, fillCells, setCells, szOf, szOf_desc, elems, bytesOf, evalAppend, fillElems, mkElem, List.replicate, sy_nbeq, sy_neqF, sy_leT, sy_leF, sy_setEnt_setEnt, dropped, sy_wrap64, dropEnts, dropCells, sizeMost, callAt, callAtG, sy_ibeqF, sy_ieqF, sy_ileT, sy_ileF, sy_iltT, sy_iltF, sy_ltT, sy_ltF, evalSlc, optBound, eqVal, CHeap.note, hbl, hib, hC, hm, hq0, hB0, hBn, hcx, hcx2, hmt, sy_wrapu64, hqn] at e; replace e : some _ = _ := e; subst e; try dsimp only [callAt, callAtG, List.drop, List.take]; refine Wo.call ?_)
      | (refine Wo.rest ?_; generalize e : evalOps _ _ _ _ _ = r; simp (disch := omega) [stepR, evalOps, evalOper, evalE, evalP, evalL, evalOpnd, nth, setNth, COp.cls, COp.isStore, CVal.isUndef, CVal.whole, CVal.cells, CHeap.put, CHeap.get, CHeap.set, wantedC, getEnt, setEnt, partOf, writeBack, evalBin, evalInt, evalStr, blockMost, initVar, descOf, List.take, List.drop, CVal.lenOf, CVal.isStr, CVal.bare, CVal.strip, CVal.flat, endsC, resultsC, oneOrTuple, finishC, cut, fillCells, setCells, szOf, szOf_desc, elems, bytesOf, evalAppend, fillElems, mkElem, List.replicate, sy_nbeq, sy_neqF, sy_leT, sy_leF, sy_setEnt_setEnt, dropped, sy_wrap64, dropEnts, dropCells, sizeMost, callAt, callAtG, sy_ibeqF, sy_ieqF, sy_ileT, sy_ileF, sy_iltT, sy_iltF, sy_ltT, sy_ltF, evalSlc, optBound, eqVal, CHeap.note, hbl, hib, hC, hm, hq0, hB0, hBn, hcx, hcx2, hmt, sy_wrapu64, hqn] at e; replace e : some _ = _ := e; subst e; try dsimp only [callAt, callAtG, List.drop, List.take])
      | (refine Wo.next ?_; generalize e : evalOps _ _ _ _ _ = r; simp (disch := omega) [stepR, evalOps, evalOper, evalE, evalP, evalL, evalOpnd, nth, setNth, COp.cls, COp.isStore, CVal.isUndef, CVal.whole, CVal.cells, CHeap.put, CHeap.get, CHeap.set, wantedC, getEnt, setEnt, partOf, writeBack, evalBin, evalInt, evalStr, blockMost, initVar, descOf, List.take, List.drop, CVal.lenOf, CVal.isStr, CVal.bare, CVal.strip, CVal.flat, endsC, resultsC, oneOrTuple, finishC, cut, fillCells, setCells, szOf, szOf_desc, elems, bytesOf, evalAppend, fillElems, mkElem, List.replicate, sy_nbeq, sy_neqF, sy_leT, sy_leF, sy_setEnt_setEnt, dropped, sy_wrap64, dropEnts, dropCells, sizeMost, callAt, callAtG, sy_ibeqF, sy_ieqF, sy_ileT, sy_ileF, sy_iltT, sy_iltF, sy_ltT, sy_ltF, evalSlc, optBound, eqVal, CHeap.note, hbl, hib, hC, hm, hq0, hB0, hBn, hcx, hcx2, hmt, sy_wrapu64, hqn] at e; replace e : some _ = _ := e; subst e; try dsimp only [callAt, callAtG, List.drop, List.take]; refine Wo.call ?_))
    show W tree.getF digLoop (dropped true _ _) Q
    generalize e : dropped _ _ _ = r
    simp (disch := omega) [stepR, evalOps, evalOper, evalE, evalP, evalL, evalOpnd, nth, setNth, COp.cls, COp.isStore, CVal.isUndef, CVal.whole, CVal.cells, CHeap.put, CHeap.get, CHeap.set, wantedC, getEnt, setEnt, partOf, writeBack, evalBin, evalInt, evalStr, blockMost, initVar, descOf, List.take, List.drop, CVal.lenOf, CVal.isStr, CVal.bare, CVal.strip, CVal.flat, endsC, resultsC, oneOrTuple, finishC, cut, fillCells, setCells, szOf, szOf_desc, elems, bytesOf, evalAppend, fillElems, mkElem, List.replicate, sy_nbeq, sy_neqF, sy_leT, sy_leF, sy_setEnt_setEnt, dropped, sy_wrap64, dropEnts, dropCells, sizeMost, hbl, hib, hC, hm, hq0, hB0, hBn, hcx, hcx2, hmt, sy_wrapu64] at e
    subst e
    try dsimp only
    refine ih qq (by have := Nat.div_lt_self (n := x) (k := B) (by omega) (by omega); omega) (by omega) (ch mm :: t) (by simp; omega) _ _ _ (by exact hu.le (by (try dsimp only); omega)) fun n' w4 w6 w8 hn' => ?_
    have := hq n' w4 w6 w8 (by dsimp only at hn'; omega)
    rw [List.append_assoc] at this
    exact this
end Go.Proofs.YtcehpodknbjimaaDoor.IrN
