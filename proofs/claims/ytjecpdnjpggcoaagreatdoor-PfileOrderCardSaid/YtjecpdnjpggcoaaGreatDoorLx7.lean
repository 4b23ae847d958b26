/- What the functions of the law 'PfileOrder' do: part 7 of 8. -/
import Derived.Test.YtjecpdnjpggcoaaGreatDoorLx6
namespace Go.Proofs.YtjecpdnjpggcoaaGreatDoor.IrO
open Go Go.CI
open Go.LexF hiding spacesB lettersB
set_option maxRecDepth 100000
set_option maxHeartbeats 4000000
set_option linter.unusedVariables false
set_option linter.unusedSimpArgs false
attribute [local irreducible] W Wo Wc WoR
attribute [local simp] goR regOut checkOne swapOne sameAt nthOp CVal.beq beqs CVal.block storesTo entryC evalOps evalOper evalE evalP evalL evalOpnd nth setNth COp.cls COp.isStore CVal.isUndef CVal.whole CVal.cells CHeap.put CHeap.get CHeap.set wantedC getEnt setEnt partOf writeBack evalBin evalInt evalStr blockMost initVar descOf List.take List.drop CVal.lenOf CVal.isStr CVal.bare CVal.strip CVal.flat endsC resultsC oneOrTuple finishC cut fillCells setCells szOf szOf_desc elems bytesOf evalAppend fillElems mkElem setElem List.replicate sy_nbeq sy_neqF sy_leT sy_leF sy_setEnt_setEnt dropped sy_wrap64 dropEnts dropCells sizeMost sy_ibeqF sy_ieqF sy_ileT sy_ileF sy_iltT sy_iltF sy_ltT sy_ltF evalSlc optBound eqVal extL extE keyIs findKV nthKV setKV CHeap.ty lookupN CHeap.note CHeap.tyOk dropAll freezeVal freezeAll freezeFlat cellsEq cellEq pCopyCheck pBString pMakeNoZero pIndexByte pClone pIndex hasPair rowOf byteVals idxFrom hasFront idxSub
abbrev fileLoop : CCode := (.loop true (.seq (.seq (.region [.v 0, .n 0, .f 2 0, .l 0, .g (.bin .eql (.loc 0) (.const (.int .i64 0))), .m (.loc 0), ⟨.mv (.var 0), (some (0, true))⟩, ⟨.call false 20 [(.loc 0)], (some (1, true))⟩, ⟨.fieldOf 0 none (.loc 0), (some (2, true))⟩, ⟨.bin .neq (.loc 0) (.const (.int .i64 5)), (some (3, true))⟩, .g (.pick (.loc 4) (.loc 0) (.const (.bool false)))] [(1, 10)] [] []) (.cond (.var 1) .skip (.exit 0))) (.block 1 (.block 2 (.seq (.region [.v 0, .g (.call false 21 [(.loc 0), (.const (.int .i64 4)), (.const (.str [59]))]), .m (.loc 0)] [(2, 2)] [] []) (.cond (.var 2) .skip (.seq (.region [.v 0, .g (.call false 22 [(.loc 0), (.const (.int .i64 1)), (.const (.str [112, 97, 99, 107, 97, 103, 101]))]), .m (.loc 0)] [(3, 2)] [] []) (.cond (.var 3) (.seq (.region [.v 0, .g (.fieldAddr 0 (.var 4)), .l 0, .g (.bin .neq (.loc 0) (.const (.str []))), .g (.call false 23 [(.loc 3), (.loc 0), (.const (.int .i64 5))])] [] [] []) (.seq (.region [.v 0, .g (.call false 24 [(.loc 0)])] [] [] []) (.seq (.region [.v 0, .v 0, .g (.call false 20 [(.loc 0)]), .g (.fieldOf 1 none (.loc 0)), .g (.call false 25 [(.loc 0), (.const (.str [46]))]), .g (.call false 23 [(.loc 4), (.loc 0), (.const (.int .i64 2))])] [] [] []) (.seq (.region [.v 0, .g (.call false 26 [(.loc 0), (.const (.int .i64 1))]), .g (.fieldOf 1 none (.loc 0)), .g (.fieldAddr 0 (.var 4)), .g (.store 1 (.loc 0) (.loc 1))] [] [] []) (.region [.v 0, .g (.call false 19 [(.loc 0), (.const (.str [59]))])] [] [] []))))) (.seq (.region [.v 0, .g (.call false 22 [(.loc 0), (.const (.int .i64 1)), (.const (.str [105, 109, 112, 111, 114, 116]))]), .m (.loc 0)] [(5, 2)] [] []) (.cond (.var 5) (.seq (.region [.v 0, .g (.fieldAddr 1 (.var 4)), .l 0, .g (.len false (.loc 0)), .g (.call false 27 [(.loc 3), (.loc 0)])] [] [] []) (.seq (.region [.v 0, .g (.call false 24 [(.loc 0)])] [] [] []) (.seq (.region [.g (.fieldAddr 1 (.var 4)), .l 0, .v 0, .g (.call false 26 [(.loc 0), (.const (.int .i64 3))]), .g (.fieldOf 1 none (.loc 0)), .g (.lit .imm false [(.str [])] 1 [(0, (.loc 0))]), .g (.append .imm 0 1 (.loc 4) (.loc 0)), .g (.fieldAddr 1 (.var 4)), .g (.store 1 (.loc 0) (.loc 1))] [] [(1, 0, 1)] []) (.region [.v 0, .g (.call false 19 [(.loc 0), (.const (.str [59]))])] [] [] [])))) (.seq (.region [.v 0, .g (.call false 22 [(.loc 0), (.const (.int .i64 1)), (.const (.str [109, 101, 115, 115, 97, 103, 101]))]), .m (.loc 0)] [(6, 2)] [] []) (.cond (.var 6) (.seq (.region [.v 0, .g (.fieldAddr 2 (.var 4)), .l 0, .g (.len false (.loc 0)), .g (.call false 27 [(.loc 3), (.loc 0)])] [] [] []) (.region [.g (.fieldAddr 2 (.var 4)), .l 0, .v 0, .g (.call false 28 [(.loc 0), (.const (.int .i64 0))]), .g (.lit .imm true [(.str []), .nils, .nils, .nils, .nils, .nils, .nils] 1 [(0, (.loc 0))]), .g (.append .imm 0 7 (.loc 3) (.loc 0)), .g (.fieldAddr 2 (.var 4)), .g (.store 1 (.loc 0) (.loc 1))] [] [(1, 0, 1)] [])) (.seq (.region [.v 0, .g (.call false 22 [(.loc 0), (.const (.int .i64 1)), (.const (.str [101, 110, 117, 109]))]), .m (.loc 0)] [(7, 2)] [] []) (.cond (.var 7) (.seq (.region [.v 0, .g (.fieldAddr 3 (.var 4)), .l 0, .g (.len false (.loc 0)), .g (.call false 27 [(.loc 3), (.loc 0)])] [] [] []) (.region [.g (.fieldAddr 3 (.var 4)), .l 0, .v 0, .g (.call false 29 [(.loc 0)]), .g (.lit .imm true [(.str []), .nils] 1 [(0, (.loc 0))]), .g (.append .imm 0 2 (.loc 3) (.loc 0)), .g (.fieldAddr 3 (.var 4)), .g (.store 1 (.loc 0) (.loc 1))] [] [(1, 0, 1)] [])) (.region [.v 0, .g (.call false 23 [(.loc 0), (.const (.bool true)), (.const (.int .i64 2))])] [] [] [])))))))))))))))
theorem getEnt_setEnt_neS {l : List (Nat × CObj)} {m n : Nat} {x : CObj} (h : n ≠ m) : getEnt (setEnt l m x) n = getEnt l n := getEnt_setEnt_ne h

theorem fl_semi (p d q dq : Nat) (hpq : p ≠ q) (l : List Tok) (hll : l.length < 100000) (a : Nat) (to : Int) (LI LM LE : CVal) (Q : CExit → CSt → Prop) (v1 v2 v3 v5 v6 v7 : CVal) (h : CHeap) (hf : Fit h) (hg : getEnt h.ents p = some (pr l (a : Int) 0 to)) (hp : p < h.next) (hqn : q < h.next)  (hq : getEnt h.ents q = some (.cells [.str [], LI, LM, LE])) (b0 : Nat)  (hl0 : l[a + 0]? = some (4, [59], 0, b0))
    (hk : ∀ n' ty w1 w2 w3 w5 w6 w7, h.next ≤ n' → UnderT ty n' → W tree.getF fileLoop ⟨[.ptr p d 0, w1, w2, w3, .ptr q dq 0, w5, w6, w7], ⟨setEnt h.ents p (pr l ((a : Int) + 1) 0 to), n', ty⟩, []⟩ Q) : W tree.getF fileLoop ⟨[.ptr p d 0, v1, v2, v3, .ptr q dq 0, v5, v6, v7], h, []⟩ Q := by
  obtain ⟨hu, hut, hX⟩ := fx4 hf
  have hY := fx5 hf hg; have ⟨hG, hD2, hC2, hN2⟩ := hY
  have hqp : q ≠ p := fun e => hpq e.symm
  have hq2 : ∀ x, getEnt (setEnt h.ents p x) q = some (.cells [.str [], LI, LM, LE]) := fun x => (getEnt_setEnt_ne hqp).trans hq
  have hQ : ∀ x y, getEnt (setEnt (setEnt h.ents p x) q y) q = some y := fun x y => sy_getEnt_setEnt (hq2 x)
  have hQP : ∀ x y, getEnt (setEnt (setEnt h.ents p x) q y) p = some x := fun x y => (getEnt_setEnt_ne hpq).trans (hG x)
  have hPQ : ∀ x y z, setEnt (setEnt (setEnt h.ents p x) q y) p z = setEnt (setEnt h.ents p z) q y := fun x y z => by rw [setEnt_comm hqp, sy_setEnt_setEnt]
  have hC3 : ∀ x y m, h.next ≤ m → dropCells (setEnt (setEnt h.ents p x) q y) m = setEnt (setEnt h.ents p x) q y := fun x y m hm => dropCells_under (hu.set.set.le hm)
  refine W.loop ?_
  repeat (first | refine sq_ ?_ | refine bl_ ?_ | ((first | refine rg_ ?_ | refine go_ ?_); generalize e : goR _ _ _ _ _ _ _ _ = r; simp (disch := omega) [hX, hg, hY, hq, hq2, hQ, hQP, hPQ, hC3, sy_ibneT, sy_ibneF, sy_ibeqT, List.length_append, List.length_cons, List.length_nil] at e; replace e : some _ = _ := e; subst e; (try dsimp only [goW])) | refine ct_ rfl ?_ | refine cf_ rfl ?_ | refine sk_ ?_ | refine ex_ ?_ | (refine p_word l hll (a + 0) 4 [59] 0 b0 hl0 ((a : Int)) (by omega) 0 to _ p d ?_ ?_ ?_ _  fun n0 ty0 hn0 hun0 => ⟨rfl, ?_⟩; (focus (((refine ⟨?_, ?_⟩; (focus ((repeat (first | exact hu.le (by (try dsimp only); omega) | exact hu.set.le (by (try dsimp only); omega) | exact hu.set.set.le (by (try dsimp only); omega) | exact hu.set.set.set.le (by (try dsimp only); omega) | refine Under.cons (by (try dsimp only); omega) ?_ | exact Under.nil)); done)); exact ut_)); done)); (focus (((first | exact hg | exact hG _ | ((try dsimp only); exact hg) | ((try dsimp only); exact hG _) | (simp (disch := omega) [getEnt, setEnt, sy_nbeq, sy_neqF, sy_setEnt_setEnt, getEnt_setEnt_ne, hg, hG, hPQ]; done) | ((simp (disch := omega) [getEnt, setEnt, sy_nbeq, sy_neqF, sy_setEnt_setEnt, getEnt_setEnt_ne, hg, hG, hPQ]); omega))); done)); (try dsimp only); omega; (try dsimp only at hn0)) | (refine p_takeT l hll (a + 0) 4 [59] 0 b0 hl0 ((a : Int)) (by omega) 0 to _ p d ?_ ?_ ?_ _ _ _ rfl fun n1 ty1 hn1 hun1 => ⟨rfl, ?_⟩; (focus (((refine ⟨?_, ?_⟩; (focus ((repeat (first | exact hu.le (by (try dsimp only); omega) | exact hu.set.le (by (try dsimp only); omega) | exact hu.set.set.le (by (try dsimp only); omega) | exact hu.set.set.set.le (by (try dsimp only); omega) | refine Under.cons (by (try dsimp only); omega) ?_ | exact Under.nil)); done)); exact ut_)); done)); (focus (((first | exact hg | exact hG _ | ((try dsimp only); exact hg) | ((try dsimp only); exact hG _) | (simp (disch := omega) [getEnt, setEnt, sy_nbeq, sy_neqF, sy_setEnt_setEnt, getEnt_setEnt_ne, hg, hG, hPQ]; done) | ((simp (disch := omega) [getEnt, setEnt, sy_nbeq, sy_neqF, sy_setEnt_setEnt, getEnt_setEnt_ne, hg, hG, hPQ]); omega))); done)); (try dsimp only); omega; (try dsimp only at hn1)))
  show W tree.getF fileLoop (dropped true _ _) Q
  generalize e : dropped _ _ _ = r0
  simp (disch := omega) [hX, hg, hY, hq, hq2, hQ, hQP, hPQ, hC3, sy_ibneT, sy_ibneF, sy_ibeqT, List.length_append, List.length_cons, List.length_nil] at e
  subst e
  try dsimp only
  refine hk _ _ _ _ _ _ _ _ ?_ ?_
  · (try dsimp only); omega
  · exact ut_

theorem fl_imp_n (p d q dq : Nat) (hpq : p ≠ q) (l : List Tok) (hll : l.length < 100000) (a : Nat) (to : Int) (LM LE : CVal) (Q : CExit → CSt → Prop) (v1 v2 v3 v5 v6 v7 : CVal) (h : CHeap) (hf : Fit h) (hg : getEnt h.ents p = some (pr l (a : Int) 0 to)) (hp : p < h.next) (hqn : q < h.next)  (hq : getEnt h.ents q = some (.cells [.str [], .nils, LM, LE])) (b0 b1 b2 : Nat) (tx : List UInt8) (hl0 : l[a + 0]? = some (1, [105, 109, 112, 111, 114, 116], 0, b0)) (hl1 : l[a + 1]? = some (3, tx, 0, b1)) (hl2 : l[a + 2]? = some (4, [59], 0, b2))
    (hk : ∀ z n' ty w1 w2 w3 w5 w6 w7, h.next ≤ z → z < n' → UnderT ty n' → W tree.getF fileLoop ⟨[.ptr p d 0, w1, w2, w3, .ptr q dq 0, w5, w6, w7], ⟨(z, .tok 0) :: setEnt (setEnt h.ents p (pr l ((a : Int) + 1 + 1 + 1) 0 to)) q (.cells [.str [], .imm (.own z 0) 1 [.str tx], LM, LE]), n', ty⟩, []⟩ Q) : W tree.getF fileLoop ⟨[.ptr p d 0, v1, v2, v3, .ptr q dq 0, v5, v6, v7], h, []⟩ Q := by
  obtain ⟨hu, hut, hX⟩ := fx4 hf
  have hY := fx5 hf hg; have ⟨hG, hD2, hC2, hN2⟩ := hY
  have hqp : q ≠ p := fun e => hpq e.symm
  have hq2 : ∀ x, getEnt (setEnt h.ents p x) q = some (.cells [.str [], .nils, LM, LE]) := fun x => (getEnt_setEnt_ne hqp).trans hq
  have hQ : ∀ x y, getEnt (setEnt (setEnt h.ents p x) q y) q = some y := fun x y => sy_getEnt_setEnt (hq2 x)
  have hQP : ∀ x y, getEnt (setEnt (setEnt h.ents p x) q y) p = some x := fun x y => (getEnt_setEnt_ne hpq).trans (hG x)
  have hPQ : ∀ x y z, setEnt (setEnt (setEnt h.ents p x) q y) p z = setEnt (setEnt h.ents p z) q y := fun x y z => by rw [setEnt_comm hqp, sy_setEnt_setEnt]
  have hC3 : ∀ x y m, h.next ≤ m → dropCells (setEnt (setEnt h.ents p x) q y) m = setEnt (setEnt h.ents p x) q y := fun x y m hm => dropCells_under (hu.set.set.le hm)
  refine W.loop ?_
  repeat (first | refine sq_ ?_ | refine bl_ ?_ | ((first | refine rg_ ?_ | refine go_ ?_); generalize e : goR _ _ _ _ _ _ _ _ = r; simp (disch := omega) [hX, hg, hY, hq, hq2, hQ, hQP, hPQ, hC3, sy_ibneT, sy_ibneF, sy_ibeqT, List.length_append, List.length_cons, List.length_nil] at e; replace e : some _ = _ := e; subst e; (try dsimp only [goW])) | refine ct_ rfl ?_ | refine cf_ rfl ?_ | refine sk_ ?_ | refine ex_ ?_ | (refine p_word l hll (a + 0) 1 [105, 109, 112, 111, 114, 116] 0 b0 hl0 ((a : Int)) (by omega) 0 to _ p d ?_ ?_ ?_ _  fun n0 ty0 hn0 hun0 => ⟨rfl, ?_⟩; (focus (((refine ⟨?_, ?_⟩; (focus ((repeat (first | exact hu.le (by (try dsimp only); omega) | exact hu.set.le (by (try dsimp only); omega) | exact hu.set.set.le (by (try dsimp only); omega) | exact hu.set.set.set.le (by (try dsimp only); omega) | refine Under.cons (by (try dsimp only); omega) ?_ | exact Under.nil)); done)); exact ut_)); done)); (focus (((first | exact hg | exact hG _ | ((try dsimp only); exact hg) | ((try dsimp only); exact hG _) | (simp (disch := omega) [getEnt, setEnt, sy_nbeq, sy_neqF, sy_setEnt_setEnt, getEnt_setEnt_ne, hg, hG, hPQ]; done) | ((simp (disch := omega) [getEnt, setEnt, sy_nbeq, sy_neqF, sy_setEnt_setEnt, getEnt_setEnt_ne, hg, hG, hPQ]); omega))); done)); (try dsimp only); omega; (try dsimp only at hn0)) | (refine p_takeF l hll (a + 0) 1 [105, 109, 112, 111, 114, 116] 0 b0 hl0 ((a : Int)) (by omega) 0 to _ p d ?_ ?_ ?_ _ _ _ rfl fun n1 ty1 hn1 hun1 => ⟨rfl, ?_⟩; (focus (((refine ⟨?_, ?_⟩; (focus ((repeat (first | exact hu.le (by (try dsimp only); omega) | exact hu.set.le (by (try dsimp only); omega) | exact hu.set.set.le (by (try dsimp only); omega) | exact hu.set.set.set.le (by (try dsimp only); omega) | refine Under.cons (by (try dsimp only); omega) ?_ | exact Under.nil)); done)); exact ut_)); done)); (focus (((first | exact hg | exact hG _ | ((try dsimp only); exact hg) | ((try dsimp only); exact hG _) | (simp (disch := omega) [getEnt, setEnt, sy_nbeq, sy_neqF, sy_setEnt_setEnt, getEnt_setEnt_ne, hg, hG, hPQ]; done) | ((simp (disch := omega) [getEnt, setEnt, sy_nbeq, sy_neqF, sy_setEnt_setEnt, getEnt_setEnt_ne, hg, hG, hPQ]); omega))); done)); (try dsimp only); omega; (try dsimp only at hn1)) | (refine p_is l hll (a + 0) 1 [105, 109, 112, 111, 114, 116] 0 b0 hl0 ((a : Int)) (by omega) 0 to _ p d ?_ ?_ ?_ _ _ _ false rfl fun n2 ty2 hn2 hun2 => ⟨rfl, ?_⟩; (focus (((refine ⟨?_, ?_⟩; (focus ((repeat (first | exact hu.le (by (try dsimp only); omega) | exact hu.set.le (by (try dsimp only); omega) | exact hu.set.set.le (by (try dsimp only); omega) | exact hu.set.set.set.le (by (try dsimp only); omega) | refine Under.cons (by (try dsimp only); omega) ?_ | exact Under.nil)); done)); exact ut_)); done)); (focus (((first | exact hg | exact hG _ | ((try dsimp only); exact hg) | ((try dsimp only); exact hG _) | (simp (disch := omega) [getEnt, setEnt, sy_nbeq, sy_neqF, sy_setEnt_setEnt, getEnt_setEnt_ne, hg, hG, hPQ]; done) | ((simp (disch := omega) [getEnt, setEnt, sy_nbeq, sy_neqF, sy_setEnt_setEnt, getEnt_setEnt_ne, hg, hG, hPQ]); omega))); done)); (try dsimp only); omega; (try dsimp only at hn2)) | (refine p_is l hll (a + 0) 1 [105, 109, 112, 111, 114, 116] 0 b0 hl0 ((a : Int)) (by omega) 0 to _ p d ?_ ?_ ?_ _ _ _ true rfl fun n3 ty3 hn3 hun3 => ⟨rfl, ?_⟩; (focus (((refine ⟨?_, ?_⟩; (focus ((repeat (first | exact hu.le (by (try dsimp only); omega) | exact hu.set.le (by (try dsimp only); omega) | exact hu.set.set.le (by (try dsimp only); omega) | exact hu.set.set.set.le (by (try dsimp only); omega) | refine Under.cons (by (try dsimp only); omega) ?_ | exact Under.nil)); done)); exact ut_)); done)); (focus (((first | exact hg | exact hG _ | ((try dsimp only); exact hg) | ((try dsimp only); exact hG _) | (simp (disch := omega) [getEnt, setEnt, sy_nbeq, sy_neqF, sy_setEnt_setEnt, getEnt_setEnt_ne, hg, hG, hPQ]; done) | ((simp (disch := omega) [getEnt, setEnt, sy_nbeq, sy_neqF, sy_setEnt_setEnt, getEnt_setEnt_ne, hg, hG, hPQ]); omega))); done)); (try dsimp only); omega; (try dsimp only at hn3)) | (refine (p_mostF p d _ (by omega)) _ ?_ _ fun n30 tyn30 hn30 hun30 => ⟨rfl, ?_⟩; (focus (((refine ⟨?_, ?_⟩; (focus ((repeat (first | exact hu.le (by (try dsimp only); omega) | exact hu.set.le (by (try dsimp only); omega) | exact hu.set.set.le (by (try dsimp only); omega) | exact hu.set.set.set.le (by (try dsimp only); omega) | refine Under.cons (by (try dsimp only); omega) ?_ | exact Under.nil)); done)); exact ut_)); done)); (try dsimp only at hn30)) | (refine p_next l hll (a + 0) 1 [105, 109, 112, 111, 114, 116] 0 b0 hl0 ((a : Int)) (by omega) 0 to _ p d ?_ ?_ ?_ _  fun n4 ty4 hn4 hun4 => ⟨rfl, ?_⟩; (focus (((refine ⟨?_, ?_⟩; (focus ((repeat (first | exact hu.le (by (try dsimp only); omega) | exact hu.set.le (by (try dsimp only); omega) | exact hu.set.set.le (by (try dsimp only); omega) | exact hu.set.set.set.le (by (try dsimp only); omega) | refine Under.cons (by (try dsimp only); omega) ?_ | exact Under.nil)); done)); exact ut_)); done)); (focus (((first | exact hg | exact hG _ | ((try dsimp only); exact hg) | ((try dsimp only); exact hG _) | (simp (disch := omega) [getEnt, setEnt, sy_nbeq, sy_neqF, sy_setEnt_setEnt, getEnt_setEnt_ne, hg, hG, hPQ]; done) | ((simp (disch := omega) [getEnt, setEnt, sy_nbeq, sy_neqF, sy_setEnt_setEnt, getEnt_setEnt_ne, hg, hG, hPQ]); omega))); done)); (try dsimp only); omega; (try dsimp only at hn4)) | (refine p_of l hll (a + 1) 3 tx 0 b1 hl1 ((a : Int) + 1) (by omega) 0 to _ p d ?_ ?_ ?_ _ 3 rfl fun n5 ty5 hn5 hun5 => ⟨rfl, ?_⟩; (focus (((refine ⟨?_, ?_⟩; (focus ((repeat (first | exact hu.le (by (try dsimp only); omega) | exact hu.set.le (by (try dsimp only); omega) | exact hu.set.set.le (by (try dsimp only); omega) | exact hu.set.set.set.le (by (try dsimp only); omega) | refine Under.cons (by (try dsimp only); omega) ?_ | exact Under.nil)); done)); exact ut_)); done)); (focus (((first | exact hg | exact hG _ | ((try dsimp only); exact hg) | ((try dsimp only); exact hG _) | (simp (disch := omega) [getEnt, setEnt, sy_nbeq, sy_neqF, sy_setEnt_setEnt, getEnt_setEnt_ne, hg, hG, hPQ]; done) | ((simp (disch := omega) [getEnt, setEnt, sy_nbeq, sy_neqF, sy_setEnt_setEnt, getEnt_setEnt_ne, hg, hG, hPQ]); omega))); done)); (try dsimp only); omega; (try dsimp only at hn5)) | (refine p_sign l hll (a + 2) 4 [59] 0 b2 hl2 ((a : Int) + 1 + 1) (by omega) 0 to _ p d ?_ ?_ ?_ _ _ rfl fun n6 ty6 hn6 hun6 => ⟨rfl, ?_⟩; (focus (((refine ⟨?_, ?_⟩; (focus ((repeat (first | exact hu.le (by (try dsimp only); omega) | exact hu.set.le (by (try dsimp only); omega) | exact hu.set.set.le (by (try dsimp only); omega) | exact hu.set.set.set.le (by (try dsimp only); omega) | refine Under.cons (by (try dsimp only); omega) ?_ | exact Under.nil)); done)); exact ut_)); done)); (focus (((first | exact hg | exact hG _ | ((try dsimp only); exact hg) | ((try dsimp only); exact hG _) | (simp (disch := omega) [getEnt, setEnt, sy_nbeq, sy_neqF, sy_setEnt_setEnt, getEnt_setEnt_ne, hg, hG, hPQ]; done) | ((simp (disch := omega) [getEnt, setEnt, sy_nbeq, sy_neqF, sy_setEnt_setEnt, getEnt_setEnt_ne, hg, hG, hPQ]); omega))); done)); (try dsimp only); omega; (try dsimp only at hn6)))
  show W tree.getF fileLoop (dropped true _ _) Q
  generalize e : dropped _ _ _ = r0
  simp (disch := omega) [hX, hg, hY, hq, hq2, hQ, hQP, hPQ, hC3, sy_ibneT, sy_ibneF, sy_ibeqT, List.length_append, List.length_cons, List.length_nil] at e
  subst e
  try dsimp only
  refine hk _ _ _ _ _ _ _ _ _ ?_ ?_ ?_
  · (try dsimp only); omega
  · (try dsimp only); omega
  · exact ut_

theorem fl_imp_o (p d q dq : Nat) (hpq : p ≠ q) (l : List Tok) (hll : l.length < 100000) (a : Nat) (to : Int) (LM LE : CVal) (Q : CExit → CSt → Prop) (v1 v2 v3 v5 v6 v7 : CVal) (h : CHeap) (hf : Fit h) (hg : getEnt h.ents p = some (pr l (a : Int) 0 to)) (hp : p < h.next) (hqn : q < h.next) (iq vq : Nat) (ts : List CVal) (hts : ts.length < 30) (hti : getEnt h.ents iq = some (.tok vq)) (hip : iq ≠ p) (hiq : iq ≠ q) (hin : iq < h.next) (hq : getEnt h.ents q = some (.cells [.str [], .imm (.own iq vq) 1 ts, LM, LE])) (b0 b1 b2 : Nat) (tx : List UInt8) (hl0 : l[a + 0]? = some (1, [105, 109, 112, 111, 114, 116], 0, b0)) (hl1 : l[a + 1]? = some (3, tx, 0, b1)) (hl2 : l[a + 2]? = some (4, [59], 0, b2))
    (hk : ∀ n' ty w1 w2 w3 w5 w6 w7, h.next ≤ n' → UnderT ty n' → W tree.getF fileLoop ⟨[.ptr p d 0, w1, w2, w3, .ptr q dq 0, w5, w6, w7], ⟨setEnt (setEnt (setEnt h.ents p (pr l ((a : Int) + 1 + 1 + 1) 0 to)) iq (.tok (vq + 1))) q (.cells [.str [], .imm (.own iq (vq + 1)) 1 (ts ++ [.str tx]), LM, LE]), n', ty⟩, []⟩ Q) : W tree.getF fileLoop ⟨[.ptr p d 0, v1, v2, v3, .ptr q dq 0, v5, v6, v7], h, []⟩ Q := by
  obtain ⟨hu, hut, hX⟩ := fx4 hf
  have hY := fx5 hf hg; have ⟨hG, hD2, hC2, hN2⟩ := hY
  have hqp : q ≠ p := fun e => hpq e.symm
  have hq2 : ∀ x, getEnt (setEnt h.ents p x) q = some (.cells [.str [], .imm (.own iq vq) 1 ts, LM, LE]) := fun x => (getEnt_setEnt_ne hqp).trans hq
  have hQ : ∀ x y, getEnt (setEnt (setEnt h.ents p x) q y) q = some y := fun x y => sy_getEnt_setEnt (hq2 x)
  have hQP : ∀ x y, getEnt (setEnt (setEnt h.ents p x) q y) p = some x := fun x y => (getEnt_setEnt_ne hpq).trans (hG x)
  have hPQ : ∀ x y z, setEnt (setEnt (setEnt h.ents p x) q y) p z = setEnt (setEnt h.ents p z) q y := fun x y z => by rw [setEnt_comm hqp, sy_setEnt_setEnt]
  have hC3 : ∀ x y m, h.next ≤ m → dropCells (setEnt (setEnt h.ents p x) q y) m = setEnt (setEnt h.ents p x) q y := fun x y m hm => dropCells_under (hu.set.set.le hm)
  have hip2 : ¬ p = iq := fun e => hip e.symm
  have hiq2 : ¬ q = iq := fun e => hiq e.symm
  have hI1 : ∀ x, getEnt (setEnt h.ents p x) iq = some (.tok vq) := fun x => (getEnt_setEnt_ne hip).trans hti
  have hI2 : ∀ x t, getEnt (setEnt (setEnt h.ents p x) iq t) iq = some t := fun x t => sy_getEnt_setEnt (hI1 x)
  have hI3 : ∀ x t, getEnt (setEnt (setEnt h.ents p x) iq t) q = some (.cells [.str [], .imm (.own iq vq) 1 ts, LM, LE]) := fun x t => (getEnt_setEnt_ne hiq2).trans (hq2 x)
  have hI4 : ∀ x t y, getEnt (setEnt (setEnt (setEnt h.ents p x) iq t) q y) q = some y := fun x t y => sy_getEnt_setEnt (hI3 x t)
  have hI5 : ∀ x t y, getEnt (setEnt (setEnt (setEnt h.ents p x) iq t) q y) p = some x := fun x t y => (getEnt_setEnt_ne hpq).trans ((getEnt_setEnt_ne hip2).trans (hG x))
  have hI6 : ∀ x t y z, setEnt (setEnt (setEnt (setEnt h.ents p x) iq t) q y) p z = setEnt (setEnt (setEnt h.ents p z) iq t) q y := fun x t y z => by rw [setEnt_comm hqp, setEnt_comm hip, sy_setEnt_setEnt]
  have hI7 : ∀ x t y m, h.next ≤ m → dropCells (setEnt (setEnt (setEnt h.ents p x) iq t) q y) m = setEnt (setEnt (setEnt h.ents p x) iq t) q y := fun x t y m hm => dropCells_under (hu.set.set.set.le hm)
  refine W.loop ?_
  repeat (first | refine sq_ ?_ | refine bl_ ?_ | ((first | refine rg_ ?_ | refine go_ ?_); generalize e : goR _ _ _ _ _ _ _ _ = r; simp (disch := omega) [hX, hg, hY, hq, hq2, hQ, hQP, hPQ, hC3, sy_ibneT, sy_ibneF, sy_ibeqT, beqs_refl, hti, hI1, hI2, hI3, hI4, hI5, hI6, hI7, hip, hiq, List.length_append, List.length_cons, List.length_nil] at e; replace e : some _ = _ := e; subst e; (try dsimp only [goW])) | refine ct_ rfl ?_ | refine cf_ rfl ?_ | refine sk_ ?_ | refine ex_ ?_ | (refine p_word l hll (a + 0) 1 [105, 109, 112, 111, 114, 116] 0 b0 hl0 ((a : Int)) (by omega) 0 to _ p d ?_ ?_ ?_ _  fun n0 ty0 hn0 hun0 => ⟨rfl, ?_⟩; (focus (((refine ⟨?_, ?_⟩; (focus ((repeat (first | exact hu.le (by (try dsimp only); omega) | exact hu.set.le (by (try dsimp only); omega) | exact hu.set.set.le (by (try dsimp only); omega) | exact hu.set.set.set.le (by (try dsimp only); omega) | refine Under.cons (by (try dsimp only); omega) ?_ | exact Under.nil)); done)); exact ut_)); done)); (focus (((first | exact hg | exact hG _ | ((try dsimp only); exact hg) | ((try dsimp only); exact hG _) | (simp (disch := omega) [getEnt, setEnt, sy_nbeq, sy_neqF, sy_setEnt_setEnt, getEnt_setEnt_ne, hg, hG, hPQ]; done) | ((simp (disch := omega) [getEnt, setEnt, sy_nbeq, sy_neqF, sy_setEnt_setEnt, getEnt_setEnt_ne, hg, hG, hPQ]); omega))); done)); (try dsimp only); omega; (try dsimp only at hn0)) | (refine p_takeF l hll (a + 0) 1 [105, 109, 112, 111, 114, 116] 0 b0 hl0 ((a : Int)) (by omega) 0 to _ p d ?_ ?_ ?_ _ _ _ rfl fun n1 ty1 hn1 hun1 => ⟨rfl, ?_⟩; (focus (((refine ⟨?_, ?_⟩; (focus ((repeat (first | exact hu.le (by (try dsimp only); omega) | exact hu.set.le (by (try dsimp only); omega) | exact hu.set.set.le (by (try dsimp only); omega) | exact hu.set.set.set.le (by (try dsimp only); omega) | refine Under.cons (by (try dsimp only); omega) ?_ | exact Under.nil)); done)); exact ut_)); done)); (focus (((first | exact hg | exact hG _ | ((try dsimp only); exact hg) | ((try dsimp only); exact hG _) | (simp (disch := omega) [getEnt, setEnt, sy_nbeq, sy_neqF, sy_setEnt_setEnt, getEnt_setEnt_ne, hg, hG, hPQ]; done) | ((simp (disch := omega) [getEnt, setEnt, sy_nbeq, sy_neqF, sy_setEnt_setEnt, getEnt_setEnt_ne, hg, hG, hPQ]); omega))); done)); (try dsimp only); omega; (try dsimp only at hn1)) | (refine p_is l hll (a + 0) 1 [105, 109, 112, 111, 114, 116] 0 b0 hl0 ((a : Int)) (by omega) 0 to _ p d ?_ ?_ ?_ _ _ _ false rfl fun n2 ty2 hn2 hun2 => ⟨rfl, ?_⟩; (focus (((refine ⟨?_, ?_⟩; (focus ((repeat (first | exact hu.le (by (try dsimp only); omega) | exact hu.set.le (by (try dsimp only); omega) | exact hu.set.set.le (by (try dsimp only); omega) | exact hu.set.set.set.le (by (try dsimp only); omega) | refine Under.cons (by (try dsimp only); omega) ?_ | exact Under.nil)); done)); exact ut_)); done)); (focus (((first | exact hg | exact hG _ | ((try dsimp only); exact hg) | ((try dsimp only); exact hG _) | (simp (disch := omega) [getEnt, setEnt, sy_nbeq, sy_neqF, sy_setEnt_setEnt, getEnt_setEnt_ne, hg, hG, hPQ]; done) | ((simp (disch := omega) [getEnt, setEnt, sy_nbeq, sy_neqF, sy_setEnt_setEnt, getEnt_setEnt_ne, hg, hG, hPQ]); omega))); done)); (try dsimp only); omega; (try dsimp only at hn2)) | (refine p_is l hll (a + 0) 1 [105, 109, 112, 111, 114, 116] 0 b0 hl0 ((a : Int)) (by omega) 0 to _ p d ?_ ?_ ?_ _ _ _ true rfl fun n3 ty3 hn3 hun3 => ⟨rfl, ?_⟩; (focus (((refine ⟨?_, ?_⟩; (focus ((repeat (first | exact hu.le (by (try dsimp only); omega) | exact hu.set.le (by (try dsimp only); omega) | exact hu.set.set.le (by (try dsimp only); omega) | exact hu.set.set.set.le (by (try dsimp only); omega) | refine Under.cons (by (try dsimp only); omega) ?_ | exact Under.nil)); done)); exact ut_)); done)); (focus (((first | exact hg | exact hG _ | ((try dsimp only); exact hg) | ((try dsimp only); exact hG _) | (simp (disch := omega) [getEnt, setEnt, sy_nbeq, sy_neqF, sy_setEnt_setEnt, getEnt_setEnt_ne, hg, hG, hPQ]; done) | ((simp (disch := omega) [getEnt, setEnt, sy_nbeq, sy_neqF, sy_setEnt_setEnt, getEnt_setEnt_ne, hg, hG, hPQ]); omega))); done)); (try dsimp only); omega; (try dsimp only at hn3)) | (refine (p_mostF p d _ (by omega)) _ ?_ _ fun n30 tyn30 hn30 hun30 => ⟨rfl, ?_⟩; (focus (((refine ⟨?_, ?_⟩; (focus ((repeat (first | exact hu.le (by (try dsimp only); omega) | exact hu.set.le (by (try dsimp only); omega) | exact hu.set.set.le (by (try dsimp only); omega) | exact hu.set.set.set.le (by (try dsimp only); omega) | refine Under.cons (by (try dsimp only); omega) ?_ | exact Under.nil)); done)); exact ut_)); done)); (try dsimp only at hn30)) | (refine p_next l hll (a + 0) 1 [105, 109, 112, 111, 114, 116] 0 b0 hl0 ((a : Int)) (by omega) 0 to _ p d ?_ ?_ ?_ _  fun n4 ty4 hn4 hun4 => ⟨rfl, ?_⟩; (focus (((refine ⟨?_, ?_⟩; (focus ((repeat (first | exact hu.le (by (try dsimp only); omega) | exact hu.set.le (by (try dsimp only); omega) | exact hu.set.set.le (by (try dsimp only); omega) | exact hu.set.set.set.le (by (try dsimp only); omega) | refine Under.cons (by (try dsimp only); omega) ?_ | exact Under.nil)); done)); exact ut_)); done)); (focus (((first | exact hg | exact hG _ | ((try dsimp only); exact hg) | ((try dsimp only); exact hG _) | (simp (disch := omega) [getEnt, setEnt, sy_nbeq, sy_neqF, sy_setEnt_setEnt, getEnt_setEnt_ne, hg, hG, hPQ]; done) | ((simp (disch := omega) [getEnt, setEnt, sy_nbeq, sy_neqF, sy_setEnt_setEnt, getEnt_setEnt_ne, hg, hG, hPQ]); omega))); done)); (try dsimp only); omega; (try dsimp only at hn4)) | (refine p_of l hll (a + 1) 3 tx 0 b1 hl1 ((a : Int) + 1) (by omega) 0 to _ p d ?_ ?_ ?_ _ 3 rfl fun n5 ty5 hn5 hun5 => ⟨rfl, ?_⟩; (focus (((refine ⟨?_, ?_⟩; (focus ((repeat (first | exact hu.le (by (try dsimp only); omega) | exact hu.set.le (by (try dsimp only); omega) | exact hu.set.set.le (by (try dsimp only); omega) | exact hu.set.set.set.le (by (try dsimp only); omega) | refine Under.cons (by (try dsimp only); omega) ?_ | exact Under.nil)); done)); exact ut_)); done)); (focus (((first | exact hg | exact hG _ | ((try dsimp only); exact hg) | ((try dsimp only); exact hG _) | (simp (disch := omega) [getEnt, setEnt, sy_nbeq, sy_neqF, sy_setEnt_setEnt, getEnt_setEnt_ne, hg, hG, hPQ]; done) | ((simp (disch := omega) [getEnt, setEnt, sy_nbeq, sy_neqF, sy_setEnt_setEnt, getEnt_setEnt_ne, hg, hG, hPQ]); omega))); done)); (try dsimp only); omega; (try dsimp only at hn5)) | (refine p_sign l hll (a + 2) 4 [59] 0 b2 hl2 ((a : Int) + 1 + 1) (by omega) 0 to _ p d ?_ ?_ ?_ _ _ rfl fun n6 ty6 hn6 hun6 => ⟨rfl, ?_⟩; (focus (((refine ⟨?_, ?_⟩; (focus ((repeat (first | exact hu.le (by (try dsimp only); omega) | exact hu.set.le (by (try dsimp only); omega) | exact hu.set.set.le (by (try dsimp only); omega) | exact hu.set.set.set.le (by (try dsimp only); omega) | refine Under.cons (by (try dsimp only); omega) ?_ | exact Under.nil)); done)); exact ut_)); done)); (focus (((first | exact hg | exact hG _ | ((try dsimp only); exact hg) | ((try dsimp only); exact hG _) | (simp (disch := omega) [getEnt, setEnt, sy_nbeq, sy_neqF, sy_setEnt_setEnt, getEnt_setEnt_ne, hg, hG, hPQ]; done) | ((simp (disch := omega) [getEnt, setEnt, sy_nbeq, sy_neqF, sy_setEnt_setEnt, getEnt_setEnt_ne, hg, hG, hPQ]); omega))); done)); (try dsimp only); omega; (try dsimp only at hn6)))
  show W tree.getF fileLoop (dropped true _ _) Q
  generalize e : dropped _ _ _ = r0
  simp (disch := omega) [hX, hg, hY, hq, hq2, hQ, hQP, hPQ, hC3, sy_ibneT, sy_ibneF, sy_ibeqT, beqs_refl, hti, hI1, hI2, hI3, hI4, hI5, hI6, hI7, hip, hiq, List.length_append, List.length_cons, List.length_nil] at e
  subst e
  try dsimp only
  refine hk _ _ _ _ _ _ _ _ ?_ ?_
  · (try dsimp only); omega
  · exact ut_

theorem fl_msg_n (p d q dq : Nat) (hpq : p ≠ q) (l : List Tok) (hll : l.length < 100000) (a : Nat) (to : Int) (LI LE : CVal) (Q : CExit → CSt → Prop) (v1 v2 v3 v5 v6 v7 : CVal) (h : CHeap) (hf : Fit h) (hg : getEnt h.ents p = some (pr l (a : Int) 0 to)) (hp : p < h.next) (hqn : q < h.next)  (hq : getEnt h.ents q = some (.cells [.str [], LI, .nils, LE])) (b0 b1 b2 b3 b4 b5 b6 b7 b8 : Nat) (nm T fn : List UInt8) (n : Nat) (hP : PlainOk nm) (hF : PlainOk fn) (hm0 : (T == [109, 97, 112]) = false) (hm1 : (T == [111, 112, 116, 105, 111, 110, 97, 108]) = false) (hm2 : (T == [114, 101, 112, 101, 97, 116, 101, 100]) = false) (hm3 : (T == [109, 101, 115, 115, 97, 103, 101]) = false) (hm4 : (T == [101, 110, 117, 109]) = false) (hm5 : (T == [111, 110, 101, 111, 102]) = false) (hm6 : (T == [114, 101, 115, 101, 114, 118, 101, 100]) = false) (hl0 : l[a + 0]? = some (1, [109, 101, 115, 115, 97, 103, 101], 0, b0)) (hl1 : l[a + 1]? = some (1, nm, 0, b1)) (hl2 : l[a + 2]? = some (4, [123], 0, b2)) (hl3 : l[a + 3]? = some (1, T, 0, b3)) (hl4 : l[a + 4]? = some (1, fn, 0, b4)) (hl5 : l[a + 5]? = some (4, [61], 0, b5)) (hl6 : l[a + 6]? = some (2, [], n, b6)) (hl7 : l[a + 7]? = some (4, [59], 0, b7)) (hl8 : l[a + 8]? = some (4, [125], 0, b8))
    (hk : ∀ z n' ty w1 w2 w3 w5 w6 w7, h.next ≤ z → z < n' → UnderT ty n' → W tree.getF fileLoop ⟨[.ptr p d 0, w1, w2, w3, .ptr q dq 0, w5, w6, w7], ⟨(z, .tok 0) :: setEnt (setEnt h.ents p (pr l ((a : Int) + 1 + 1 + 1 + 1 + 1 + 1 + 1 + 1 + 1) 0 to)) q (.cells [.str [], LI, .imm (.own z 0) 7 [.agg [.str nm, .imm .none 7 [.agg [.int .i64 0, .str T, .str [], .str fn, .int .u64 (n : Int), .int .i64 0, .int .i64 0]], .nils, .nils, .nils, .nils, .nils]], LE]), n', ty⟩, []⟩ Q) : W tree.getF fileLoop ⟨[.ptr p d 0, v1, v2, v3, .ptr q dq 0, v5, v6, v7], h, []⟩ Q := by
  obtain ⟨hu, hut, hX⟩ := fx4 hf
  have hY := fx5 hf hg; have ⟨hG, hD2, hC2, hN2⟩ := hY
  have hqp : q ≠ p := fun e => hpq e.symm
  have hq2 : ∀ x, getEnt (setEnt h.ents p x) q = some (.cells [.str [], LI, .nils, LE]) := fun x => (getEnt_setEnt_ne hqp).trans hq
  have hQ : ∀ x y, getEnt (setEnt (setEnt h.ents p x) q y) q = some y := fun x y => sy_getEnt_setEnt (hq2 x)
  have hQP : ∀ x y, getEnt (setEnt (setEnt h.ents p x) q y) p = some x := fun x y => (getEnt_setEnt_ne hpq).trans (hG x)
  have hPQ : ∀ x y z, setEnt (setEnt (setEnt h.ents p x) q y) p z = setEnt (setEnt h.ents p z) q y := fun x y z => by rw [setEnt_comm hqp, sy_setEnt_setEnt]
  have hC3 : ∀ x y m, h.next ≤ m → dropCells (setEnt (setEnt h.ents p x) q y) m = setEnt (setEnt h.ents p x) q y := fun x y m hm => dropCells_under (hu.set.set.le hm)
  refine W.loop ?_
  repeat (first | refine sq_ ?_ | refine bl_ ?_ | ((first | refine rg_ ?_ | refine go_ ?_); generalize e : goR _ _ _ _ _ _ _ _ = r; simp (disch := omega) [hX, hg, hY, hq, hq2, hQ, hQP, hPQ, hC3, sy_ibneT, sy_ibneF, sy_ibeqT, List.length_append, List.length_cons, List.length_nil] at e; replace e : some _ = _ := e; subst e; (try dsimp only [goW])) | refine ct_ rfl ?_ | refine cf_ rfl ?_ | refine sk_ ?_ | refine ex_ ?_ | (refine p_word l hll (a + 0) 1 [109, 101, 115, 115, 97, 103, 101] 0 b0 hl0 ((a : Int)) (by omega) 0 to _ p d ?_ ?_ ?_ _  fun n0 ty0 hn0 hun0 => ⟨rfl, ?_⟩; (focus (((refine ⟨?_, ?_⟩; (focus ((repeat (first | exact hu.le (by (try dsimp only); omega) | exact hu.set.le (by (try dsimp only); omega) | exact hu.set.set.le (by (try dsimp only); omega) | exact hu.set.set.set.le (by (try dsimp only); omega) | refine Under.cons (by (try dsimp only); omega) ?_ | exact Under.nil)); done)); exact ut_)); done)); (focus (((first | exact hg | exact hG _ | ((try dsimp only); exact hg) | ((try dsimp only); exact hG _) | (simp (disch := omega) [getEnt, setEnt, sy_nbeq, sy_neqF, sy_setEnt_setEnt, getEnt_setEnt_ne, hg, hG, hPQ]; done) | ((simp (disch := omega) [getEnt, setEnt, sy_nbeq, sy_neqF, sy_setEnt_setEnt, getEnt_setEnt_ne, hg, hG, hPQ]); omega))); done)); (try dsimp only); omega; (try dsimp only at hn0)) | (refine p_takeF l hll (a + 0) 1 [109, 101, 115, 115, 97, 103, 101] 0 b0 hl0 ((a : Int)) (by omega) 0 to _ p d ?_ ?_ ?_ _ _ _ rfl fun n1 ty1 hn1 hun1 => ⟨rfl, ?_⟩; (focus (((refine ⟨?_, ?_⟩; (focus ((repeat (first | exact hu.le (by (try dsimp only); omega) | exact hu.set.le (by (try dsimp only); omega) | exact hu.set.set.le (by (try dsimp only); omega) | exact hu.set.set.set.le (by (try dsimp only); omega) | refine Under.cons (by (try dsimp only); omega) ?_ | exact Under.nil)); done)); exact ut_)); done)); (focus (((first | exact hg | exact hG _ | ((try dsimp only); exact hg) | ((try dsimp only); exact hG _) | (simp (disch := omega) [getEnt, setEnt, sy_nbeq, sy_neqF, sy_setEnt_setEnt, getEnt_setEnt_ne, hg, hG, hPQ]; done) | ((simp (disch := omega) [getEnt, setEnt, sy_nbeq, sy_neqF, sy_setEnt_setEnt, getEnt_setEnt_ne, hg, hG, hPQ]); omega))); done)); (try dsimp only); omega; (try dsimp only at hn1)) | (refine p_is l hll (a + 0) 1 [109, 101, 115, 115, 97, 103, 101] 0 b0 hl0 ((a : Int)) (by omega) 0 to _ p d ?_ ?_ ?_ _ _ _ false rfl fun n2 ty2 hn2 hun2 => ⟨rfl, ?_⟩; (focus (((refine ⟨?_, ?_⟩; (focus ((repeat (first | exact hu.le (by (try dsimp only); omega) | exact hu.set.le (by (try dsimp only); omega) | exact hu.set.set.le (by (try dsimp only); omega) | exact hu.set.set.set.le (by (try dsimp only); omega) | refine Under.cons (by (try dsimp only); omega) ?_ | exact Under.nil)); done)); exact ut_)); done)); (focus (((first | exact hg | exact hG _ | ((try dsimp only); exact hg) | ((try dsimp only); exact hG _) | (simp (disch := omega) [getEnt, setEnt, sy_nbeq, sy_neqF, sy_setEnt_setEnt, getEnt_setEnt_ne, hg, hG, hPQ]; done) | ((simp (disch := omega) [getEnt, setEnt, sy_nbeq, sy_neqF, sy_setEnt_setEnt, getEnt_setEnt_ne, hg, hG, hPQ]); omega))); done)); (try dsimp only); omega; (try dsimp only at hn2)) | (refine p_is l hll (a + 0) 1 [109, 101, 115, 115, 97, 103, 101] 0 b0 hl0 ((a : Int)) (by omega) 0 to _ p d ?_ ?_ ?_ _ _ _ true rfl fun n3 ty3 hn3 hun3 => ⟨rfl, ?_⟩; (focus (((refine ⟨?_, ?_⟩; (focus ((repeat (first | exact hu.le (by (try dsimp only); omega) | exact hu.set.le (by (try dsimp only); omega) | exact hu.set.set.le (by (try dsimp only); omega) | exact hu.set.set.set.le (by (try dsimp only); omega) | refine Under.cons (by (try dsimp only); omega) ?_ | exact Under.nil)); done)); exact ut_)); done)); (focus (((first | exact hg | exact hG _ | ((try dsimp only); exact hg) | ((try dsimp only); exact hG _) | (simp (disch := omega) [getEnt, setEnt, sy_nbeq, sy_neqF, sy_setEnt_setEnt, getEnt_setEnt_ne, hg, hG, hPQ]; done) | ((simp (disch := omega) [getEnt, setEnt, sy_nbeq, sy_neqF, sy_setEnt_setEnt, getEnt_setEnt_ne, hg, hG, hPQ]); omega))); done)); (try dsimp only); omega; (try dsimp only at hn3)) | (refine (p_mostF p d _ (by omega)) _ ?_ _ fun n30 tyn30 hn30 hun30 => ⟨rfl, ?_⟩; (focus (((refine ⟨?_, ?_⟩; (focus ((repeat (first | exact hu.le (by (try dsimp only); omega) | exact hu.set.le (by (try dsimp only); omega) | exact hu.set.set.le (by (try dsimp only); omega) | exact hu.set.set.set.le (by (try dsimp only); omega) | refine Under.cons (by (try dsimp only); omega) ?_ | exact Under.nil)); done)); exact ut_)); done)); (try dsimp only at hn30)) | (refine p_message l hll a nm T fn n b0 b1 b2 b3 b4 b5 b6 b7 b8 hl0 hl1 hl2 hl3 hl4 hl5 hl6 hl7 hl8 to hP hF hm0 hm1 hm2 hm3 hm4 hm5 hm6 _ p d ?_ ?_ ?_ _ fun n40 ty40 hn40 hun40 => ⟨rfl, ?_⟩; (focus (((refine ⟨?_, ?_⟩; (focus ((repeat (first | exact hu.le (by (try dsimp only); omega) | exact hu.set.le (by (try dsimp only); omega) | exact hu.set.set.le (by (try dsimp only); omega) | exact hu.set.set.set.le (by (try dsimp only); omega) | refine Under.cons (by (try dsimp only); omega) ?_ | exact Under.nil)); done)); exact ut_)); done)); (focus (((first | exact hg | exact hG _ | ((try dsimp only); exact hg) | ((try dsimp only); exact hG _) | (simp (disch := omega) [getEnt, setEnt, sy_nbeq, sy_neqF, sy_setEnt_setEnt, getEnt_setEnt_ne, hg, hG, hPQ]; done) | ((simp (disch := omega) [getEnt, setEnt, sy_nbeq, sy_neqF, sy_setEnt_setEnt, getEnt_setEnt_ne, hg, hG, hPQ]); omega))); done)); (try dsimp only); omega; (try dsimp only at hn40)))
  show W tree.getF fileLoop (dropped true _ _) Q
  generalize e : dropped _ _ _ = r0
  simp (disch := omega) [hX, hg, hY, hq, hq2, hQ, hQP, hPQ, hC3, sy_ibneT, sy_ibneF, sy_ibeqT, List.length_append, List.length_cons, List.length_nil] at e
  subst e
  try dsimp only
  refine hk _ _ _ _ _ _ _ _ _ ?_ ?_ ?_
  · (try dsimp only); omega
  · (try dsimp only); omega
  · exact ut_

theorem fl_msg_o (p d q dq : Nat) (hpq : p ≠ q) (l : List Tok) (hll : l.length < 100000) (a : Nat) (to : Int) (LI LE : CVal) (Q : CExit → CSt → Prop) (v1 v2 v3 v5 v6 v7 : CVal) (h : CHeap) (hf : Fit h) (hg : getEnt h.ents p = some (pr l (a : Int) 0 to)) (hp : p < h.next) (hqn : q < h.next) (iq vq : Nat) (ts : List CVal) (hts : ts.length < 30) (hti : getEnt h.ents iq = some (.tok vq)) (hip : iq ≠ p) (hiq : iq ≠ q) (hin : iq < h.next) (hq : getEnt h.ents q = some (.cells [.str [], LI, .imm (.own iq vq) 7 ts, LE])) (b0 b1 b2 b3 b4 b5 b6 b7 b8 : Nat) (nm T fn : List UInt8) (n : Nat) (hP : PlainOk nm) (hF : PlainOk fn) (hm0 : (T == [109, 97, 112]) = false) (hm1 : (T == [111, 112, 116, 105, 111, 110, 97, 108]) = false) (hm2 : (T == [114, 101, 112, 101, 97, 116, 101, 100]) = false) (hm3 : (T == [109, 101, 115, 115, 97, 103, 101]) = false) (hm4 : (T == [101, 110, 117, 109]) = false) (hm5 : (T == [111, 110, 101, 111, 102]) = false) (hm6 : (T == [114, 101, 115, 101, 114, 118, 101, 100]) = false) (hl0 : l[a + 0]? = some (1, [109, 101, 115, 115, 97, 103, 101], 0, b0)) (hl1 : l[a + 1]? = some (1, nm, 0, b1)) (hl2 : l[a + 2]? = some (4, [123], 0, b2)) (hl3 : l[a + 3]? = some (1, T, 0, b3)) (hl4 : l[a + 4]? = some (1, fn, 0, b4)) (hl5 : l[a + 5]? = some (4, [61], 0, b5)) (hl6 : l[a + 6]? = some (2, [], n, b6)) (hl7 : l[a + 7]? = some (4, [59], 0, b7)) (hl8 : l[a + 8]? = some (4, [125], 0, b8))
    (hk : ∀ n' ty w1 w2 w3 w5 w6 w7, h.next ≤ n' → UnderT ty n' → W tree.getF fileLoop ⟨[.ptr p d 0, w1, w2, w3, .ptr q dq 0, w5, w6, w7], ⟨setEnt (setEnt (setEnt h.ents p (pr l ((a : Int) + 1 + 1 + 1 + 1 + 1 + 1 + 1 + 1 + 1) 0 to)) iq (.tok (vq + 1))) q (.cells [.str [], LI, .imm (.own iq (vq + 1)) 7 (ts ++ [.agg [.str nm, .imm .none 7 [.agg [.int .i64 0, .str T, .str [], .str fn, .int .u64 (n : Int), .int .i64 0, .int .i64 0]], .nils, .nils, .nils, .nils, .nils]]), LE]), n', ty⟩, []⟩ Q) : W tree.getF fileLoop ⟨[.ptr p d 0, v1, v2, v3, .ptr q dq 0, v5, v6, v7], h, []⟩ Q := by
  obtain ⟨hu, hut, hX⟩ := fx4 hf
  have hY := fx5 hf hg; have ⟨hG, hD2, hC2, hN2⟩ := hY
  have hqp : q ≠ p := fun e => hpq e.symm
  have hq2 : ∀ x, getEnt (setEnt h.ents p x) q = some (.cells [.str [], LI, .imm (.own iq vq) 7 ts, LE]) := fun x => (getEnt_setEnt_ne hqp).trans hq
  have hQ : ∀ x y, getEnt (setEnt (setEnt h.ents p x) q y) q = some y := fun x y => sy_getEnt_setEnt (hq2 x)
  have hQP : ∀ x y, getEnt (setEnt (setEnt h.ents p x) q y) p = some x := fun x y => (getEnt_setEnt_ne hpq).trans (hG x)
  have hPQ : ∀ x y z, setEnt (setEnt (setEnt h.ents p x) q y) p z = setEnt (setEnt h.ents p z) q y := fun x y z => by rw [setEnt_comm hqp, sy_setEnt_setEnt]
  have hC3 : ∀ x y m, h.next ≤ m → dropCells (setEnt (setEnt h.ents p x) q y) m = setEnt (setEnt h.ents p x) q y := fun x y m hm => dropCells_under (hu.set.set.le hm)
  have hip2 : ¬ p = iq := fun e => hip e.symm
  have hiq2 : ¬ q = iq := fun e => hiq e.symm
  have hI1 : ∀ x, getEnt (setEnt h.ents p x) iq = some (.tok vq) := fun x => (getEnt_setEnt_ne hip).trans hti
  have hI2 : ∀ x t, getEnt (setEnt (setEnt h.ents p x) iq t) iq = some t := fun x t => sy_getEnt_setEnt (hI1 x)
  have hI3 : ∀ x t, getEnt (setEnt (setEnt h.ents p x) iq t) q = some (.cells [.str [], LI, .imm (.own iq vq) 7 ts, LE]) := fun x t => (getEnt_setEnt_ne hiq2).trans (hq2 x)
  have hI4 : ∀ x t y, getEnt (setEnt (setEnt (setEnt h.ents p x) iq t) q y) q = some y := fun x t y => sy_getEnt_setEnt (hI3 x t)
  have hI5 : ∀ x t y, getEnt (setEnt (setEnt (setEnt h.ents p x) iq t) q y) p = some x := fun x t y => (getEnt_setEnt_ne hpq).trans ((getEnt_setEnt_ne hip2).trans (hG x))
  have hI6 : ∀ x t y z, setEnt (setEnt (setEnt (setEnt h.ents p x) iq t) q y) p z = setEnt (setEnt (setEnt h.ents p z) iq t) q y := fun x t y z => by rw [setEnt_comm hqp, setEnt_comm hip, sy_setEnt_setEnt]
  have hI7 : ∀ x t y m, h.next ≤ m → dropCells (setEnt (setEnt (setEnt h.ents p x) iq t) q y) m = setEnt (setEnt (setEnt h.ents p x) iq t) q y := fun x t y m hm => dropCells_under (hu.set.set.set.le hm)
  refine W.loop ?_
  repeat (first | refine sq_ ?_ | refine bl_ ?_ | ((first | refine rg_ ?_ | refine go_ ?_); generalize e : goR _ _ _ _ _ _ _ _ = r; simp (disch := omega) [hX, hg, hY, hq, hq2, hQ, hQP, hPQ, hC3, sy_ibneT, sy_ibneF, sy_ibeqT, beqs_refl, hti, hI1, hI2, hI3, hI4, hI5, hI6, hI7, hip, hiq, List.length_append, List.length_cons, List.length_nil] at e; replace e : some _ = _ := e; subst e; (try dsimp only [goW])) | refine ct_ rfl ?_ | refine cf_ rfl ?_ | refine sk_ ?_ | refine ex_ ?_ | (refine p_word l hll (a + 0) 1 [109, 101, 115, 115, 97, 103, 101] 0 b0 hl0 ((a : Int)) (by omega) 0 to _ p d ?_ ?_ ?_ _  fun n0 ty0 hn0 hun0 => ⟨rfl, ?_⟩; (focus (((refine ⟨?_, ?_⟩; (focus ((repeat (first | exact hu.le (by (try dsimp only); omega) | exact hu.set.le (by (try dsimp only); omega) | exact hu.set.set.le (by (try dsimp only); omega) | exact hu.set.set.set.le (by (try dsimp only); omega) | refine Under.cons (by (try dsimp only); omega) ?_ | exact Under.nil)); done)); exact ut_)); done)); (focus (((first | exact hg | exact hG _ | ((try dsimp only); exact hg) | ((try dsimp only); exact hG _) | (simp (disch := omega) [getEnt, setEnt, sy_nbeq, sy_neqF, sy_setEnt_setEnt, getEnt_setEnt_ne, hg, hG, hPQ]; done) | ((simp (disch := omega) [getEnt, setEnt, sy_nbeq, sy_neqF, sy_setEnt_setEnt, getEnt_setEnt_ne, hg, hG, hPQ]); omega))); done)); (try dsimp only); omega; (try dsimp only at hn0)) | (refine p_takeF l hll (a + 0) 1 [109, 101, 115, 115, 97, 103, 101] 0 b0 hl0 ((a : Int)) (by omega) 0 to _ p d ?_ ?_ ?_ _ _ _ rfl fun n1 ty1 hn1 hun1 => ⟨rfl, ?_⟩; (focus (((refine ⟨?_, ?_⟩; (focus ((repeat (first | exact hu.le (by (try dsimp only); omega) | exact hu.set.le (by (try dsimp only); omega) | exact hu.set.set.le (by (try dsimp only); omega) | exact hu.set.set.set.le (by (try dsimp only); omega) | refine Under.cons (by (try dsimp only); omega) ?_ | exact Under.nil)); done)); exact ut_)); done)); (focus (((first | exact hg | exact hG _ | ((try dsimp only); exact hg) | ((try dsimp only); exact hG _) | (simp (disch := omega) [getEnt, setEnt, sy_nbeq, sy_neqF, sy_setEnt_setEnt, getEnt_setEnt_ne, hg, hG, hPQ]; done) | ((simp (disch := omega) [getEnt, setEnt, sy_nbeq, sy_neqF, sy_setEnt_setEnt, getEnt_setEnt_ne, hg, hG, hPQ]); omega))); done)); (try dsimp only); omega; (try dsimp only at hn1)) | (refine p_is l hll (a + 0) 1 [109, 101, 115, 115, 97, 103, 101] 0 b0 hl0 ((a : Int)) (by omega) 0 to _ p d ?_ ?_ ?_ _ _ _ false rfl fun n2 ty2 hn2 hun2 => ⟨rfl, ?_⟩; (focus (((refine ⟨?_, ?_⟩; (focus ((repeat (first | exact hu.le (by (try dsimp only); omega) | exact hu.set.le (by (try dsimp only); omega) | exact hu.set.set.le (by (try dsimp only); omega) | exact hu.set.set.set.le (by (try dsimp only); omega) | refine Under.cons (by (try dsimp only); omega) ?_ | exact Under.nil)); done)); exact ut_)); done)); (focus (((first | exact hg | exact hG _ | ((try dsimp only); exact hg) | ((try dsimp only); exact hG _) | (simp (disch := omega) [getEnt, setEnt, sy_nbeq, sy_neqF, sy_setEnt_setEnt, getEnt_setEnt_ne, hg, hG, hPQ]; done) | ((simp (disch := omega) [getEnt, setEnt, sy_nbeq, sy_neqF, sy_setEnt_setEnt, getEnt_setEnt_ne, hg, hG, hPQ]); omega))); done)); (try dsimp only); omega; (try dsimp only at hn2)) | (refine p_is l hll (a + 0) 1 [109, 101, 115, 115, 97, 103, 101] 0 b0 hl0 ((a : Int)) (by omega) 0 to _ p d ?_ ?_ ?_ _ _ _ true rfl fun n3 ty3 hn3 hun3 => ⟨rfl, ?_⟩; (focus (((refine ⟨?_, ?_⟩; (focus ((repeat (first | exact hu.le (by (try dsimp only); omega) | exact hu.set.le (by (try dsimp only); omega) | exact hu.set.set.le (by (try dsimp only); omega) | exact hu.set.set.set.le (by (try dsimp only); omega) | refine Under.cons (by (try dsimp only); omega) ?_ | exact Under.nil)); done)); exact ut_)); done)); (focus (((first | exact hg | exact hG _ | ((try dsimp only); exact hg) | ((try dsimp only); exact hG _) | (simp (disch := omega) [getEnt, setEnt, sy_nbeq, sy_neqF, sy_setEnt_setEnt, getEnt_setEnt_ne, hg, hG, hPQ]; done) | ((simp (disch := omega) [getEnt, setEnt, sy_nbeq, sy_neqF, sy_setEnt_setEnt, getEnt_setEnt_ne, hg, hG, hPQ]); omega))); done)); (try dsimp only); omega; (try dsimp only at hn3)) | (refine (p_mostF p d _ (by omega)) _ ?_ _ fun n30 tyn30 hn30 hun30 => ⟨rfl, ?_⟩; (focus (((refine ⟨?_, ?_⟩; (focus ((repeat (first | exact hu.le (by (try dsimp only); omega) | exact hu.set.le (by (try dsimp only); omega) | exact hu.set.set.le (by (try dsimp only); omega) | exact hu.set.set.set.le (by (try dsimp only); omega) | refine Under.cons (by (try dsimp only); omega) ?_ | exact Under.nil)); done)); exact ut_)); done)); (try dsimp only at hn30)) | (refine p_message l hll a nm T fn n b0 b1 b2 b3 b4 b5 b6 b7 b8 hl0 hl1 hl2 hl3 hl4 hl5 hl6 hl7 hl8 to hP hF hm0 hm1 hm2 hm3 hm4 hm5 hm6 _ p d ?_ ?_ ?_ _ fun n40 ty40 hn40 hun40 => ⟨rfl, ?_⟩; (focus (((refine ⟨?_, ?_⟩; (focus ((repeat (first | exact hu.le (by (try dsimp only); omega) | exact hu.set.le (by (try dsimp only); omega) | exact hu.set.set.le (by (try dsimp only); omega) | exact hu.set.set.set.le (by (try dsimp only); omega) | refine Under.cons (by (try dsimp only); omega) ?_ | exact Under.nil)); done)); exact ut_)); done)); (focus (((first | exact hg | exact hG _ | ((try dsimp only); exact hg) | ((try dsimp only); exact hG _) | (simp (disch := omega) [getEnt, setEnt, sy_nbeq, sy_neqF, sy_setEnt_setEnt, getEnt_setEnt_ne, hg, hG, hPQ]; done) | ((simp (disch := omega) [getEnt, setEnt, sy_nbeq, sy_neqF, sy_setEnt_setEnt, getEnt_setEnt_ne, hg, hG, hPQ]); omega))); done)); (try dsimp only); omega; (try dsimp only at hn40)))
  show W tree.getF fileLoop (dropped true _ _) Q
  generalize e : dropped _ _ _ = r0
  simp (disch := omega) [hX, hg, hY, hq, hq2, hQ, hQP, hPQ, hC3, sy_ibneT, sy_ibneF, sy_ibeqT, beqs_refl, hti, hI1, hI2, hI3, hI4, hI5, hI6, hI7, hip, hiq, List.length_append, List.length_cons, List.length_nil] at e
  subst e
  try dsimp only
  refine hk _ _ _ _ _ _ _ _ ?_ ?_
  · (try dsimp only); omega
  · exact ut_

theorem fl_enu_n (p d q dq : Nat) (hpq : p ≠ q) (l : List Tok) (hll : l.length < 100000) (a : Nat) (to : Int) (LI LM : CVal) (Q : CExit → CSt → Prop) (v1 v2 v3 v5 v6 v7 : CVal) (h : CHeap) (hf : Fit h) (hg : getEnt h.ents p = some (pr l (a : Int) 0 to)) (hp : p < h.next) (hqn : q < h.next)  (hq : getEnt h.ents q = some (.cells [.str [], LI, LM, .nils])) (b0 b1 b2 b3 b4 b5 b6 b7 : Nat) (nm vn : List UInt8) (hP : PlainOk nm) (hV : PlainOk vn) (hl0 : l[a + 0]? = some (1, [101, 110, 117, 109], 0, b0)) (hl1 : l[a + 1]? = some (1, nm, 0, b1)) (hl2 : l[a + 2]? = some (4, [123], 0, b2)) (hl3 : l[a + 3]? = some (1, vn, 0, b3)) (hl4 : l[a + 4]? = some (4, [61], 0, b4)) (hl5 : l[a + 5]? = some (2, [], 0, b5)) (hl6 : l[a + 6]? = some (4, [59], 0, b6)) (hl7 : l[a + 7]? = some (4, [125], 0, b7))
    (hk : ∀ z n' ty w1 w2 w3 w5 w6 w7, h.next ≤ z → z < n' → UnderT ty n' → W tree.getF fileLoop ⟨[.ptr p d 0, w1, w2, w3, .ptr q dq 0, w5, w6, w7], ⟨(z, .tok 0) :: setEnt (setEnt h.ents p (pr l ((a : Int) + 1 + 1 + 1 + 1 + 1 + 1 + 1 + 1) 0 to)) q (.cells [.str [], LI, LM, .imm (.own z 0) 2 [.agg [.str nm, .imm .none 2 [.agg [.str vn, .int .i64 0]]]]]), n', ty⟩, []⟩ Q) : W tree.getF fileLoop ⟨[.ptr p d 0, v1, v2, v3, .ptr q dq 0, v5, v6, v7], h, []⟩ Q := by
  obtain ⟨hu, hut, hX⟩ := fx4 hf
  have hY := fx5 hf hg; have ⟨hG, hD2, hC2, hN2⟩ := hY
  have hqp : q ≠ p := fun e => hpq e.symm
  have hq2 : ∀ x, getEnt (setEnt h.ents p x) q = some (.cells [.str [], LI, LM, .nils]) := fun x => (getEnt_setEnt_ne hqp).trans hq
  have hQ : ∀ x y, getEnt (setEnt (setEnt h.ents p x) q y) q = some y := fun x y => sy_getEnt_setEnt (hq2 x)
  have hQP : ∀ x y, getEnt (setEnt (setEnt h.ents p x) q y) p = some x := fun x y => (getEnt_setEnt_ne hpq).trans (hG x)
  have hPQ : ∀ x y z, setEnt (setEnt (setEnt h.ents p x) q y) p z = setEnt (setEnt h.ents p z) q y := fun x y z => by rw [setEnt_comm hqp, sy_setEnt_setEnt]
  have hC3 : ∀ x y m, h.next ≤ m → dropCells (setEnt (setEnt h.ents p x) q y) m = setEnt (setEnt h.ents p x) q y := fun x y m hm => dropCells_under (hu.set.set.le hm)
  refine W.loop ?_
  repeat (first | refine sq_ ?_ | refine bl_ ?_ | ((first | refine rg_ ?_ | refine go_ ?_); generalize e : goR _ _ _ _ _ _ _ _ = r; simp (disch := omega) [hX, hg, hY, hq, hq2, hQ, hQP, hPQ, hC3, sy_ibneT, sy_ibneF, sy_ibeqT, List.length_append, List.length_cons, List.length_nil] at e; replace e : some _ = _ := e; subst e; (try dsimp only [goW])) | refine ct_ rfl ?_ | refine cf_ rfl ?_ | refine sk_ ?_ | refine ex_ ?_ | (refine p_word l hll (a + 0) 1 [101, 110, 117, 109] 0 b0 hl0 ((a : Int)) (by omega) 0 to _ p d ?_ ?_ ?_ _  fun n0 ty0 hn0 hun0 => ⟨rfl, ?_⟩; (focus (((refine ⟨?_, ?_⟩; (focus ((repeat (first | exact hu.le (by (try dsimp only); omega) | exact hu.set.le (by (try dsimp only); omega) | exact hu.set.set.le (by (try dsimp only); omega) | exact hu.set.set.set.le (by (try dsimp only); omega) | refine Under.cons (by (try dsimp only); omega) ?_ | exact Under.nil)); done)); exact ut_)); done)); (focus (((first | exact hg | exact hG _ | ((try dsimp only); exact hg) | ((try dsimp only); exact hG _) | (simp (disch := omega) [getEnt, setEnt, sy_nbeq, sy_neqF, sy_setEnt_setEnt, getEnt_setEnt_ne, hg, hG, hPQ]; done) | ((simp (disch := omega) [getEnt, setEnt, sy_nbeq, sy_neqF, sy_setEnt_setEnt, getEnt_setEnt_ne, hg, hG, hPQ]); omega))); done)); (try dsimp only); omega; (try dsimp only at hn0)) | (refine p_takeF l hll (a + 0) 1 [101, 110, 117, 109] 0 b0 hl0 ((a : Int)) (by omega) 0 to _ p d ?_ ?_ ?_ _ _ _ rfl fun n1 ty1 hn1 hun1 => ⟨rfl, ?_⟩; (focus (((refine ⟨?_, ?_⟩; (focus ((repeat (first | exact hu.le (by (try dsimp only); omega) | exact hu.set.le (by (try dsimp only); omega) | exact hu.set.set.le (by (try dsimp only); omega) | exact hu.set.set.set.le (by (try dsimp only); omega) | refine Under.cons (by (try dsimp only); omega) ?_ | exact Under.nil)); done)); exact ut_)); done)); (focus (((first | exact hg | exact hG _ | ((try dsimp only); exact hg) | ((try dsimp only); exact hG _) | (simp (disch := omega) [getEnt, setEnt, sy_nbeq, sy_neqF, sy_setEnt_setEnt, getEnt_setEnt_ne, hg, hG, hPQ]; done) | ((simp (disch := omega) [getEnt, setEnt, sy_nbeq, sy_neqF, sy_setEnt_setEnt, getEnt_setEnt_ne, hg, hG, hPQ]); omega))); done)); (try dsimp only); omega; (try dsimp only at hn1)) | (refine p_is l hll (a + 0) 1 [101, 110, 117, 109] 0 b0 hl0 ((a : Int)) (by omega) 0 to _ p d ?_ ?_ ?_ _ _ _ false rfl fun n2 ty2 hn2 hun2 => ⟨rfl, ?_⟩; (focus (((refine ⟨?_, ?_⟩; (focus ((repeat (first | exact hu.le (by (try dsimp only); omega) | exact hu.set.le (by (try dsimp only); omega) | exact hu.set.set.le (by (try dsimp only); omega) | exact hu.set.set.set.le (by (try dsimp only); omega) | refine Under.cons (by (try dsimp only); omega) ?_ | exact Under.nil)); done)); exact ut_)); done)); (focus (((first | exact hg | exact hG _ | ((try dsimp only); exact hg) | ((try dsimp only); exact hG _) | (simp (disch := omega) [getEnt, setEnt, sy_nbeq, sy_neqF, sy_setEnt_setEnt, getEnt_setEnt_ne, hg, hG, hPQ]; done) | ((simp (disch := omega) [getEnt, setEnt, sy_nbeq, sy_neqF, sy_setEnt_setEnt, getEnt_setEnt_ne, hg, hG, hPQ]); omega))); done)); (try dsimp only); omega; (try dsimp only at hn2)) | (refine p_is l hll (a + 0) 1 [101, 110, 117, 109] 0 b0 hl0 ((a : Int)) (by omega) 0 to _ p d ?_ ?_ ?_ _ _ _ true rfl fun n3 ty3 hn3 hun3 => ⟨rfl, ?_⟩; (focus (((refine ⟨?_, ?_⟩; (focus ((repeat (first | exact hu.le (by (try dsimp only); omega) | exact hu.set.le (by (try dsimp only); omega) | exact hu.set.set.le (by (try dsimp only); omega) | exact hu.set.set.set.le (by (try dsimp only); omega) | refine Under.cons (by (try dsimp only); omega) ?_ | exact Under.nil)); done)); exact ut_)); done)); (focus (((first | exact hg | exact hG _ | ((try dsimp only); exact hg) | ((try dsimp only); exact hG _) | (simp (disch := omega) [getEnt, setEnt, sy_nbeq, sy_neqF, sy_setEnt_setEnt, getEnt_setEnt_ne, hg, hG, hPQ]; done) | ((simp (disch := omega) [getEnt, setEnt, sy_nbeq, sy_neqF, sy_setEnt_setEnt, getEnt_setEnt_ne, hg, hG, hPQ]); omega))); done)); (try dsimp only); omega; (try dsimp only at hn3)) | (refine (p_mostF p d _ (by omega)) _ ?_ _ fun n30 tyn30 hn30 hun30 => ⟨rfl, ?_⟩; (focus (((refine ⟨?_, ?_⟩; (focus ((repeat (first | exact hu.le (by (try dsimp only); omega) | exact hu.set.le (by (try dsimp only); omega) | exact hu.set.set.le (by (try dsimp only); omega) | exact hu.set.set.set.le (by (try dsimp only); omega) | refine Under.cons (by (try dsimp only); omega) ?_ | exact Under.nil)); done)); exact ut_)); done)); (try dsimp only at hn30)) | (refine p_enum l hll a nm vn b0 b1 b2 b3 b4 b5 b6 b7 hl0 hl1 hl2 hl3 hl4 hl5 hl6 hl7 to hP hV _ p d ?_ ?_ ?_ _ fun n41 ty41 hn41 hun41 => ⟨rfl, ?_⟩; (focus (((refine ⟨?_, ?_⟩; (focus ((repeat (first | exact hu.le (by (try dsimp only); omega) | exact hu.set.le (by (try dsimp only); omega) | exact hu.set.set.le (by (try dsimp only); omega) | exact hu.set.set.set.le (by (try dsimp only); omega) | refine Under.cons (by (try dsimp only); omega) ?_ | exact Under.nil)); done)); exact ut_)); done)); (focus (((first | exact hg | exact hG _ | ((try dsimp only); exact hg) | ((try dsimp only); exact hG _) | (simp (disch := omega) [getEnt, setEnt, sy_nbeq, sy_neqF, sy_setEnt_setEnt, getEnt_setEnt_ne, hg, hG, hPQ]; done) | ((simp (disch := omega) [getEnt, setEnt, sy_nbeq, sy_neqF, sy_setEnt_setEnt, getEnt_setEnt_ne, hg, hG, hPQ]); omega))); done)); (try dsimp only); omega; (try dsimp only at hn41)))
  show W tree.getF fileLoop (dropped true _ _) Q
  generalize e : dropped _ _ _ = r0
  simp (disch := omega) [hX, hg, hY, hq, hq2, hQ, hQP, hPQ, hC3, sy_ibneT, sy_ibneF, sy_ibeqT, List.length_append, List.length_cons, List.length_nil] at e
  subst e
  try dsimp only
  refine hk _ _ _ _ _ _ _ _ _ ?_ ?_ ?_
  · (try dsimp only); omega
  · (try dsimp only); omega
  · exact ut_

theorem fl_enu_o (p d q dq : Nat) (hpq : p ≠ q) (l : List Tok) (hll : l.length < 100000) (a : Nat) (to : Int) (LI LM : CVal) (Q : CExit → CSt → Prop) (v1 v2 v3 v5 v6 v7 : CVal) (h : CHeap) (hf : Fit h) (hg : getEnt h.ents p = some (pr l (a : Int) 0 to)) (hp : p < h.next) (hqn : q < h.next) (iq vq : Nat) (ts : List CVal) (hts : ts.length < 30) (hti : getEnt h.ents iq = some (.tok vq)) (hip : iq ≠ p) (hiq : iq ≠ q) (hin : iq < h.next) (hq : getEnt h.ents q = some (.cells [.str [], LI, LM, .imm (.own iq vq) 2 ts])) (b0 b1 b2 b3 b4 b5 b6 b7 : Nat) (nm vn : List UInt8) (hP : PlainOk nm) (hV : PlainOk vn) (hl0 : l[a + 0]? = some (1, [101, 110, 117, 109], 0, b0)) (hl1 : l[a + 1]? = some (1, nm, 0, b1)) (hl2 : l[a + 2]? = some (4, [123], 0, b2)) (hl3 : l[a + 3]? = some (1, vn, 0, b3)) (hl4 : l[a + 4]? = some (4, [61], 0, b4)) (hl5 : l[a + 5]? = some (2, [], 0, b5)) (hl6 : l[a + 6]? = some (4, [59], 0, b6)) (hl7 : l[a + 7]? = some (4, [125], 0, b7))
    (hk : ∀ n' ty w1 w2 w3 w5 w6 w7, h.next ≤ n' → UnderT ty n' → W tree.getF fileLoop ⟨[.ptr p d 0, w1, w2, w3, .ptr q dq 0, w5, w6, w7], ⟨setEnt (setEnt (setEnt h.ents p (pr l ((a : Int) + 1 + 1 + 1 + 1 + 1 + 1 + 1 + 1) 0 to)) iq (.tok (vq + 1))) q (.cells [.str [], LI, LM, .imm (.own iq (vq + 1)) 2 (ts ++ [.agg [.str nm, .imm .none 2 [.agg [.str vn, .int .i64 0]]]])]), n', ty⟩, []⟩ Q) : W tree.getF fileLoop ⟨[.ptr p d 0, v1, v2, v3, .ptr q dq 0, v5, v6, v7], h, []⟩ Q := by
  obtain ⟨hu, hut, hX⟩ := fx4 hf
  have hY := fx5 hf hg; have ⟨hG, hD2, hC2, hN2⟩ := hY
  have hqp : q ≠ p := fun e => hpq e.symm
  have hq2 : ∀ x, getEnt (setEnt h.ents p x) q = some (.cells [.str [], LI, LM, .imm (.own iq vq) 2 ts]) := fun x => (getEnt_setEnt_ne hqp).trans hq
  have hQ : ∀ x y, getEnt (setEnt (setEnt h.ents p x) q y) q = some y := fun x y => sy_getEnt_setEnt (hq2 x)
  have hQP : ∀ x y, getEnt (setEnt (setEnt h.ents p x) q y) p = some x := fun x y => (getEnt_setEnt_ne hpq).trans (hG x)
  have hPQ : ∀ x y z, setEnt (setEnt (setEnt h.ents p x) q y) p z = setEnt (setEnt h.ents p z) q y := fun x y z => by rw [setEnt_comm hqp, sy_setEnt_setEnt]
  have hC3 : ∀ x y m, h.next ≤ m → dropCells (setEnt (setEnt h.ents p x) q y) m = setEnt (setEnt h.ents p x) q y := fun x y m hm => dropCells_under (hu.set.set.le hm)
  have hip2 : ¬ p = iq := fun e => hip e.symm
  have hiq2 : ¬ q = iq := fun e => hiq e.symm
  have hI1 : ∀ x, getEnt (setEnt h.ents p x) iq = some (.tok vq) := fun x => (getEnt_setEnt_ne hip).trans hti
  have hI2 : ∀ x t, getEnt (setEnt (setEnt h.ents p x) iq t) iq = some t := fun x t => sy_getEnt_setEnt (hI1 x)
  have hI3 : ∀ x t, getEnt (setEnt (setEnt h.ents p x) iq t) q = some (.cells [.str [], LI, LM, .imm (.own iq vq) 2 ts]) := fun x t => (getEnt_setEnt_ne hiq2).trans (hq2 x)
  have hI4 : ∀ x t y, getEnt (setEnt (setEnt (setEnt h.ents p x) iq t) q y) q = some y := fun x t y => sy_getEnt_setEnt (hI3 x t)
  have hI5 : ∀ x t y, getEnt (setEnt (setEnt (setEnt h.ents p x) iq t) q y) p = some x := fun x t y => (getEnt_setEnt_ne hpq).trans ((getEnt_setEnt_ne hip2).trans (hG x))
  have hI6 : ∀ x t y z, setEnt (setEnt (setEnt (setEnt h.ents p x) iq t) q y) p z = setEnt (setEnt (setEnt h.ents p z) iq t) q y := fun x t y z => by rw [setEnt_comm hqp, setEnt_comm hip, sy_setEnt_setEnt]
  have hI7 : ∀ x t y m, h.next ≤ m → dropCells (setEnt (setEnt (setEnt h.ents p x) iq t) q y) m = setEnt (setEnt (setEnt h.ents p x) iq t) q y := fun x t y m hm => dropCells_under (hu.set.set.set.le hm)
  refine W.loop ?_
  repeat (first | refine sq_ ?_ | refine bl_ ?_ | ((first | refine rg_ ?_ | refine go_ ?_); generalize e : goR _ _ _ _ _ _ _ _ = r; simp (disch := omega) [hX, hg, hY, hq, hq2, hQ, hQP, hPQ, hC3, sy_ibneT, sy_ibneF, sy_ibeqT, beqs_refl, hti, hI1, hI2, hI3, hI4, hI5, hI6, hI7, hip, hiq, List.length_append, List.length_cons, List.length_nil] at e; replace e : some _ = _ := e; subst e; (try dsimp only [goW])) | refine ct_ rfl ?_ | refine cf_ rfl ?_ | refine sk_ ?_ | refine ex_ ?_ | (refine p_word l hll (a + 0) 1 [101, 110, 117, 109] 0 b0 hl0 ((a : Int)) (by omega) 0 to _ p d ?_ ?_ ?_ _  fun n0 ty0 hn0 hun0 => ⟨rfl, ?_⟩; (focus (((refine ⟨?_, ?_⟩; (focus ((repeat (first | exact hu.le (by (try dsimp only); omega) | exact hu.set.le (by (try dsimp only); omega) | exact hu.set.set.le (by (try dsimp only); omega) | exact hu.set.set.set.le (by (try dsimp only); omega) | refine Under.cons (by (try dsimp only); omega) ?_ | exact Under.nil)); done)); exact ut_)); done)); (focus (((first | exact hg | exact hG _ | ((try dsimp only); exact hg) | ((try dsimp only); exact hG _) | (simp (disch := omega) [getEnt, setEnt, sy_nbeq, sy_neqF, sy_setEnt_setEnt, getEnt_setEnt_ne, hg, hG, hPQ]; done) | ((simp (disch := omega) [getEnt, setEnt, sy_nbeq, sy_neqF, sy_setEnt_setEnt, getEnt_setEnt_ne, hg, hG, hPQ]); omega))); done)); (try dsimp only); omega; (try dsimp only at hn0)) | (refine p_takeF l hll (a + 0) 1 [101, 110, 117, 109] 0 b0 hl0 ((a : Int)) (by omega) 0 to _ p d ?_ ?_ ?_ _ _ _ rfl fun n1 ty1 hn1 hun1 => ⟨rfl, ?_⟩; (focus (((refine ⟨?_, ?_⟩; (focus ((repeat (first | exact hu.le (by (try dsimp only); omega) | exact hu.set.le (by (try dsimp only); omega) | exact hu.set.set.le (by (try dsimp only); omega) | exact hu.set.set.set.le (by (try dsimp only); omega) | refine Under.cons (by (try dsimp only); omega) ?_ | exact Under.nil)); done)); exact ut_)); done)); (focus (((first | exact hg | exact hG _ | ((try dsimp only); exact hg) | ((try dsimp only); exact hG _) | (simp (disch := omega) [getEnt, setEnt, sy_nbeq, sy_neqF, sy_setEnt_setEnt, getEnt_setEnt_ne, hg, hG, hPQ]; done) | ((simp (disch := omega) [getEnt, setEnt, sy_nbeq, sy_neqF, sy_setEnt_setEnt, getEnt_setEnt_ne, hg, hG, hPQ]); omega))); done)); (try dsimp only); omega; (try dsimp only at hn1)) | (refine p_is l hll (a + 0) 1 [101, 110, 117, 109] 0 b0 hl0 ((a : Int)) (by omega) 0 to _ p d ?_ ?_ ?_ _ _ _ false rfl fun n2 ty2 hn2 hun2 => ⟨rfl, ?_⟩; (focus (((refine ⟨?_, ?_⟩; (focus ((repeat (first | exact hu.le (by (try dsimp only); omega) | exact hu.set.le (by (try dsimp only); omega) | exact hu.set.set.le (by (try dsimp only); omega) | exact hu.set.set.set.le (by (try dsimp only); omega) | refine Under.cons (by (try dsimp only); omega) ?_ | exact Under.nil)); done)); exact ut_)); done)); (focus (((first | exact hg | exact hG _ | ((try dsimp only); exact hg) | ((try dsimp only); exact hG _) | (simp (disch := omega) [getEnt, setEnt, sy_nbeq, sy_neqF, sy_setEnt_setEnt, getEnt_setEnt_ne, hg, hG, hPQ]; done) | ((simp (disch := omega) [getEnt, setEnt, sy_nbeq, sy_neqF, sy_setEnt_setEnt, getEnt_setEnt_ne, hg, hG, hPQ]); omega))); done)); (try dsimp only); omega; (try dsimp only at hn2)) | (refine p_is l hll (a + 0) 1 [101, 110, 117, 109] 0 b0 hl0 ((a : Int)) (by omega) 0 to _ p d ?_ ?_ ?_ _ _ _ true rfl fun n3 ty3 hn3 hun3 => ⟨rfl, ?_⟩; (focus (((refine ⟨?_, ?_⟩; (focus ((repeat (first | exact hu.le (by (try dsimp only); omega) | exact hu.set.le (by (try dsimp only); omega) | exact hu.set.set.le (by (try dsimp only); omega) | exact hu.set.set.set.le (by (try dsimp only); omega) | refine Under.cons (by (try dsimp only); omega) ?_ | exact Under.nil)); done)); exact ut_)); done)); (focus (((first | exact hg | exact hG _ | ((try dsimp only); exact hg) | ((try dsimp only); exact hG _) | (simp (disch := omega) [getEnt, setEnt, sy_nbeq, sy_neqF, sy_setEnt_setEnt, getEnt_setEnt_ne, hg, hG, hPQ]; done) | ((simp (disch := omega) [getEnt, setEnt, sy_nbeq, sy_neqF, sy_setEnt_setEnt, getEnt_setEnt_ne, hg, hG, hPQ]); omega))); done)); (try dsimp only); omega; (try dsimp only at hn3)) | (refine (p_mostF p d _ (by omega)) _ ?_ _ fun n30 tyn30 hn30 hun30 => ⟨rfl, ?_⟩; (focus (((refine ⟨?_, ?_⟩; (focus ((repeat (first | exact hu.le (by (try dsimp only); omega) | exact hu.set.le (by (try dsimp only); omega) | exact hu.set.set.le (by (try dsimp only); omega) | exact hu.set.set.set.le (by (try dsimp only); omega) | refine Under.cons (by (try dsimp only); omega) ?_ | exact Under.nil)); done)); exact ut_)); done)); (try dsimp only at hn30)) | (refine p_enum l hll a nm vn b0 b1 b2 b3 b4 b5 b6 b7 hl0 hl1 hl2 hl3 hl4 hl5 hl6 hl7 to hP hV _ p d ?_ ?_ ?_ _ fun n41 ty41 hn41 hun41 => ⟨rfl, ?_⟩; (focus (((refine ⟨?_, ?_⟩; (focus ((repeat (first | exact hu.le (by (try dsimp only); omega) | exact hu.set.le (by (try dsimp only); omega) | exact hu.set.set.le (by (try dsimp only); omega) | exact hu.set.set.set.le (by (try dsimp only); omega) | refine Under.cons (by (try dsimp only); omega) ?_ | exact Under.nil)); done)); exact ut_)); done)); (focus (((first | exact hg | exact hG _ | ((try dsimp only); exact hg) | ((try dsimp only); exact hG _) | (simp (disch := omega) [getEnt, setEnt, sy_nbeq, sy_neqF, sy_setEnt_setEnt, getEnt_setEnt_ne, hg, hG, hPQ]; done) | ((simp (disch := omega) [getEnt, setEnt, sy_nbeq, sy_neqF, sy_setEnt_setEnt, getEnt_setEnt_ne, hg, hG, hPQ]); omega))); done)); (try dsimp only); omega; (try dsimp only at hn41)))
  show W tree.getF fileLoop (dropped true _ _) Q
  generalize e : dropped _ _ _ = r0
  simp (disch := omega) [hX, hg, hY, hq, hq2, hQ, hQP, hPQ, hC3, sy_ibneT, sy_ibneF, sy_ibeqT, beqs_refl, hti, hI1, hI2, hI3, hI4, hI5, hI6, hI7, hip, hiq, List.length_append, List.length_cons, List.length_nil] at e
  subst e
  try dsimp only
  refine hk _ _ _ _ _ _ _ _ ?_ ?_
  · (try dsimp only); omega
  · exact ut_
inductive It | imp (c : UInt8) | msg (c : UInt8) | enu (c : UInt8) | semi
abbrev Tk3 : Type := Nat × List UInt8 × Nat
def itT : It → List Tk3
  | .imp c => [(1, [105, 109, 112, 111, 114, 116], 0), (3, [c], 0), (4, [59], 0)]
  | .msg c => [(1, [109, 101, 115, 115, 97, 103, 101], 0), (1, [c], 0), (4, [123], 0), (1, [105, 110, 116, 51, 50], 0), (1, [120], 0), (4, [61], 0), (2, [], 1), (4, [59], 0), (4, [125], 0)]
  | .enu c => [(1, [101, 110, 117, 109], 0), (1, [c], 0), (4, [123], 0), (1, [88], 0), (4, [61], 0), (2, [], 0), (4, [59], 0), (4, [125], 0)]
  | .semi => [(4, [59], 0)]
def strip (t : Tok) : Tk3 := (t.1, t.2.1, t.2.2.1)
abbrev eI (c : UInt8) : CVal := .str [c]
abbrev eM (c : UInt8) : CVal := .agg [.str [c], .imm .none 7 [.agg [.int .i64 0, .str [105, 110, 116, 51, 50], .str [], .str [120], .int .u64 ((1 : Nat) : Int), .int .i64 0, .int .i64 0]], .nils, .nils, .nils, .nils, .nils]
abbrev eE (c : UInt8) : CVal := .agg [.str [c], .imm .none 2 [.agg [.str [88], .int .i64 0]]]
def cI : List It → List UInt8
  | [] => []
  | .imp c :: r => c :: cI r
  | _ :: r => cI r
def cM : List It → List UInt8
  | [] => []
  | .msg c :: r => c :: cM r
  | _ :: r => cM r
def cE : List It → List UInt8
  | [] => []
  | .enu c :: r => c :: cE r
  | _ :: r => cE r
def okI : It → Prop
  | .msg c => c ≠ 46
  | .enu c => c ≠ 46
  | _ => True
theorem tok_of {l : List Tok} {a j : Nat} {k : Nat} {tx : List UInt8} {n : Nat} (h : ((l.drop a).map strip)[j]? = some (k, tx, n)) : ∃ b, l[a + j]? = some (k, tx, n, b) := by
  rw [List.getElem?_map, List.getElem?_drop] at h
  cases hl : l[a + j]? with
  | none => rw [hl] at h; cases h
  | some t =>
    rw [hl] at h
    obtain ⟨k', tx', n', b⟩ := t
    simp only [Option.map_some, strip, Option.some.injEq, Prod.mk.injEq] at h
    obtain ⟨rfl, rfl, rfl⟩ := h
    exact ⟨b, rfl⟩
/-- A list that is appended to. -/
def LS (n0 p q k : Nat) (L : CVal) (ts : List CVal) (i : Nat) (h : CHeap) : Prop := L = .nils ∧ ts = [] ∨ ∃ v, L = .imm (.own i v) k ts ∧ ts ≠ [] ∧ getEnt h.ents i = some (.tok v) ∧ i ≠ p ∧ i ≠ q ∧ n0 ≤ i ∧ i < h.next
theorem setEnt_app_no {p n0 : Nat} {x : CObj} (hp : p < n0) : ∀ (pre E : List (Nat × CObj)), (∀ y ∈ pre, n0 ≤ y.1) → setEnt (pre ++ E) p x = pre ++ setEnt E p x
  | [], E, _ => rfl
  | a :: r, E, h => by
    have h1 := h a (by simp)
    have hne : (a.1 == p) = false := by simp; omega
    have ih := setEnt_app_no (x := x) hp r E (fun y hy => h y (by simp [hy]))
    obtain ⟨i, o⟩ := a
    simp only [List.cons_append, setEnt]
    have hne' : (i == p) = false := hne
    simp [hne', ih]
    try omega
theorem Over.setP {n0 p : Nat} {E0 l : List (Nat × CObj)} {x y : CObj} (h : Over n0 (setEnt E0 p x) l) (hp : p < n0) : Over n0 (setEnt E0 p y) (setEnt l p y) := by
  obtain ⟨pre, rfl, h1, h2⟩ := h
  refine ⟨pre, ?_, h1, ?_⟩
  · rw [setEnt_app_no hp pre _ h1, sy_setEnt_setEnt]
  · have := h2.set (m := p) (x := y)
    rwa [sy_setEnt_setEnt] at this
structure FSt (n0 : Nat) (E0 : List (Nat × CObj)) (p q : Nat) (l : List Tok) (a : Nat) (to : Int) (LI LM LE : CVal) (tI tM tE : List CVal) (iI iM iE : Nat) (h : CHeap) : Prop where
  g : getEnt h.ents p = some (pr l (a : Int) 0 to)
  gq : getEnt h.ents q = some (.cells [.str [], LI, LM, LE])
  sI : LS n0 p q 1 LI tI iI h
  sM : LS n0 p q 7 LM tM iM h
  sE : LS n0 p q 2 LE tE iE h
  dIM : LI = .nils ∨ LM = .nils ∨ iI ≠ iM
  dIE : LI = .nils ∨ LE = .nils ∨ iI ≠ iE
  dME : LM = .nils ∨ LE = .nils ∨ iM ≠ iE
  d : Over n0 (setEnt E0 p (pr l (a : Int) 0 to)) h.ents
  np : p < n0
  nq : n0 ≤ q
  lp : p < h.next
  lq : q < h.next
  pq : p ≠ q
  f : Fit h
theorem LS.keep {n0 p q k : Nat} {L : CVal} {ts : List CVal} {i : Nat} {h h' : CHeap} (s : LS n0 p q k L ts i h) (hn : h.next ≤ h'.next) (hk : L = .nils ∨ (i ≠ p → i ≠ q → i < h.next → getEnt h'.ents i = getEnt h.ents i)) : LS n0 p q k L ts i h' := by
  rcases s with s | ⟨v, h1, h0, h2, h3, h4, h5, h6⟩
  · exact .inl s
  · rcases hk with hk | hk
    · rw [hk] at h1; cases h1
    · exact .inr ⟨v, h1, h0, (hk h3 h4 h6).trans h2, h3, h4, h5, by omega⟩
theorem LS.notnil {n0 p q k : Nat} {L : CVal} {ts : List CVal} {i : Nat} {h : CHeap} (s : LS n0 p q k L ts i h) (hz : L ≠ .nils) : i < h.next := by
  rcases s with s | ⟨v, h1, h0, h2, h3, h4, h5, h6⟩
  · exact absurd s.1 hz
  · exact h6

theorem FSt.nilI {n0 : Nat} {E0 : List (Nat × CObj)} {p q : Nat} {l : List Tok} {a a' : Nat} {to : Int} {LM LE : CVal} {tI tM tE : List CVal} {iI iM iE : Nat} {h : CHeap} {z n' : Nat} {ty : List (Nat × Nat)} {x : CVal} {b : Int} (S : FSt n0 E0 p q l a to .nils LM LE tI tM tE iI iM iE h) (hb : b = (a' : Int)) (hz : h.next ≤ z) (hn : z < n') (ht : UnderT ty n') :
    FSt n0 E0 p q l a' to (.imm (.own z 0) 1 [x]) (LM) (LE) [x] tM tE z iM iE ⟨(z, .tok 0) :: setEnt (setEnt h.ents p (pr l b 0 to)) q (.cells [.str [], .imm (.own z 0) 1 [x], LM, LE]), n', ty⟩ := by
  subst hb
  have hlp := S.lp; have hlq := S.lq; have hnp := S.np; have hnq := S.nq; have hpq := S.pq
  have hqp : q ≠ p := fun e => hpq e.symm
  have hzp : (z == p) = false := by simp; omega
  have hzq : (z == q) = false := by simp; omega
  have keep : ∀ i, i ≠ p → i ≠ q → i < h.next → getEnt ((z, CObj.tok 0) :: setEnt (setEnt h.ents p (pr l (a' : Int) 0 to)) q (.cells [.str [], .imm (.own z 0) 1 [x], LM, LE])) i = getEnt h.ents i := by
    intro i h1 h2 h3
    have hzi : (z == i) = false := by simp; omega
    simp only [getEnt, hzi, Bool.false_eq_true, if_false]
    rw [getEnt_setEnt_ne h2, getEnt_setEnt_ne h1]
  exact {
    g := by simp only [getEnt, hzp, Bool.false_eq_true, if_false]; exact (getEnt_setEnt_ne hpq).trans (sy_getEnt_setEnt S.g)
    gq := by simp only [getEnt, hzq, Bool.false_eq_true, if_false]; exact sy_getEnt_setEnt ((getEnt_setEnt_ne hqp).trans S.gq)
    sI := .inr ⟨0, rfl, by simp, by simp [getEnt], by omega, by omega, by omega, hn⟩
    sM := S.sM.keep (by (try dsimp only); omega) (.inr (keep _))
    sE := S.sE.keep (by (try dsimp only); omega) (.inr (keep _))
    dIM := by
      by_cases hv : LM = .nils
      · exact .inr (.inl hv)
      · have := S.sM.notnil hv; exact .inr (.inr (by omega))
    dIE := by
      by_cases hv : LE = .nils
      · exact .inr (.inl hv)
      · have := S.sE.notnil hv; exact .inr (.inr (by omega))
    dME := S.dME
    d := ((S.d.setP hnp).set hnq).cons (by omega)
    np := hnp
    nq := hnq
    lp := by (try dsimp only); omega
    lq := by (try dsimp only); omega
    pq := hpq
    f := ⟨Under.cons hn (S.f.1.set.set.le (by (try dsimp only); omega)), ht⟩ }

theorem FSt.ownI {n0 : Nat} {E0 : List (Nat × CObj)} {p q : Nat} {l : List Tok} {a a' : Nat} {to : Int} {LM LE : CVal} {tM tE ts : List CVal} {iI iM iE : Nat} {h : CHeap} {v n' : Nat} {ty : List (Nat × Nat)} {x : CVal} {b : Int} (S : FSt n0 E0 p q l a to (.imm (.own iI v) 1 ts) LM LE ts tM tE iI iM iE h) (hti : getEnt h.ents iI = some (.tok v)) (hip : iI ≠ p) (hiq : iI ≠ q) (hi0 : n0 ≤ iI) (hin : iI < h.next) (hb : b = (a' : Int)) (hn : h.next ≤ n') (ht : UnderT ty n') :
    FSt n0 E0 p q l a' to (.imm (.own iI (v + 1)) 1 (ts ++ [x])) (LM) (LE) (ts ++ [x]) tM tE iI iM iE ⟨setEnt (setEnt (setEnt h.ents p (pr l b 0 to)) iI (.tok (v + 1))) q (.cells [.str [], .imm (.own iI (v + 1)) 1 (ts ++ [x]), LM, LE]), n', ty⟩ := by
  subst hb
  have hlp := S.lp; have hlq := S.lq; have hnp := S.np; have hnq := S.nq; have hpq := S.pq
  have hqp : q ≠ p := fun e => hpq e.symm
  have hpi : p ≠ iI := fun e => hip e.symm
  have hqi : q ≠ iI := fun e => hiq e.symm
  have keep : ∀ i, i ≠ iI → i ≠ p → i ≠ q → i < h.next → getEnt (setEnt (setEnt (setEnt h.ents p (pr l (a' : Int) 0 to)) iI (.tok (v + 1))) q (.cells [.str [], .imm (.own iI (v + 1)) 1 (ts ++ [x]), LM, LE])) i = getEnt h.ents i := by
    intro i h0 h1 h2 h3
    rw [getEnt_setEnt_ne h2, getEnt_setEnt_ne h0, getEnt_setEnt_ne h1]
  exact {
    g := (getEnt_setEnt_ne hpq).trans ((getEnt_setEnt_ne hpi).trans (sy_getEnt_setEnt S.g))
    gq := sy_getEnt_setEnt ((getEnt_setEnt_ne hqi).trans ((getEnt_setEnt_ne hqp).trans S.gq))
    sI := .inr ⟨v + 1, rfl, by simp, (getEnt_setEnt_ne hiq).trans (sy_getEnt_setEnt ((getEnt_setEnt_ne hip).trans hti)), hip, hiq, hi0, by (try dsimp only); omega⟩
    sM := S.sM.keep (by (try dsimp only); omega) (by
      rcases S.dIM with e | e | e
      · cases e
      · exact .inl e
      · exact .inr (keep _ (fun h => e h.symm)))
    sE := S.sE.keep (by (try dsimp only); omega) (by
      rcases S.dIE with e | e | e
      · cases e
      · exact .inl e
      · exact .inr (keep _ (fun h => e h.symm)))
    dIM := by
      rcases S.dIM with e | e | e
      · cases e
      · exact .inr (.inl e)
      · exact .inr (.inr e)
    dIE := by
      rcases S.dIE with e | e | e
      · cases e
      · exact .inr (.inl e)
      · exact .inr (.inr e)
    dME := S.dME
    d := ((S.d.setP hnp).set hi0).set hnq
    np := hnp
    nq := hnq
    lp := by (try dsimp only); omega
    lq := by (try dsimp only); omega
    pq := hpq
    f := ⟨S.f.1.set.set.set.le hn, ht⟩ }

theorem FSt.nilM {n0 : Nat} {E0 : List (Nat × CObj)} {p q : Nat} {l : List Tok} {a a' : Nat} {to : Int} {LI LE : CVal} {tI tM tE : List CVal} {iI iM iE : Nat} {h : CHeap} {z n' : Nat} {ty : List (Nat × Nat)} {x : CVal} {b : Int} (S : FSt n0 E0 p q l a to LI .nils LE tI tM tE iI iM iE h) (hb : b = (a' : Int)) (hz : h.next ≤ z) (hn : z < n') (ht : UnderT ty n') :
    FSt n0 E0 p q l a' to (LI) (.imm (.own z 0) 7 [x]) (LE) tI [x] tE iI z iE ⟨(z, .tok 0) :: setEnt (setEnt h.ents p (pr l b 0 to)) q (.cells [.str [], LI, .imm (.own z 0) 7 [x], LE]), n', ty⟩ := by
  subst hb
  have hlp := S.lp; have hlq := S.lq; have hnp := S.np; have hnq := S.nq; have hpq := S.pq
  have hqp : q ≠ p := fun e => hpq e.symm
  have hzp : (z == p) = false := by simp; omega
  have hzq : (z == q) = false := by simp; omega
  have keep : ∀ i, i ≠ p → i ≠ q → i < h.next → getEnt ((z, CObj.tok 0) :: setEnt (setEnt h.ents p (pr l (a' : Int) 0 to)) q (.cells [.str [], LI, .imm (.own z 0) 7 [x], LE])) i = getEnt h.ents i := by
    intro i h1 h2 h3
    have hzi : (z == i) = false := by simp; omega
    simp only [getEnt, hzi, Bool.false_eq_true, if_false]
    rw [getEnt_setEnt_ne h2, getEnt_setEnt_ne h1]
  exact {
    g := by simp only [getEnt, hzp, Bool.false_eq_true, if_false]; exact (getEnt_setEnt_ne hpq).trans (sy_getEnt_setEnt S.g)
    gq := by simp only [getEnt, hzq, Bool.false_eq_true, if_false]; exact sy_getEnt_setEnt ((getEnt_setEnt_ne hqp).trans S.gq)
    sM := .inr ⟨0, rfl, by simp, by simp [getEnt], by omega, by omega, by omega, hn⟩
    sI := S.sI.keep (by (try dsimp only); omega) (.inr (keep _))
    sE := S.sE.keep (by (try dsimp only); omega) (.inr (keep _))
    dIM := by
      by_cases hv : LI = .nils
      · exact .inl hv
      · have := S.sI.notnil hv; exact .inr (.inr (by omega))
    dME := by
      by_cases hv : LE = .nils
      · exact .inr (.inl hv)
      · have := S.sE.notnil hv; exact .inr (.inr (by omega))
    dIE := S.dIE
    d := ((S.d.setP hnp).set hnq).cons (by omega)
    np := hnp
    nq := hnq
    lp := by (try dsimp only); omega
    lq := by (try dsimp only); omega
    pq := hpq
    f := ⟨Under.cons hn (S.f.1.set.set.le (by (try dsimp only); omega)), ht⟩ }

theorem FSt.ownM {n0 : Nat} {E0 : List (Nat × CObj)} {p q : Nat} {l : List Tok} {a a' : Nat} {to : Int} {LI LE : CVal} {tI tE ts : List CVal} {iI iM iE : Nat} {h : CHeap} {v n' : Nat} {ty : List (Nat × Nat)} {x : CVal} {b : Int} (S : FSt n0 E0 p q l a to LI (.imm (.own iM v) 7 ts) LE tI ts tE iI iM iE h) (hti : getEnt h.ents iM = some (.tok v)) (hip : iM ≠ p) (hiq : iM ≠ q) (hi0 : n0 ≤ iM) (hin : iM < h.next) (hb : b = (a' : Int)) (hn : h.next ≤ n') (ht : UnderT ty n') :
    FSt n0 E0 p q l a' to (LI) (.imm (.own iM (v + 1)) 7 (ts ++ [x])) (LE) tI (ts ++ [x]) tE iI iM iE ⟨setEnt (setEnt (setEnt h.ents p (pr l b 0 to)) iM (.tok (v + 1))) q (.cells [.str [], LI, .imm (.own iM (v + 1)) 7 (ts ++ [x]), LE]), n', ty⟩ := by
  subst hb
  have hlp := S.lp; have hlq := S.lq; have hnp := S.np; have hnq := S.nq; have hpq := S.pq
  have hqp : q ≠ p := fun e => hpq e.symm
  have hpi : p ≠ iM := fun e => hip e.symm
  have hqi : q ≠ iM := fun e => hiq e.symm
  have keep : ∀ i, i ≠ iM → i ≠ p → i ≠ q → i < h.next → getEnt (setEnt (setEnt (setEnt h.ents p (pr l (a' : Int) 0 to)) iM (.tok (v + 1))) q (.cells [.str [], LI, .imm (.own iM (v + 1)) 7 (ts ++ [x]), LE])) i = getEnt h.ents i := by
    intro i h0 h1 h2 h3
    rw [getEnt_setEnt_ne h2, getEnt_setEnt_ne h0, getEnt_setEnt_ne h1]
  exact {
    g := (getEnt_setEnt_ne hpq).trans ((getEnt_setEnt_ne hpi).trans (sy_getEnt_setEnt S.g))
    gq := sy_getEnt_setEnt ((getEnt_setEnt_ne hqi).trans ((getEnt_setEnt_ne hqp).trans S.gq))
    sM := .inr ⟨v + 1, rfl, by simp, (getEnt_setEnt_ne hiq).trans (sy_getEnt_setEnt ((getEnt_setEnt_ne hip).trans hti)), hip, hiq, hi0, by (try dsimp only); omega⟩
    sI := S.sI.keep (by (try dsimp only); omega) (by
      rcases S.dIM with e | e | e
      · exact .inl e
      · cases e
      · exact .inr (keep _ e))
    sE := S.sE.keep (by (try dsimp only); omega) (by
      rcases S.dME with e | e | e
      · cases e
      · exact .inl e
      · exact .inr (keep _ (fun h => e h.symm)))
    dIM := by
      rcases S.dIM with e | e | e
      · exact .inl e
      · cases e
      · exact .inr (.inr e)
    dME := by
      rcases S.dME with e | e | e
      · cases e
      · exact .inr (.inl e)
      · exact .inr (.inr e)
    dIE := S.dIE
    d := ((S.d.setP hnp).set hi0).set hnq
    np := hnp
    nq := hnq
    lp := by (try dsimp only); omega
    lq := by (try dsimp only); omega
    pq := hpq
    f := ⟨S.f.1.set.set.set.le hn, ht⟩ }

theorem FSt.nilE {n0 : Nat} {E0 : List (Nat × CObj)} {p q : Nat} {l : List Tok} {a a' : Nat} {to : Int} {LI LM : CVal} {tI tM tE : List CVal} {iI iM iE : Nat} {h : CHeap} {z n' : Nat} {ty : List (Nat × Nat)} {x : CVal} {b : Int} (S : FSt n0 E0 p q l a to LI LM .nils tI tM tE iI iM iE h) (hb : b = (a' : Int)) (hz : h.next ≤ z) (hn : z < n') (ht : UnderT ty n') :
    FSt n0 E0 p q l a' to (LI) (LM) (.imm (.own z 0) 2 [x]) tI tM [x] iI iM z ⟨(z, .tok 0) :: setEnt (setEnt h.ents p (pr l b 0 to)) q (.cells [.str [], LI, LM, .imm (.own z 0) 2 [x]]), n', ty⟩ := by
  subst hb
  have hlp := S.lp; have hlq := S.lq; have hnp := S.np; have hnq := S.nq; have hpq := S.pq
  have hqp : q ≠ p := fun e => hpq e.symm
  have hzp : (z == p) = false := by simp; omega
  have hzq : (z == q) = false := by simp; omega
  have keep : ∀ i, i ≠ p → i ≠ q → i < h.next → getEnt ((z, CObj.tok 0) :: setEnt (setEnt h.ents p (pr l (a' : Int) 0 to)) q (.cells [.str [], LI, LM, .imm (.own z 0) 2 [x]])) i = getEnt h.ents i := by
    intro i h1 h2 h3
    have hzi : (z == i) = false := by simp; omega
    simp only [getEnt, hzi, Bool.false_eq_true, if_false]
    rw [getEnt_setEnt_ne h2, getEnt_setEnt_ne h1]
  exact {
    g := by simp only [getEnt, hzp, Bool.false_eq_true, if_false]; exact (getEnt_setEnt_ne hpq).trans (sy_getEnt_setEnt S.g)
    gq := by simp only [getEnt, hzq, Bool.false_eq_true, if_false]; exact sy_getEnt_setEnt ((getEnt_setEnt_ne hqp).trans S.gq)
    sE := .inr ⟨0, rfl, by simp, by simp [getEnt], by omega, by omega, by omega, hn⟩
    sI := S.sI.keep (by (try dsimp only); omega) (.inr (keep _))
    sM := S.sM.keep (by (try dsimp only); omega) (.inr (keep _))
    dIE := by
      by_cases hv : LI = .nils
      · exact .inl hv
      · have := S.sI.notnil hv; exact .inr (.inr (by omega))
    dME := by
      by_cases hv : LM = .nils
      · exact .inl hv
      · have := S.sM.notnil hv; exact .inr (.inr (by omega))
    dIM := S.dIM
    d := ((S.d.setP hnp).set hnq).cons (by omega)
    np := hnp
    nq := hnq
    lp := by (try dsimp only); omega
    lq := by (try dsimp only); omega
    pq := hpq
    f := ⟨Under.cons hn (S.f.1.set.set.le (by (try dsimp only); omega)), ht⟩ }

theorem FSt.ownE {n0 : Nat} {E0 : List (Nat × CObj)} {p q : Nat} {l : List Tok} {a a' : Nat} {to : Int} {LI LM : CVal} {tI tM ts : List CVal} {iI iM iE : Nat} {h : CHeap} {v n' : Nat} {ty : List (Nat × Nat)} {x : CVal} {b : Int} (S : FSt n0 E0 p q l a to LI LM (.imm (.own iE v) 2 ts) tI tM ts iI iM iE h) (hti : getEnt h.ents iE = some (.tok v)) (hip : iE ≠ p) (hiq : iE ≠ q) (hi0 : n0 ≤ iE) (hin : iE < h.next) (hb : b = (a' : Int)) (hn : h.next ≤ n') (ht : UnderT ty n') :
    FSt n0 E0 p q l a' to (LI) (LM) (.imm (.own iE (v + 1)) 2 (ts ++ [x])) tI tM (ts ++ [x]) iI iM iE ⟨setEnt (setEnt (setEnt h.ents p (pr l b 0 to)) iE (.tok (v + 1))) q (.cells [.str [], LI, LM, .imm (.own iE (v + 1)) 2 (ts ++ [x])]), n', ty⟩ := by
  subst hb
  have hlp := S.lp; have hlq := S.lq; have hnp := S.np; have hnq := S.nq; have hpq := S.pq
  have hqp : q ≠ p := fun e => hpq e.symm
  have hpi : p ≠ iE := fun e => hip e.symm
  have hqi : q ≠ iE := fun e => hiq e.symm
  have keep : ∀ i, i ≠ iE → i ≠ p → i ≠ q → i < h.next → getEnt (setEnt (setEnt (setEnt h.ents p (pr l (a' : Int) 0 to)) iE (.tok (v + 1))) q (.cells [.str [], LI, LM, .imm (.own iE (v + 1)) 2 (ts ++ [x])])) i = getEnt h.ents i := by
    intro i h0 h1 h2 h3
    rw [getEnt_setEnt_ne h2, getEnt_setEnt_ne h0, getEnt_setEnt_ne h1]
  exact {
    g := (getEnt_setEnt_ne hpq).trans ((getEnt_setEnt_ne hpi).trans (sy_getEnt_setEnt S.g))
    gq := sy_getEnt_setEnt ((getEnt_setEnt_ne hqi).trans ((getEnt_setEnt_ne hqp).trans S.gq))
    sE := .inr ⟨v + 1, rfl, by simp, (getEnt_setEnt_ne hiq).trans (sy_getEnt_setEnt ((getEnt_setEnt_ne hip).trans hti)), hip, hiq, hi0, by (try dsimp only); omega⟩
    sI := S.sI.keep (by (try dsimp only); omega) (by
      rcases S.dIE with e | e | e
      · exact .inl e
      · cases e
      · exact .inr (keep _ e))
    sM := S.sM.keep (by (try dsimp only); omega) (by
      rcases S.dME with e | e | e
      · exact .inl e
      · cases e
      · exact .inr (keep _ e))
    dIE := by
      rcases S.dIE with e | e | e
      · exact .inl e
      · cases e
      · exact .inr (.inr e)
    dME := by
      rcases S.dME with e | e | e
      · exact .inl e
      · cases e
      · exact .inr (.inr e)
    dIM := S.dIM
    d := ((S.d.setP hnp).set hi0).set hnq
    np := hnp
    nq := hnq
    lp := by (try dsimp only); omega
    lq := by (try dsimp only); omega
    pq := hpq
    f := ⟨S.f.1.set.set.set.le hn, ht⟩ }

theorem FSt.semi {n0 : Nat} {E0 : List (Nat × CObj)} {p q : Nat} {l : List Tok} {a a' : Nat} {to : Int} {LI LM LE : CVal} {tI tM tE : List CVal} {iI iM iE : Nat} {h : CHeap} {n' : Nat} {ty : List (Nat × Nat)} {b : Int} (S : FSt n0 E0 p q l a to LI LM LE tI tM tE iI iM iE h) (hb : b = (a' : Int)) (hn : h.next ≤ n') (ht : UnderT ty n') :
    FSt n0 E0 p q l a' to LI LM LE tI tM tE iI iM iE ⟨setEnt h.ents p (pr l b 0 to), n', ty⟩ := by
  subst hb
  have hlp := S.lp; have hlq := S.lq; have hnp := S.np; have hnq := S.nq; have hpq := S.pq
  have hqp : q ≠ p := fun e => hpq e.symm
  have keep : ∀ i, i ≠ p → i ≠ q → i < h.next → getEnt (setEnt h.ents p (pr l (a' : Int) 0 to)) i = getEnt h.ents i := fun i h1 h2 h3 => getEnt_setEnt_ne h1
  exact {
    g := sy_getEnt_setEnt S.g
    gq := (getEnt_setEnt_ne hqp).trans S.gq
    sI := S.sI.keep hn (.inr (keep _))
    sM := S.sM.keep hn (.inr (keep _))
    sE := S.sE.keep hn (.inr (keep _))
    dIM := S.dIM
    dIE := S.dIE
    dME := S.dME
    d := S.d.setP hnp
    np := hnp
    nq := hnq
    lp := by (try dsimp only); omega
    lq := by (try dsimp only); omega
    pq := hpq
    f := ⟨S.f.1.set.le hn, ht⟩ }
theorem suf {l : List Tok} {a m : Nat} {x y : List Tk3} (h : (l.drop a).map strip = x ++ y) (hm : x.length = m) : (l.drop (a + m)).map strip = y := by
  rw [← List.drop_drop, List.map_drop, h, ← hm, List.drop_left]
theorem suf_get {l : List Tok} {a j : Nat} {x y : List Tk3} {k : Nat} {tx : List UInt8} {n : Nat} (h : (l.drop a).map strip = x ++ y) (hj : x[j]? = some (k, tx, n)) : ∃ b, l[a + j]? = some (k, tx, n, b) := by
  refine tok_of ?_
  rw [h, List.getElem?_append_left]
  · exact hj
  · exact (List.getElem?_eq_some_iff.1 hj).1

theorem fl_end (p d q dq : Nat) (l : List Tok) (hll : l.length < 100000) (a : Nat) (to : Int) (Q : CExit → CSt → Prop) (v1 v2 v3 v5 v6 v7 : CVal) (h : CHeap) (hf : Fit h) (hg : getEnt h.ents p = some (pr l (a : Int) 0 to)) (hp : p < h.next) (b0 : Nat) (hl0 : l[a + 0]? = some (5, [], 0, b0))
    (hk : ∀ n' ty w1 w2 w3 w5 w6 w7, h.next ≤ n' → UnderT ty n' → Q (.exit 0) ⟨[.ptr p d 0, w1, w2, w3, .ptr q dq 0, w5, w6, w7], ⟨h.ents, n', ty⟩, []⟩) : W tree.getF fileLoop ⟨[.ptr p d 0, v1, v2, v3, .ptr q dq 0, v5, v6, v7], h, []⟩ Q := by
  obtain ⟨hu, hut, hX⟩ := fx4 hf
  have hY := fx5 hf hg; have ⟨hG, hD2, hC2, hN2⟩ := hY
  refine W.loop ?_
  repeat (first | refine sq_ ?_ | refine bl_ ?_ | ((first | refine rg_ ?_ | refine go_ ?_); generalize e : goR _ _ _ _ _ _ _ _ = r; simp (disch := omega) [hX, hg, hY, sy_ibneT, sy_ibneF, sy_ibeqT] at e; replace e : some _ = _ := e; subst e; (try dsimp only [goW])) | refine ct_ rfl ?_ | refine cf_ rfl ?_ | refine sk_ ?_ | refine ex_ ?_ | (refine p_word l hll (a + 0) 5 [] 0 b0 hl0 ((a : Int)) (by omega) 0 to _ p d ?_ ?_ ?_ _  fun n0 ty0 hn0 hun0 => ⟨rfl, ?_⟩; exact fit_; (focus (((first | exact hg | exact hG _ | ((try dsimp only); exact hg) | ((try dsimp only); exact hG _) | (simp (disch := omega) [getEnt, setEnt, sy_nbeq, sy_neqF, sy_setEnt_setEnt, hg, hG]; done) | ((simp (disch := omega) [getEnt, setEnt, sy_nbeq, sy_neqF, sy_setEnt_setEnt, hg, hG]); omega))); done)); (try dsimp only); omega; (try dsimp only at hn0)))
  all_goals ((try simp only [outOf, thenW_ret, roundW]); refine hk _ _ _ _ _ _ _ _ ?_ ?_; (focus (omega; done)); exact ut_)

theorem fl_all {n0 : Nat} {E0 : List (Nat × CObj)} (p d q dq : Nat) (l : List Tok) (hll : l.length < 100000) (to : Int) (Q : CExit → CSt → Prop) : ∀ (its : List It) (a : Nat) (LI LM LE : CVal) (tI tM tE : List CVal) (iI iM iE : Nat) (v1 v2 v3 v5 v6 v7 : CVal) (h : CHeap), FSt n0 E0 p q l a to LI LM LE tI tM tE iI iM iE h → (∀ it ∈ its, okI it) → (l.drop a).map strip = its.flatMap itT ++ [(5, [], 0)] →
    tI.length + its.length < 30 → tM.length + its.length < 30 → tE.length + its.length < 30 →
    (∀ LI' LM' LE' iI' iM' iE' a' w1 w2 w3 w5 w6 w7 h', FSt n0 E0 p q l a' to LI' LM' LE' (tI ++ (cI its).map eI) (tM ++ (cM its).map eM) (tE ++ (cE its).map eE) iI' iM' iE' h' → h.next ≤ h'.next → Q (.exit 0) ⟨[.ptr p d 0, w1, w2, w3, .ptr q dq 0, w5, w6, w7], h', []⟩) →
    W tree.getF fileLoop ⟨[.ptr p d 0, v1, v2, v3, .ptr q dq 0, v5, v6, v7], h, []⟩ Q := by
  intro its
  induction its with
  | nil =>
    intro a LI LM LE tI tM tE iI iM iE v1 v2 v3 v5 v6 v7 h S hok hsuf hlI hlM hlE hk
    obtain ⟨b0, hl0⟩ := suf_get (j := 0) (x := [(5, [], 0)]) (y := []) (by simpa using hsuf) rfl
    refine fl_end p d q dq l hll a to Q v1 v2 v3 v5 v6 v7 h S.f S.g S.lp b0 hl0 ?_
    intro n' ty w1 w2 w3 w5 w6 w7 g1 g2
    refine hk LI LM LE iI iM iE a w1 w2 w3 w5 w6 w7 _ ?_ g1
    have S2 : FSt n0 E0 p q l a to LI LM LE tI tM tE iI iM iE ⟨h.ents, n', ty⟩ := {
      g := S.g
      gq := S.gq
      sI := S.sI.keep g1 (.inr fun _ _ _ => rfl)
      sM := S.sM.keep g1 (.inr fun _ _ _ => rfl)
      sE := S.sE.keep g1 (.inr fun _ _ _ => rfl)
      dIM := S.dIM
      dIE := S.dIE
      dME := S.dME
      d := S.d
      np := S.np
      nq := S.nq
      lp := by have := S.lp; (try dsimp only); omega
      lq := by have := S.lq; (try dsimp only); omega
      pq := S.pq
      f := ⟨S.f.1.le g1, g2⟩ }
    simpa [cI, cM, cE] using S2
  | cons it r ih =>
      intro a LI LM LE tI tM tE iI iM iE v1 v2 v3 v5 v6 v7 h S hok hsuf hlI hlM hlE hk
      rw [List.flatMap_cons, List.append_assoc] at hsuf
      cases it with
      | imp c =>
        obtain ⟨b0, hl0⟩ := suf_get (j := 0) hsuf rfl
        obtain ⟨b1, hl1⟩ := suf_get (j := 1) hsuf rfl
        obtain ⟨b2, hl2⟩ := suf_get (j := 2) hsuf rfl
        have hs2 := suf (m := 3) hsuf rfl
        have hok2 : ∀ it ∈ r, okI it := fun it hi => hok it (by simp [hi])
        rcases S.sI with ⟨rfl, rfl⟩ | ⟨vq, rfl, _, hti, hip, hiq, hi0, hin⟩
        · refine fl_imp_n p d q dq S.pq l hll a to LM LE Q v1 v2 v3 v5 v6 v7 h S.f S.g S.lp S.lq S.gq b0 b1 b2 [c] hl0 hl1 hl2 ?_
          intro z n' ty w1 w2 w3 w5 w6 w7 g1 g2 g3
          refine ih (a + 3) _ _ _ _ _ _ _ _ _ _ _ _ _ _ _ _ (S.nilI (x := eI c) (b := ((a : Int) + 1 + 1 + 1)) (by omega) g1 g2 g3) hok2 hs2 ?_ ?_ ?_ ?_
          · simp at hlI ⊢; omega
          · simp at hlM ⊢; omega
          · simp at hlE ⊢; omega
          · intro LI' LM' LE' iI' iM' iE' a' w1 w2 w3 w5 w6 w7 h' S' g'
            exact hk LI' LM' LE' iI' iM' iE' a' w1 w2 w3 w5 w6 w7 h' (by simpa [cI, cM, cE, List.append_assoc] using S') (by (try dsimp only at g'); omega)
        · refine fl_imp_o p d q dq S.pq l hll a to LM LE Q v1 v2 v3 v5 v6 v7 h S.f S.g S.lp S.lq _ vq tI (by simp at hlI; omega) hti hip hiq hin S.gq b0 b1 b2 [c] hl0 hl1 hl2 ?_
          intro n' ty w1 w2 w3 w5 w6 w7 g1 g3
          refine ih (a + 3) _ _ _ _ _ _ _ _ _ _ _ _ _ _ _ _ (S.ownI (x := eI c) (b := ((a : Int) + 1 + 1 + 1)) hti hip hiq hi0 hin (by omega) g1 g3) hok2 hs2 ?_ ?_ ?_ ?_
          · simp at hlI ⊢; omega
          · simp at hlM ⊢; omega
          · simp at hlE ⊢; omega
          · intro LI' LM' LE' iI' iM' iE' a' w1 w2 w3 w5 w6 w7 h' S' g'
            exact hk LI' LM' LE' iI' iM' iE' a' w1 w2 w3 w5 w6 w7 h' (by simpa [cI, cM, cE, List.append_assoc] using S') (by (try dsimp only at g'); omega)
      | msg c =>
        obtain ⟨b0, hl0⟩ := suf_get (j := 0) hsuf rfl
        obtain ⟨b1, hl1⟩ := suf_get (j := 1) hsuf rfl
        obtain ⟨b2, hl2⟩ := suf_get (j := 2) hsuf rfl
        obtain ⟨b3, hl3⟩ := suf_get (j := 3) hsuf rfl
        obtain ⟨b4, hl4⟩ := suf_get (j := 4) hsuf rfl
        obtain ⟨b5, hl5⟩ := suf_get (j := 5) hsuf rfl
        obtain ⟨b6, hl6⟩ := suf_get (j := 6) hsuf rfl
        obtain ⟨b7, hl7⟩ := suf_get (j := 7) hsuf rfl
        obtain ⟨b8, hl8⟩ := suf_get (j := 8) hsuf rfl
        have hs2 := suf (m := 9) hsuf rfl
        have hc : c ≠ 46 := hok (.msg c) (by simp)
        have hok2 : ∀ it ∈ r, okI it := fun it hi => hok it (by simp [hi])
        rcases S.sM with ⟨rfl, rfl⟩ | ⟨vq, rfl, _, hti, hip, hiq, hi0, hin⟩
        · refine fl_msg_n p d q dq S.pq l hll a to LI LE Q v1 v2 v3 v5 v6 v7 h S.f S.g S.lp S.lq S.gq b0 b1 b2 b3 b4 b5 b6 b7 b8 [c] [105, 110, 116, 51, 50] [120] 1 (plain_c c hc) (plain_c 120 (by decide)) rfl rfl rfl rfl rfl rfl rfl hl0 hl1 hl2 hl3 hl4 hl5 hl6 hl7 hl8 ?_
          intro z n' ty w1 w2 w3 w5 w6 w7 g1 g2 g3
          refine ih (a + 9) _ _ _ _ _ _ _ _ _ _ _ _ _ _ _ _ (S.nilM (x := eM c) (b := ((a : Int) + 1 + 1 + 1 + 1 + 1 + 1 + 1 + 1 + 1)) (by omega) g1 g2 g3) hok2 hs2 ?_ ?_ ?_ ?_
          · simp at hlI ⊢; omega
          · simp at hlM ⊢; omega
          · simp at hlE ⊢; omega
          · intro LI' LM' LE' iI' iM' iE' a' w1 w2 w3 w5 w6 w7 h' S' g'
            exact hk LI' LM' LE' iI' iM' iE' a' w1 w2 w3 w5 w6 w7 h' (by simpa [cI, cM, cE, List.append_assoc] using S') (by (try dsimp only at g'); omega)
        · refine fl_msg_o p d q dq S.pq l hll a to LI LE Q v1 v2 v3 v5 v6 v7 h S.f S.g S.lp S.lq _ vq tM (by simp at hlM; omega) hti hip hiq hin S.gq b0 b1 b2 b3 b4 b5 b6 b7 b8 [c] [105, 110, 116, 51, 50] [120] 1 (plain_c c hc) (plain_c 120 (by decide)) rfl rfl rfl rfl rfl rfl rfl hl0 hl1 hl2 hl3 hl4 hl5 hl6 hl7 hl8 ?_
          intro n' ty w1 w2 w3 w5 w6 w7 g1 g3
          refine ih (a + 9) _ _ _ _ _ _ _ _ _ _ _ _ _ _ _ _ (S.ownM (x := eM c) (b := ((a : Int) + 1 + 1 + 1 + 1 + 1 + 1 + 1 + 1 + 1)) hti hip hiq hi0 hin (by omega) g1 g3) hok2 hs2 ?_ ?_ ?_ ?_
          · simp at hlI ⊢; omega
          · simp at hlM ⊢; omega
          · simp at hlE ⊢; omega
          · intro LI' LM' LE' iI' iM' iE' a' w1 w2 w3 w5 w6 w7 h' S' g'
            exact hk LI' LM' LE' iI' iM' iE' a' w1 w2 w3 w5 w6 w7 h' (by simpa [cI, cM, cE, List.append_assoc] using S') (by (try dsimp only at g'); omega)
      | enu c =>
        obtain ⟨b0, hl0⟩ := suf_get (j := 0) hsuf rfl
        obtain ⟨b1, hl1⟩ := suf_get (j := 1) hsuf rfl
        obtain ⟨b2, hl2⟩ := suf_get (j := 2) hsuf rfl
        obtain ⟨b3, hl3⟩ := suf_get (j := 3) hsuf rfl
        obtain ⟨b4, hl4⟩ := suf_get (j := 4) hsuf rfl
        obtain ⟨b5, hl5⟩ := suf_get (j := 5) hsuf rfl
        obtain ⟨b6, hl6⟩ := suf_get (j := 6) hsuf rfl
        obtain ⟨b7, hl7⟩ := suf_get (j := 7) hsuf rfl
        have hs2 := suf (m := 8) hsuf rfl
        have hc : c ≠ 46 := hok (.enu c) (by simp)
        have hok2 : ∀ it ∈ r, okI it := fun it hi => hok it (by simp [hi])
        rcases S.sE with ⟨rfl, rfl⟩ | ⟨vq, rfl, _, hti, hip, hiq, hi0, hin⟩
        · refine fl_enu_n p d q dq S.pq l hll a to LI LM Q v1 v2 v3 v5 v6 v7 h S.f S.g S.lp S.lq S.gq b0 b1 b2 b3 b4 b5 b6 b7 [c] [88] (plain_c c hc) (plain_c 88 (by decide)) hl0 hl1 hl2 hl3 hl4 hl5 hl6 hl7 ?_
          intro z n' ty w1 w2 w3 w5 w6 w7 g1 g2 g3
          refine ih (a + 8) _ _ _ _ _ _ _ _ _ _ _ _ _ _ _ _ (S.nilE (x := eE c) (b := ((a : Int) + 1 + 1 + 1 + 1 + 1 + 1 + 1 + 1)) (by omega) g1 g2 g3) hok2 hs2 ?_ ?_ ?_ ?_
          · simp at hlI ⊢; omega
          · simp at hlM ⊢; omega
          · simp at hlE ⊢; omega
          · intro LI' LM' LE' iI' iM' iE' a' w1 w2 w3 w5 w6 w7 h' S' g'
            exact hk LI' LM' LE' iI' iM' iE' a' w1 w2 w3 w5 w6 w7 h' (by simpa [cI, cM, cE, List.append_assoc] using S') (by (try dsimp only at g'); omega)
        · refine fl_enu_o p d q dq S.pq l hll a to LI LM Q v1 v2 v3 v5 v6 v7 h S.f S.g S.lp S.lq _ vq tE (by simp at hlE; omega) hti hip hiq hin S.gq b0 b1 b2 b3 b4 b5 b6 b7 [c] [88] (plain_c c hc) (plain_c 88 (by decide)) hl0 hl1 hl2 hl3 hl4 hl5 hl6 hl7 ?_
          intro n' ty w1 w2 w3 w5 w6 w7 g1 g3
          refine ih (a + 8) _ _ _ _ _ _ _ _ _ _ _ _ _ _ _ _ (S.ownE (x := eE c) (b := ((a : Int) + 1 + 1 + 1 + 1 + 1 + 1 + 1 + 1)) hti hip hiq hi0 hin (by omega) g1 g3) hok2 hs2 ?_ ?_ ?_ ?_
          · simp at hlI ⊢; omega
          · simp at hlM ⊢; omega
          · simp at hlE ⊢; omega
          · intro LI' LM' LE' iI' iM' iE' a' w1 w2 w3 w5 w6 w7 h' S' g'
            exact hk LI' LM' LE' iI' iM' iE' a' w1 w2 w3 w5 w6 w7 h' (by simpa [cI, cM, cE, List.append_assoc] using S') (by (try dsimp only at g'); omega)
      | semi =>
        obtain ⟨b0, hl0⟩ := suf_get (j := 0) hsuf rfl
        have hs2 := suf (m := 1) hsuf rfl
        have hok2 : ∀ it ∈ r, okI it := fun it hi => hok it (by simp [hi])
        refine fl_semi p d q dq S.pq l hll a to LI LM LE Q v1 v2 v3 v5 v6 v7 h S.f S.g S.lp S.lq S.gq b0 hl0 ?_
        intro n' ty w1 w2 w3 w5 w6 w7 g1 g3
        refine ih (a + 1) _ _ _ _ _ _ _ _ _ _ _ _ _ _ _ _ (S.semi (b := ((a : Int) + 1)) (by omega) g1 g3) hok2 hs2 ?_ ?_ ?_ ?_
        · simp at hlI ⊢; omega
        · simp at hlM ⊢; omega
        · simp at hlE ⊢; omega
        · intro LI' LM' LE' iI' iM' iE' a' w1 w2 w3 w5 w6 w7 h' S' g'
          exact hk LI' LM' LE' iI' iM' iE' a' w1 w2 w3 w5 w6 w7 h' (by simpa [cI, cM, cE, List.append_assoc] using S') (by (try dsimp only at g'); omega)
def Rl (k : Nat) (ts : List CVal) (R : CVal) : Prop := R = .nils ∧ ts = [] ∨ R = .imm .none k ts ∧ ts ≠ []
theorem file_P (l : List Tok) (hll : l.length < 100000) (b0 b1 b2 b3 : Nat) (hl0 : l[0]? = some (1, [115, 121, 110, 116, 97, 120], 0, b0)) (hl1 : l[1]? = some (4, [61], 0, b1)) (hl2 : l[2]? = some (3, [112, 114, 111, 116, 111, 51], 0, b2)) (hl3 : l[3]? = some (4, [59], 0, b3)) (its : List It) (hok : ∀ it ∈ its, okI it) (hsuf : (l.drop 4).map strip = its.flatMap itT ++ [(5, [], 0)]) (hlen : its.length ≤ 25) (to : Int) (h : CHeap) (p d : Nat) (hf : Fit h) (hg : getEnt h.ents p = some (pr l ((0 : Nat) : Int) 0 to)) (hp : p < h.next) (K : CVal → CHeap → Prop)
    (hk : ∀ n2 ty (a' : Nat) RI RM RE, h.next ≤ n2 → UnderT ty n2 → Rl 1 ((cI its).map eI) RI → Rl 7 ((cM its).map eM) RM → Rl 2 ((cE its).map eE) RE → K (.agg [.str [], RI, RM, RE]) ⟨setEnt h.ents p (pr l (a' : Int) 0 to), n2, ty⟩) : Wc tree.getF 13 [.ptr p d 0] h K := by
  obtain ⟨hu, hut, hX⟩ := fx4 hf
  have hY := fx5 hf hg; have ⟨hG, hD2, hC2, hN2⟩ := hY
  refine Wc.mkG 13 c13 (by kernel_rfl) rfl ?_
  generalize e : entryC _ _ _ = r
  simp (disch := omega) [hX, hg, hY, c13] at e
  subst e
  repeat (first | refine sq_ ?_ | refine bl_ ?_ | ((first | refine rg_ ?_ | refine go_ ?_); generalize e : goR _ _ _ _ _ _ _ _ = r; simp (disch := omega) [hX, hg, hY, sy_ibneT, sy_ibneF, sy_ibeqT] at e; replace e : some _ = _ := e; subst e; (try dsimp only [goW])) | refine ct_ rfl ?_ | refine cf_ rfl ?_ | refine sk_ ?_ | refine ex_ ?_ | (refine p_needs l hll 0 1 [115, 121, 110, 116, 97, 120] 0 b0 hl0 (((0 : Nat) : Int)) (by omega) 0 to _ p d ?_ ?_ ?_ _ _ _ rfl fun n1 ty1 hn1 hun1 => ⟨rfl, ?_⟩; exact fit_; (focus (((first | exact hg | exact hG _ | ((try dsimp only); exact hg) | ((try dsimp only); exact hG _) | (simp (disch := omega) [getEnt, setEnt, sy_nbeq, sy_neqF, sy_setEnt_setEnt, hg, hG]; done) | ((simp (disch := omega) [getEnt, setEnt, sy_nbeq, sy_neqF, sy_setEnt_setEnt, hg, hG]); omega))); done)); (try dsimp only); omega; (try dsimp only at hn1)) | (refine p_sign l hll 1 4 [61] 0 b1 hl1 (((0 : Nat) : Int) + 1) (by omega) 0 to _ p d ?_ ?_ ?_ _ _ rfl fun n2 ty2 hn2 hun2 => ⟨rfl, ?_⟩; exact fit_; (focus (((first | exact hg | exact hG _ | ((try dsimp only); exact hg) | ((try dsimp only); exact hG _) | (simp (disch := omega) [getEnt, setEnt, sy_nbeq, sy_neqF, sy_setEnt_setEnt, hg, hG]; done) | ((simp (disch := omega) [getEnt, setEnt, sy_nbeq, sy_neqF, sy_setEnt_setEnt, hg, hG]); omega))); done)); (try dsimp only); omega; (try dsimp only at hn2)) | (refine p_needs l hll 2 3 [112, 114, 111, 116, 111, 51] 0 b2 hl2 (((0 : Nat) : Int) + 1 + 1) (by omega) 0 to _ p d ?_ ?_ ?_ _ _ _ rfl fun n3 ty3 hn3 hun3 => ⟨rfl, ?_⟩; exact fit_; (focus (((first | exact hg | exact hG _ | ((try dsimp only); exact hg) | ((try dsimp only); exact hG _) | (simp (disch := omega) [getEnt, setEnt, sy_nbeq, sy_neqF, sy_setEnt_setEnt, hg, hG]; done) | ((simp (disch := omega) [getEnt, setEnt, sy_nbeq, sy_neqF, sy_setEnt_setEnt, hg, hG]); omega))); done)); (try dsimp only); omega; (try dsimp only at hn3)) | (refine p_sign l hll 3 4 [59] 0 b3 hl3 (((0 : Nat) : Int) + 1 + 1 + 1) (by omega) 0 to _ p d ?_ ?_ ?_ _ _ rfl fun n4 ty4 hn4 hun4 => ⟨rfl, ?_⟩; exact fit_; (focus (((first | exact hg | exact hG _ | ((try dsimp only); exact hg) | ((try dsimp only); exact hG _) | (simp (disch := omega) [getEnt, setEnt, sy_nbeq, sy_neqF, sy_setEnt_setEnt, hg, hG]; done) | ((simp (disch := omega) [getEnt, setEnt, sy_nbeq, sy_neqF, sy_setEnt_setEnt, hg, hG]); omega))); done)); (try dsimp only); omega; (try dsimp only at hn4)))
  refine fl_all (n0 := h.next) (E0 := h.ents) p d _ _ l hll to _ its 4 .nils .nils .nils [] [] [] 0 0 0 _ _ _ _ _ _ _ ?_ hok hsuf (by simp; omega) (by simp; omega) (by simp; omega) ?_
  · exact {
      g := by (first | exact hg | exact hG _ | ((try dsimp only); exact hg) | ((try dsimp only); exact hG _) | (simp (disch := omega) [getEnt, setEnt, sy_nbeq, sy_neqF, sy_setEnt_setEnt, hg, hG]; done) | ((simp (disch := omega) [getEnt, setEnt, sy_nbeq, sy_neqF, sy_setEnt_setEnt, hg, hG]); omega))
      gq := by simp [getEnt]
      sI := .inl ⟨rfl, rfl⟩
      sM := .inl ⟨rfl, rfl⟩
      sE := .inl ⟨rfl, rfl⟩
      dIM := .inl rfl
      dIE := .inl rfl
      dME := .inl rfl
      d := by
        have e4 : (((0 : Nat) : Int) + 1 + 1 + 1 + 1) = ((4 : Nat) : Int) := by omega
        first | exact ⟨[_], by rw [← e4]; rfl, fun x hx => (by simp at hx; subst hx; (try dsimp only); omega), hu.set⟩ | exact ⟨[_], rfl, fun x hx => (by simp at hx; subst hx; (try dsimp only); omega), hu.set⟩
      np := hp
      nq := by (try dsimp only); omega
      lp := by (try dsimp only); omega
      lq := by (try dsimp only); omega
      pq := by (try dsimp only); omega
      f := by exact fit_ }
  · intro LI LM LE iI iM iE a' w1 w2 w3 w5 w6 w7 h' S' g'
    try dsimp only at g'
    have hd := S'.d.drop
    have hq := S'.gq
    have hTI := S'.sI
    have hTM := S'.sM
    have hTE := S'.sE
    simp only [List.nil_append] at hTI hTM hTE
    have hut' := S'.f.2
    have hqn := S'.nq
    have hsame := setEnt_same hq
    rcases hTI with ⟨rfl, eI'⟩ | ⟨vI, rfl, zI, tI', nI1, nI2, nI3, nI4⟩ <;> rcases hTM with ⟨rfl, eM'⟩ | ⟨vM, rfl, zM, tM', nM1, nM2, nM3, nM4⟩ <;> rcases hTE with ⟨rfl, eE'⟩ | ⟨vE, rfl, zE, tE', nE1, nE2, nE3, nE4⟩
    all_goals
      repeat (first | refine sq_ ?_ | refine bl_ ?_ | ((first | refine rg_ ?_ | refine go_ ?_); generalize e : goR _ _ _ _ _ _ _ _ = r; simp (disch := omega) [hd, hq, setEnt_same hq, c13] at e; replace e : some _ = _ := e; subst e; (try dsimp only [goW])) | refine ct_ rfl ?_ | refine cf_ rfl ?_ | refine sk_ ?_ | refine ex_ ?_ | ((first | (refine W.ret ?_; (try simp only [outOf, thenW_ret, roundW]); refine endW.of (.inl rfl) rfl ?_) | refine endW.of (.inr rfl) rfl ?_); generalize e : endsC _ _ _ = r; simp (disch := omega) [hd, hq, setEnt_same hq, c13] at e; subst e; (try dsimp only [goW]); (refine hk _ _ a' _ _ _ ?_ ?_ ?_ ?_ ?_; omega; exact ut_; (focus ((first | exact .inl ⟨rfl, eI'⟩ | exact .inr ⟨rfl, zI⟩); done)); (focus ((first | exact .inl ⟨rfl, eM'⟩ | exact .inr ⟨rfl, zM⟩); done)); (focus ((first | exact .inl ⟨rfl, eE'⟩ | exact .inr ⟨rfl, zE⟩); done)))))
theorem parse_P (s : List UInt8) (l : List Tok) (hll : l.length < 100000) (LX : Pu tree.getF 12 [.str s] (.tup [.imm .none 4 (l.map tokV), .int .i64 0, .int .i64 0])) (its : List It) (hst : l.map strip = [(1, [115, 121, 110, 116, 97, 120], 0), (4, [61], 0), (3, [112, 114, 111, 116, 111, 51], 0), (4, [59], 0)] ++ (its.flatMap itT ++ [(5, [], 0)])) (hok : ∀ it ∈ its, okI it) (hlen : its.length ≤ 25) (h : CHeap) (hf : Fit h) (K : CVal → CHeap → Prop)
    (hk : ∀ n2 ty RI RM RE, h.next ≤ n2 → UnderT ty n2 → Rl 1 ((cI its).map eI) RI → Rl 7 ((cM its).map eM) RM → Rl 2 ((cE its).map eE) RE → K (.tup [.agg [.str [], RI, RM, RE], .int .i64 0, .int .i64 0]) ⟨h.ents, n2, ty⟩) : Wc tree.getF 6 [.str s] h K := by
  have hst0 : (l.drop 0).map strip = _ := hst
  obtain ⟨b0, hl0⟩ := suf_get (j := 0) hst0 rfl
  obtain ⟨b1, hl1⟩ := suf_get (j := 1) hst0 rfl
  obtain ⟨b2, hl2⟩ := suf_get (j := 2) hst0 rfl
  obtain ⟨b3, hl3⟩ := suf_get (j := 3) hst0 rfl
  have hsuf := suf (m := 4) hst0 rfl
  rw [Nat.zero_add] at hl0 hl1 hl2 hl3 hsuf
  obtain ⟨hu, hut, hX⟩ := fx4 hf
  refine Wc.mkG 6 c6 (by kernel_rfl) rfl ?_
  generalize e : entryC _ _ _ = r
  simp (disch := omega) [hX, c6] at e
  subst e
  repeat' (first
    | refine sq_ ?_
    | refine bl_ ?_
    | ((first | refine rg_ ?_ | refine go_ ?_); generalize e : goR _ _ _ _ _ _ _ _ = r; simp (disch := omega) [hX, sy_ibneT, sy_ibneF, sy_ibeqT, c6] at e; replace e : some _ = _ := e; subst e; (try dsimp only [goW]))
    | refine ct_ rfl ?_
    | refine cf_ rfl ?_
    | refine sk_ ?_
    | refine ex_ ?_
    | (refine LX _ ?_ _ fun n1 tyn1 hn1 hun1 => ⟨rfl, ?_⟩; exact fit_; (try dsimp only at hn1))
    | (refine file_P l hll b0 b1 b2 b3 hl0 hl1 hl2 hl3 its hok hsuf hlen 0 _ _ _ ?_ ?_ ?_ _ fun n9 ty9 a9 RI RM RE hn9 hun9 hRI hRM hRE => ⟨rfl, ?_⟩; exact fit_; (focus ((simp (disch := omega) [getEnt]); done)); (try dsimp only); omega; (try dsimp only at hn9); (rcases hRI with ⟨rfl, eI'⟩ | ⟨rfl, zI⟩ <;> rcases hRM with ⟨rfl, eM'⟩ | ⟨rfl, zM⟩ <;> rcases hRE with ⟨rfl, eE'⟩ | ⟨rfl, zE⟩))
    | ((first | (refine W.ret ?_; (try simp only [outOf, thenW_ret, roundW]); refine endW.of (.inl rfl) rfl ?_) | refine endW.of (.inr rfl) rfl ?_); generalize e : endsC _ _ _ = r; simp (disch := omega) [hX, sy_ibneT, sy_ibneF, sy_ibeqT, c6] at e; subst e; (try dsimp only [goW]); (refine hk _ _ _ _ _ ?_ ?_ ?_ ?_ ?_; omega; exact ut_; (focus ((first | exact .inl ⟨rfl, eI'⟩ | exact .inr ⟨rfl, zI⟩); done)); (focus ((first | exact .inl ⟨rfl, eM'⟩ | exact .inr ⟨rfl, zM⟩); done)); (focus ((first | exact .inl ⟨rfl, eE'⟩ | exact .inr ⟨rfl, zE⟩); done)))))

abbrev stLoop : CCode := (.loop true (.seq (.seq (.region [.v 3, .v 0, .g (.len false (.loc 0)), .g (.bin .lss (.loc 2) (.loc 0))] [(4, 3)] [] []) (.cond (.var 4) .skip (.exit 0))) (.seq (.block 1 (.seq (.region [.v 0, .v 3, .g (.idxAddr 1 (.loc 1) (.loc 0)), .l 0, .v 1, .v 3, .g (.idxAddr 1 (.loc 1) (.loc 0)), .l 0, .g (.bin .neq (.loc 4) (.loc 0))] [(5, 8)] [] []) (.cond (.var 5) (.seq (.region [.m (.const (.bool false))] [(6, 0)] [] []) .ret) .skip))) (.region [.v 3, .g (.bin .add (.loc 0) (.const (.int .i64 1))), .m (.loc 0)] [(3, 2)] [] []))))

end Go.Proofs.YtjecpdnjpggcoaaGreatDoor.IrO
