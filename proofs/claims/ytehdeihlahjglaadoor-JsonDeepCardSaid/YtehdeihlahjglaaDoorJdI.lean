/- What the functions of the law 'JsonDeep' do: part 9. -/
import Derived.Test.YtehdeihlahjglaaDoorJdH
namespace Go.Proofs.YtehdeihlahjglaaDoor.IrJd
open Go Go.CI
set_option maxRecDepth 100000
set_option linter.unusedVariables false
set_option linter.unusedSimpArgs false
attribute [local irreducible] W Wo Wc WoR
attribute [local simp] goR regOut checkOne swapOne sameAt nthOp CVal.beq beqs CVal.block storesTo entryC evalOps evalOper evalE evalP evalL evalOpnd nth setNth COp.cls COp.isStore CVal.isUndef CVal.whole CVal.cells CHeap.put CHeap.get CHeap.set wantedC getEnt setEnt partOf writeBack evalBin evalInt evalStr blockMost initVar descOf List.take List.drop CVal.lenOf CVal.isStr CVal.bare CVal.strip CVal.flat endsC resultsC oneOrTuple finishC cut fillCells setCells szOf elems bytesOf evalAppend fillElems mkElem setElem List.replicate dropped dropEnts dropCells sizeMost evalSlc optBound eqVal extL extE keyIs findKV nthKV setKV CHeap.ty lookupN CHeap.note CHeap.tyOk dropAll freezeVal freezeAll freezeFlat pCopyCheck pBString pMakeNoZero pIndexByte pClone pIndex hasPair rowOf byteVals idxFrom hasFront idxSub

abbrev zC : List CVal := [.int .i64 0, .int .i64 0, .str [], .nils, .nils]

theorem err20_lst (u : List UInt8) (hlu : u.length < 60000) : Rd 10 [.int .i64 ((20 : Nat) : Int)] (91 :: u) (.agg zC) (91 :: u) 3 := by
  intro p d h hg hf hp K hk
  obtain ⟨hu, hut⟩ := hf
  have hD : ∀ m, h.next ≤ m → dropEnts h.ents m = h.ents := fun m hm => dropEnts_under (hu.le hm)
  have hC : ∀ m, h.next ≤ m → dropCells h.ents m = h.ents := fun m hm => dropCells_under (hu.le hm)
  have hN : ∀ q, h.next ≤ q → getEnt h.ents q = none := fun q hq => getEnt_under hu hq
  have hT : ∀ q, h.next ≤ q → lookupN h.tys q = none := fun q hq => lookupN_under hut hq
  have hG : ∀ x, getEnt (setEnt h.ents p x) p = some x := fun x => sy_getEnt_setEnt hg
  have hD2 : ∀ x m, h.next ≤ m → dropEnts (setEnt h.ents p x) m = setEnt h.ents p x := fun x m hm => dropEnts_under (hu.set.le hm)
  have hC2 : ∀ x m, h.next ≤ m → dropCells (setEnt h.ents p x) m = setEnt h.ents p x := fun x m hm => dropCells_under (hu.set.le hm)
  have hN2 : ∀ x q, h.next ≤ q → getEnt (setEnt h.ents p x) q = none := fun x q hq => getEnt_under hu.set hq

  refine Wc.mkG 10 c10 (by kernel_rfl) rfl ?_
  generalize e : entryC _ _ _ = r
  simp (disch := omega) [sy_nbeq, sy_neqF, sy_leT, sy_leF, sy_setEnt_setEnt, sy_wrap64, sy_ibeqF, sy_ieqF, sy_ileT, sy_ileF, sy_iltT, sy_iltF, sy_ltT, sy_ltF, szOf_desc, hD, hC, hN, hT, hg, hG, hD2, hC2, hN2, List.take_length, c10] at e
  subst e
  repeat (first
    | refine W.seq ?_
    | refine W.block ?_
    | (refine W.regG ?_; generalize e : goR _ _ _ _ _ _ _ _ = r; simp (disch := omega) [sy_nbeq, sy_neqF, sy_leT, sy_leF, sy_setEnt_setEnt, sy_wrap64, sy_ibeqF, sy_ieqF, sy_ileT, sy_ileF, sy_iltT, sy_iltF, sy_ltT, sy_ltF, szOf_desc, hD, hC, hN, hT, hg, hG, hD2, hC2, hN2, List.take_length, c12, c10] at e; replace e : some _ = _ := e; subst e; (try dsimp only [goW]))
    | refine W.cond_true rfl ?_
    | refine W.cond_false rfl ?_
    | refine W.skip ?_
    | refine W.exit ?_
    | (refine WoR.go ?_; generalize e : goR _ _ _ _ _ _ _ _ = r; simp (disch := omega) [sy_nbeq, sy_neqF, sy_leT, sy_leF, sy_setEnt_setEnt, sy_wrap64, sy_ibeqF, sy_ieqF, sy_ileT, sy_ileF, sy_iltT, sy_iltF, sy_ltT, sy_ltF, szOf_desc, hD, hC, hN, hT, hg, hG, hD2, hC2, hN2, List.take_length, c12, c10] at e; replace e : some _ = _ := e; subst e; (try dsimp only [goW]))
    | (refine W.loop ?_; try (generalize e : dropped _ _ _ = r; simp (disch := omega) [sy_nbeq, sy_neqF, sy_leT, sy_leF, sy_setEnt_setEnt, sy_wrap64, sy_ibeqF, sy_ieqF, sy_ileT, sy_ileF, sy_iltT, sy_iltF, sy_ltT, sy_ltF, szOf_desc, hD, hC, hN, hT, hg, hG, hD2, hC2, hN2, List.take_length, c12, c10] at e; subst e; try dsimp only))
    | (refine skip_spec p d [] (91 :: u) 0 ?_ ?_ ?_ _ ?_ ?_ ?_ _ fun n1 hn1 => ⟨rfl, ?_⟩; (focus ((((try simp) <;> omega)); done)); (focus ((simp); done)); (focus ((exact NS.cons (by simp)); done)); (focus ((simp (disch := omega) [getEnt, setEnt, sy_nbeq, sy_neqF, sy_setEnt_setEnt, hg, hG]); done)); (focus ((repeat (first | exact hu.le (by (try dsimp only); omega) | exact hu.set.le (by (try dsimp only); omega) | refine Under.cons (by (try dsimp only); omega) ?_ | exact Under.nil)); done)); (focus (((try dsimp only); omega); done)); (try dsimp only at hn1))
    | (refine Wc.mkG 12 c12 (by kernel_rfl) rfl ?_; generalize e : entryC _ _ _ = r; simp (disch := omega) [sy_nbeq, sy_neqF, sy_leT, sy_leF, sy_setEnt_setEnt, sy_wrap64, sy_ibeqF, sy_ieqF, sy_ileT, sy_ileF, sy_iltT, sy_iltF, sy_ltT, sy_ltF, szOf_desc, hD, hC, hN, hT, hg, hG, hD2, hC2, hN2, List.take_length, c12, c10] at e; subst e)
    | (refine Wc.primM (f := 37) (p := (pBString 5)) (by kernel_rfl) ?_; generalize e : (pBString 5) _ _ = r; simp (disch := omega) [sy_nbeq, sy_neqF, sy_leT, sy_leF, sy_setEnt_setEnt, sy_wrap64, sy_ibeqF, sy_ieqF, sy_ileT, sy_ileF, sy_iltT, sy_iltF, sy_ltT, sy_ltF, szOf_desc, hD, hC, hN, hT, hg, hG, hD2, hC2, hN2, List.take_length, c12, c10] at e; subst e; (try dsimp only); refine ⟨rfl, ?_⟩)
    | (refine Wc.primM (f := 55) (p := (pCopyCheck [(103809029, 2), (62914562, 0)])) (by kernel_rfl) ?_; generalize e : (pCopyCheck [(103809029, 2), (62914562, 0)]) _ _ = r; simp (disch := omega) [sy_nbeq, sy_neqF, sy_leT, sy_leF, sy_setEnt_setEnt, sy_wrap64, sy_ibeqF, sy_ieqF, sy_ileT, sy_ileF, sy_iltT, sy_iltF, sy_ltT, sy_ltF, szOf_desc, hD, hC, hN, hT, hg, hG, hD2, hC2, hN2, List.take_length, c12, c10] at e; subst e; (try dsimp only); refine ⟨rfl, ?_⟩)
    | (refine Wc.primM (f := 74) (p := pIndexByte) (by kernel_rfl) ?_; generalize e : pIndexByte _ _ = r; simp (disch := omega) [sy_nbeq, sy_neqF, sy_leT, sy_leF, sy_setEnt_setEnt, sy_wrap64, sy_ibeqF, sy_ieqF, sy_ileT, sy_ileF, sy_iltT, sy_iltF, sy_ltT, sy_ltF, szOf_desc, hD, hC, hN, hT, hg, hG, hD2, hC2, hN2, List.take_length, c12, c10] at e; subst e; (try dsimp only); refine ⟨rfl, ?_⟩)
    | (refine Wc.primM (f := 75) (p := (pMakeNoZero 5)) (by kernel_rfl) ?_; generalize e : (pMakeNoZero 5) _ _ = r; simp (disch := omega) [sy_nbeq, sy_neqF, sy_leT, sy_leF, sy_setEnt_setEnt, sy_wrap64, sy_ibeqF, sy_ieqF, sy_ileT, sy_ileF, sy_iltT, sy_iltF, sy_ltT, sy_ltF, szOf_desc, hD, hC, hN, hT, hg, hG, hD2, hC2, hN2, List.take_length, c12, c10] at e; subst e; (try dsimp only); refine ⟨rfl, ?_⟩)
    | (refine Wc.primM (f := 91) (p := pClone) (by kernel_rfl) ?_; generalize e : pClone _ _ = r; simp (disch := omega) [sy_nbeq, sy_neqF, sy_leT, sy_leF, sy_setEnt_setEnt, sy_wrap64, sy_ibeqF, sy_ieqF, sy_ileT, sy_ileF, sy_iltT, sy_iltF, sy_ltT, sy_ltF, szOf_desc, hD, hC, hN, hT, hg, hG, hD2, hC2, hN2, List.take_length, c12, c10] at e; subst e; (try dsimp only); refine ⟨rfl, ?_⟩)
    | (refine W.ret ?_; (try simp only [outOf, thenW_ret, roundW]); refine endW.of (.inl rfl) rfl ?_; generalize e : endsC _ _ _ = r; simp (disch := omega) [sy_nbeq, sy_neqF, sy_leT, sy_leF, sy_setEnt_setEnt, sy_wrap64, sy_ibeqF, sy_ieqF, sy_ileT, sy_ileF, sy_iltT, sy_iltF, sy_ltT, sy_ltF, szOf_desc, hD, hC, hN, hT, hg, hG, hD2, hC2, hN2, List.take_length, c12, c10] at e; subst e; (try dsimp only [goW]); refine ⟨rfl, ?_⟩)
    | (refine endW.of (.inr rfl) rfl ?_; generalize e : endsC _ _ _ = r; simp (disch := omega) [sy_nbeq, sy_neqF, sy_leT, sy_leF, sy_setEnt_setEnt, sy_wrap64, sy_ibeqF, sy_ieqF, sy_ileT, sy_ileF, sy_iltT, sy_iltF, sy_ltT, sy_ltF, szOf_desc, hD, hC, hN, hT, hg, hG, hD2, hC2, hN2, List.take_length, c12, c10] at e; subst e; (try dsimp only [goW]); refine ⟨rfl, ?_⟩)
    | (refine W.ret ?_; (try simp only [outOf, thenW_ret, roundW]); refine endW.of (.inl rfl) rfl ?_; generalize e : endsC _ _ _ = r; simp (disch := omega) [sy_nbeq, sy_neqF, sy_leT, sy_leF, sy_setEnt_setEnt, sy_wrap64, sy_ibeqF, sy_ieqF, sy_ileT, sy_ileF, sy_iltT, sy_iltF, sy_ltT, sy_ltF, szOf_desc, hD, hC, hN, hT, hg, hG, hD2, hC2, hN2, List.take_length, c12, c10] at e; subst e; (try dsimp only [goW]); refine hk _ _ ?_ ?_; omega; exact (by repeat (first | exact hut.le (by (try dsimp only); omega) | refine UnderT.cons (by (try dsimp only); omega) ?_ | exact UnderT.nil | assumption | exact UnderT.le (by assumption) (by (try dsimp only); omega))))
    | (refine endW.of (.inr rfl) rfl ?_; generalize e : endsC _ _ _ = r; simp (disch := omega) [sy_nbeq, sy_neqF, sy_leT, sy_leF, sy_setEnt_setEnt, sy_wrap64, sy_ibeqF, sy_ieqF, sy_ileT, sy_ileF, sy_iltT, sy_iltF, sy_ltT, sy_ltF, szOf_desc, hD, hC, hN, hT, hg, hG, hD2, hC2, hN2, List.take_length, c12, c10] at e; subst e; (try dsimp only [goW]); refine hk _ _ ?_ ?_; omega; exact (by repeat (first | exact hut.le (by (try dsimp only); omega) | refine UnderT.cons (by (try dsimp only); omega) ?_ | exact UnderT.nil | assumption | exact UnderT.le (by assumption) (by (try dsimp only); omega)))))

theorem err20_tab (u : List UInt8) (hlu : u.length < 60000) : Rd 10 [.int .i64 ((20 : Nat) : Int)] (123 :: u) (.agg zC) (123 :: u) 3 := by
  intro p d h hg hf hp K hk
  obtain ⟨hu, hut⟩ := hf
  have hD : ∀ m, h.next ≤ m → dropEnts h.ents m = h.ents := fun m hm => dropEnts_under (hu.le hm)
  have hC : ∀ m, h.next ≤ m → dropCells h.ents m = h.ents := fun m hm => dropCells_under (hu.le hm)
  have hN : ∀ q, h.next ≤ q → getEnt h.ents q = none := fun q hq => getEnt_under hu hq
  have hT : ∀ q, h.next ≤ q → lookupN h.tys q = none := fun q hq => lookupN_under hut hq
  have hG : ∀ x, getEnt (setEnt h.ents p x) p = some x := fun x => sy_getEnt_setEnt hg
  have hD2 : ∀ x m, h.next ≤ m → dropEnts (setEnt h.ents p x) m = setEnt h.ents p x := fun x m hm => dropEnts_under (hu.set.le hm)
  have hC2 : ∀ x m, h.next ≤ m → dropCells (setEnt h.ents p x) m = setEnt h.ents p x := fun x m hm => dropCells_under (hu.set.le hm)
  have hN2 : ∀ x q, h.next ≤ q → getEnt (setEnt h.ents p x) q = none := fun x q hq => getEnt_under hu.set hq

  refine Wc.mkG 10 c10 (by kernel_rfl) rfl ?_
  generalize e : entryC _ _ _ = r
  simp (disch := omega) [sy_nbeq, sy_neqF, sy_leT, sy_leF, sy_setEnt_setEnt, sy_wrap64, sy_ibeqF, sy_ieqF, sy_ileT, sy_ileF, sy_iltT, sy_iltF, sy_ltT, sy_ltF, szOf_desc, hD, hC, hN, hT, hg, hG, hD2, hC2, hN2, List.take_length, c10] at e
  subst e
  repeat (first
    | refine W.seq ?_
    | refine W.block ?_
    | (refine W.regG ?_; generalize e : goR _ _ _ _ _ _ _ _ = r; simp (disch := omega) [sy_nbeq, sy_neqF, sy_leT, sy_leF, sy_setEnt_setEnt, sy_wrap64, sy_ibeqF, sy_ieqF, sy_ileT, sy_ileF, sy_iltT, sy_iltF, sy_ltT, sy_ltF, szOf_desc, hD, hC, hN, hT, hg, hG, hD2, hC2, hN2, List.take_length, c12, c10] at e; replace e : some _ = _ := e; subst e; (try dsimp only [goW]))
    | refine W.cond_true rfl ?_
    | refine W.cond_false rfl ?_
    | refine W.skip ?_
    | refine W.exit ?_
    | (refine WoR.go ?_; generalize e : goR _ _ _ _ _ _ _ _ = r; simp (disch := omega) [sy_nbeq, sy_neqF, sy_leT, sy_leF, sy_setEnt_setEnt, sy_wrap64, sy_ibeqF, sy_ieqF, sy_ileT, sy_ileF, sy_iltT, sy_iltF, sy_ltT, sy_ltF, szOf_desc, hD, hC, hN, hT, hg, hG, hD2, hC2, hN2, List.take_length, c12, c10] at e; replace e : some _ = _ := e; subst e; (try dsimp only [goW]))
    | (refine W.loop ?_; try (generalize e : dropped _ _ _ = r; simp (disch := omega) [sy_nbeq, sy_neqF, sy_leT, sy_leF, sy_setEnt_setEnt, sy_wrap64, sy_ibeqF, sy_ieqF, sy_ileT, sy_ileF, sy_iltT, sy_iltF, sy_ltT, sy_ltF, szOf_desc, hD, hC, hN, hT, hg, hG, hD2, hC2, hN2, List.take_length, c12, c10] at e; subst e; try dsimp only))
    | (refine skip_spec p d [] (123 :: u) 0 ?_ ?_ ?_ _ ?_ ?_ ?_ _ fun n1 hn1 => ⟨rfl, ?_⟩; (focus ((((try simp) <;> omega)); done)); (focus ((simp); done)); (focus ((exact NS.cons (by simp)); done)); (focus ((simp (disch := omega) [getEnt, setEnt, sy_nbeq, sy_neqF, sy_setEnt_setEnt, hg, hG]); done)); (focus ((repeat (first | exact hu.le (by (try dsimp only); omega) | exact hu.set.le (by (try dsimp only); omega) | refine Under.cons (by (try dsimp only); omega) ?_ | exact Under.nil)); done)); (focus (((try dsimp only); omega); done)); (try dsimp only at hn1))
    | (refine Wc.mkG 12 c12 (by kernel_rfl) rfl ?_; generalize e : entryC _ _ _ = r; simp (disch := omega) [sy_nbeq, sy_neqF, sy_leT, sy_leF, sy_setEnt_setEnt, sy_wrap64, sy_ibeqF, sy_ieqF, sy_ileT, sy_ileF, sy_iltT, sy_iltF, sy_ltT, sy_ltF, szOf_desc, hD, hC, hN, hT, hg, hG, hD2, hC2, hN2, List.take_length, c12, c10] at e; subst e)
    | (refine Wc.primM (f := 37) (p := (pBString 5)) (by kernel_rfl) ?_; generalize e : (pBString 5) _ _ = r; simp (disch := omega) [sy_nbeq, sy_neqF, sy_leT, sy_leF, sy_setEnt_setEnt, sy_wrap64, sy_ibeqF, sy_ieqF, sy_ileT, sy_ileF, sy_iltT, sy_iltF, sy_ltT, sy_ltF, szOf_desc, hD, hC, hN, hT, hg, hG, hD2, hC2, hN2, List.take_length, c12, c10] at e; subst e; (try dsimp only); refine ⟨rfl, ?_⟩)
    | (refine Wc.primM (f := 55) (p := (pCopyCheck [(103809029, 2), (62914562, 0)])) (by kernel_rfl) ?_; generalize e : (pCopyCheck [(103809029, 2), (62914562, 0)]) _ _ = r; simp (disch := omega) [sy_nbeq, sy_neqF, sy_leT, sy_leF, sy_setEnt_setEnt, sy_wrap64, sy_ibeqF, sy_ieqF, sy_ileT, sy_ileF, sy_iltT, sy_iltF, sy_ltT, sy_ltF, szOf_desc, hD, hC, hN, hT, hg, hG, hD2, hC2, hN2, List.take_length, c12, c10] at e; subst e; (try dsimp only); refine ⟨rfl, ?_⟩)
    | (refine Wc.primM (f := 74) (p := pIndexByte) (by kernel_rfl) ?_; generalize e : pIndexByte _ _ = r; simp (disch := omega) [sy_nbeq, sy_neqF, sy_leT, sy_leF, sy_setEnt_setEnt, sy_wrap64, sy_ibeqF, sy_ieqF, sy_ileT, sy_ileF, sy_iltT, sy_iltF, sy_ltT, sy_ltF, szOf_desc, hD, hC, hN, hT, hg, hG, hD2, hC2, hN2, List.take_length, c12, c10] at e; subst e; (try dsimp only); refine ⟨rfl, ?_⟩)
    | (refine Wc.primM (f := 75) (p := (pMakeNoZero 5)) (by kernel_rfl) ?_; generalize e : (pMakeNoZero 5) _ _ = r; simp (disch := omega) [sy_nbeq, sy_neqF, sy_leT, sy_leF, sy_setEnt_setEnt, sy_wrap64, sy_ibeqF, sy_ieqF, sy_ileT, sy_ileF, sy_iltT, sy_iltF, sy_ltT, sy_ltF, szOf_desc, hD, hC, hN, hT, hg, hG, hD2, hC2, hN2, List.take_length, c12, c10] at e; subst e; (try dsimp only); refine ⟨rfl, ?_⟩)
    | (refine Wc.primM (f := 91) (p := pClone) (by kernel_rfl) ?_; generalize e : pClone _ _ = r; simp (disch := omega) [sy_nbeq, sy_neqF, sy_leT, sy_leF, sy_setEnt_setEnt, sy_wrap64, sy_ibeqF, sy_ieqF, sy_ileT, sy_ileF, sy_iltT, sy_iltF, sy_ltT, sy_ltF, szOf_desc, hD, hC, hN, hT, hg, hG, hD2, hC2, hN2, List.take_length, c12, c10] at e; subst e; (try dsimp only); refine ⟨rfl, ?_⟩)
    | (refine W.ret ?_; (try simp only [outOf, thenW_ret, roundW]); refine endW.of (.inl rfl) rfl ?_; generalize e : endsC _ _ _ = r; simp (disch := omega) [sy_nbeq, sy_neqF, sy_leT, sy_leF, sy_setEnt_setEnt, sy_wrap64, sy_ibeqF, sy_ieqF, sy_ileT, sy_ileF, sy_iltT, sy_iltF, sy_ltT, sy_ltF, szOf_desc, hD, hC, hN, hT, hg, hG, hD2, hC2, hN2, List.take_length, c12, c10] at e; subst e; (try dsimp only [goW]); refine ⟨rfl, ?_⟩)
    | (refine endW.of (.inr rfl) rfl ?_; generalize e : endsC _ _ _ = r; simp (disch := omega) [sy_nbeq, sy_neqF, sy_leT, sy_leF, sy_setEnt_setEnt, sy_wrap64, sy_ibeqF, sy_ieqF, sy_ileT, sy_ileF, sy_iltT, sy_iltF, sy_ltT, sy_ltF, szOf_desc, hD, hC, hN, hT, hg, hG, hD2, hC2, hN2, List.take_length, c12, c10] at e; subst e; (try dsimp only [goW]); refine ⟨rfl, ?_⟩)
    | (refine W.ret ?_; (try simp only [outOf, thenW_ret, roundW]); refine endW.of (.inl rfl) rfl ?_; generalize e : endsC _ _ _ = r; simp (disch := omega) [sy_nbeq, sy_neqF, sy_leT, sy_leF, sy_setEnt_setEnt, sy_wrap64, sy_ibeqF, sy_ieqF, sy_ileT, sy_ileF, sy_iltT, sy_iltF, sy_ltT, sy_ltF, szOf_desc, hD, hC, hN, hT, hg, hG, hD2, hC2, hN2, List.take_length, c12, c10] at e; subst e; (try dsimp only [goW]); refine hk _ _ ?_ ?_; omega; exact (by repeat (first | exact hut.le (by (try dsimp only); omega) | refine UnderT.cons (by (try dsimp only); omega) ?_ | exact UnderT.nil | assumption | exact UnderT.le (by assumption) (by (try dsimp only); omega))))
    | (refine endW.of (.inr rfl) rfl ?_; generalize e : endsC _ _ _ = r; simp (disch := omega) [sy_nbeq, sy_neqF, sy_leT, sy_leF, sy_setEnt_setEnt, sy_wrap64, sy_ibeqF, sy_ieqF, sy_ileT, sy_ileF, sy_iltT, sy_iltF, sy_ltT, sy_ltF, szOf_desc, hD, hC, hN, hT, hg, hG, hD2, hC2, hN2, List.take_length, c12, c10] at e; subst e; (try dsimp only [goW]); refine hk _ _ ?_ ?_; omega; exact (by repeat (first | exact hut.le (by (try dsimp only); omega) | refine UnderT.cons (by (try dsimp only); omega) ?_ | exact UnderT.nil | assumption | exact UnderT.le (by assumption) (by (try dsimp only); omega)))))

theorem err_lst (u : List UInt8) (j : Nat) (x : UInt8) (s2 : List UInt8) (cs : List CVal) (hcl : cs.length = 5) (hcs : cs.map CVal.strip = cs) (hj : j < 20) (hl : s2.length < 60000) (hlu : u.length < 60000) (hns : NS u) (hnf : (decide ([93].length ≤ u.length) && (u.take [93].length == [93])) = false) (hxs : NS (x :: s2)) (hx1 : (decide ([44].length ≤ (x :: s2).length) && ((x :: s2).take [44].length == [44])) = false) (hx2 : (decide ([93].length ≤ (x :: s2).length) && ((x :: s2).take [93].length == [93])) = false) (H : Rd 10 [.int .i64 ((j : Int) + 1)] u (.agg cs) (x :: s2) 3) : Rd 10 [.int .i64 (j : Int)] (91 :: (u)) (.agg [.int .i64 5, .int .i64 0, .str [], .imm .none 5 [.agg cs], .nils]) (x :: s2) 3 := by
  intro p d h hg hf hp K hk
  obtain ⟨hu, hut⟩ := hf
  have hD : ∀ m, h.next ≤ m → dropEnts h.ents m = h.ents := fun m hm => dropEnts_under (hu.le hm)
  have hC : ∀ m, h.next ≤ m → dropCells h.ents m = h.ents := fun m hm => dropCells_under (hu.le hm)
  have hN : ∀ q, h.next ≤ q → getEnt h.ents q = none := fun q hq => getEnt_under hu hq
  have hT : ∀ q, h.next ≤ q → lookupN h.tys q = none := fun q hq => lookupN_under hut hq
  have hG : ∀ x, getEnt (setEnt h.ents p x) p = some x := fun x => sy_getEnt_setEnt hg
  have hD2 : ∀ x m, h.next ≤ m → dropEnts (setEnt h.ents p x) m = setEnt h.ents p x := fun x m hm => dropEnts_under (hu.set.le hm)
  have hC2 : ∀ x m, h.next ≤ m → dropCells (setEnt h.ents p x) m = setEnt h.ents p x := fun x m hm => dropCells_under (hu.set.le hm)
  have hN2 : ∀ x q, h.next ≤ q → getEnt (setEnt h.ents p x) q = none := fun x q hq => getEnt_under hu.set hq

  refine Wc.mkG 10 c10 (by kernel_rfl) rfl ?_
  generalize e : entryC _ _ _ = r
  simp (disch := omega) [sy_nbeq, sy_neqF, sy_leT, sy_leF, sy_setEnt_setEnt, sy_wrap64, sy_ibeqF, sy_ieqF, sy_ileT, sy_ileF, sy_iltT, sy_iltF, sy_ltT, sy_ltF, szOf_desc, hD, hC, hN, hT, hg, hG, hD2, hC2, hN2, hcl, hcs, List.take_length, c10] at e
  subst e
  repeat (first
    | refine W.seq ?_
    | refine W.block ?_
    | (refine W.regG ?_; generalize e : goR _ _ _ _ _ _ _ _ = r; simp (disch := omega) [sy_nbeq, sy_neqF, sy_leT, sy_leF, sy_setEnt_setEnt, sy_wrap64, sy_ibeqF, sy_ieqF, sy_ileT, sy_ileF, sy_iltT, sy_iltF, sy_ltT, sy_ltF, szOf_desc, hD, hC, hN, hT, hg, hG, hD2, hC2, hN2, hcl, hcs, List.take_length, c12, c23, c24, c40, c41, c21, c10] at e; replace e : some _ = _ := e; subst e; (try dsimp only [goW]))
    | refine W.cond_true rfl ?_
    | refine W.cond_false rfl ?_
    | refine W.skip ?_
    | refine W.exit ?_
    | (refine WoR.go ?_; generalize e : goR _ _ _ _ _ _ _ _ = r; simp (disch := omega) [sy_nbeq, sy_neqF, sy_leT, sy_leF, sy_setEnt_setEnt, sy_wrap64, sy_ibeqF, sy_ieqF, sy_ileT, sy_ileF, sy_iltT, sy_iltF, sy_ltT, sy_ltF, szOf_desc, hD, hC, hN, hT, hg, hG, hD2, hC2, hN2, hcl, hcs, List.take_length, c12, c23, c24, c40, c41, c21, c10] at e; replace e : some _ = _ := e; subst e; (try dsimp only [goW]))
    | (refine W.loop ?_; try (generalize e : dropped _ _ _ = r; simp (disch := omega) [sy_nbeq, sy_neqF, sy_leT, sy_leF, sy_setEnt_setEnt, sy_wrap64, sy_ibeqF, sy_ieqF, sy_ileT, sy_ileF, sy_iltT, sy_iltF, sy_ltT, sy_ltF, szOf_desc, hD, hC, hN, hT, hg, hG, hD2, hC2, hN2, hcl, hcs, List.take_length, c12, c23, c24, c40, c41, c21, c10] at e; subst e; try dsimp only))
    | (refine skip_spec p d [] (91 :: (u)) 0 ?_ ?_ ?_ _ ?_ ?_ ?_ _ fun n1 hn1 => ⟨rfl, ?_⟩; (focus ((((try simp) <;> omega)); done)); (focus ((simp); done)); (focus ((exact NS.cons (by simp)); done)); (focus ((simp (disch := omega) [getEnt, setEnt, sy_nbeq, sy_neqF, sy_setEnt_setEnt, hg, hG]); done)); (focus ((repeat (first | exact hu.le (by (try dsimp only); omega) | exact hu.set.le (by (try dsimp only); omega) | refine Under.cons (by (try dsimp only); omega) ?_ | exact Under.nil)); done)); (focus (((try dsimp only); omega); done)); (try dsimp only at hn1))
    | (refine take_spec p d (u) [93] 0 false ?_ ?_ ?_ _ ?_ ?_ ?_ _ fun n2 hn2 => ⟨rfl, ?_⟩; (focus ((((try simp) <;> omega)); done)); (focus ((exact hns); done)); (focus ((exact hnf); done)); (focus ((simp (disch := omega) [getEnt, setEnt, sy_nbeq, sy_neqF, sy_setEnt_setEnt, hg, hG]); done)); (focus ((repeat (first | exact hu.le (by (try dsimp only); omega) | exact hu.set.le (by (try dsimp only); omega) | refine Under.cons (by (try dsimp only); omega) ?_ | exact Under.nil)); done)); (focus (((try dsimp only); omega); done)); (try dsimp only at hn2))
    | (refine H p d _ ?_ ?_ ?_ _ fun n3 tyn3 hn3 hun3 => ⟨rfl, ?_⟩; (focus ((simp (disch := omega) [getEnt, setEnt, sy_nbeq, sy_neqF, sy_setEnt_setEnt, hg, hG]); done)); (focus (((refine ⟨?_, ?_⟩; (focus ((repeat (first | exact hu.le (by (try dsimp only); omega) | exact hu.set.le (by (try dsimp only); omega) | refine Under.cons (by (try dsimp only); omega) ?_ | exact Under.nil)); done)); (focus ((repeat (first | exact hut.le (by (try dsimp only); omega) | refine UnderT.cons (by (try dsimp only); omega) ?_ | exact UnderT.nil | assumption | exact UnderT.le (by assumption) (by (try dsimp only); omega))); done)))); done)); (focus (((try dsimp only); omega); done)); (try dsimp only at hn3))
    | (refine take_spec p d (x :: s2) [44] 3 false ?_ ?_ ?_ _ ?_ ?_ ?_ _ fun n6 hn6 => ⟨rfl, ?_⟩; (focus ((((try simp) <;> omega)); done)); (focus ((exact hxs); done)); (focus ((exact hx1); done)); (focus ((simp (disch := omega) [getEnt, setEnt, sy_nbeq, sy_neqF, sy_setEnt_setEnt, hg, hG]); done)); (focus ((repeat (first | exact hu.le (by (try dsimp only); omega) | exact hu.set.le (by (try dsimp only); omega) | refine Under.cons (by (try dsimp only); omega) ?_ | exact Under.nil)); done)); (focus (((try dsimp only); omega); done)); (try dsimp only at hn6))
    | (refine take_spec p d (x :: s2) [93] 3 false ?_ ?_ ?_ _ ?_ ?_ ?_ _ fun n7 hn7 => ⟨rfl, ?_⟩; (focus ((((try simp) <;> omega)); done)); (focus ((exact hxs); done)); (focus ((exact hx2); done)); (focus ((simp (disch := omega) [getEnt, setEnt, sy_nbeq, sy_neqF, sy_setEnt_setEnt, hg, hG]); done)); (focus ((repeat (first | exact hu.le (by (try dsimp only); omega) | exact hu.set.le (by (try dsimp only); omega) | refine Under.cons (by (try dsimp only); omega) ?_ | exact Under.nil)); done)); (focus (((try dsimp only); omega); done)); (try dsimp only at hn7))
    | (refine Wc.mkG 12 c12 (by kernel_rfl) rfl ?_; generalize e : entryC _ _ _ = r; simp (disch := omega) [sy_nbeq, sy_neqF, sy_leT, sy_leF, sy_setEnt_setEnt, sy_wrap64, sy_ibeqF, sy_ieqF, sy_ileT, sy_ileF, sy_iltT, sy_iltF, sy_ltT, sy_ltF, szOf_desc, hD, hC, hN, hT, hg, hG, hD2, hC2, hN2, hcl, hcs, List.take_length, c12, c23, c24, c40, c41, c21, c10] at e; subst e)
    | (refine Wc.mkG 23 c23 (by kernel_rfl) rfl ?_; generalize e : entryC _ _ _ = r; simp (disch := omega) [sy_nbeq, sy_neqF, sy_leT, sy_leF, sy_setEnt_setEnt, sy_wrap64, sy_ibeqF, sy_ieqF, sy_ileT, sy_ileF, sy_iltT, sy_iltF, sy_ltT, sy_ltF, szOf_desc, hD, hC, hN, hT, hg, hG, hD2, hC2, hN2, hcl, hcs, List.take_length, c12, c23, c24, c40, c41, c21, c10] at e; subst e)
    | (refine Wc.mkG 24 c24 (by kernel_rfl) rfl ?_; generalize e : entryC _ _ _ = r; simp (disch := omega) [sy_nbeq, sy_neqF, sy_leT, sy_leF, sy_setEnt_setEnt, sy_wrap64, sy_ibeqF, sy_ieqF, sy_ileT, sy_ileF, sy_iltT, sy_iltF, sy_ltT, sy_ltF, szOf_desc, hD, hC, hN, hT, hg, hG, hD2, hC2, hN2, hcl, hcs, List.take_length, c12, c23, c24, c40, c41, c21, c10] at e; subst e)
    | (refine Wc.mkG 40 c40 (by kernel_rfl) rfl ?_; generalize e : entryC _ _ _ = r; simp (disch := omega) [sy_nbeq, sy_neqF, sy_leT, sy_leF, sy_setEnt_setEnt, sy_wrap64, sy_ibeqF, sy_ieqF, sy_ileT, sy_ileF, sy_iltT, sy_iltF, sy_ltT, sy_ltF, szOf_desc, hD, hC, hN, hT, hg, hG, hD2, hC2, hN2, hcl, hcs, List.take_length, c12, c23, c24, c40, c41, c21, c10] at e; subst e)
    | (refine Wc.mkG 41 c41 (by kernel_rfl) rfl ?_; generalize e : entryC _ _ _ = r; simp (disch := omega) [sy_nbeq, sy_neqF, sy_leT, sy_leF, sy_setEnt_setEnt, sy_wrap64, sy_ibeqF, sy_ieqF, sy_ileT, sy_ileF, sy_iltT, sy_iltF, sy_ltT, sy_ltF, szOf_desc, hD, hC, hN, hT, hg, hG, hD2, hC2, hN2, hcl, hcs, List.take_length, c12, c23, c24, c40, c41, c21, c10] at e; subst e)
    | (refine Wc.mkG 21 c21 (by kernel_rfl) rfl ?_; generalize e : entryC _ _ _ = r; simp (disch := omega) [sy_nbeq, sy_neqF, sy_leT, sy_leF, sy_setEnt_setEnt, sy_wrap64, sy_ibeqF, sy_ieqF, sy_ileT, sy_ileF, sy_iltT, sy_iltF, sy_ltT, sy_ltF, szOf_desc, hD, hC, hN, hT, hg, hG, hD2, hC2, hN2, hcl, hcs, List.take_length, c12, c23, c24, c40, c41, c21, c10] at e; subst e)
    | (refine Wc.primM (f := 37) (p := (pBString 5)) (by kernel_rfl) ?_; generalize e : (pBString 5) _ _ = r; simp (disch := omega) [sy_nbeq, sy_neqF, sy_leT, sy_leF, sy_setEnt_setEnt, sy_wrap64, sy_ibeqF, sy_ieqF, sy_ileT, sy_ileF, sy_iltT, sy_iltF, sy_ltT, sy_ltF, szOf_desc, hD, hC, hN, hT, hg, hG, hD2, hC2, hN2, hcl, hcs, List.take_length, c12, c23, c24, c40, c41, c21, c10] at e; subst e; (try dsimp only); refine ⟨rfl, ?_⟩)
    | (refine Wc.primM (f := 55) (p := (pCopyCheck [(103809029, 2), (62914562, 0)])) (by kernel_rfl) ?_; generalize e : (pCopyCheck [(103809029, 2), (62914562, 0)]) _ _ = r; simp (disch := omega) [sy_nbeq, sy_neqF, sy_leT, sy_leF, sy_setEnt_setEnt, sy_wrap64, sy_ibeqF, sy_ieqF, sy_ileT, sy_ileF, sy_iltT, sy_iltF, sy_ltT, sy_ltF, szOf_desc, hD, hC, hN, hT, hg, hG, hD2, hC2, hN2, hcl, hcs, List.take_length, c12, c23, c24, c40, c41, c21, c10] at e; subst e; (try dsimp only); refine ⟨rfl, ?_⟩)
    | (refine Wc.primM (f := 74) (p := pIndexByte) (by kernel_rfl) ?_; generalize e : pIndexByte _ _ = r; simp (disch := omega) [sy_nbeq, sy_neqF, sy_leT, sy_leF, sy_setEnt_setEnt, sy_wrap64, sy_ibeqF, sy_ieqF, sy_ileT, sy_ileF, sy_iltT, sy_iltF, sy_ltT, sy_ltF, szOf_desc, hD, hC, hN, hT, hg, hG, hD2, hC2, hN2, hcl, hcs, List.take_length, c12, c23, c24, c40, c41, c21, c10] at e; subst e; (try dsimp only); refine ⟨rfl, ?_⟩)
    | (refine Wc.primM (f := 75) (p := (pMakeNoZero 5)) (by kernel_rfl) ?_; generalize e : (pMakeNoZero 5) _ _ = r; simp (disch := omega) [sy_nbeq, sy_neqF, sy_leT, sy_leF, sy_setEnt_setEnt, sy_wrap64, sy_ibeqF, sy_ieqF, sy_ileT, sy_ileF, sy_iltT, sy_iltF, sy_ltT, sy_ltF, szOf_desc, hD, hC, hN, hT, hg, hG, hD2, hC2, hN2, hcl, hcs, List.take_length, c12, c23, c24, c40, c41, c21, c10] at e; subst e; (try dsimp only); refine ⟨rfl, ?_⟩)
    | (refine Wc.primM (f := 91) (p := pClone) (by kernel_rfl) ?_; generalize e : pClone _ _ = r; simp (disch := omega) [sy_nbeq, sy_neqF, sy_leT, sy_leF, sy_setEnt_setEnt, sy_wrap64, sy_ibeqF, sy_ieqF, sy_ileT, sy_ileF, sy_iltT, sy_iltF, sy_ltT, sy_ltF, szOf_desc, hD, hC, hN, hT, hg, hG, hD2, hC2, hN2, hcl, hcs, List.take_length, c12, c23, c24, c40, c41, c21, c10] at e; subst e; (try dsimp only); refine ⟨rfl, ?_⟩)
    | (refine W.ret ?_; (try simp only [outOf, thenW_ret, roundW]); refine endW.of (.inl rfl) rfl ?_; generalize e : endsC _ _ _ = r; simp (disch := omega) [sy_nbeq, sy_neqF, sy_leT, sy_leF, sy_setEnt_setEnt, sy_wrap64, sy_ibeqF, sy_ieqF, sy_ileT, sy_ileF, sy_iltT, sy_iltF, sy_ltT, sy_ltF, szOf_desc, hD, hC, hN, hT, hg, hG, hD2, hC2, hN2, hcl, hcs, List.take_length, c12, c23, c24, c40, c41, c21, c10] at e; subst e; (try dsimp only [goW]); refine ⟨rfl, ?_⟩)
    | (refine endW.of (.inr rfl) rfl ?_; generalize e : endsC _ _ _ = r; simp (disch := omega) [sy_nbeq, sy_neqF, sy_leT, sy_leF, sy_setEnt_setEnt, sy_wrap64, sy_ibeqF, sy_ieqF, sy_ileT, sy_ileF, sy_iltT, sy_iltF, sy_ltT, sy_ltF, szOf_desc, hD, hC, hN, hT, hg, hG, hD2, hC2, hN2, hcl, hcs, List.take_length, c12, c23, c24, c40, c41, c21, c10] at e; subst e; (try dsimp only [goW]); refine ⟨rfl, ?_⟩)
    | (refine W.ret ?_; (try simp only [outOf, thenW_ret, roundW]); refine endW.of (.inl rfl) rfl ?_; generalize e : endsC _ _ _ = r; simp (disch := omega) [sy_nbeq, sy_neqF, sy_leT, sy_leF, sy_setEnt_setEnt, sy_wrap64, sy_ibeqF, sy_ieqF, sy_ileT, sy_ileF, sy_iltT, sy_iltF, sy_ltT, sy_ltF, szOf_desc, hD, hC, hN, hT, hg, hG, hD2, hC2, hN2, hcl, hcs, List.take_length, c12, c23, c24, c40, c41, c21, c10] at e; subst e; (try dsimp only [goW]); refine hk _ _ ?_ ?_; omega; exact (by repeat (first | exact hut.le (by (try dsimp only); omega) | refine UnderT.cons (by (try dsimp only); omega) ?_ | exact UnderT.nil | assumption | exact UnderT.le (by assumption) (by (try dsimp only); omega))))
    | (refine endW.of (.inr rfl) rfl ?_; generalize e : endsC _ _ _ = r; simp (disch := omega) [sy_nbeq, sy_neqF, sy_leT, sy_leF, sy_setEnt_setEnt, sy_wrap64, sy_ibeqF, sy_ieqF, sy_ileT, sy_ileF, sy_iltT, sy_iltF, sy_ltT, sy_ltF, szOf_desc, hD, hC, hN, hT, hg, hG, hD2, hC2, hN2, hcl, hcs, List.take_length, c12, c23, c24, c40, c41, c21, c10] at e; subst e; (try dsimp only [goW]); refine hk _ _ ?_ ?_; omega; exact (by repeat (first | exact hut.le (by (try dsimp only); omega) | refine UnderT.cons (by (try dsimp only); omega) ?_ | exact UnderT.nil | assumption | exact UnderT.le (by assumption) (by (try dsimp only); omega)))))

theorem err_tab (u : List UInt8) (j : Nat) (x : UInt8) (s2 : List UInt8) (cs : List CVal) (hcl : cs.length = 5) (hcs : cs.map CVal.strip = cs) (hj : j < 20) (hl : s2.length < 60000) (hlu : u.length < 60000) (hns : NS u) (hnf : (decide ([125].length ≤ u.length) && (u.take [125].length == [125])) = false) (hxs : NS (x :: s2)) (hx1 : (decide ([44].length ≤ (x :: s2).length) && ((x :: s2).take [44].length == [44])) = false) (hx2 : (decide ([125].length ≤ (x :: s2).length) && ((x :: s2).take [125].length == [125])) = false) (H : Rd 10 [.int .i64 ((j : Int) + 1)] u (.agg cs) (x :: s2) 3) : Rd 10 [.int .i64 (j : Int)] (123 :: (34 :: 97 :: 34 :: 58 :: u)) (.agg [.int .i64 6, .int .i64 0, .str [], .imm .none 5 [.agg cs], .imm .none 1 [.str [97]]]) (x :: s2) 3 := by
  intro p d h hg hf hp K hk
  obtain ⟨hu, hut⟩ := hf
  have hD : ∀ m, h.next ≤ m → dropEnts h.ents m = h.ents := fun m hm => dropEnts_under (hu.le hm)
  have hC : ∀ m, h.next ≤ m → dropCells h.ents m = h.ents := fun m hm => dropCells_under (hu.le hm)
  have hN : ∀ q, h.next ≤ q → getEnt h.ents q = none := fun q hq => getEnt_under hu hq
  have hT : ∀ q, h.next ≤ q → lookupN h.tys q = none := fun q hq => lookupN_under hut hq
  have hG : ∀ x, getEnt (setEnt h.ents p x) p = some x := fun x => sy_getEnt_setEnt hg
  have hD2 : ∀ x m, h.next ≤ m → dropEnts (setEnt h.ents p x) m = setEnt h.ents p x := fun x m hm => dropEnts_under (hu.set.le hm)
  have hC2 : ∀ x m, h.next ≤ m → dropCells (setEnt h.ents p x) m = setEnt h.ents p x := fun x m hm => dropCells_under (hu.set.le hm)
  have hN2 : ∀ x q, h.next ≤ q → getEnt (setEnt h.ents p x) q = none := fun x q hq => getEnt_under hu.set hq

  refine Wc.mkG 10 c10 (by kernel_rfl) rfl ?_
  generalize e : entryC _ _ _ = r
  simp (disch := omega) [sy_nbeq, sy_neqF, sy_leT, sy_leF, sy_setEnt_setEnt, sy_wrap64, sy_ibeqF, sy_ieqF, sy_ileT, sy_ileF, sy_iltT, sy_iltF, sy_ltT, sy_ltF, szOf_desc, hD, hC, hN, hT, hg, hG, hD2, hC2, hN2, hcl, hcs, List.take_length, c10] at e
  subst e
  repeat (first
    | refine W.seq ?_
    | refine W.block ?_
    | (refine W.regG ?_; generalize e : goR _ _ _ _ _ _ _ _ = r; simp (disch := omega) [sy_nbeq, sy_neqF, sy_leT, sy_leF, sy_setEnt_setEnt, sy_wrap64, sy_ibeqF, sy_ieqF, sy_ileT, sy_ileF, sy_iltT, sy_iltF, sy_ltT, sy_ltF, szOf_desc, hD, hC, hN, hT, hg, hG, hD2, hC2, hN2, hcl, hcs, List.take_length, c12, c23, c24, c40, c41, c21, c10] at e; replace e : some _ = _ := e; subst e; (try dsimp only [goW]))
    | refine W.cond_true rfl ?_
    | refine W.cond_false rfl ?_
    | refine W.skip ?_
    | refine W.exit ?_
    | (refine WoR.go ?_; generalize e : goR _ _ _ _ _ _ _ _ = r; simp (disch := omega) [sy_nbeq, sy_neqF, sy_leT, sy_leF, sy_setEnt_setEnt, sy_wrap64, sy_ibeqF, sy_ieqF, sy_ileT, sy_ileF, sy_iltT, sy_iltF, sy_ltT, sy_ltF, szOf_desc, hD, hC, hN, hT, hg, hG, hD2, hC2, hN2, hcl, hcs, List.take_length, c12, c23, c24, c40, c41, c21, c10] at e; replace e : some _ = _ := e; subst e; (try dsimp only [goW]))
    | (refine W.loop ?_; try (generalize e : dropped _ _ _ = r; simp (disch := omega) [sy_nbeq, sy_neqF, sy_leT, sy_leF, sy_setEnt_setEnt, sy_wrap64, sy_ibeqF, sy_ieqF, sy_ileT, sy_ileF, sy_iltT, sy_iltF, sy_ltT, sy_ltF, szOf_desc, hD, hC, hN, hT, hg, hG, hD2, hC2, hN2, hcl, hcs, List.take_length, c12, c23, c24, c40, c41, c21, c10] at e; subst e; try dsimp only))
    | (refine skip_spec p d [] (123 :: (34 :: 97 :: 34 :: 58 :: u)) 0 ?_ ?_ ?_ _ ?_ ?_ ?_ _ fun n1 hn1 => ⟨rfl, ?_⟩; (focus ((((try simp) <;> omega)); done)); (focus ((simp); done)); (focus ((exact NS.cons (by simp)); done)); (focus ((simp (disch := omega) [getEnt, setEnt, sy_nbeq, sy_neqF, sy_setEnt_setEnt, hg, hG]); done)); (focus ((repeat (first | exact hu.le (by (try dsimp only); omega) | exact hu.set.le (by (try dsimp only); omega) | refine Under.cons (by (try dsimp only); omega) ?_ | exact Under.nil)); done)); (focus (((try dsimp only); omega); done)); (try dsimp only at hn1))
    | (refine take_spec p d (34 :: 97 :: 34 :: 58 :: u) [125] 0 false ?_ ?_ ?_ _ ?_ ?_ ?_ _ fun n2 hn2 => ⟨rfl, ?_⟩; (focus ((((try simp) <;> omega)); done)); (focus ((exact NS.cons (by simp)); done)); (focus ((simp); done)); (focus ((simp (disch := omega) [getEnt, setEnt, sy_nbeq, sy_neqF, sy_setEnt_setEnt, hg, hG]); done)); (focus ((repeat (first | exact hu.le (by (try dsimp only); omega) | exact hu.set.le (by (try dsimp only); omega) | refine Under.cons (by (try dsimp only); omega) ?_ | exact Under.nil)); done)); (focus (((try dsimp only); omega); done)); (try dsimp only at hn2))
    | (refine (text_a (58 :: u) (by simp; omega)) p d _ ?_ ?_ ?_ _ fun n4 tyn4 hn4 hun4 => ⟨rfl, ?_⟩; (focus ((simp (disch := omega) [getEnt, setEnt, sy_nbeq, sy_neqF, sy_setEnt_setEnt, hg, hG]); done)); (focus (((refine ⟨?_, ?_⟩; (focus ((repeat (first | exact hu.le (by (try dsimp only); omega) | exact hu.set.le (by (try dsimp only); omega) | refine Under.cons (by (try dsimp only); omega) ?_ | exact Under.nil)); done)); (focus ((repeat (first | exact hut.le (by (try dsimp only); omega) | refine UnderT.cons (by (try dsimp only); omega) ?_ | exact UnderT.nil | assumption | exact UnderT.le (by assumption) (by (try dsimp only); omega))); done)))); done)); (focus (((try dsimp only); omega); done)); (try dsimp only at hn4))
    | (refine take_spec p d (58 :: u) [58] 0 true ?_ ?_ ?_ _ ?_ ?_ ?_ _ fun n5 hn5 => ⟨rfl, ?_⟩; (focus ((((try simp) <;> omega)); done)); (focus ((exact NS.cons (by simp)); done)); (focus ((simp); done)); (focus ((simp (disch := omega) [getEnt, setEnt, sy_nbeq, sy_neqF, sy_setEnt_setEnt, hg, hG]); done)); (focus ((repeat (first | exact hu.le (by (try dsimp only); omega) | exact hu.set.le (by (try dsimp only); omega) | refine Under.cons (by (try dsimp only); omega) ?_ | exact Under.nil)); done)); (focus (((try dsimp only); omega); done)); (try dsimp only at hn5))
    | (refine H p d _ ?_ ?_ ?_ _ fun n3 tyn3 hn3 hun3 => ⟨rfl, ?_⟩; (focus ((simp (disch := omega) [getEnt, setEnt, sy_nbeq, sy_neqF, sy_setEnt_setEnt, hg, hG]); done)); (focus (((refine ⟨?_, ?_⟩; (focus ((repeat (first | exact hu.le (by (try dsimp only); omega) | exact hu.set.le (by (try dsimp only); omega) | refine Under.cons (by (try dsimp only); omega) ?_ | exact Under.nil)); done)); (focus ((repeat (first | exact hut.le (by (try dsimp only); omega) | refine UnderT.cons (by (try dsimp only); omega) ?_ | exact UnderT.nil | assumption | exact UnderT.le (by assumption) (by (try dsimp only); omega))); done)))); done)); (focus (((try dsimp only); omega); done)); (try dsimp only at hn3))
    | (refine take_spec p d (x :: s2) [44] 3 false ?_ ?_ ?_ _ ?_ ?_ ?_ _ fun n6 hn6 => ⟨rfl, ?_⟩; (focus ((((try simp) <;> omega)); done)); (focus ((exact hxs); done)); (focus ((exact hx1); done)); (focus ((simp (disch := omega) [getEnt, setEnt, sy_nbeq, sy_neqF, sy_setEnt_setEnt, hg, hG]); done)); (focus ((repeat (first | exact hu.le (by (try dsimp only); omega) | exact hu.set.le (by (try dsimp only); omega) | refine Under.cons (by (try dsimp only); omega) ?_ | exact Under.nil)); done)); (focus (((try dsimp only); omega); done)); (try dsimp only at hn6))
    | (refine take_spec p d (x :: s2) [125] 3 false ?_ ?_ ?_ _ ?_ ?_ ?_ _ fun n7 hn7 => ⟨rfl, ?_⟩; (focus ((((try simp) <;> omega)); done)); (focus ((exact hxs); done)); (focus ((exact hx2); done)); (focus ((simp (disch := omega) [getEnt, setEnt, sy_nbeq, sy_neqF, sy_setEnt_setEnt, hg, hG]); done)); (focus ((repeat (first | exact hu.le (by (try dsimp only); omega) | exact hu.set.le (by (try dsimp only); omega) | refine Under.cons (by (try dsimp only); omega) ?_ | exact Under.nil)); done)); (focus (((try dsimp only); omega); done)); (try dsimp only at hn7))
    | (refine Wc.mkG 12 c12 (by kernel_rfl) rfl ?_; generalize e : entryC _ _ _ = r; simp (disch := omega) [sy_nbeq, sy_neqF, sy_leT, sy_leF, sy_setEnt_setEnt, sy_wrap64, sy_ibeqF, sy_ieqF, sy_ileT, sy_ileF, sy_iltT, sy_iltF, sy_ltT, sy_ltF, szOf_desc, hD, hC, hN, hT, hg, hG, hD2, hC2, hN2, hcl, hcs, List.take_length, c12, c23, c24, c40, c41, c21, c10] at e; subst e)
    | (refine Wc.mkG 23 c23 (by kernel_rfl) rfl ?_; generalize e : entryC _ _ _ = r; simp (disch := omega) [sy_nbeq, sy_neqF, sy_leT, sy_leF, sy_setEnt_setEnt, sy_wrap64, sy_ibeqF, sy_ieqF, sy_ileT, sy_ileF, sy_iltT, sy_iltF, sy_ltT, sy_ltF, szOf_desc, hD, hC, hN, hT, hg, hG, hD2, hC2, hN2, hcl, hcs, List.take_length, c12, c23, c24, c40, c41, c21, c10] at e; subst e)
    | (refine Wc.mkG 24 c24 (by kernel_rfl) rfl ?_; generalize e : entryC _ _ _ = r; simp (disch := omega) [sy_nbeq, sy_neqF, sy_leT, sy_leF, sy_setEnt_setEnt, sy_wrap64, sy_ibeqF, sy_ieqF, sy_ileT, sy_ileF, sy_iltT, sy_iltF, sy_ltT, sy_ltF, szOf_desc, hD, hC, hN, hT, hg, hG, hD2, hC2, hN2, hcl, hcs, List.take_length, c12, c23, c24, c40, c41, c21, c10] at e; subst e)
    | (refine Wc.mkG 40 c40 (by kernel_rfl) rfl ?_; generalize e : entryC _ _ _ = r; simp (disch := omega) [sy_nbeq, sy_neqF, sy_leT, sy_leF, sy_setEnt_setEnt, sy_wrap64, sy_ibeqF, sy_ieqF, sy_ileT, sy_ileF, sy_iltT, sy_iltF, sy_ltT, sy_ltF, szOf_desc, hD, hC, hN, hT, hg, hG, hD2, hC2, hN2, hcl, hcs, List.take_length, c12, c23, c24, c40, c41, c21, c10] at e; subst e)
    | (refine Wc.mkG 41 c41 (by kernel_rfl) rfl ?_; generalize e : entryC _ _ _ = r; simp (disch := omega) [sy_nbeq, sy_neqF, sy_leT, sy_leF, sy_setEnt_setEnt, sy_wrap64, sy_ibeqF, sy_ieqF, sy_ileT, sy_ileF, sy_iltT, sy_iltF, sy_ltT, sy_ltF, szOf_desc, hD, hC, hN, hT, hg, hG, hD2, hC2, hN2, hcl, hcs, List.take_length, c12, c23, c24, c40, c41, c21, c10] at e; subst e)
    | (refine Wc.mkG 21 c21 (by kernel_rfl) rfl ?_; generalize e : entryC _ _ _ = r; simp (disch := omega) [sy_nbeq, sy_neqF, sy_leT, sy_leF, sy_setEnt_setEnt, sy_wrap64, sy_ibeqF, sy_ieqF, sy_ileT, sy_ileF, sy_iltT, sy_iltF, sy_ltT, sy_ltF, szOf_desc, hD, hC, hN, hT, hg, hG, hD2, hC2, hN2, hcl, hcs, List.take_length, c12, c23, c24, c40, c41, c21, c10] at e; subst e)
    | (refine Wc.primM (f := 37) (p := (pBString 5)) (by kernel_rfl) ?_; generalize e : (pBString 5) _ _ = r; simp (disch := omega) [sy_nbeq, sy_neqF, sy_leT, sy_leF, sy_setEnt_setEnt, sy_wrap64, sy_ibeqF, sy_ieqF, sy_ileT, sy_ileF, sy_iltT, sy_iltF, sy_ltT, sy_ltF, szOf_desc, hD, hC, hN, hT, hg, hG, hD2, hC2, hN2, hcl, hcs, List.take_length, c12, c23, c24, c40, c41, c21, c10] at e; subst e; (try dsimp only); refine ⟨rfl, ?_⟩)
    | (refine Wc.primM (f := 55) (p := (pCopyCheck [(103809029, 2), (62914562, 0)])) (by kernel_rfl) ?_; generalize e : (pCopyCheck [(103809029, 2), (62914562, 0)]) _ _ = r; simp (disch := omega) [sy_nbeq, sy_neqF, sy_leT, sy_leF, sy_setEnt_setEnt, sy_wrap64, sy_ibeqF, sy_ieqF, sy_ileT, sy_ileF, sy_iltT, sy_iltF, sy_ltT, sy_ltF, szOf_desc, hD, hC, hN, hT, hg, hG, hD2, hC2, hN2, hcl, hcs, List.take_length, c12, c23, c24, c40, c41, c21, c10] at e; subst e; (try dsimp only); refine ⟨rfl, ?_⟩)
    | (refine Wc.primM (f := 74) (p := pIndexByte) (by kernel_rfl) ?_; generalize e : pIndexByte _ _ = r; simp (disch := omega) [sy_nbeq, sy_neqF, sy_leT, sy_leF, sy_setEnt_setEnt, sy_wrap64, sy_ibeqF, sy_ieqF, sy_ileT, sy_ileF, sy_iltT, sy_iltF, sy_ltT, sy_ltF, szOf_desc, hD, hC, hN, hT, hg, hG, hD2, hC2, hN2, hcl, hcs, List.take_length, c12, c23, c24, c40, c41, c21, c10] at e; subst e; (try dsimp only); refine ⟨rfl, ?_⟩)
    | (refine Wc.primM (f := 75) (p := (pMakeNoZero 5)) (by kernel_rfl) ?_; generalize e : (pMakeNoZero 5) _ _ = r; simp (disch := omega) [sy_nbeq, sy_neqF, sy_leT, sy_leF, sy_setEnt_setEnt, sy_wrap64, sy_ibeqF, sy_ieqF, sy_ileT, sy_ileF, sy_iltT, sy_iltF, sy_ltT, sy_ltF, szOf_desc, hD, hC, hN, hT, hg, hG, hD2, hC2, hN2, hcl, hcs, List.take_length, c12, c23, c24, c40, c41, c21, c10] at e; subst e; (try dsimp only); refine ⟨rfl, ?_⟩)
    | (refine Wc.primM (f := 91) (p := pClone) (by kernel_rfl) ?_; generalize e : pClone _ _ = r; simp (disch := omega) [sy_nbeq, sy_neqF, sy_leT, sy_leF, sy_setEnt_setEnt, sy_wrap64, sy_ibeqF, sy_ieqF, sy_ileT, sy_ileF, sy_iltT, sy_iltF, sy_ltT, sy_ltF, szOf_desc, hD, hC, hN, hT, hg, hG, hD2, hC2, hN2, hcl, hcs, List.take_length, c12, c23, c24, c40, c41, c21, c10] at e; subst e; (try dsimp only); refine ⟨rfl, ?_⟩)
    | (refine W.ret ?_; (try simp only [outOf, thenW_ret, roundW]); refine endW.of (.inl rfl) rfl ?_; generalize e : endsC _ _ _ = r; simp (disch := omega) [sy_nbeq, sy_neqF, sy_leT, sy_leF, sy_setEnt_setEnt, sy_wrap64, sy_ibeqF, sy_ieqF, sy_ileT, sy_ileF, sy_iltT, sy_iltF, sy_ltT, sy_ltF, szOf_desc, hD, hC, hN, hT, hg, hG, hD2, hC2, hN2, hcl, hcs, List.take_length, c12, c23, c24, c40, c41, c21, c10] at e; subst e; (try dsimp only [goW]); refine ⟨rfl, ?_⟩)
    | (refine endW.of (.inr rfl) rfl ?_; generalize e : endsC _ _ _ = r; simp (disch := omega) [sy_nbeq, sy_neqF, sy_leT, sy_leF, sy_setEnt_setEnt, sy_wrap64, sy_ibeqF, sy_ieqF, sy_ileT, sy_ileF, sy_iltT, sy_iltF, sy_ltT, sy_ltF, szOf_desc, hD, hC, hN, hT, hg, hG, hD2, hC2, hN2, hcl, hcs, List.take_length, c12, c23, c24, c40, c41, c21, c10] at e; subst e; (try dsimp only [goW]); refine ⟨rfl, ?_⟩)
    | (refine W.ret ?_; (try simp only [outOf, thenW_ret, roundW]); refine endW.of (.inl rfl) rfl ?_; generalize e : endsC _ _ _ = r; simp (disch := omega) [sy_nbeq, sy_neqF, sy_leT, sy_leF, sy_setEnt_setEnt, sy_wrap64, sy_ibeqF, sy_ieqF, sy_ileT, sy_ileF, sy_iltT, sy_iltF, sy_ltT, sy_ltF, szOf_desc, hD, hC, hN, hT, hg, hG, hD2, hC2, hN2, hcl, hcs, List.take_length, c12, c23, c24, c40, c41, c21, c10] at e; subst e; (try dsimp only [goW]); refine hk _ _ ?_ ?_; omega; exact (by repeat (first | exact hut.le (by (try dsimp only); omega) | refine UnderT.cons (by (try dsimp only); omega) ?_ | exact UnderT.nil | assumption | exact UnderT.le (by assumption) (by (try dsimp only); omega))))
    | (refine endW.of (.inr rfl) rfl ?_; generalize e : endsC _ _ _ = r; simp (disch := omega) [sy_nbeq, sy_neqF, sy_leT, sy_leF, sy_setEnt_setEnt, sy_wrap64, sy_ibeqF, sy_ieqF, sy_ileT, sy_ileF, sy_iltT, sy_iltF, sy_ltT, sy_ltF, szOf_desc, hD, hC, hN, hT, hg, hG, hD2, hC2, hN2, hcl, hcs, List.take_length, c12, c23, c24, c40, c41, c21, c10] at e; subst e; (try dsimp only [goW]); refine hk _ _ ?_ ?_; omega; exact (by repeat (first | exact hut.le (by (try dsimp only); omega) | refine UnderT.cons (by (try dsimp only); omega) ?_ | exact UnderT.nil | assumption | exact UnderT.le (by assumption) (by (try dsimp only); omega)))))

theorem tree_ok : ∀ (b : List Bool) (j : Nat) (rest : List UInt8), j + b.length ≤ 20 → rest.length + b.length < 40000 → NS rest → ND rest → Rd 10 [.int .i64 (j : Int)] (txt b ++ rest) (.agg (nodC .none b)) rest 0 := by
  intro b
  induction b with
  | nil => intro j rest _ hl h1 h2; exact tree_0 j rest (by simp at hl; omega) h1 h2
  | cons x b ih =>
    intro j rest hj hl h1 h2
    have htl := txt_len b
    simp only [List.length_cons] at hj hl
    cases x with
    | false =>
      have e : txt (false :: b) ++ rest = 91 :: (txt b ++ 93 :: rest) := by simp [txt]
      rw [e]
      refine tree_lst _ j rest (nodC .none b) (nod_len _ b) (nod_strip b) (by omega) (by omega) (by simp; omega) (txt_ns _ _) (no_front _ _ _ (.inl rfl)) ?_
      exact ih (j + 1) (93 :: rest) (by omega) (by simp; omega) (NS.cons (by simp)) (ND.cons (by simp))
    | true =>
      have e : txt (true :: b) ++ rest = 123 :: (34 :: 97 :: 34 :: 58 :: (txt b ++ 125 :: rest)) := by simp [txt]
      rw [e]
      refine tree_tab _ j rest (nodC .none b) (nod_len _ b) (nod_strip b) (by omega) (by omega) (by simp; omega) (txt_ns _ _) (no_front _ _ _ (.inr rfl)) ?_
      exact ih (j + 1) (125 :: rest) (by omega) (by simp; omega) (NS.cons (by simp)) (ND.cons (by simp))
theorem tree_bad : ∀ (b : List Bool) (j : Nat) (rest : List UInt8), j ≤ 20 → 20 < j + b.length → b.length ≤ 40 → rest.length + b.length < 40000 → ∃ (cs : List CVal) (x : UInt8) (s2 : List UInt8), cs.length = 5 ∧ cs.map CVal.strip = cs ∧ (x = 91 ∨ x = 123) ∧ s2.length < 60000 ∧ Rd 10 [.int .i64 (j : Int)] (txt b ++ rest) (.agg cs) (x :: s2) 3 := by
  intro b
  induction b with
  | nil => intro j rest h1 h2; simp at h2; omega
  | cons y b ih =>
    intro j rest hj hb hl hr
    have htl := txt_len b
    simp only [List.length_cons] at hb hl hr
    rcases Nat.lt_or_ge j 20 with hlt | hge
    · cases y with
      | false =>
        obtain ⟨cs, x, s2, h1, h2, h3, h4, H⟩ := ih (j + 1) (93 :: rest) (by omega) (by omega) (by omega) (by simp; omega)
        have e : txt (false :: b) ++ rest = 91 :: (txt b ++ 93 :: rest) := by simp [txt]
        rw [e]
        refine ⟨_, x, s2, rfl, ?_, h3, h4, err_lst _ j x s2 cs h1 h2 hlt h4 (by simp; omega) (txt_ns _ _) (no_front _ _ _ (.inl rfl)) ?_ ?_ ?_ H⟩
        · rfl
        · rcases h3 with rfl | rfl <;> exact NS.cons (by simp)
        · rcases h3 with rfl | rfl <;> simp
        · rcases h3 with rfl | rfl <;> simp
      | true =>
        obtain ⟨cs, x, s2, h1, h2, h3, h4, H⟩ := ih (j + 1) (125 :: rest) (by omega) (by omega) (by omega) (by simp; omega)
        have e : txt (true :: b) ++ rest = 123 :: (34 :: 97 :: 34 :: 58 :: (txt b ++ 125 :: rest)) := by simp [txt]
        rw [e]
        refine ⟨_, x, s2, rfl, ?_, h3, h4, err_tab _ j x s2 cs h1 h2 hlt h4 (by simp; omega) (txt_ns _ _) (no_front _ _ _ (.inr rfl)) ?_ ?_ ?_ H⟩
        · rfl
        · rcases h3 with rfl | rfl <;> exact NS.cons (by simp)
        · rcases h3 with rfl | rfl <;> simp
        · rcases h3 with rfl | rfl <;> simp
    · obtain rfl : j = 20 := by omega
      cases y with
      | false =>
        have e : txt (false :: b) ++ rest = 91 :: (txt b ++ 93 :: rest) := by simp [txt]
        rw [e]
        exact ⟨zC, 91, _, rfl, rfl, .inl rfl, by simp; omega, err20_lst _ (by simp; omega)⟩
      | true =>
        have e : txt (true :: b) ++ rest = 123 :: (34 :: 97 :: 34 :: 58 :: (txt b ++ 125 :: rest)) := by simp [txt]
        rw [e]
        exact ⟨zC, 123, _, rfl, rfl, .inr rfl, by simp; omega, err20_tab _ (by simp; omega)⟩
end Go.Proofs.YtehdeihlahjglaaDoor.IrJd
