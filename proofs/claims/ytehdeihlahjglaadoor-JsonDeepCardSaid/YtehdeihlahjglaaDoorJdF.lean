/- What the functions of the law 'JsonDeep' do: part 6. -/
import Derived.Test.YtehdeihlahjglaaDoorJdE
namespace Go.Proofs.YtehdeihlahjglaaDoor.IrJd
open Go Go.CI
set_option maxRecDepth 100000
set_option linter.unusedVariables false
set_option linter.unusedSimpArgs false
attribute [local irreducible] W Wo Wc WoR
attribute [local simp] goR regOut checkOne swapOne sameAt nthOp CVal.beq beqs CVal.block storesTo entryC evalOps evalOper evalE evalP evalL evalOpnd nth setNth COp.cls COp.isStore CVal.isUndef CVal.whole CVal.cells CHeap.put CHeap.get CHeap.set wantedC getEnt setEnt partOf writeBack evalBin evalInt evalStr blockMost initVar descOf List.take List.drop CVal.lenOf CVal.isStr CVal.bare CVal.strip CVal.flat endsC resultsC oneOrTuple finishC cut fillCells setCells szOf elems bytesOf evalAppend fillElems mkElem setElem List.replicate dropped dropEnts dropCells sizeMost evalSlc optBound eqVal extL extE keyIs findKV nthKV setKV CHeap.ty lookupN CHeap.note CHeap.tyOk dropAll freezeVal freezeAll freezeFlat pCopyCheck pBString pMakeNoZero pIndexByte pClone pIndex hasPair rowOf byteVals idxFrom hasFront idxSub

theorem unq_a (rest : List UInt8) (hl : rest.length < 100000) : Pu tree.getF 39 [.str (34 :: 97 :: 34 :: rest)] (.tup [.str [97], .int .i64 3, .int .i64 0]) := by
  intro h hf K hk
  obtain ⟨hu, hut⟩ := hf
  have hD : ∀ m, h.next ≤ m → dropEnts h.ents m = h.ents := fun m hm => dropEnts_under (hu.le hm)
  have hC : ∀ m, h.next ≤ m → dropCells h.ents m = h.ents := fun m hm => dropCells_under (hu.le hm)
  have hN : ∀ q, h.next ≤ q → getEnt h.ents q = none := fun q hq => getEnt_under hu hq
  have hT : ∀ q, h.next ≤ q → lookupN h.tys q = none := fun q hq => lookupN_under hut hq

  refine Wc.mkG 39 c39 (by kernel_rfl) rfl ?_
  generalize e : entryC _ _ _ = r
  simp (disch := omega) [sy_nbeq, sy_neqF, sy_leT, sy_leF, sy_setEnt_setEnt, sy_wrap64, sy_ibeqF, sy_ieqF, sy_ileT, sy_ileF, sy_iltT, sy_iltF, sy_ltT, sy_ltF, szOf_desc, hD, hC, hN, hT, c39] at e
  subst e
  repeat (first
    | refine W.seq ?_
    | refine W.block ?_
    | (refine W.regG ?_; generalize e : goR _ _ _ _ _ _ _ _ = r; simp (disch := omega) [sy_nbeq, sy_neqF, sy_leT, sy_leF, sy_setEnt_setEnt, sy_wrap64, sy_ibeqF, sy_ieqF, sy_ileT, sy_ileF, sy_iltT, sy_iltF, sy_ltT, sy_ltF, szOf_desc, hD, hC, hN, hT, c58, c34, c29, c49, c39] at e; replace e : some _ = _ := e; subst e; (try dsimp only [goW]))
    | refine W.cond_true rfl ?_
    | refine W.cond_false rfl ?_
    | refine W.skip ?_
    | refine W.exit ?_
    | (refine WoR.go ?_; generalize e : goR _ _ _ _ _ _ _ _ = r; simp (disch := omega) [sy_nbeq, sy_neqF, sy_leT, sy_leF, sy_setEnt_setEnt, sy_wrap64, sy_ibeqF, sy_ieqF, sy_ileT, sy_ileF, sy_iltT, sy_iltF, sy_ltT, sy_ltF, szOf_desc, hD, hC, hN, hT, c58, c34, c29, c49, c39] at e; replace e : some _ = _ := e; subst e; (try dsimp only [goW]))
    | (refine W.loop ?_; try (generalize e : dropped _ _ _ = r; simp (disch := omega) [sy_nbeq, sy_neqF, sy_leT, sy_leF, sy_setEnt_setEnt, sy_wrap64, sy_ibeqF, sy_ieqF, sy_ileT, sy_ileF, sy_iltT, sy_iltF, sy_ltT, sy_ltF, szOf_desc, hD, hC, hN, hT, c58, c34, c29, c49, c39] at e; subst e; try dsimp only))
    | (refine Wc.mkG 58 c58 (by kernel_rfl) rfl ?_; generalize e : entryC _ _ _ = r; simp (disch := omega) [sy_nbeq, sy_neqF, sy_leT, sy_leF, sy_setEnt_setEnt, sy_wrap64, sy_ibeqF, sy_ieqF, sy_ileT, sy_ileF, sy_iltT, sy_iltF, sy_ltT, sy_ltF, szOf_desc, hD, hC, hN, hT, c58, c34, c29, c49, c39] at e; subst e)
    | (refine Wc.mkG 34 c34 (by kernel_rfl) rfl ?_; generalize e : entryC _ _ _ = r; simp (disch := omega) [sy_nbeq, sy_neqF, sy_leT, sy_leF, sy_setEnt_setEnt, sy_wrap64, sy_ibeqF, sy_ieqF, sy_ileT, sy_ileF, sy_iltT, sy_iltF, sy_ltT, sy_ltF, szOf_desc, hD, hC, hN, hT, c58, c34, c29, c49, c39] at e; subst e)
    | (refine Wc.mkG 29 c29 (by kernel_rfl) rfl ?_; generalize e : entryC _ _ _ = r; simp (disch := omega) [sy_nbeq, sy_neqF, sy_leT, sy_leF, sy_setEnt_setEnt, sy_wrap64, sy_ibeqF, sy_ieqF, sy_ileT, sy_ileF, sy_iltT, sy_iltF, sy_ltT, sy_ltF, szOf_desc, hD, hC, hN, hT, c58, c34, c29, c49, c39] at e; subst e)
    | (refine Wc.mkG 49 c49 (by kernel_rfl) rfl ?_; generalize e : entryC _ _ _ = r; simp (disch := omega) [sy_nbeq, sy_neqF, sy_leT, sy_leF, sy_setEnt_setEnt, sy_wrap64, sy_ibeqF, sy_ieqF, sy_ileT, sy_ileF, sy_iltT, sy_iltF, sy_ltT, sy_ltF, szOf_desc, hD, hC, hN, hT, c58, c34, c29, c49, c39] at e; subst e)
    | (refine Wc.primM (f := 37) (p := (pBString 5)) (by kernel_rfl) ?_; generalize e : (pBString 5) _ _ = r; simp (disch := omega) [sy_nbeq, sy_neqF, sy_leT, sy_leF, sy_setEnt_setEnt, sy_wrap64, sy_ibeqF, sy_ieqF, sy_ileT, sy_ileF, sy_iltT, sy_iltF, sy_ltT, sy_ltF, szOf_desc, hD, hC, hN, hT, c58, c34, c29, c49, c39] at e; subst e; (try dsimp only); refine ⟨rfl, ?_⟩)
    | (refine Wc.primM (f := 55) (p := (pCopyCheck [(103809029, 2), (62914562, 0)])) (by kernel_rfl) ?_; generalize e : (pCopyCheck [(103809029, 2), (62914562, 0)]) _ _ = r; simp (disch := omega) [sy_nbeq, sy_neqF, sy_leT, sy_leF, sy_setEnt_setEnt, sy_wrap64, sy_ibeqF, sy_ieqF, sy_ileT, sy_ileF, sy_iltT, sy_iltF, sy_ltT, sy_ltF, szOf_desc, hD, hC, hN, hT, c58, c34, c29, c49, c39] at e; subst e; (try dsimp only); refine ⟨rfl, ?_⟩)
    | (refine Wc.primM (f := 74) (p := pIndexByte) (by kernel_rfl) ?_; generalize e : pIndexByte _ _ = r; simp (disch := omega) [sy_nbeq, sy_neqF, sy_leT, sy_leF, sy_setEnt_setEnt, sy_wrap64, sy_ibeqF, sy_ieqF, sy_ileT, sy_ileF, sy_iltT, sy_iltF, sy_ltT, sy_ltF, szOf_desc, hD, hC, hN, hT, c58, c34, c29, c49, c39] at e; subst e; (try dsimp only); refine ⟨rfl, ?_⟩)
    | (refine Wc.primM (f := 75) (p := (pMakeNoZero 5)) (by kernel_rfl) ?_; generalize e : (pMakeNoZero 5) _ _ = r; simp (disch := omega) [sy_nbeq, sy_neqF, sy_leT, sy_leF, sy_setEnt_setEnt, sy_wrap64, sy_ibeqF, sy_ieqF, sy_ileT, sy_ileF, sy_iltT, sy_iltF, sy_ltT, sy_ltF, szOf_desc, hD, hC, hN, hT, c58, c34, c29, c49, c39] at e; subst e; (try dsimp only); refine ⟨rfl, ?_⟩)
    | (refine Wc.primM (f := 91) (p := pClone) (by kernel_rfl) ?_; generalize e : pClone _ _ = r; simp (disch := omega) [sy_nbeq, sy_neqF, sy_leT, sy_leF, sy_setEnt_setEnt, sy_wrap64, sy_ibeqF, sy_ieqF, sy_ileT, sy_ileF, sy_iltT, sy_iltF, sy_ltT, sy_ltF, szOf_desc, hD, hC, hN, hT, c58, c34, c29, c49, c39] at e; subst e; (try dsimp only); refine ⟨rfl, ?_⟩)
    | (refine W.ret ?_; (try simp only [outOf, thenW_ret, roundW]); refine endW.of (.inl rfl) rfl ?_; generalize e : endsC _ _ _ = r; simp (disch := omega) [sy_nbeq, sy_neqF, sy_leT, sy_leF, sy_setEnt_setEnt, sy_wrap64, sy_ibeqF, sy_ieqF, sy_ileT, sy_ileF, sy_iltT, sy_iltF, sy_ltT, sy_ltF, szOf_desc, hD, hC, hN, hT, c58, c34, c29, c49, c39] at e; subst e; (try dsimp only [goW]); refine ⟨rfl, ?_⟩)
    | (refine endW.of (.inr rfl) rfl ?_; generalize e : endsC _ _ _ = r; simp (disch := omega) [sy_nbeq, sy_neqF, sy_leT, sy_leF, sy_setEnt_setEnt, sy_wrap64, sy_ibeqF, sy_ieqF, sy_ileT, sy_ileF, sy_iltT, sy_iltF, sy_ltT, sy_ltF, szOf_desc, hD, hC, hN, hT, c58, c34, c29, c49, c39] at e; subst e; (try dsimp only [goW]); refine ⟨rfl, ?_⟩)
    | (refine W.ret ?_; (try simp only [outOf, thenW_ret, roundW]); refine endW.of (.inl rfl) rfl ?_; generalize e : endsC _ _ _ = r; simp (disch := omega) [sy_nbeq, sy_neqF, sy_leT, sy_leF, sy_setEnt_setEnt, sy_wrap64, sy_ibeqF, sy_ieqF, sy_ileT, sy_ileF, sy_iltT, sy_iltF, sy_ltT, sy_ltF, szOf_desc, hD, hC, hN, hT, c58, c34, c29, c49, c39] at e; subst e; (try dsimp only [goW]); refine hk _ _ ?_ ?_; omega; exact (by repeat (first | exact hut.le (by (try dsimp only); omega) | refine UnderT.cons (by (try dsimp only); omega) ?_ | exact UnderT.nil | assumption | exact UnderT.le (by assumption) (by (try dsimp only); omega))))
    | (refine endW.of (.inr rfl) rfl ?_; generalize e : endsC _ _ _ = r; simp (disch := omega) [sy_nbeq, sy_neqF, sy_leT, sy_leF, sy_setEnt_setEnt, sy_wrap64, sy_ibeqF, sy_ieqF, sy_ileT, sy_ileF, sy_iltT, sy_iltF, sy_ltT, sy_ltF, szOf_desc, hD, hC, hN, hT, c58, c34, c29, c49, c39] at e; subst e; (try dsimp only [goW]); refine hk _ _ ?_ ?_; omega; exact (by repeat (first | exact hut.le (by (try dsimp only); omega) | refine UnderT.cons (by (try dsimp only); omega) ?_ | exact UnderT.nil | assumption | exact UnderT.le (by assumption) (by (try dsimp only); omega)))))

theorem quote_a  : Pu tree.getF 18 [.str [97]] (.str [34, 97, 34]) := by
  intro h hf K hk
  obtain ⟨hu, hut⟩ := hf
  have hD : ∀ m, h.next ≤ m → dropEnts h.ents m = h.ents := fun m hm => dropEnts_under (hu.le hm)
  have hC : ∀ m, h.next ≤ m → dropCells h.ents m = h.ents := fun m hm => dropCells_under (hu.le hm)
  have hN : ∀ q, h.next ≤ q → getEnt h.ents q = none := fun q hq => getEnt_under hu hq
  have hT : ∀ q, h.next ≤ q → lookupN h.tys q = none := fun q hq => lookupN_under hut hq

  refine Wc.mkG 18 c18 (by kernel_rfl) rfl ?_
  generalize e : entryC _ _ _ = r
  simp (disch := omega) [sy_nbeq, sy_neqF, sy_leT, sy_leF, sy_setEnt_setEnt, sy_wrap64, sy_ibeqF, sy_ieqF, sy_ileT, sy_ileF, sy_iltT, sy_iltF, sy_ltT, sy_ltF, szOf_desc, hD, hC, hN, hT, c18] at e
  subst e
  repeat (first
    | refine W.seq ?_
    | refine W.block ?_
    | (refine W.regG ?_; generalize e : goR _ _ _ _ _ _ _ _ = r; simp (disch := omega) [sy_nbeq, sy_neqF, sy_leT, sy_leF, sy_setEnt_setEnt, sy_wrap64, sy_ibeqF, sy_ieqF, sy_ileT, sy_ileF, sy_iltT, sy_iltF, sy_ltT, sy_ltF, szOf_desc, hD, hC, hN, hT, c35, c56, c58, c34, c29, c49, c18] at e; replace e : some _ = _ := e; subst e; (try dsimp only [goW]))
    | refine W.cond_true rfl ?_
    | refine W.cond_false rfl ?_
    | refine W.skip ?_
    | refine W.exit ?_
    | (refine WoR.go ?_; generalize e : goR _ _ _ _ _ _ _ _ = r; simp (disch := omega) [sy_nbeq, sy_neqF, sy_leT, sy_leF, sy_setEnt_setEnt, sy_wrap64, sy_ibeqF, sy_ieqF, sy_ileT, sy_ileF, sy_iltT, sy_iltF, sy_ltT, sy_ltF, szOf_desc, hD, hC, hN, hT, c35, c56, c58, c34, c29, c49, c18] at e; replace e : some _ = _ := e; subst e; (try dsimp only [goW]))
    | (refine W.loop ?_; try (generalize e : dropped _ _ _ = r; simp (disch := omega) [sy_nbeq, sy_neqF, sy_leT, sy_leF, sy_setEnt_setEnt, sy_wrap64, sy_ibeqF, sy_ieqF, sy_ileT, sy_ileF, sy_iltT, sy_iltF, sy_ltT, sy_ltF, szOf_desc, hD, hC, hN, hT, c35, c56, c58, c34, c29, c49, c18] at e; subst e; try dsimp only))
    | (refine Wc.mkG 35 c35 (by kernel_rfl) rfl ?_; generalize e : entryC _ _ _ = r; simp (disch := omega) [sy_nbeq, sy_neqF, sy_leT, sy_leF, sy_setEnt_setEnt, sy_wrap64, sy_ibeqF, sy_ieqF, sy_ileT, sy_ileF, sy_iltT, sy_iltF, sy_ltT, sy_ltF, szOf_desc, hD, hC, hN, hT, c35, c56, c58, c34, c29, c49, c18] at e; subst e)
    | (refine Wc.mkG 56 c56 (by kernel_rfl) rfl ?_; generalize e : entryC _ _ _ = r; simp (disch := omega) [sy_nbeq, sy_neqF, sy_leT, sy_leF, sy_setEnt_setEnt, sy_wrap64, sy_ibeqF, sy_ieqF, sy_ileT, sy_ileF, sy_iltT, sy_iltF, sy_ltT, sy_ltF, szOf_desc, hD, hC, hN, hT, c35, c56, c58, c34, c29, c49, c18] at e; subst e)
    | (refine Wc.mkG 58 c58 (by kernel_rfl) rfl ?_; generalize e : entryC _ _ _ = r; simp (disch := omega) [sy_nbeq, sy_neqF, sy_leT, sy_leF, sy_setEnt_setEnt, sy_wrap64, sy_ibeqF, sy_ieqF, sy_ileT, sy_ileF, sy_iltT, sy_iltF, sy_ltT, sy_ltF, szOf_desc, hD, hC, hN, hT, c35, c56, c58, c34, c29, c49, c18] at e; subst e)
    | (refine Wc.mkG 34 c34 (by kernel_rfl) rfl ?_; generalize e : entryC _ _ _ = r; simp (disch := omega) [sy_nbeq, sy_neqF, sy_leT, sy_leF, sy_setEnt_setEnt, sy_wrap64, sy_ibeqF, sy_ieqF, sy_ileT, sy_ileF, sy_iltT, sy_iltF, sy_ltT, sy_ltF, szOf_desc, hD, hC, hN, hT, c35, c56, c58, c34, c29, c49, c18] at e; subst e)
    | (refine Wc.mkG 29 c29 (by kernel_rfl) rfl ?_; generalize e : entryC _ _ _ = r; simp (disch := omega) [sy_nbeq, sy_neqF, sy_leT, sy_leF, sy_setEnt_setEnt, sy_wrap64, sy_ibeqF, sy_ieqF, sy_ileT, sy_ileF, sy_iltT, sy_iltF, sy_ltT, sy_ltF, szOf_desc, hD, hC, hN, hT, c35, c56, c58, c34, c29, c49, c18] at e; subst e)
    | (refine Wc.mkG 49 c49 (by kernel_rfl) rfl ?_; generalize e : entryC _ _ _ = r; simp (disch := omega) [sy_nbeq, sy_neqF, sy_leT, sy_leF, sy_setEnt_setEnt, sy_wrap64, sy_ibeqF, sy_ieqF, sy_ileT, sy_ileF, sy_iltT, sy_iltF, sy_ltT, sy_ltF, szOf_desc, hD, hC, hN, hT, c35, c56, c58, c34, c29, c49, c18] at e; subst e)
    | (refine Wc.primM (f := 37) (p := (pBString 5)) (by kernel_rfl) ?_; generalize e : (pBString 5) _ _ = r; simp (disch := omega) [sy_nbeq, sy_neqF, sy_leT, sy_leF, sy_setEnt_setEnt, sy_wrap64, sy_ibeqF, sy_ieqF, sy_ileT, sy_ileF, sy_iltT, sy_iltF, sy_ltT, sy_ltF, szOf_desc, hD, hC, hN, hT, c35, c56, c58, c34, c29, c49, c18] at e; subst e; (try dsimp only); refine ⟨rfl, ?_⟩)
    | (refine Wc.primM (f := 55) (p := (pCopyCheck [(103809029, 2), (62914562, 0)])) (by kernel_rfl) ?_; generalize e : (pCopyCheck [(103809029, 2), (62914562, 0)]) _ _ = r; simp (disch := omega) [sy_nbeq, sy_neqF, sy_leT, sy_leF, sy_setEnt_setEnt, sy_wrap64, sy_ibeqF, sy_ieqF, sy_ileT, sy_ileF, sy_iltT, sy_iltF, sy_ltT, sy_ltF, szOf_desc, hD, hC, hN, hT, c35, c56, c58, c34, c29, c49, c18] at e; subst e; (try dsimp only); refine ⟨rfl, ?_⟩)
    | (refine Wc.primM (f := 74) (p := pIndexByte) (by kernel_rfl) ?_; generalize e : pIndexByte _ _ = r; simp (disch := omega) [sy_nbeq, sy_neqF, sy_leT, sy_leF, sy_setEnt_setEnt, sy_wrap64, sy_ibeqF, sy_ieqF, sy_ileT, sy_ileF, sy_iltT, sy_iltF, sy_ltT, sy_ltF, szOf_desc, hD, hC, hN, hT, c35, c56, c58, c34, c29, c49, c18] at e; subst e; (try dsimp only); refine ⟨rfl, ?_⟩)
    | (refine Wc.primM (f := 75) (p := (pMakeNoZero 5)) (by kernel_rfl) ?_; generalize e : (pMakeNoZero 5) _ _ = r; simp (disch := omega) [sy_nbeq, sy_neqF, sy_leT, sy_leF, sy_setEnt_setEnt, sy_wrap64, sy_ibeqF, sy_ieqF, sy_ileT, sy_ileF, sy_iltT, sy_iltF, sy_ltT, sy_ltF, szOf_desc, hD, hC, hN, hT, c35, c56, c58, c34, c29, c49, c18] at e; subst e; (try dsimp only); refine ⟨rfl, ?_⟩)
    | (refine Wc.primM (f := 91) (p := pClone) (by kernel_rfl) ?_; generalize e : pClone _ _ = r; simp (disch := omega) [sy_nbeq, sy_neqF, sy_leT, sy_leF, sy_setEnt_setEnt, sy_wrap64, sy_ibeqF, sy_ieqF, sy_ileT, sy_ileF, sy_iltT, sy_iltF, sy_ltT, sy_ltF, szOf_desc, hD, hC, hN, hT, c35, c56, c58, c34, c29, c49, c18] at e; subst e; (try dsimp only); refine ⟨rfl, ?_⟩)
    | (refine W.ret ?_; (try simp only [outOf, thenW_ret, roundW]); refine endW.of (.inl rfl) rfl ?_; generalize e : endsC _ _ _ = r; simp (disch := omega) [sy_nbeq, sy_neqF, sy_leT, sy_leF, sy_setEnt_setEnt, sy_wrap64, sy_ibeqF, sy_ieqF, sy_ileT, sy_ileF, sy_iltT, sy_iltF, sy_ltT, sy_ltF, szOf_desc, hD, hC, hN, hT, c35, c56, c58, c34, c29, c49, c18] at e; subst e; (try dsimp only [goW]); refine ⟨rfl, ?_⟩)
    | (refine endW.of (.inr rfl) rfl ?_; generalize e : endsC _ _ _ = r; simp (disch := omega) [sy_nbeq, sy_neqF, sy_leT, sy_leF, sy_setEnt_setEnt, sy_wrap64, sy_ibeqF, sy_ieqF, sy_ileT, sy_ileF, sy_iltT, sy_iltF, sy_ltT, sy_ltF, szOf_desc, hD, hC, hN, hT, c35, c56, c58, c34, c29, c49, c18] at e; subst e; (try dsimp only [goW]); refine ⟨rfl, ?_⟩)
    | (refine W.ret ?_; (try simp only [outOf, thenW_ret, roundW]); refine endW.of (.inl rfl) rfl ?_; generalize e : endsC _ _ _ = r; simp (disch := omega) [sy_nbeq, sy_neqF, sy_leT, sy_leF, sy_setEnt_setEnt, sy_wrap64, sy_ibeqF, sy_ieqF, sy_ileT, sy_ileF, sy_iltT, sy_iltF, sy_ltT, sy_ltF, szOf_desc, hD, hC, hN, hT, c35, c56, c58, c34, c29, c49, c18] at e; subst e; (try dsimp only [goW]); refine hk _ _ ?_ ?_; omega; exact (by repeat (first | exact hut.le (by (try dsimp only); omega) | refine UnderT.cons (by (try dsimp only); omega) ?_ | exact UnderT.nil | assumption | exact UnderT.le (by assumption) (by (try dsimp only); omega))))
    | (refine endW.of (.inr rfl) rfl ?_; generalize e : endsC _ _ _ = r; simp (disch := omega) [sy_nbeq, sy_neqF, sy_leT, sy_leF, sy_setEnt_setEnt, sy_wrap64, sy_ibeqF, sy_ieqF, sy_ileT, sy_ileF, sy_iltT, sy_iltF, sy_ltT, sy_ltF, szOf_desc, hD, hC, hN, hT, c35, c56, c58, c34, c29, c49, c18] at e; subst e; (try dsimp only [goW]); refine hk _ _ ?_ ?_; omega; exact (by repeat (first | exact hut.le (by (try dsimp only); omega) | refine UnderT.cons (by (try dsimp only); omega) ?_ | exact UnderT.nil | assumption | exact UnderT.le (by assumption) (by (try dsimp only); omega)))))

theorem valid_a  : Pu tree.getF 29 [.str [97]] (.bool true) := by
  intro h hf K hk
  obtain ⟨hu, hut⟩ := hf
  have hD : ∀ m, h.next ≤ m → dropEnts h.ents m = h.ents := fun m hm => dropEnts_under (hu.le hm)
  have hC : ∀ m, h.next ≤ m → dropCells h.ents m = h.ents := fun m hm => dropCells_under (hu.le hm)
  have hN : ∀ q, h.next ≤ q → getEnt h.ents q = none := fun q hq => getEnt_under hu hq
  have hT : ∀ q, h.next ≤ q → lookupN h.tys q = none := fun q hq => lookupN_under hut hq

  refine Wc.mkG 29 c29 (by kernel_rfl) rfl ?_
  generalize e : entryC _ _ _ = r
  simp (disch := omega) [sy_nbeq, sy_neqF, sy_leT, sy_leF, sy_setEnt_setEnt, sy_wrap64, sy_ibeqF, sy_ieqF, sy_ileT, sy_ileF, sy_iltT, sy_iltF, sy_ltT, sy_ltF, szOf_desc, hD, hC, hN, hT, c29] at e
  subst e
  repeat (first
    | refine W.seq ?_
    | refine W.block ?_
    | (refine W.regG ?_; generalize e : goR _ _ _ _ _ _ _ _ = r; simp (disch := omega) [sy_nbeq, sy_neqF, sy_leT, sy_leF, sy_setEnt_setEnt, sy_wrap64, sy_ibeqF, sy_ieqF, sy_ileT, sy_ileF, sy_iltT, sy_iltF, sy_ltT, sy_ltF, szOf_desc, hD, hC, hN, hT, c49, c29] at e; replace e : some _ = _ := e; subst e; (try dsimp only [goW]))
    | refine W.cond_true rfl ?_
    | refine W.cond_false rfl ?_
    | refine W.skip ?_
    | refine W.exit ?_
    | (refine WoR.go ?_; generalize e : goR _ _ _ _ _ _ _ _ = r; simp (disch := omega) [sy_nbeq, sy_neqF, sy_leT, sy_leF, sy_setEnt_setEnt, sy_wrap64, sy_ibeqF, sy_ieqF, sy_ileT, sy_ileF, sy_iltT, sy_iltF, sy_ltT, sy_ltF, szOf_desc, hD, hC, hN, hT, c49, c29] at e; replace e : some _ = _ := e; subst e; (try dsimp only [goW]))
    | (refine W.loop ?_; try (generalize e : dropped _ _ _ = r; simp (disch := omega) [sy_nbeq, sy_neqF, sy_leT, sy_leF, sy_setEnt_setEnt, sy_wrap64, sy_ibeqF, sy_ieqF, sy_ileT, sy_ileF, sy_iltT, sy_iltF, sy_ltT, sy_ltF, szOf_desc, hD, hC, hN, hT, c49, c29] at e; subst e; try dsimp only))
    | (refine Wc.mkG 49 c49 (by kernel_rfl) rfl ?_; generalize e : entryC _ _ _ = r; simp (disch := omega) [sy_nbeq, sy_neqF, sy_leT, sy_leF, sy_setEnt_setEnt, sy_wrap64, sy_ibeqF, sy_ieqF, sy_ileT, sy_ileF, sy_iltT, sy_iltF, sy_ltT, sy_ltF, szOf_desc, hD, hC, hN, hT, c49, c29] at e; subst e)
    | (refine Wc.primM (f := 37) (p := (pBString 5)) (by kernel_rfl) ?_; generalize e : (pBString 5) _ _ = r; simp (disch := omega) [sy_nbeq, sy_neqF, sy_leT, sy_leF, sy_setEnt_setEnt, sy_wrap64, sy_ibeqF, sy_ieqF, sy_ileT, sy_ileF, sy_iltT, sy_iltF, sy_ltT, sy_ltF, szOf_desc, hD, hC, hN, hT, c49, c29] at e; subst e; (try dsimp only); refine ⟨rfl, ?_⟩)
    | (refine Wc.primM (f := 55) (p := (pCopyCheck [(103809029, 2), (62914562, 0)])) (by kernel_rfl) ?_; generalize e : (pCopyCheck [(103809029, 2), (62914562, 0)]) _ _ = r; simp (disch := omega) [sy_nbeq, sy_neqF, sy_leT, sy_leF, sy_setEnt_setEnt, sy_wrap64, sy_ibeqF, sy_ieqF, sy_ileT, sy_ileF, sy_iltT, sy_iltF, sy_ltT, sy_ltF, szOf_desc, hD, hC, hN, hT, c49, c29] at e; subst e; (try dsimp only); refine ⟨rfl, ?_⟩)
    | (refine Wc.primM (f := 74) (p := pIndexByte) (by kernel_rfl) ?_; generalize e : pIndexByte _ _ = r; simp (disch := omega) [sy_nbeq, sy_neqF, sy_leT, sy_leF, sy_setEnt_setEnt, sy_wrap64, sy_ibeqF, sy_ieqF, sy_ileT, sy_ileF, sy_iltT, sy_iltF, sy_ltT, sy_ltF, szOf_desc, hD, hC, hN, hT, c49, c29] at e; subst e; (try dsimp only); refine ⟨rfl, ?_⟩)
    | (refine Wc.primM (f := 75) (p := (pMakeNoZero 5)) (by kernel_rfl) ?_; generalize e : (pMakeNoZero 5) _ _ = r; simp (disch := omega) [sy_nbeq, sy_neqF, sy_leT, sy_leF, sy_setEnt_setEnt, sy_wrap64, sy_ibeqF, sy_ieqF, sy_ileT, sy_ileF, sy_iltT, sy_iltF, sy_ltT, sy_ltF, szOf_desc, hD, hC, hN, hT, c49, c29] at e; subst e; (try dsimp only); refine ⟨rfl, ?_⟩)
    | (refine Wc.primM (f := 91) (p := pClone) (by kernel_rfl) ?_; generalize e : pClone _ _ = r; simp (disch := omega) [sy_nbeq, sy_neqF, sy_leT, sy_leF, sy_setEnt_setEnt, sy_wrap64, sy_ibeqF, sy_ieqF, sy_ileT, sy_ileF, sy_iltT, sy_iltF, sy_ltT, sy_ltF, szOf_desc, hD, hC, hN, hT, c49, c29] at e; subst e; (try dsimp only); refine ⟨rfl, ?_⟩)
    | (refine W.ret ?_; (try simp only [outOf, thenW_ret, roundW]); refine endW.of (.inl rfl) rfl ?_; generalize e : endsC _ _ _ = r; simp (disch := omega) [sy_nbeq, sy_neqF, sy_leT, sy_leF, sy_setEnt_setEnt, sy_wrap64, sy_ibeqF, sy_ieqF, sy_ileT, sy_ileF, sy_iltT, sy_iltF, sy_ltT, sy_ltF, szOf_desc, hD, hC, hN, hT, c49, c29] at e; subst e; (try dsimp only [goW]); refine ⟨rfl, ?_⟩)
    | (refine endW.of (.inr rfl) rfl ?_; generalize e : endsC _ _ _ = r; simp (disch := omega) [sy_nbeq, sy_neqF, sy_leT, sy_leF, sy_setEnt_setEnt, sy_wrap64, sy_ibeqF, sy_ieqF, sy_ileT, sy_ileF, sy_iltT, sy_iltF, sy_ltT, sy_ltF, szOf_desc, hD, hC, hN, hT, c49, c29] at e; subst e; (try dsimp only [goW]); refine ⟨rfl, ?_⟩)
    | (refine W.ret ?_; (try simp only [outOf, thenW_ret, roundW]); refine endW.of (.inl rfl) rfl ?_; generalize e : endsC _ _ _ = r; simp (disch := omega) [sy_nbeq, sy_neqF, sy_leT, sy_leF, sy_setEnt_setEnt, sy_wrap64, sy_ibeqF, sy_ieqF, sy_ileT, sy_ileF, sy_iltT, sy_iltF, sy_ltT, sy_ltF, szOf_desc, hD, hC, hN, hT, c49, c29] at e; subst e; (try dsimp only [goW]); refine hk _ _ ?_ ?_; omega; exact (by repeat (first | exact hut.le (by (try dsimp only); omega) | refine UnderT.cons (by (try dsimp only); omega) ?_ | exact UnderT.nil | assumption | exact UnderT.le (by assumption) (by (try dsimp only); omega))))
    | (refine endW.of (.inr rfl) rfl ?_; generalize e : endsC _ _ _ = r; simp (disch := omega) [sy_nbeq, sy_neqF, sy_leT, sy_leF, sy_setEnt_setEnt, sy_wrap64, sy_ibeqF, sy_ieqF, sy_ileT, sy_ileF, sy_iltT, sy_iltF, sy_ltT, sy_ltF, szOf_desc, hD, hC, hN, hT, c49, c29] at e; subst e; (try dsimp only [goW]); refine hk _ _ ?_ ?_; omega; exact (by repeat (first | exact hut.le (by (try dsimp only); omega) | refine UnderT.cons (by (try dsimp only); omega) ?_ | exact UnderT.nil | assumption | exact UnderT.le (by assumption) (by (try dsimp only); omega)))))

theorem unlike_a (t : Tag) : Pu tree.getF 31 [.imm t 1 [.str [97]]] (.bool true) := by
  intro h hf K hk
  obtain ⟨hu, hut⟩ := hf
  have hD : ∀ m, h.next ≤ m → dropEnts h.ents m = h.ents := fun m hm => dropEnts_under (hu.le hm)
  have hC : ∀ m, h.next ≤ m → dropCells h.ents m = h.ents := fun m hm => dropCells_under (hu.le hm)
  have hN : ∀ q, h.next ≤ q → getEnt h.ents q = none := fun q hq => getEnt_under hu hq
  have hT : ∀ q, h.next ≤ q → lookupN h.tys q = none := fun q hq => lookupN_under hut hq

  refine Wc.mkG 31 c31 (by kernel_rfl) rfl ?_
  generalize e : entryC _ _ _ = r
  simp (disch := omega) [sy_nbeq, sy_neqF, sy_leT, sy_leF, sy_setEnt_setEnt, sy_wrap64, sy_ibeqF, sy_ieqF, sy_ileT, sy_ileF, sy_iltT, sy_iltF, sy_ltT, sy_ltF, szOf_desc, hD, hC, hN, hT, c31] at e
  subst e
  repeat (first
    | refine W.seq ?_
    | refine W.block ?_
    | (refine W.regG ?_; generalize e : goR _ _ _ _ _ _ _ _ = r; simp (disch := omega) [sy_nbeq, sy_neqF, sy_leT, sy_leF, sy_setEnt_setEnt, sy_wrap64, sy_ibeqF, sy_ieqF, sy_ileT, sy_ileF, sy_iltT, sy_iltF, sy_ltT, sy_ltF, szOf_desc, hD, hC, hN, hT, c29, c49, c31] at e; replace e : some _ = _ := e; subst e; (try dsimp only [goW]))
    | refine W.cond_true rfl ?_
    | refine W.cond_false rfl ?_
    | refine W.skip ?_
    | refine W.exit ?_
    | (refine WoR.go ?_; generalize e : goR _ _ _ _ _ _ _ _ = r; simp (disch := omega) [sy_nbeq, sy_neqF, sy_leT, sy_leF, sy_setEnt_setEnt, sy_wrap64, sy_ibeqF, sy_ieqF, sy_ileT, sy_ileF, sy_iltT, sy_iltF, sy_ltT, sy_ltF, szOf_desc, hD, hC, hN, hT, c29, c49, c31] at e; replace e : some _ = _ := e; subst e; (try dsimp only [goW]))
    | (refine W.loop ?_; try (generalize e : dropped _ _ _ = r; simp (disch := omega) [sy_nbeq, sy_neqF, sy_leT, sy_leF, sy_setEnt_setEnt, sy_wrap64, sy_ibeqF, sy_ieqF, sy_ileT, sy_ileF, sy_iltT, sy_iltF, sy_ltT, sy_ltF, szOf_desc, hD, hC, hN, hT, c29, c49, c31] at e; subst e; try dsimp only))
    | (refine Wc.mkG 29 c29 (by kernel_rfl) rfl ?_; generalize e : entryC _ _ _ = r; simp (disch := omega) [sy_nbeq, sy_neqF, sy_leT, sy_leF, sy_setEnt_setEnt, sy_wrap64, sy_ibeqF, sy_ieqF, sy_ileT, sy_ileF, sy_iltT, sy_iltF, sy_ltT, sy_ltF, szOf_desc, hD, hC, hN, hT, c29, c49, c31] at e; subst e)
    | (refine Wc.mkG 49 c49 (by kernel_rfl) rfl ?_; generalize e : entryC _ _ _ = r; simp (disch := omega) [sy_nbeq, sy_neqF, sy_leT, sy_leF, sy_setEnt_setEnt, sy_wrap64, sy_ibeqF, sy_ieqF, sy_ileT, sy_ileF, sy_iltT, sy_iltF, sy_ltT, sy_ltF, szOf_desc, hD, hC, hN, hT, c29, c49, c31] at e; subst e)
    | (refine Wc.primM (f := 37) (p := (pBString 5)) (by kernel_rfl) ?_; generalize e : (pBString 5) _ _ = r; simp (disch := omega) [sy_nbeq, sy_neqF, sy_leT, sy_leF, sy_setEnt_setEnt, sy_wrap64, sy_ibeqF, sy_ieqF, sy_ileT, sy_ileF, sy_iltT, sy_iltF, sy_ltT, sy_ltF, szOf_desc, hD, hC, hN, hT, c29, c49, c31] at e; subst e; (try dsimp only); refine ⟨rfl, ?_⟩)
    | (refine Wc.primM (f := 55) (p := (pCopyCheck [(103809029, 2), (62914562, 0)])) (by kernel_rfl) ?_; generalize e : (pCopyCheck [(103809029, 2), (62914562, 0)]) _ _ = r; simp (disch := omega) [sy_nbeq, sy_neqF, sy_leT, sy_leF, sy_setEnt_setEnt, sy_wrap64, sy_ibeqF, sy_ieqF, sy_ileT, sy_ileF, sy_iltT, sy_iltF, sy_ltT, sy_ltF, szOf_desc, hD, hC, hN, hT, c29, c49, c31] at e; subst e; (try dsimp only); refine ⟨rfl, ?_⟩)
    | (refine Wc.primM (f := 74) (p := pIndexByte) (by kernel_rfl) ?_; generalize e : pIndexByte _ _ = r; simp (disch := omega) [sy_nbeq, sy_neqF, sy_leT, sy_leF, sy_setEnt_setEnt, sy_wrap64, sy_ibeqF, sy_ieqF, sy_ileT, sy_ileF, sy_iltT, sy_iltF, sy_ltT, sy_ltF, szOf_desc, hD, hC, hN, hT, c29, c49, c31] at e; subst e; (try dsimp only); refine ⟨rfl, ?_⟩)
    | (refine Wc.primM (f := 75) (p := (pMakeNoZero 5)) (by kernel_rfl) ?_; generalize e : (pMakeNoZero 5) _ _ = r; simp (disch := omega) [sy_nbeq, sy_neqF, sy_leT, sy_leF, sy_setEnt_setEnt, sy_wrap64, sy_ibeqF, sy_ieqF, sy_ileT, sy_ileF, sy_iltT, sy_iltF, sy_ltT, sy_ltF, szOf_desc, hD, hC, hN, hT, c29, c49, c31] at e; subst e; (try dsimp only); refine ⟨rfl, ?_⟩)
    | (refine Wc.primM (f := 91) (p := pClone) (by kernel_rfl) ?_; generalize e : pClone _ _ = r; simp (disch := omega) [sy_nbeq, sy_neqF, sy_leT, sy_leF, sy_setEnt_setEnt, sy_wrap64, sy_ibeqF, sy_ieqF, sy_ileT, sy_ileF, sy_iltT, sy_iltF, sy_ltT, sy_ltF, szOf_desc, hD, hC, hN, hT, c29, c49, c31] at e; subst e; (try dsimp only); refine ⟨rfl, ?_⟩)
    | (refine W.ret ?_; (try simp only [outOf, thenW_ret, roundW]); refine endW.of (.inl rfl) rfl ?_; generalize e : endsC _ _ _ = r; simp (disch := omega) [sy_nbeq, sy_neqF, sy_leT, sy_leF, sy_setEnt_setEnt, sy_wrap64, sy_ibeqF, sy_ieqF, sy_ileT, sy_ileF, sy_iltT, sy_iltF, sy_ltT, sy_ltF, szOf_desc, hD, hC, hN, hT, c29, c49, c31] at e; subst e; (try dsimp only [goW]); refine ⟨rfl, ?_⟩)
    | (refine endW.of (.inr rfl) rfl ?_; generalize e : endsC _ _ _ = r; simp (disch := omega) [sy_nbeq, sy_neqF, sy_leT, sy_leF, sy_setEnt_setEnt, sy_wrap64, sy_ibeqF, sy_ieqF, sy_ileT, sy_ileF, sy_iltT, sy_iltF, sy_ltT, sy_ltF, szOf_desc, hD, hC, hN, hT, c29, c49, c31] at e; subst e; (try dsimp only [goW]); refine ⟨rfl, ?_⟩)
    | (refine W.ret ?_; (try simp only [outOf, thenW_ret, roundW]); refine endW.of (.inl rfl) rfl ?_; generalize e : endsC _ _ _ = r; simp (disch := omega) [sy_nbeq, sy_neqF, sy_leT, sy_leF, sy_setEnt_setEnt, sy_wrap64, sy_ibeqF, sy_ieqF, sy_ileT, sy_ileF, sy_iltT, sy_iltF, sy_ltT, sy_ltF, szOf_desc, hD, hC, hN, hT, c29, c49, c31] at e; subst e; (try dsimp only [goW]); refine hk _ _ ?_ ?_; omega; exact (by repeat (first | exact hut.le (by (try dsimp only); omega) | refine UnderT.cons (by (try dsimp only); omega) ?_ | exact UnderT.nil | assumption | exact UnderT.le (by assumption) (by (try dsimp only); omega))))
    | (refine endW.of (.inr rfl) rfl ?_; generalize e : endsC _ _ _ = r; simp (disch := omega) [sy_nbeq, sy_neqF, sy_leT, sy_leF, sy_setEnt_setEnt, sy_wrap64, sy_ibeqF, sy_ieqF, sy_ileT, sy_ileF, sy_iltT, sy_iltF, sy_ltT, sy_ltF, szOf_desc, hD, hC, hN, hT, c29, c49, c31] at e; subst e; (try dsimp only [goW]); refine hk _ _ ?_ ?_; omega; exact (by repeat (first | exact hut.le (by (try dsimp only); omega) | refine UnderT.cons (by (try dsimp only); omega) ?_ | exact UnderT.nil | assumption | exact UnderT.le (by assumption) (by (try dsimp only); omega)))))
end Go.Proofs.YtehdeihlahjglaaDoor.IrJd
