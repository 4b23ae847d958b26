/- What the functions of the law 'WordPlaces' do: part 9. -/
import Derived.Test.YthblmflngjofjaaDoorLxPG
namespace Go.Proofs.YthblmflngjofjaaDoor.IrP
open Go Go.CI
open Go.LexF hiding spacesB lettersB
set_option maxRecDepth 100000
set_option linter.unusedVariables false
set_option linter.unusedSimpArgs false
attribute [local irreducible] W Wo Wc WoR
attribute [local simp] goR regOut checkOne swapOne sameAt nthOp CVal.beq beqs CVal.block storesTo entryC evalOps evalOper evalE evalP evalL evalOpnd nth setNth COp.cls COp.isStore CVal.isUndef CVal.whole CVal.cells CHeap.put CHeap.get CHeap.set wantedC getEnt setEnt partOf writeBack evalBin evalInt evalStr blockMost initVar descOf List.take List.drop CVal.lenOf CVal.isStr CVal.bare CVal.strip CVal.flat endsC resultsC oneOrTuple finishC cut fillCells setCells szOf szOf_desc elems bytesOf evalAppend fillElems mkElem setElem List.replicate sy_nbeq sy_neqF sy_leT sy_leF sy_setEnt_setEnt dropped sy_wrap64 dropEnts dropCells sizeMost sy_ibeqF sy_ieqF sy_ileT sy_ileF sy_iltT sy_iltF sy_ltT sy_ltF evalSlc optBound eqVal extL extE keyIs findKV nthKV setKV CHeap.ty lookupN CHeap.note CHeap.tyOk dropAll freezeVal freezeAll freezeFlat pCopyCheck pBString pMakeNoZero pIndexByte pClone pIndex hasPair rowOf byteVals idxFrom hasFront idxSub

theorem p0_ok8 (ds : List UInt8) (hne : ds ≠ []) (hl : ds.length < 90000) (hds : ∀ c ∈ ds, okF 8 c) (hv : valF 8 0 ds < 18446744073709551616) : Pu tree.getF 48 [.str ds, .int .i64 8, .int .i64 64] (.tup [.int .u64 (valF 8 0 ds : Nat), .nili]) := by
  intro h hf K hk
  obtain ⟨hu, hut⟩ := hf
  have hD : ∀ m, h.next ≤ m → dropEnts h.ents m = h.ents := fun m hm => dropEnts_under (hu.le hm)
  have hC : ∀ m, h.next ≤ m → dropCells h.ents m = h.ents := fun m hm => dropCells_under (hu.le hm)
  have hN : ∀ q, h.next ≤ q → getEnt h.ents q = none := fun q hq => getEnt_under hu hq
  have hT : ∀ q, h.next ≤ q → lookupN h.tys q = none := fun q hq => lookupN_under hut hq
  have hneb : (ds == []) = false := by simp [hne]
  refine Wc.mkG 48 c48 (by kernel_rfl) rfl ?_
  generalize e : entryC _ _ _ = r
  simp (disch := omega) [hD, hC, hN, hT, hne, hneb, sy_wrapu64, sy_wrapu8, c48] at e
  subst e
  repeat (first
    | refine W.seq ?_
    | refine W.block ?_
    | ((first | refine W.regG ?_ | refine WoR.go ?_); generalize e : goR _ _ _ _ _ _ _ _ = r; simp (disch := omega) [hD, hC, hN, hT, hne, hneb, sy_wrapu64, sy_wrapu8, c48] at e; replace e : some _ = _ := e; subst e; (try dsimp only [goW]))
    | refine W.cond_true rfl ?_
    | refine W.cond_false rfl ?_
    | refine W.skip ?_
    | refine W.exit ?_)
  refine parse_loop ds (by omega) 8 (by omega) (by omega) 2305843009213693952 (fun n => by omega) _ _ _ _ _ _ _ _ _ _ _ _ _ _ _ _ _ _ ds 0 0 rfl (by omega) hds (by omega) _ _ _ _ _ _ _ _ _ _ _ ?_ ?_ ?_
  · exact ⟨by (try dsimp only); first | exact hu.le (by omega) | exact hu.set.le (by omega), UnderT.le (by assumption) (by (try dsimp only); omega)⟩
  · intro n' ty w15 w17 w19 w21 w22 w23 w24 w25 w26 w28 w30 w31 g1 g2 g3
    try dsimp only at g1
    repeat (first
      | refine W.seq ?_
      | refine W.block ?_
      | ((first | refine W.regG ?_ | refine WoR.go ?_); generalize e : goR _ _ _ _ _ _ _ _ = r; simp (disch := omega) [hD, hC, hN, hT, hne, hneb, sy_wrapu64, sy_wrapu8, c48] at e; replace e : some _ = _ := e; subst e; (try dsimp only [goW]))
      | refine W.cond_true rfl ?_
      | refine W.cond_false rfl ?_
      | refine W.skip ?_
      | refine W.exit ?_
      | ((first | (refine W.ret ?_; (try simp only [outOf, thenW_ret, roundW]); refine endW.of (.inl rfl) rfl ?_) | refine endW.of (.inr rfl) rfl ?_); generalize e : endsC _ _ _ = r; simp (disch := omega) [hD, hC, hN, hT, hne, hneb, sy_wrapu64, sy_wrapu8, c48] at e; subst e; (try dsimp only [goW]); (refine hk _ _ ?_ ?_; omega; exact (by repeat (first | exact hut.le (by (try dsimp only); omega) | refine UnderT.cons (by (try dsimp only); omega) ?_ | exact UnderT.nil | assumption | exact UnderT.le (by assumption) (by (try dsimp only); omega))))))
  · intro n' ty w15 w17 w19 w21 w22 w23 w24 w25 w26 w28 w30 w31 g1 g2 g3
    try dsimp only at g1
    exfalso; omega

theorem p_ok8 (ds : List UInt8) (hne : ds ≠ []) (hl : ds.length < 90000) (hds : ∀ c ∈ ds, okF 8 c) (hv : valF 8 0 ds < 18446744073709551616) : Pu tree.getF 34 [.str ds, .int .i64 8, .int .i64 64] (.tup [.int .u64 (valF 8 0 ds : Nat), .nili]) := by
  intro h hf K hk
  obtain ⟨hu, hut⟩ := hf
  have hD : ∀ m, h.next ≤ m → dropEnts h.ents m = h.ents := fun m hm => dropEnts_under (hu.le hm)
  have hC : ∀ m, h.next ≤ m → dropCells h.ents m = h.ents := fun m hm => dropCells_under (hu.le hm)
  have hN : ∀ q, h.next ≤ q → getEnt h.ents q = none := fun q hq => getEnt_under hu hq
  have hT : ∀ q, h.next ≤ q → lookupN h.tys q = none := fun q hq => lookupN_under hut hq

  refine Wc.mkG 34 c34 (by kernel_rfl) rfl ?_
  generalize e : entryC _ _ _ = r
  simp (disch := omega) [hD, hC, hN, hT, c34] at e
  subst e
  repeat (first
    | refine W.seq ?_
    | refine W.block ?_
    | ((first | refine W.regG ?_ | refine WoR.go ?_); generalize e : goR _ _ _ _ _ _ _ _ = r; simp (disch := omega) [hD, hC, hN, hT, c34] at e; replace e : some _ = _ := e; subst e; (try dsimp only [goW]))
    | refine W.cond_true rfl ?_
    | refine W.cond_false rfl ?_
    | refine W.skip ?_
    | refine W.exit ?_
    | (refine W.loop ?_; try (generalize e : dropped _ _ _ = r; simp (disch := omega) [hD, hC, hN, hT, c34] at e; subst e; try dsimp only))
    | (refine (p0_ok8 ds hne hl hds hv) _ ?_ _ fun n1 tyn1 hn1 hun1 => ⟨rfl, ?_⟩; (focus (((refine ⟨?_, ?_⟩; (focus ((repeat (first | exact hu.le (by (try dsimp only); omega) | exact hu.set.le (by (try dsimp only); omega) | refine Under.cons (by (try dsimp only); omega) ?_ | exact Under.nil)); done)); (focus ((repeat (first | exact hut.le (by (try dsimp only); omega) | refine UnderT.cons (by (try dsimp only); omega) ?_ | exact UnderT.nil | assumption | exact UnderT.le (by assumption) (by (try dsimp only); omega))); done)))); done)); (try dsimp only at hn1))
    | ((first | (refine W.ret ?_; (try simp only [outOf, thenW_ret, roundW]); refine endW.of (.inl rfl) rfl ?_) | refine endW.of (.inr rfl) rfl ?_); generalize e : endsC _ _ _ = r; simp (disch := omega) [hD, hC, hN, hT, c34] at e; subst e; (try dsimp only [goW]); (refine hk _ _ ?_ ?_; omega; exact (by repeat (first | exact hut.le (by (try dsimp only); omega) | refine UnderT.cons (by (try dsimp only); omega) ?_ | exact UnderT.nil | assumption | exact UnderT.le (by assumption) (by (try dsimp only); omega))))))

theorem p0_bad8 (ds : List UInt8) (hne : ds ≠ []) (hl : ds.length < 90000) (hds : ∀ c ∈ ds, okF 8 c) (hv : 18446744073709551616 ≤ valF 8 0 ds) : Pu tree.getF 48 [.str ds, .int .i64 8, .int .i64 64] (.tup [.int .u64 18446744073709551615, .ifc 78 (.int .i64 1)]) := by
  intro h hf K hk
  obtain ⟨hu, hut⟩ := hf
  have hD : ∀ m, h.next ≤ m → dropEnts h.ents m = h.ents := fun m hm => dropEnts_under (hu.le hm)
  have hC : ∀ m, h.next ≤ m → dropCells h.ents m = h.ents := fun m hm => dropCells_under (hu.le hm)
  have hN : ∀ q, h.next ≤ q → getEnt h.ents q = none := fun q hq => getEnt_under hu hq
  have hT : ∀ q, h.next ≤ q → lookupN h.tys q = none := fun q hq => lookupN_under hut hq
  have hneb : (ds == []) = false := by simp [hne]
  refine Wc.mkG 48 c48 (by kernel_rfl) rfl ?_
  generalize e : entryC _ _ _ = r
  simp (disch := omega) [hD, hC, hN, hT, hne, hneb, sy_wrapu64, sy_wrapu8, c48] at e
  subst e
  repeat (first
    | refine W.seq ?_
    | refine W.block ?_
    | ((first | refine W.regG ?_ | refine WoR.go ?_); generalize e : goR _ _ _ _ _ _ _ _ = r; simp (disch := omega) [hD, hC, hN, hT, hne, hneb, sy_wrapu64, sy_wrapu8, c48] at e; replace e : some _ = _ := e; subst e; (try dsimp only [goW]))
    | refine W.cond_true rfl ?_
    | refine W.cond_false rfl ?_
    | refine W.skip ?_
    | refine W.exit ?_)
  refine parse_loop ds (by omega) 8 (by omega) (by omega) 2305843009213693952 (fun n => by omega) _ _ _ _ _ _ _ _ _ _ _ _ _ _ _ _ _ _ ds 0 0 rfl (by omega) hds (by omega) _ _ _ _ _ _ _ _ _ _ _ ?_ ?_ ?_
  · exact ⟨by (try dsimp only); first | exact hu.le (by omega) | exact hu.set.le (by omega), UnderT.le (by assumption) (by (try dsimp only); omega)⟩
  · intro n' ty w15 w17 w19 w21 w22 w23 w24 w25 w26 w28 w30 w31 g1 g2 g3
    try dsimp only at g1
    exfalso; omega
  · intro n' ty w15 w17 w19 w21 w22 w23 w24 w25 w26 w28 w30 w31 g1 g2 g3
    try dsimp only at g1
    try simp only [outOf, thenW_ret, roundW]
    refine endW.of (.inl rfl) rfl ?_
    generalize e : endsC _ _ _ = r
    simp (disch := omega) [hD, hC, hN, hT, hne, hneb, sy_wrapu64, sy_wrapu8, c48] at e
    subst e
    (try dsimp only)
    refine hk _ _ ?_ ?_
    · omega
    · exact (by repeat (first | exact hut.le (by (try dsimp only); omega) | refine UnderT.cons (by (try dsimp only); omega) ?_ | exact UnderT.nil | assumption | exact UnderT.le (by assumption) (by (try dsimp only); omega)))

theorem p_bad8 (ds : List UInt8) (hne : ds ≠ []) (hl : ds.length < 90000) (hds : ∀ c ∈ ds, okF 8 c) (hv : 18446744073709551616 ≤ valF 8 0 ds) (h : CHeap) (hf : Fit h) (K : CVal → CHeap → Prop) (hk : ∀ n' ty m d, h.next ≤ n' → UnderT ty n' → K (.tup [.int .u64 18446744073709551615, .ifc 80 (.ptr m d 0)]) ⟨h.ents, n', ty⟩) : Wc tree.getF 34 [.str ds, .int .i64 8, .int .i64 64] h K := by
  obtain ⟨hu, hut⟩ := hf
  have hD : ∀ m, h.next ≤ m → dropEnts h.ents m = h.ents := fun m hm => dropEnts_under (hu.le hm)
  have hC : ∀ m, h.next ≤ m → dropCells h.ents m = h.ents := fun m hm => dropCells_under (hu.le hm)
  have hN : ∀ q, h.next ≤ q → getEnt h.ents q = none := fun q hq => getEnt_under hu hq
  have hT : ∀ q, h.next ≤ q → lookupN h.tys q = none := fun q hq => lookupN_under hut hq
  refine Wc.mkG 34 c34 (by kernel_rfl) rfl ?_
  generalize e : entryC _ _ _ = r
  simp (disch := omega) [hD, hC, hN, hT, c34] at e
  subst e
  repeat (first
    | refine W.seq ?_
    | refine W.block ?_
    | ((first | refine W.regG ?_ | refine WoR.go ?_); generalize e : goR _ _ _ _ _ _ _ _ = r; simp (disch := omega) [hD, hC, hN, hT, show (ds.length ≤ 281474976710656) from by omega, c49, c60, c34] at e; replace e : some _ = _ := e; subst e; (try dsimp only [goW]))
    | refine W.cond_true rfl ?_
    | refine W.cond_false rfl ?_
    | refine W.skip ?_
    | refine W.exit ?_
    | (refine W.loop ?_; try (generalize e : dropped _ _ _ = r; simp (disch := omega) [hD, hC, hN, hT, show (ds.length ≤ 281474976710656) from by omega, c49, c60, c34] at e; subst e; try dsimp only))
    | (refine (p0_bad8 ds hne hl hds hv) _ ?_ _ fun n1 tyn1 hn1 hun1 => ⟨rfl, ?_⟩; (focus (((refine ⟨?_, ?_⟩; (focus ((repeat (first | exact hu.le (by (try dsimp only); omega) | exact hu.set.le (by (try dsimp only); omega) | refine Under.cons (by (try dsimp only); omega) ?_ | exact Under.nil)); done)); (focus ((repeat (first | exact hut.le (by (try dsimp only); omega) | refine UnderT.cons (by (try dsimp only); omega) ?_ | exact UnderT.nil | assumption | exact UnderT.le (by assumption) (by (try dsimp only); omega))); done)))); done)); (try dsimp only at hn1))
    | (refine Wc.mkG 49 c49 (by kernel_rfl) rfl ?_; generalize e : entryC _ _ _ = r; simp (disch := omega) [hD, hC, hN, hT, show (ds.length ≤ 281474976710656) from by omega, c49, c60, c34] at e; subst e)
    | (refine Wc.mkG 60 c60 (by kernel_rfl) rfl ?_; generalize e : entryC _ _ _ = r; simp (disch := omega) [hD, hC, hN, hT, show (ds.length ≤ 281474976710656) from by omega, c49, c60, c34] at e; subst e)
    | (refine Wc.primM (f := 67) (p := pClone) (by kernel_rfl) ?_; generalize e : pClone _ _ = r; simp (disch := omega) [hD, hC, hN, hT, show (ds.length ≤ 281474976710656) from by omega, c49, c60, c34] at e; subst e; (try dsimp only); refine ⟨rfl, ?_⟩)
    | ((first | (refine W.ret ?_; (try simp only [outOf, thenW_ret, roundW]); refine endW.of (.inl rfl) rfl ?_) | refine endW.of (.inr rfl) rfl ?_); generalize e : endsC _ _ _ = r; simp (disch := omega) [hD, hC, hN, hT, show (ds.length ≤ 281474976710656) from by omega, c49, c60, c34] at e; subst e; (try dsimp only [goW]); (first | refine ⟨rfl, ?_⟩ | (refine hk _ _ _ _ ?_ ?_; omega; exact (by repeat (first | exact hut.le (by (try dsimp only); omega) | refine UnderT.cons (by (try dsimp only); omega) ?_ | exact UnderT.nil | assumption | exact UnderT.le (by assumption) (by (try dsimp only); omega)))))))

theorem p0_ok10 (ds : List UInt8) (hne : ds ≠ []) (hl : ds.length < 90000) (hds : ∀ c ∈ ds, okF 10 c) (hv : valF 10 0 ds < 18446744073709551616) : Pu tree.getF 48 [.str ds, .int .i64 10, .int .i64 64] (.tup [.int .u64 (valF 10 0 ds : Nat), .nili]) := by
  intro h hf K hk
  obtain ⟨hu, hut⟩ := hf
  have hD : ∀ m, h.next ≤ m → dropEnts h.ents m = h.ents := fun m hm => dropEnts_under (hu.le hm)
  have hC : ∀ m, h.next ≤ m → dropCells h.ents m = h.ents := fun m hm => dropCells_under (hu.le hm)
  have hN : ∀ q, h.next ≤ q → getEnt h.ents q = none := fun q hq => getEnt_under hu hq
  have hT : ∀ q, h.next ≤ q → lookupN h.tys q = none := fun q hq => lookupN_under hut hq
  have hneb : (ds == []) = false := by simp [hne]
  refine Wc.mkG 48 c48 (by kernel_rfl) rfl ?_
  generalize e : entryC _ _ _ = r
  simp (disch := omega) [hD, hC, hN, hT, hne, hneb, sy_wrapu64, sy_wrapu8, c48] at e
  subst e
  repeat (first
    | refine W.seq ?_
    | refine W.block ?_
    | ((first | refine W.regG ?_ | refine WoR.go ?_); generalize e : goR _ _ _ _ _ _ _ _ = r; simp (disch := omega) [hD, hC, hN, hT, hne, hneb, sy_wrapu64, sy_wrapu8, c48] at e; replace e : some _ = _ := e; subst e; (try dsimp only [goW]))
    | refine W.cond_true rfl ?_
    | refine W.cond_false rfl ?_
    | refine W.skip ?_
    | refine W.exit ?_)
  refine parse_loop ds (by omega) 10 (by omega) (by omega) 1844674407370955162 (fun n => by omega) _ _ _ _ _ _ _ _ _ _ _ _ _ _ _ _ _ _ ds 0 0 rfl (by omega) hds (by omega) _ _ _ _ _ _ _ _ _ _ _ ?_ ?_ ?_
  · exact ⟨by (try dsimp only); first | exact hu.le (by omega) | exact hu.set.le (by omega), UnderT.le (by assumption) (by (try dsimp only); omega)⟩
  · intro n' ty w15 w17 w19 w21 w22 w23 w24 w25 w26 w28 w30 w31 g1 g2 g3
    try dsimp only at g1
    repeat (first
      | refine W.seq ?_
      | refine W.block ?_
      | ((first | refine W.regG ?_ | refine WoR.go ?_); generalize e : goR _ _ _ _ _ _ _ _ = r; simp (disch := omega) [hD, hC, hN, hT, hne, hneb, sy_wrapu64, sy_wrapu8, c48] at e; replace e : some _ = _ := e; subst e; (try dsimp only [goW]))
      | refine W.cond_true rfl ?_
      | refine W.cond_false rfl ?_
      | refine W.skip ?_
      | refine W.exit ?_
      | ((first | (refine W.ret ?_; (try simp only [outOf, thenW_ret, roundW]); refine endW.of (.inl rfl) rfl ?_) | refine endW.of (.inr rfl) rfl ?_); generalize e : endsC _ _ _ = r; simp (disch := omega) [hD, hC, hN, hT, hne, hneb, sy_wrapu64, sy_wrapu8, c48] at e; subst e; (try dsimp only [goW]); (refine hk _ _ ?_ ?_; omega; exact (by repeat (first | exact hut.le (by (try dsimp only); omega) | refine UnderT.cons (by (try dsimp only); omega) ?_ | exact UnderT.nil | assumption | exact UnderT.le (by assumption) (by (try dsimp only); omega))))))
  · intro n' ty w15 w17 w19 w21 w22 w23 w24 w25 w26 w28 w30 w31 g1 g2 g3
    try dsimp only at g1
    exfalso; omega

theorem p_ok10 (ds : List UInt8) (hne : ds ≠ []) (hl : ds.length < 90000) (hds : ∀ c ∈ ds, okF 10 c) (hv : valF 10 0 ds < 18446744073709551616) : Pu tree.getF 34 [.str ds, .int .i64 10, .int .i64 64] (.tup [.int .u64 (valF 10 0 ds : Nat), .nili]) := by
  intro h hf K hk
  obtain ⟨hu, hut⟩ := hf
  have hD : ∀ m, h.next ≤ m → dropEnts h.ents m = h.ents := fun m hm => dropEnts_under (hu.le hm)
  have hC : ∀ m, h.next ≤ m → dropCells h.ents m = h.ents := fun m hm => dropCells_under (hu.le hm)
  have hN : ∀ q, h.next ≤ q → getEnt h.ents q = none := fun q hq => getEnt_under hu hq
  have hT : ∀ q, h.next ≤ q → lookupN h.tys q = none := fun q hq => lookupN_under hut hq

  refine Wc.mkG 34 c34 (by kernel_rfl) rfl ?_
  generalize e : entryC _ _ _ = r
  simp (disch := omega) [hD, hC, hN, hT, c34] at e
  subst e
  repeat (first
    | refine W.seq ?_
    | refine W.block ?_
    | ((first | refine W.regG ?_ | refine WoR.go ?_); generalize e : goR _ _ _ _ _ _ _ _ = r; simp (disch := omega) [hD, hC, hN, hT, c34] at e; replace e : some _ = _ := e; subst e; (try dsimp only [goW]))
    | refine W.cond_true rfl ?_
    | refine W.cond_false rfl ?_
    | refine W.skip ?_
    | refine W.exit ?_
    | (refine W.loop ?_; try (generalize e : dropped _ _ _ = r; simp (disch := omega) [hD, hC, hN, hT, c34] at e; subst e; try dsimp only))
    | (refine (p0_ok10 ds hne hl hds hv) _ ?_ _ fun n1 tyn1 hn1 hun1 => ⟨rfl, ?_⟩; (focus (((refine ⟨?_, ?_⟩; (focus ((repeat (first | exact hu.le (by (try dsimp only); omega) | exact hu.set.le (by (try dsimp only); omega) | refine Under.cons (by (try dsimp only); omega) ?_ | exact Under.nil)); done)); (focus ((repeat (first | exact hut.le (by (try dsimp only); omega) | refine UnderT.cons (by (try dsimp only); omega) ?_ | exact UnderT.nil | assumption | exact UnderT.le (by assumption) (by (try dsimp only); omega))); done)))); done)); (try dsimp only at hn1))
    | ((first | (refine W.ret ?_; (try simp only [outOf, thenW_ret, roundW]); refine endW.of (.inl rfl) rfl ?_) | refine endW.of (.inr rfl) rfl ?_); generalize e : endsC _ _ _ = r; simp (disch := omega) [hD, hC, hN, hT, c34] at e; subst e; (try dsimp only [goW]); (refine hk _ _ ?_ ?_; omega; exact (by repeat (first | exact hut.le (by (try dsimp only); omega) | refine UnderT.cons (by (try dsimp only); omega) ?_ | exact UnderT.nil | assumption | exact UnderT.le (by assumption) (by (try dsimp only); omega))))))

theorem p0_bad10 (ds : List UInt8) (hne : ds ≠ []) (hl : ds.length < 90000) (hds : ∀ c ∈ ds, okF 10 c) (hv : 18446744073709551616 ≤ valF 10 0 ds) : Pu tree.getF 48 [.str ds, .int .i64 10, .int .i64 64] (.tup [.int .u64 18446744073709551615, .ifc 78 (.int .i64 1)]) := by
  intro h hf K hk
  obtain ⟨hu, hut⟩ := hf
  have hD : ∀ m, h.next ≤ m → dropEnts h.ents m = h.ents := fun m hm => dropEnts_under (hu.le hm)
  have hC : ∀ m, h.next ≤ m → dropCells h.ents m = h.ents := fun m hm => dropCells_under (hu.le hm)
  have hN : ∀ q, h.next ≤ q → getEnt h.ents q = none := fun q hq => getEnt_under hu hq
  have hT : ∀ q, h.next ≤ q → lookupN h.tys q = none := fun q hq => lookupN_under hut hq
  have hneb : (ds == []) = false := by simp [hne]
  refine Wc.mkG 48 c48 (by kernel_rfl) rfl ?_
  generalize e : entryC _ _ _ = r
  simp (disch := omega) [hD, hC, hN, hT, hne, hneb, sy_wrapu64, sy_wrapu8, c48] at e
  subst e
  repeat (first
    | refine W.seq ?_
    | refine W.block ?_
    | ((first | refine W.regG ?_ | refine WoR.go ?_); generalize e : goR _ _ _ _ _ _ _ _ = r; simp (disch := omega) [hD, hC, hN, hT, hne, hneb, sy_wrapu64, sy_wrapu8, c48] at e; replace e : some _ = _ := e; subst e; (try dsimp only [goW]))
    | refine W.cond_true rfl ?_
    | refine W.cond_false rfl ?_
    | refine W.skip ?_
    | refine W.exit ?_)
  refine parse_loop ds (by omega) 10 (by omega) (by omega) 1844674407370955162 (fun n => by omega) _ _ _ _ _ _ _ _ _ _ _ _ _ _ _ _ _ _ ds 0 0 rfl (by omega) hds (by omega) _ _ _ _ _ _ _ _ _ _ _ ?_ ?_ ?_
  · exact ⟨by (try dsimp only); first | exact hu.le (by omega) | exact hu.set.le (by omega), UnderT.le (by assumption) (by (try dsimp only); omega)⟩
  · intro n' ty w15 w17 w19 w21 w22 w23 w24 w25 w26 w28 w30 w31 g1 g2 g3
    try dsimp only at g1
    exfalso; omega
  · intro n' ty w15 w17 w19 w21 w22 w23 w24 w25 w26 w28 w30 w31 g1 g2 g3
    try dsimp only at g1
    try simp only [outOf, thenW_ret, roundW]
    refine endW.of (.inl rfl) rfl ?_
    generalize e : endsC _ _ _ = r
    simp (disch := omega) [hD, hC, hN, hT, hne, hneb, sy_wrapu64, sy_wrapu8, c48] at e
    subst e
    (try dsimp only)
    refine hk _ _ ?_ ?_
    · omega
    · exact (by repeat (first | exact hut.le (by (try dsimp only); omega) | refine UnderT.cons (by (try dsimp only); omega) ?_ | exact UnderT.nil | assumption | exact UnderT.le (by assumption) (by (try dsimp only); omega)))

theorem p_bad10 (ds : List UInt8) (hne : ds ≠ []) (hl : ds.length < 90000) (hds : ∀ c ∈ ds, okF 10 c) (hv : 18446744073709551616 ≤ valF 10 0 ds) (h : CHeap) (hf : Fit h) (K : CVal → CHeap → Prop) (hk : ∀ n' ty m d, h.next ≤ n' → UnderT ty n' → K (.tup [.int .u64 18446744073709551615, .ifc 80 (.ptr m d 0)]) ⟨h.ents, n', ty⟩) : Wc tree.getF 34 [.str ds, .int .i64 10, .int .i64 64] h K := by
  obtain ⟨hu, hut⟩ := hf
  have hD : ∀ m, h.next ≤ m → dropEnts h.ents m = h.ents := fun m hm => dropEnts_under (hu.le hm)
  have hC : ∀ m, h.next ≤ m → dropCells h.ents m = h.ents := fun m hm => dropCells_under (hu.le hm)
  have hN : ∀ q, h.next ≤ q → getEnt h.ents q = none := fun q hq => getEnt_under hu hq
  have hT : ∀ q, h.next ≤ q → lookupN h.tys q = none := fun q hq => lookupN_under hut hq
  refine Wc.mkG 34 c34 (by kernel_rfl) rfl ?_
  generalize e : entryC _ _ _ = r
  simp (disch := omega) [hD, hC, hN, hT, c34] at e
  subst e
  repeat (first
    | refine W.seq ?_
    | refine W.block ?_
    | ((first | refine W.regG ?_ | refine WoR.go ?_); generalize e : goR _ _ _ _ _ _ _ _ = r; simp (disch := omega) [hD, hC, hN, hT, show (ds.length ≤ 281474976710656) from by omega, c49, c60, c34] at e; replace e : some _ = _ := e; subst e; (try dsimp only [goW]))
    | refine W.cond_true rfl ?_
    | refine W.cond_false rfl ?_
    | refine W.skip ?_
    | refine W.exit ?_
    | (refine W.loop ?_; try (generalize e : dropped _ _ _ = r; simp (disch := omega) [hD, hC, hN, hT, show (ds.length ≤ 281474976710656) from by omega, c49, c60, c34] at e; subst e; try dsimp only))
    | (refine (p0_bad10 ds hne hl hds hv) _ ?_ _ fun n1 tyn1 hn1 hun1 => ⟨rfl, ?_⟩; (focus (((refine ⟨?_, ?_⟩; (focus ((repeat (first | exact hu.le (by (try dsimp only); omega) | exact hu.set.le (by (try dsimp only); omega) | refine Under.cons (by (try dsimp only); omega) ?_ | exact Under.nil)); done)); (focus ((repeat (first | exact hut.le (by (try dsimp only); omega) | refine UnderT.cons (by (try dsimp only); omega) ?_ | exact UnderT.nil | assumption | exact UnderT.le (by assumption) (by (try dsimp only); omega))); done)))); done)); (try dsimp only at hn1))
    | (refine Wc.mkG 49 c49 (by kernel_rfl) rfl ?_; generalize e : entryC _ _ _ = r; simp (disch := omega) [hD, hC, hN, hT, show (ds.length ≤ 281474976710656) from by omega, c49, c60, c34] at e; subst e)
    | (refine Wc.mkG 60 c60 (by kernel_rfl) rfl ?_; generalize e : entryC _ _ _ = r; simp (disch := omega) [hD, hC, hN, hT, show (ds.length ≤ 281474976710656) from by omega, c49, c60, c34] at e; subst e)
    | (refine Wc.primM (f := 67) (p := pClone) (by kernel_rfl) ?_; generalize e : pClone _ _ = r; simp (disch := omega) [hD, hC, hN, hT, show (ds.length ≤ 281474976710656) from by omega, c49, c60, c34] at e; subst e; (try dsimp only); refine ⟨rfl, ?_⟩)
    | ((first | (refine W.ret ?_; (try simp only [outOf, thenW_ret, roundW]); refine endW.of (.inl rfl) rfl ?_) | refine endW.of (.inr rfl) rfl ?_); generalize e : endsC _ _ _ = r; simp (disch := omega) [hD, hC, hN, hT, show (ds.length ≤ 281474976710656) from by omega, c49, c60, c34] at e; subst e; (try dsimp only [goW]); (first | refine ⟨rfl, ?_⟩ | (refine hk _ _ _ _ ?_ ?_; omega; exact (by repeat (first | exact hut.le (by (try dsimp only); omega) | refine UnderT.cons (by (try dsimp only); omega) ?_ | exact UnderT.nil | assumption | exact UnderT.le (by assumption) (by (try dsimp only); omega)))))))

theorem p0_ok16 (ds : List UInt8) (hne : ds ≠ []) (hl : ds.length < 90000) (hds : ∀ c ∈ ds, okF 16 c) (hv : valF 16 0 ds < 18446744073709551616) : Pu tree.getF 48 [.str ds, .int .i64 16, .int .i64 64] (.tup [.int .u64 (valF 16 0 ds : Nat), .nili]) := by
  intro h hf K hk
  obtain ⟨hu, hut⟩ := hf
  have hD : ∀ m, h.next ≤ m → dropEnts h.ents m = h.ents := fun m hm => dropEnts_under (hu.le hm)
  have hC : ∀ m, h.next ≤ m → dropCells h.ents m = h.ents := fun m hm => dropCells_under (hu.le hm)
  have hN : ∀ q, h.next ≤ q → getEnt h.ents q = none := fun q hq => getEnt_under hu hq
  have hT : ∀ q, h.next ≤ q → lookupN h.tys q = none := fun q hq => lookupN_under hut hq
  have hneb : (ds == []) = false := by simp [hne]
  refine Wc.mkG 48 c48 (by kernel_rfl) rfl ?_
  generalize e : entryC _ _ _ = r
  simp (disch := omega) [hD, hC, hN, hT, hne, hneb, sy_wrapu64, sy_wrapu8, c48] at e
  subst e
  repeat (first
    | refine W.seq ?_
    | refine W.block ?_
    | ((first | refine W.regG ?_ | refine WoR.go ?_); generalize e : goR _ _ _ _ _ _ _ _ = r; simp (disch := omega) [hD, hC, hN, hT, hne, hneb, sy_wrapu64, sy_wrapu8, c48] at e; replace e : some _ = _ := e; subst e; (try dsimp only [goW]))
    | refine W.cond_true rfl ?_
    | refine W.cond_false rfl ?_
    | refine W.skip ?_
    | refine W.exit ?_)
  refine parse_loop ds (by omega) 16 (by omega) (by omega) 1152921504606846976 (fun n => by omega) _ _ _ _ _ _ _ _ _ _ _ _ _ _ _ _ _ _ ds 0 0 rfl (by omega) hds (by omega) _ _ _ _ _ _ _ _ _ _ _ ?_ ?_ ?_
  · exact ⟨by (try dsimp only); first | exact hu.le (by omega) | exact hu.set.le (by omega), UnderT.le (by assumption) (by (try dsimp only); omega)⟩
  · intro n' ty w15 w17 w19 w21 w22 w23 w24 w25 w26 w28 w30 w31 g1 g2 g3
    try dsimp only at g1
    repeat (first
      | refine W.seq ?_
      | refine W.block ?_
      | ((first | refine W.regG ?_ | refine WoR.go ?_); generalize e : goR _ _ _ _ _ _ _ _ = r; simp (disch := omega) [hD, hC, hN, hT, hne, hneb, sy_wrapu64, sy_wrapu8, c48] at e; replace e : some _ = _ := e; subst e; (try dsimp only [goW]))
      | refine W.cond_true rfl ?_
      | refine W.cond_false rfl ?_
      | refine W.skip ?_
      | refine W.exit ?_
      | ((first | (refine W.ret ?_; (try simp only [outOf, thenW_ret, roundW]); refine endW.of (.inl rfl) rfl ?_) | refine endW.of (.inr rfl) rfl ?_); generalize e : endsC _ _ _ = r; simp (disch := omega) [hD, hC, hN, hT, hne, hneb, sy_wrapu64, sy_wrapu8, c48] at e; subst e; (try dsimp only [goW]); (refine hk _ _ ?_ ?_; omega; exact (by repeat (first | exact hut.le (by (try dsimp only); omega) | refine UnderT.cons (by (try dsimp only); omega) ?_ | exact UnderT.nil | assumption | exact UnderT.le (by assumption) (by (try dsimp only); omega))))))
  · intro n' ty w15 w17 w19 w21 w22 w23 w24 w25 w26 w28 w30 w31 g1 g2 g3
    try dsimp only at g1
    exfalso; omega

theorem p_ok16 (ds : List UInt8) (hne : ds ≠ []) (hl : ds.length < 90000) (hds : ∀ c ∈ ds, okF 16 c) (hv : valF 16 0 ds < 18446744073709551616) : Pu tree.getF 34 [.str ds, .int .i64 16, .int .i64 64] (.tup [.int .u64 (valF 16 0 ds : Nat), .nili]) := by
  intro h hf K hk
  obtain ⟨hu, hut⟩ := hf
  have hD : ∀ m, h.next ≤ m → dropEnts h.ents m = h.ents := fun m hm => dropEnts_under (hu.le hm)
  have hC : ∀ m, h.next ≤ m → dropCells h.ents m = h.ents := fun m hm => dropCells_under (hu.le hm)
  have hN : ∀ q, h.next ≤ q → getEnt h.ents q = none := fun q hq => getEnt_under hu hq
  have hT : ∀ q, h.next ≤ q → lookupN h.tys q = none := fun q hq => lookupN_under hut hq

  refine Wc.mkG 34 c34 (by kernel_rfl) rfl ?_
  generalize e : entryC _ _ _ = r
  simp (disch := omega) [hD, hC, hN, hT, c34] at e
  subst e
  repeat (first
    | refine W.seq ?_
    | refine W.block ?_
    | ((first | refine W.regG ?_ | refine WoR.go ?_); generalize e : goR _ _ _ _ _ _ _ _ = r; simp (disch := omega) [hD, hC, hN, hT, c34] at e; replace e : some _ = _ := e; subst e; (try dsimp only [goW]))
    | refine W.cond_true rfl ?_
    | refine W.cond_false rfl ?_
    | refine W.skip ?_
    | refine W.exit ?_
    | (refine W.loop ?_; try (generalize e : dropped _ _ _ = r; simp (disch := omega) [hD, hC, hN, hT, c34] at e; subst e; try dsimp only))
    | (refine (p0_ok16 ds hne hl hds hv) _ ?_ _ fun n1 tyn1 hn1 hun1 => ⟨rfl, ?_⟩; (focus (((refine ⟨?_, ?_⟩; (focus ((repeat (first | exact hu.le (by (try dsimp only); omega) | exact hu.set.le (by (try dsimp only); omega) | refine Under.cons (by (try dsimp only); omega) ?_ | exact Under.nil)); done)); (focus ((repeat (first | exact hut.le (by (try dsimp only); omega) | refine UnderT.cons (by (try dsimp only); omega) ?_ | exact UnderT.nil | assumption | exact UnderT.le (by assumption) (by (try dsimp only); omega))); done)))); done)); (try dsimp only at hn1))
    | ((first | (refine W.ret ?_; (try simp only [outOf, thenW_ret, roundW]); refine endW.of (.inl rfl) rfl ?_) | refine endW.of (.inr rfl) rfl ?_); generalize e : endsC _ _ _ = r; simp (disch := omega) [hD, hC, hN, hT, c34] at e; subst e; (try dsimp only [goW]); (refine hk _ _ ?_ ?_; omega; exact (by repeat (first | exact hut.le (by (try dsimp only); omega) | refine UnderT.cons (by (try dsimp only); omega) ?_ | exact UnderT.nil | assumption | exact UnderT.le (by assumption) (by (try dsimp only); omega))))))

theorem p0_bad16 (ds : List UInt8) (hne : ds ≠ []) (hl : ds.length < 90000) (hds : ∀ c ∈ ds, okF 16 c) (hv : 18446744073709551616 ≤ valF 16 0 ds) : Pu tree.getF 48 [.str ds, .int .i64 16, .int .i64 64] (.tup [.int .u64 18446744073709551615, .ifc 78 (.int .i64 1)]) := by
  intro h hf K hk
  obtain ⟨hu, hut⟩ := hf
  have hD : ∀ m, h.next ≤ m → dropEnts h.ents m = h.ents := fun m hm => dropEnts_under (hu.le hm)
  have hC : ∀ m, h.next ≤ m → dropCells h.ents m = h.ents := fun m hm => dropCells_under (hu.le hm)
  have hN : ∀ q, h.next ≤ q → getEnt h.ents q = none := fun q hq => getEnt_under hu hq
  have hT : ∀ q, h.next ≤ q → lookupN h.tys q = none := fun q hq => lookupN_under hut hq
  have hneb : (ds == []) = false := by simp [hne]
  refine Wc.mkG 48 c48 (by kernel_rfl) rfl ?_
  generalize e : entryC _ _ _ = r
  simp (disch := omega) [hD, hC, hN, hT, hne, hneb, sy_wrapu64, sy_wrapu8, c48] at e
  subst e
  repeat (first
    | refine W.seq ?_
    | refine W.block ?_
    | ((first | refine W.regG ?_ | refine WoR.go ?_); generalize e : goR _ _ _ _ _ _ _ _ = r; simp (disch := omega) [hD, hC, hN, hT, hne, hneb, sy_wrapu64, sy_wrapu8, c48] at e; replace e : some _ = _ := e; subst e; (try dsimp only [goW]))
    | refine W.cond_true rfl ?_
    | refine W.cond_false rfl ?_
    | refine W.skip ?_
    | refine W.exit ?_)
  refine parse_loop ds (by omega) 16 (by omega) (by omega) 1152921504606846976 (fun n => by omega) _ _ _ _ _ _ _ _ _ _ _ _ _ _ _ _ _ _ ds 0 0 rfl (by omega) hds (by omega) _ _ _ _ _ _ _ _ _ _ _ ?_ ?_ ?_
  · exact ⟨by (try dsimp only); first | exact hu.le (by omega) | exact hu.set.le (by omega), UnderT.le (by assumption) (by (try dsimp only); omega)⟩
  · intro n' ty w15 w17 w19 w21 w22 w23 w24 w25 w26 w28 w30 w31 g1 g2 g3
    try dsimp only at g1
    exfalso; omega
  · intro n' ty w15 w17 w19 w21 w22 w23 w24 w25 w26 w28 w30 w31 g1 g2 g3
    try dsimp only at g1
    try simp only [outOf, thenW_ret, roundW]
    refine endW.of (.inl rfl) rfl ?_
    generalize e : endsC _ _ _ = r
    simp (disch := omega) [hD, hC, hN, hT, hne, hneb, sy_wrapu64, sy_wrapu8, c48] at e
    subst e
    (try dsimp only)
    refine hk _ _ ?_ ?_
    · omega
    · exact (by repeat (first | exact hut.le (by (try dsimp only); omega) | refine UnderT.cons (by (try dsimp only); omega) ?_ | exact UnderT.nil | assumption | exact UnderT.le (by assumption) (by (try dsimp only); omega)))

theorem p_bad16 (ds : List UInt8) (hne : ds ≠ []) (hl : ds.length < 90000) (hds : ∀ c ∈ ds, okF 16 c) (hv : 18446744073709551616 ≤ valF 16 0 ds) (h : CHeap) (hf : Fit h) (K : CVal → CHeap → Prop) (hk : ∀ n' ty m d, h.next ≤ n' → UnderT ty n' → K (.tup [.int .u64 18446744073709551615, .ifc 80 (.ptr m d 0)]) ⟨h.ents, n', ty⟩) : Wc tree.getF 34 [.str ds, .int .i64 16, .int .i64 64] h K := by
  obtain ⟨hu, hut⟩ := hf
  have hD : ∀ m, h.next ≤ m → dropEnts h.ents m = h.ents := fun m hm => dropEnts_under (hu.le hm)
  have hC : ∀ m, h.next ≤ m → dropCells h.ents m = h.ents := fun m hm => dropCells_under (hu.le hm)
  have hN : ∀ q, h.next ≤ q → getEnt h.ents q = none := fun q hq => getEnt_under hu hq
  have hT : ∀ q, h.next ≤ q → lookupN h.tys q = none := fun q hq => lookupN_under hut hq
  refine Wc.mkG 34 c34 (by kernel_rfl) rfl ?_
  generalize e : entryC _ _ _ = r
  simp (disch := omega) [hD, hC, hN, hT, c34] at e
  subst e
  repeat (first
    | refine W.seq ?_
    | refine W.block ?_
    | ((first | refine W.regG ?_ | refine WoR.go ?_); generalize e : goR _ _ _ _ _ _ _ _ = r; simp (disch := omega) [hD, hC, hN, hT, show (ds.length ≤ 281474976710656) from by omega, c49, c60, c34] at e; replace e : some _ = _ := e; subst e; (try dsimp only [goW]))
    | refine W.cond_true rfl ?_
    | refine W.cond_false rfl ?_
    | refine W.skip ?_
    | refine W.exit ?_
    | (refine W.loop ?_; try (generalize e : dropped _ _ _ = r; simp (disch := omega) [hD, hC, hN, hT, show (ds.length ≤ 281474976710656) from by omega, c49, c60, c34] at e; subst e; try dsimp only))
    | (refine (p0_bad16 ds hne hl hds hv) _ ?_ _ fun n1 tyn1 hn1 hun1 => ⟨rfl, ?_⟩; (focus (((refine ⟨?_, ?_⟩; (focus ((repeat (first | exact hu.le (by (try dsimp only); omega) | exact hu.set.le (by (try dsimp only); omega) | refine Under.cons (by (try dsimp only); omega) ?_ | exact Under.nil)); done)); (focus ((repeat (first | exact hut.le (by (try dsimp only); omega) | refine UnderT.cons (by (try dsimp only); omega) ?_ | exact UnderT.nil | assumption | exact UnderT.le (by assumption) (by (try dsimp only); omega))); done)))); done)); (try dsimp only at hn1))
    | (refine Wc.mkG 49 c49 (by kernel_rfl) rfl ?_; generalize e : entryC _ _ _ = r; simp (disch := omega) [hD, hC, hN, hT, show (ds.length ≤ 281474976710656) from by omega, c49, c60, c34] at e; subst e)
    | (refine Wc.mkG 60 c60 (by kernel_rfl) rfl ?_; generalize e : entryC _ _ _ = r; simp (disch := omega) [hD, hC, hN, hT, show (ds.length ≤ 281474976710656) from by omega, c49, c60, c34] at e; subst e)
    | (refine Wc.primM (f := 67) (p := pClone) (by kernel_rfl) ?_; generalize e : pClone _ _ = r; simp (disch := omega) [hD, hC, hN, hT, show (ds.length ≤ 281474976710656) from by omega, c49, c60, c34] at e; subst e; (try dsimp only); refine ⟨rfl, ?_⟩)
    | ((first | (refine W.ret ?_; (try simp only [outOf, thenW_ret, roundW]); refine endW.of (.inl rfl) rfl ?_) | refine endW.of (.inr rfl) rfl ?_); generalize e : endsC _ _ _ = r; simp (disch := omega) [hD, hC, hN, hT, show (ds.length ≤ 281474976710656) from by omega, c49, c60, c34] at e; subst e; (try dsimp only [goW]); (first | refine ⟨rfl, ?_⟩ | (refine hk _ _ _ _ ?_ ?_; omega; exact (by repeat (first | exact hut.le (by (try dsimp only); omega) | refine UnderT.cons (by (try dsimp only); omega) ?_ | exact UnderT.nil | assumption | exact UnderT.le (by assumption) (by (try dsimp only); omega)))))))
end Go.Proofs.YthblmflngjofjaaDoor.IrP
