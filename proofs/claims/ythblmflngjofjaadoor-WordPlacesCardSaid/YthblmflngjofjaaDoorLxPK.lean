/- What the functions of the law 'WordPlaces' do: part 12. -/
import Derived.Test.YthblmflngjofjaaDoorLxPJ
namespace Go.Proofs.YthblmflngjofjaaDoor.IrP
open Go Go.CI
open Go.LexF hiding spacesB lettersB
set_option maxRecDepth 100000
set_option linter.unusedVariables false
set_option linter.unusedSimpArgs false
attribute [local irreducible] W Wo Wc WoR
attribute [local simp] goR regOut checkOne swapOne sameAt nthOp CVal.beq beqs CVal.block storesTo entryC evalOps evalOper evalE evalP evalL evalOpnd nth setNth COp.cls COp.isStore CVal.isUndef CVal.whole CVal.cells CHeap.put CHeap.get CHeap.set wantedC getEnt setEnt partOf writeBack evalBin evalInt evalStr blockMost initVar descOf List.take List.drop CVal.lenOf CVal.isStr CVal.bare CVal.strip CVal.flat endsC resultsC oneOrTuple finishC cut fillCells setCells szOf szOf_desc elems bytesOf evalAppend fillElems mkElem setElem List.replicate sy_nbeq sy_neqF sy_leT sy_leF sy_setEnt_setEnt dropped sy_wrap64 dropEnts dropCells sizeMost sy_ibeqF sy_ieqF sy_ileT sy_ileF sy_iltT sy_iltF sy_ltT sy_ltF evalSlc optBound eqVal extL extE keyIs findKV nthKV setKV CHeap.ty lookupN CHeap.note CHeap.tyOk dropAll freezeVal freezeAll freezeFlat pCopyCheck pBString pMakeNoZero pIndexByte pClone pIndex hasPair rowOf byteVals idxFrom hasFront idxSub

theorem head_A (p d : Nat) (s r0 : List UInt8) (c0 : UInt8) (a : Nat) (L : CVal) (hL : L.whole = true) (e to : Int) (hs : s.length < 60000) (hda : s.drop a = c0 :: r0) (hlen : a + (c0 :: r0).length = s.length) (h1 : (decide (2 ≤ (c0 :: r0).length) && ((c0 :: r0).take 2 == [48, 120])) = true) (hk0 : 0 < (fr hexesB ((c0 :: r0).drop 2)).length) (h : CHeap) (hg : getEnt h.ents p = some (rdr s a L e to)) (hf : Fit h) (hp : p < h.next) (K : CVal → CHeap → Prop)
    (hk : ∀ n' ty v2 v3 v6 v8 v9 v10, h.next ≤ n' → UnderT ty n' → W tree.getF numTail ⟨[.ptr p d 0, .str (c0 :: r0), v2, v3, .int .i64 ((2 : Nat) : Int), .str hexesB, v6, .int .i64 16, v8, v9, v10], ⟨h.ents, n', ty⟩, []⟩ (endW c20 h.next K)) : Wc tree.getF 20 [.ptr p d 0] h K := by
  obtain ⟨hu, hut⟩ := hf
  have hD : ∀ m, h.next ≤ m → dropEnts h.ents m = h.ents := fun m hm => dropEnts_under (hu.le hm)
  have hC : ∀ m, h.next ≤ m → dropCells h.ents m = h.ents := fun m hm => dropCells_under (hu.le hm)
  have hN : ∀ q, h.next ≤ q → getEnt h.ents q = none := fun q hq => getEnt_under hu hq
  have hT : ∀ q, h.next ≤ q → lookupN h.tys q = none := fun q hq => lookupN_under hut hq
  have hG : ∀ x, getEnt (setEnt h.ents p x) p = some x := fun x => sy_getEnt_setEnt hg
  have hD2 : ∀ x m, h.next ≤ m → dropEnts (setEnt h.ents p x) m = setEnt h.ents p x := fun x m hm => dropEnts_under (hu.set.le hm)
  have hC2 : ∀ x m, h.next ≤ m → dropCells (setEnt h.ents p x) m = setEnt h.ents p x := fun x m hm => dropCells_under (hu.set.le hm)
  have hN2 : ∀ x q, h.next ≤ q → getEnt (setEnt h.ents p x) q = none := fun x q hq => getEnt_under hu.set hq
  have htk : s.take s.length = s := List.take_length
  have htr : (c0 :: r0).take (r0.length + 1) = c0 :: r0 := List.take_of_length_le (by simp)
  have hl2 : r0.length + 1 = s.length - a := by simp at hlen; omega
  have F0 := front_16 ((c0 :: r0).drop 2) (by simp at hlen ⊢; omega)
  have h22 : 2 ≤ r0.length + 1 := by
    have := h1
    simp only [Bool.and_eq_true, decide_eq_true_eq] at this; simpa using this.1
  obtain ⟨k, hkk⟩ : ∃ k, (fr hexesB ((c0 :: r0).drop 2)).length = k := ⟨_, rfl⟩
  rw [hkk] at F0 hk0
  have hkp : (0 : Int) < (k : Int) := by omega
  rw [show (c0 :: r0).drop 2 = r0.tail by simp] at F0
  refine Wc.mkG 20 c20 (by kernel_rfl) rfl ?_
  generalize e : entryC _ _ _ = r
  simp (disch := omega) [hD, hC, hN, hT, hg, hG, hD2, hC2, hN2, htk, hda, htr, hL, c20] at e
  subst e
  repeat (first
    | (refine hk _ _ _ _ _ _ _ _ ?_ ?_; (focus ((omega); done)); (focus ((repeat (first | exact hut.le (by (try dsimp only); omega) | refine UnderT.cons (by (try dsimp only); omega) ?_ | exact UnderT.nil | assumption | exact UnderT.le (by assumption) (by (try dsimp only); omega))); done)))
    | refine W.seq ?_
    | refine W.block ?_
    | ((first | refine W.regG ?_ | refine WoR.go ?_); generalize e : goR _ _ _ _ _ _ _ _ = r; simp (disch := omega) [hD, hC, hN, hT, hg, hG, hD2, hC2, hN2, htk, hda, htr, hL, c20] at e; replace e : some _ = _ := e; subst e; (try dsimp only [goW]))
    | refine W.cond_true rfl ?_
    | refine W.cond_false rfl ?_
    | refine W.skip ?_
    | refine W.exit ?_
    | (refine prefix_F (c0 :: r0) [48, 120] true ?_ _ ?_ _ fun n1 tyn1 hn1 hun1 => ⟨rfl, ?_⟩; (focus ((exact h1); done)); (focus (((refine ⟨?_, ?_⟩; (focus ((repeat (first | exact hu.le (by (try dsimp only); omega) | exact hu.set.le (by (try dsimp only); omega) | refine Under.cons (by (try dsimp only); omega) ?_ | exact Under.nil)); done)); (focus ((repeat (first | exact hut.le (by (try dsimp only); omega) | refine UnderT.cons (by (try dsimp only); omega) ?_ | exact UnderT.nil | assumption | exact UnderT.le (by assumption) (by (try dsimp only); omega))); done)))); done)); (try dsimp only at hn1))
    | (refine F0 _ ?_ _ fun n3 tyn3 hn3 hun3 => ⟨rfl, ?_⟩; (focus (((refine ⟨?_, ?_⟩; (focus ((repeat (first | exact hu.le (by (try dsimp only); omega) | exact hu.set.le (by (try dsimp only); omega) | refine Under.cons (by (try dsimp only); omega) ?_ | exact Under.nil)); done)); (focus ((repeat (first | exact hut.le (by (try dsimp only); omega) | refine UnderT.cons (by (try dsimp only); omega) ?_ | exact UnderT.nil | assumption | exact UnderT.le (by assumption) (by (try dsimp only); omega))); done)))); done)); (try dsimp only at hn3)))

theorem head_B (p d : Nat) (s r0 : List UInt8) (c0 : UInt8) (a : Nat) (L : CVal) (hL : L.whole = true) (e to : Int) (hs : s.length < 60000) (hda : s.drop a = c0 :: r0) (hlen : a + (c0 :: r0).length = s.length) (h1 : (decide (2 ≤ (c0 :: r0).length) && ((c0 :: r0).take 2 == [48, 120])) = false) (h2 : (decide (2 ≤ (c0 :: r0).length) && ((c0 :: r0).take 2 == [48, 88])) = true) (hk0 : 0 < (fr hexesB ((c0 :: r0).drop 2)).length) (h : CHeap) (hg : getEnt h.ents p = some (rdr s a L e to)) (hf : Fit h) (hp : p < h.next) (K : CVal → CHeap → Prop)
    (hk : ∀ n' ty v2 v3 v6 v8 v9 v10, h.next ≤ n' → UnderT ty n' → W tree.getF numTail ⟨[.ptr p d 0, .str (c0 :: r0), v2, v3, .int .i64 ((2 : Nat) : Int), .str hexesB, v6, .int .i64 16, v8, v9, v10], ⟨h.ents, n', ty⟩, []⟩ (endW c20 h.next K)) : Wc tree.getF 20 [.ptr p d 0] h K := by
  obtain ⟨hu, hut⟩ := hf
  have hD : ∀ m, h.next ≤ m → dropEnts h.ents m = h.ents := fun m hm => dropEnts_under (hu.le hm)
  have hC : ∀ m, h.next ≤ m → dropCells h.ents m = h.ents := fun m hm => dropCells_under (hu.le hm)
  have hN : ∀ q, h.next ≤ q → getEnt h.ents q = none := fun q hq => getEnt_under hu hq
  have hT : ∀ q, h.next ≤ q → lookupN h.tys q = none := fun q hq => lookupN_under hut hq
  have hG : ∀ x, getEnt (setEnt h.ents p x) p = some x := fun x => sy_getEnt_setEnt hg
  have hD2 : ∀ x m, h.next ≤ m → dropEnts (setEnt h.ents p x) m = setEnt h.ents p x := fun x m hm => dropEnts_under (hu.set.le hm)
  have hC2 : ∀ x m, h.next ≤ m → dropCells (setEnt h.ents p x) m = setEnt h.ents p x := fun x m hm => dropCells_under (hu.set.le hm)
  have hN2 : ∀ x q, h.next ≤ q → getEnt (setEnt h.ents p x) q = none := fun x q hq => getEnt_under hu.set hq
  have htk : s.take s.length = s := List.take_length
  have htr : (c0 :: r0).take (r0.length + 1) = c0 :: r0 := List.take_of_length_le (by simp)
  have hl2 : r0.length + 1 = s.length - a := by simp at hlen; omega
  have F0 := front_16 ((c0 :: r0).drop 2) (by simp at hlen ⊢; omega)
  have h22 : 2 ≤ r0.length + 1 := by
    have := h2
    simp only [Bool.and_eq_true, decide_eq_true_eq] at this; simpa using this.1
  obtain ⟨k, hkk⟩ : ∃ k, (fr hexesB ((c0 :: r0).drop 2)).length = k := ⟨_, rfl⟩
  rw [hkk] at F0 hk0
  have hkp : (0 : Int) < (k : Int) := by omega
  rw [show (c0 :: r0).drop 2 = r0.tail by simp] at F0
  refine Wc.mkG 20 c20 (by kernel_rfl) rfl ?_
  generalize e : entryC _ _ _ = r
  simp (disch := omega) [hD, hC, hN, hT, hg, hG, hD2, hC2, hN2, htk, hda, htr, hL, c20] at e
  subst e
  repeat (first
    | (refine hk _ _ _ _ _ _ _ _ ?_ ?_; (focus ((omega); done)); (focus ((repeat (first | exact hut.le (by (try dsimp only); omega) | refine UnderT.cons (by (try dsimp only); omega) ?_ | exact UnderT.nil | assumption | exact UnderT.le (by assumption) (by (try dsimp only); omega))); done)))
    | refine W.seq ?_
    | refine W.block ?_
    | ((first | refine W.regG ?_ | refine WoR.go ?_); generalize e : goR _ _ _ _ _ _ _ _ = r; simp (disch := omega) [hD, hC, hN, hT, hg, hG, hD2, hC2, hN2, htk, hda, htr, hL, c20] at e; replace e : some _ = _ := e; subst e; (try dsimp only [goW]))
    | refine W.cond_true rfl ?_
    | refine W.cond_false rfl ?_
    | refine W.skip ?_
    | refine W.exit ?_
    | (refine prefix_F (c0 :: r0) [48, 120] false ?_ _ ?_ _ fun n1 tyn1 hn1 hun1 => ⟨rfl, ?_⟩; (focus ((exact h1); done)); (focus (((refine ⟨?_, ?_⟩; (focus ((repeat (first | exact hu.le (by (try dsimp only); omega) | exact hu.set.le (by (try dsimp only); omega) | refine Under.cons (by (try dsimp only); omega) ?_ | exact Under.nil)); done)); (focus ((repeat (first | exact hut.le (by (try dsimp only); omega) | refine UnderT.cons (by (try dsimp only); omega) ?_ | exact UnderT.nil | assumption | exact UnderT.le (by assumption) (by (try dsimp only); omega))); done)))); done)); (try dsimp only at hn1))
    | (refine prefix_F (c0 :: r0) [48, 88] true ?_ _ ?_ _ fun n2 tyn2 hn2 hun2 => ⟨rfl, ?_⟩; (focus ((exact h2); done)); (focus (((refine ⟨?_, ?_⟩; (focus ((repeat (first | exact hu.le (by (try dsimp only); omega) | exact hu.set.le (by (try dsimp only); omega) | refine Under.cons (by (try dsimp only); omega) ?_ | exact Under.nil)); done)); (focus ((repeat (first | exact hut.le (by (try dsimp only); omega) | refine UnderT.cons (by (try dsimp only); omega) ?_ | exact UnderT.nil | assumption | exact UnderT.le (by assumption) (by (try dsimp only); omega))); done)))); done)); (try dsimp only at hn2))
    | (refine F0 _ ?_ _ fun n3 tyn3 hn3 hun3 => ⟨rfl, ?_⟩; (focus (((refine ⟨?_, ?_⟩; (focus ((repeat (first | exact hu.le (by (try dsimp only); omega) | exact hu.set.le (by (try dsimp only); omega) | refine Under.cons (by (try dsimp only); omega) ?_ | exact Under.nil)); done)); (focus ((repeat (first | exact hut.le (by (try dsimp only); omega) | refine UnderT.cons (by (try dsimp only); omega) ?_ | exact UnderT.nil | assumption | exact UnderT.le (by assumption) (by (try dsimp only); omega))); done)))); done)); (try dsimp only at hn3)))

theorem head_C (p d : Nat) (s r0 : List UInt8) (c0 : UInt8) (a : Nat) (L : CVal) (hL : L.whole = true) (e to : Int) (hs : s.length < 60000) (hda : s.drop a = c0 :: r0) (hlen : a + (c0 :: r0).length = s.length) (h1 : (decide (2 ≤ (c0 :: r0).length) && ((c0 :: r0).take 2 == [48, 120])) = true) (hk0 : (fr hexesB ((c0 :: r0).drop 2)).length = 0) (hc0 : c0 = 48) (h : CHeap) (hg : getEnt h.ents p = some (rdr s a L e to)) (hf : Fit h) (hp : p < h.next) (K : CVal → CHeap → Prop)
    (hk : ∀ n' ty v2 v3 v6 v8 v9 v10, h.next ≤ n' → UnderT ty n' → W tree.getF numTail ⟨[.ptr p d 0, .str (c0 :: r0), v2, v3, .int .i64 ((0 : Nat) : Int), .str D8, v6, .int .i64 8, v8, v9, v10], ⟨h.ents, n', ty⟩, []⟩ (endW c20 h.next K)) : Wc tree.getF 20 [.ptr p d 0] h K := by
  obtain ⟨hu, hut⟩ := hf
  have hD : ∀ m, h.next ≤ m → dropEnts h.ents m = h.ents := fun m hm => dropEnts_under (hu.le hm)
  have hC : ∀ m, h.next ≤ m → dropCells h.ents m = h.ents := fun m hm => dropCells_under (hu.le hm)
  have hN : ∀ q, h.next ≤ q → getEnt h.ents q = none := fun q hq => getEnt_under hu hq
  have hT : ∀ q, h.next ≤ q → lookupN h.tys q = none := fun q hq => lookupN_under hut hq
  have hG : ∀ x, getEnt (setEnt h.ents p x) p = some x := fun x => sy_getEnt_setEnt hg
  have hD2 : ∀ x m, h.next ≤ m → dropEnts (setEnt h.ents p x) m = setEnt h.ents p x := fun x m hm => dropEnts_under (hu.set.le hm)
  have hC2 : ∀ x m, h.next ≤ m → dropCells (setEnt h.ents p x) m = setEnt h.ents p x := fun x m hm => dropCells_under (hu.set.le hm)
  have hN2 : ∀ x q, h.next ≤ q → getEnt (setEnt h.ents p x) q = none := fun x q hq => getEnt_under hu.set hq
  have htk : s.take s.length = s := List.take_length
  have htr : (c0 :: r0).take (r0.length + 1) = c0 :: r0 := List.take_of_length_le (by simp)
  have hl2 : r0.length + 1 = s.length - a := by simp at hlen; omega
  have F0 := front_16 ((c0 :: r0).drop 2) (by simp at hlen ⊢; omega)
  have h22 : 2 ≤ r0.length + 1 := by
    have := h1
    simp only [Bool.and_eq_true, decide_eq_true_eq] at this; simpa using this.1
  rw [hk0] at F0
  rw [show (c0 :: r0).drop 2 = r0.tail by simp] at F0
  have hc1 : (c0.toNat : Int) = 48 := by rw [hc0]; rfl
  refine Wc.mkG 20 c20 (by kernel_rfl) rfl ?_
  generalize e : entryC _ _ _ = r
  simp (disch := omega) [hD, hC, hN, hT, hg, hG, hD2, hC2, hN2, htk, hda, htr, hL, hc1, c20] at e
  subst e
  repeat (first
    | (refine hk _ _ _ _ _ _ _ _ ?_ ?_; (focus ((omega); done)); (focus ((repeat (first | exact hut.le (by (try dsimp only); omega) | refine UnderT.cons (by (try dsimp only); omega) ?_ | exact UnderT.nil | assumption | exact UnderT.le (by assumption) (by (try dsimp only); omega))); done)))
    | refine W.seq ?_
    | refine W.block ?_
    | ((first | refine W.regG ?_ | refine WoR.go ?_); generalize e : goR _ _ _ _ _ _ _ _ = r; simp (disch := omega) [hD, hC, hN, hT, hg, hG, hD2, hC2, hN2, htk, hda, htr, hL, hc1, c20] at e; replace e : some _ = _ := e; subst e; (try dsimp only [goW]))
    | refine W.cond_true rfl ?_
    | refine W.cond_false rfl ?_
    | refine W.skip ?_
    | refine W.exit ?_
    | (refine prefix_F (c0 :: r0) [48, 120] true ?_ _ ?_ _ fun n1 tyn1 hn1 hun1 => ⟨rfl, ?_⟩; (focus ((exact h1); done)); (focus (((refine ⟨?_, ?_⟩; (focus ((repeat (first | exact hu.le (by (try dsimp only); omega) | exact hu.set.le (by (try dsimp only); omega) | refine Under.cons (by (try dsimp only); omega) ?_ | exact Under.nil)); done)); (focus ((repeat (first | exact hut.le (by (try dsimp only); omega) | refine UnderT.cons (by (try dsimp only); omega) ?_ | exact UnderT.nil | assumption | exact UnderT.le (by assumption) (by (try dsimp only); omega))); done)))); done)); (try dsimp only at hn1))
    | (refine F0 _ ?_ _ fun n3 tyn3 hn3 hun3 => ⟨rfl, ?_⟩; (focus (((refine ⟨?_, ?_⟩; (focus ((repeat (first | exact hu.le (by (try dsimp only); omega) | exact hu.set.le (by (try dsimp only); omega) | refine Under.cons (by (try dsimp only); omega) ?_ | exact Under.nil)); done)); (focus ((repeat (first | exact hut.le (by (try dsimp only); omega) | refine UnderT.cons (by (try dsimp only); omega) ?_ | exact UnderT.nil | assumption | exact UnderT.le (by assumption) (by (try dsimp only); omega))); done)))); done)); (try dsimp only at hn3)))

theorem head_D (p d : Nat) (s r0 : List UInt8) (c0 : UInt8) (a : Nat) (L : CVal) (hL : L.whole = true) (e to : Int) (hs : s.length < 60000) (hda : s.drop a = c0 :: r0) (hlen : a + (c0 :: r0).length = s.length) (h1 : (decide (2 ≤ (c0 :: r0).length) && ((c0 :: r0).take 2 == [48, 120])) = false) (h2 : (decide (2 ≤ (c0 :: r0).length) && ((c0 :: r0).take 2 == [48, 88])) = true) (hk0 : (fr hexesB ((c0 :: r0).drop 2)).length = 0) (hc0 : c0 = 48) (h : CHeap) (hg : getEnt h.ents p = some (rdr s a L e to)) (hf : Fit h) (hp : p < h.next) (K : CVal → CHeap → Prop)
    (hk : ∀ n' ty v2 v3 v6 v8 v9 v10, h.next ≤ n' → UnderT ty n' → W tree.getF numTail ⟨[.ptr p d 0, .str (c0 :: r0), v2, v3, .int .i64 ((0 : Nat) : Int), .str D8, v6, .int .i64 8, v8, v9, v10], ⟨h.ents, n', ty⟩, []⟩ (endW c20 h.next K)) : Wc tree.getF 20 [.ptr p d 0] h K := by
  obtain ⟨hu, hut⟩ := hf
  have hD : ∀ m, h.next ≤ m → dropEnts h.ents m = h.ents := fun m hm => dropEnts_under (hu.le hm)
  have hC : ∀ m, h.next ≤ m → dropCells h.ents m = h.ents := fun m hm => dropCells_under (hu.le hm)
  have hN : ∀ q, h.next ≤ q → getEnt h.ents q = none := fun q hq => getEnt_under hu hq
  have hT : ∀ q, h.next ≤ q → lookupN h.tys q = none := fun q hq => lookupN_under hut hq
  have hG : ∀ x, getEnt (setEnt h.ents p x) p = some x := fun x => sy_getEnt_setEnt hg
  have hD2 : ∀ x m, h.next ≤ m → dropEnts (setEnt h.ents p x) m = setEnt h.ents p x := fun x m hm => dropEnts_under (hu.set.le hm)
  have hC2 : ∀ x m, h.next ≤ m → dropCells (setEnt h.ents p x) m = setEnt h.ents p x := fun x m hm => dropCells_under (hu.set.le hm)
  have hN2 : ∀ x q, h.next ≤ q → getEnt (setEnt h.ents p x) q = none := fun x q hq => getEnt_under hu.set hq
  have htk : s.take s.length = s := List.take_length
  have htr : (c0 :: r0).take (r0.length + 1) = c0 :: r0 := List.take_of_length_le (by simp)
  have hl2 : r0.length + 1 = s.length - a := by simp at hlen; omega
  have F0 := front_16 ((c0 :: r0).drop 2) (by simp at hlen ⊢; omega)
  have h22 : 2 ≤ r0.length + 1 := by
    have := h2
    simp only [Bool.and_eq_true, decide_eq_true_eq] at this; simpa using this.1
  rw [hk0] at F0
  rw [show (c0 :: r0).drop 2 = r0.tail by simp] at F0
  have hc1 : (c0.toNat : Int) = 48 := by rw [hc0]; rfl
  refine Wc.mkG 20 c20 (by kernel_rfl) rfl ?_
  generalize e : entryC _ _ _ = r
  simp (disch := omega) [hD, hC, hN, hT, hg, hG, hD2, hC2, hN2, htk, hda, htr, hL, hc1, c20] at e
  subst e
  repeat (first
    | (refine hk _ _ _ _ _ _ _ _ ?_ ?_; (focus ((omega); done)); (focus ((repeat (first | exact hut.le (by (try dsimp only); omega) | refine UnderT.cons (by (try dsimp only); omega) ?_ | exact UnderT.nil | assumption | exact UnderT.le (by assumption) (by (try dsimp only); omega))); done)))
    | refine W.seq ?_
    | refine W.block ?_
    | ((first | refine W.regG ?_ | refine WoR.go ?_); generalize e : goR _ _ _ _ _ _ _ _ = r; simp (disch := omega) [hD, hC, hN, hT, hg, hG, hD2, hC2, hN2, htk, hda, htr, hL, hc1, c20] at e; replace e : some _ = _ := e; subst e; (try dsimp only [goW]))
    | refine W.cond_true rfl ?_
    | refine W.cond_false rfl ?_
    | refine W.skip ?_
    | refine W.exit ?_
    | (refine prefix_F (c0 :: r0) [48, 120] false ?_ _ ?_ _ fun n1 tyn1 hn1 hun1 => ⟨rfl, ?_⟩; (focus ((exact h1); done)); (focus (((refine ⟨?_, ?_⟩; (focus ((repeat (first | exact hu.le (by (try dsimp only); omega) | exact hu.set.le (by (try dsimp only); omega) | refine Under.cons (by (try dsimp only); omega) ?_ | exact Under.nil)); done)); (focus ((repeat (first | exact hut.le (by (try dsimp only); omega) | refine UnderT.cons (by (try dsimp only); omega) ?_ | exact UnderT.nil | assumption | exact UnderT.le (by assumption) (by (try dsimp only); omega))); done)))); done)); (try dsimp only at hn1))
    | (refine prefix_F (c0 :: r0) [48, 88] true ?_ _ ?_ _ fun n2 tyn2 hn2 hun2 => ⟨rfl, ?_⟩; (focus ((exact h2); done)); (focus (((refine ⟨?_, ?_⟩; (focus ((repeat (first | exact hu.le (by (try dsimp only); omega) | exact hu.set.le (by (try dsimp only); omega) | refine Under.cons (by (try dsimp only); omega) ?_ | exact Under.nil)); done)); (focus ((repeat (first | exact hut.le (by (try dsimp only); omega) | refine UnderT.cons (by (try dsimp only); omega) ?_ | exact UnderT.nil | assumption | exact UnderT.le (by assumption) (by (try dsimp only); omega))); done)))); done)); (try dsimp only at hn2))
    | (refine F0 _ ?_ _ fun n3 tyn3 hn3 hun3 => ⟨rfl, ?_⟩; (focus (((refine ⟨?_, ?_⟩; (focus ((repeat (first | exact hu.le (by (try dsimp only); omega) | exact hu.set.le (by (try dsimp only); omega) | refine Under.cons (by (try dsimp only); omega) ?_ | exact Under.nil)); done)); (focus ((repeat (first | exact hut.le (by (try dsimp only); omega) | refine UnderT.cons (by (try dsimp only); omega) ?_ | exact UnderT.nil | assumption | exact UnderT.le (by assumption) (by (try dsimp only); omega))); done)))); done)); (try dsimp only at hn3)))

theorem head_E (p d : Nat) (s r0 : List UInt8) (c0 : UInt8) (a : Nat) (L : CVal) (hL : L.whole = true) (e to : Int) (hs : s.length < 60000) (hda : s.drop a = c0 :: r0) (hlen : a + (c0 :: r0).length = s.length) (h1 : (decide (2 ≤ (c0 :: r0).length) && ((c0 :: r0).take 2 == [48, 120])) = false) (h2 : (decide (2 ≤ (c0 :: r0).length) && ((c0 :: r0).take 2 == [48, 88])) = false) (hc0 : c0 = 48) (h : CHeap) (hg : getEnt h.ents p = some (rdr s a L e to)) (hf : Fit h) (hp : p < h.next) (K : CVal → CHeap → Prop)
    (hk : ∀ n' ty v2 v3 v6 v8 v9 v10, h.next ≤ n' → UnderT ty n' → W tree.getF numTail ⟨[.ptr p d 0, .str (c0 :: r0), v2, v3, .int .i64 ((0 : Nat) : Int), .str D8, v6, .int .i64 8, v8, v9, v10], ⟨h.ents, n', ty⟩, []⟩ (endW c20 h.next K)) : Wc tree.getF 20 [.ptr p d 0] h K := by
  obtain ⟨hu, hut⟩ := hf
  have hD : ∀ m, h.next ≤ m → dropEnts h.ents m = h.ents := fun m hm => dropEnts_under (hu.le hm)
  have hC : ∀ m, h.next ≤ m → dropCells h.ents m = h.ents := fun m hm => dropCells_under (hu.le hm)
  have hN : ∀ q, h.next ≤ q → getEnt h.ents q = none := fun q hq => getEnt_under hu hq
  have hT : ∀ q, h.next ≤ q → lookupN h.tys q = none := fun q hq => lookupN_under hut hq
  have hG : ∀ x, getEnt (setEnt h.ents p x) p = some x := fun x => sy_getEnt_setEnt hg
  have hD2 : ∀ x m, h.next ≤ m → dropEnts (setEnt h.ents p x) m = setEnt h.ents p x := fun x m hm => dropEnts_under (hu.set.le hm)
  have hC2 : ∀ x m, h.next ≤ m → dropCells (setEnt h.ents p x) m = setEnt h.ents p x := fun x m hm => dropCells_under (hu.set.le hm)
  have hN2 : ∀ x q, h.next ≤ q → getEnt (setEnt h.ents p x) q = none := fun x q hq => getEnt_under hu.set hq
  have htk : s.take s.length = s := List.take_length
  have htr : (c0 :: r0).take (r0.length + 1) = c0 :: r0 := List.take_of_length_le (by simp)
  have hl2 : r0.length + 1 = s.length - a := by simp at hlen; omega
  have hc1 : (c0.toNat : Int) = 48 := by rw [hc0]; rfl
  refine Wc.mkG 20 c20 (by kernel_rfl) rfl ?_
  generalize e : entryC _ _ _ = r
  simp (disch := omega) [hD, hC, hN, hT, hg, hG, hD2, hC2, hN2, htk, hda, htr, hL, hc1, c20] at e
  subst e
  repeat (first
    | (refine hk _ _ _ _ _ _ _ _ ?_ ?_; (focus ((omega); done)); (focus ((repeat (first | exact hut.le (by (try dsimp only); omega) | refine UnderT.cons (by (try dsimp only); omega) ?_ | exact UnderT.nil | assumption | exact UnderT.le (by assumption) (by (try dsimp only); omega))); done)))
    | refine W.seq ?_
    | refine W.block ?_
    | ((first | refine W.regG ?_ | refine WoR.go ?_); generalize e : goR _ _ _ _ _ _ _ _ = r; simp (disch := omega) [hD, hC, hN, hT, hg, hG, hD2, hC2, hN2, htk, hda, htr, hL, hc1, c20] at e; replace e : some _ = _ := e; subst e; (try dsimp only [goW]))
    | refine W.cond_true rfl ?_
    | refine W.cond_false rfl ?_
    | refine W.skip ?_
    | refine W.exit ?_
    | (refine prefix_F (c0 :: r0) [48, 120] false ?_ _ ?_ _ fun n1 tyn1 hn1 hun1 => ⟨rfl, ?_⟩; (focus ((exact h1); done)); (focus (((refine ⟨?_, ?_⟩; (focus ((repeat (first | exact hu.le (by (try dsimp only); omega) | exact hu.set.le (by (try dsimp only); omega) | refine Under.cons (by (try dsimp only); omega) ?_ | exact Under.nil)); done)); (focus ((repeat (first | exact hut.le (by (try dsimp only); omega) | refine UnderT.cons (by (try dsimp only); omega) ?_ | exact UnderT.nil | assumption | exact UnderT.le (by assumption) (by (try dsimp only); omega))); done)))); done)); (try dsimp only at hn1))
    | (refine prefix_F (c0 :: r0) [48, 88] false ?_ _ ?_ _ fun n2 tyn2 hn2 hun2 => ⟨rfl, ?_⟩; (focus ((exact h2); done)); (focus (((refine ⟨?_, ?_⟩; (focus ((repeat (first | exact hu.le (by (try dsimp only); omega) | exact hu.set.le (by (try dsimp only); omega) | refine Under.cons (by (try dsimp only); omega) ?_ | exact Under.nil)); done)); (focus ((repeat (first | exact hut.le (by (try dsimp only); omega) | refine UnderT.cons (by (try dsimp only); omega) ?_ | exact UnderT.nil | assumption | exact UnderT.le (by assumption) (by (try dsimp only); omega))); done)))); done)); (try dsimp only at hn2)))

theorem head_F (p d : Nat) (s r0 : List UInt8) (c0 : UInt8) (a : Nat) (L : CVal) (hL : L.whole = true) (e to : Int) (hs : s.length < 60000) (hda : s.drop a = c0 :: r0) (hlen : a + (c0 :: r0).length = s.length) (h1 : (decide (2 ≤ (c0 :: r0).length) && ((c0 :: r0).take 2 == [48, 120])) = false) (h2 : (decide (2 ≤ (c0 :: r0).length) && ((c0 :: r0).take 2 == [48, 88])) = false) (hc0 : c0 ≠ 48) (h : CHeap) (hg : getEnt h.ents p = some (rdr s a L e to)) (hf : Fit h) (hp : p < h.next) (K : CVal → CHeap → Prop)
    (hk : ∀ n' ty v2 v3 v6 v8 v9 v10, h.next ≤ n' → UnderT ty n' → W tree.getF numTail ⟨[.ptr p d 0, .str (c0 :: r0), v2, v3, .int .i64 ((0 : Nat) : Int), .str D10, v6, .int .i64 10, v8, v9, v10], ⟨h.ents, n', ty⟩, []⟩ (endW c20 h.next K)) : Wc tree.getF 20 [.ptr p d 0] h K := by
  obtain ⟨hu, hut⟩ := hf
  have hD : ∀ m, h.next ≤ m → dropEnts h.ents m = h.ents := fun m hm => dropEnts_under (hu.le hm)
  have hC : ∀ m, h.next ≤ m → dropCells h.ents m = h.ents := fun m hm => dropCells_under (hu.le hm)
  have hN : ∀ q, h.next ≤ q → getEnt h.ents q = none := fun q hq => getEnt_under hu hq
  have hT : ∀ q, h.next ≤ q → lookupN h.tys q = none := fun q hq => lookupN_under hut hq
  have hG : ∀ x, getEnt (setEnt h.ents p x) p = some x := fun x => sy_getEnt_setEnt hg
  have hD2 : ∀ x m, h.next ≤ m → dropEnts (setEnt h.ents p x) m = setEnt h.ents p x := fun x m hm => dropEnts_under (hu.set.le hm)
  have hC2 : ∀ x m, h.next ≤ m → dropCells (setEnt h.ents p x) m = setEnt h.ents p x := fun x m hm => dropCells_under (hu.set.le hm)
  have hN2 : ∀ x q, h.next ≤ q → getEnt (setEnt h.ents p x) q = none := fun x q hq => getEnt_under hu.set hq
  have htk : s.take s.length = s := List.take_length
  have htr : (c0 :: r0).take (r0.length + 1) = c0 :: r0 := List.take_of_length_le (by simp)
  have hl2 : r0.length + 1 = s.length - a := by simp at hlen; omega
  have hc1 : ¬ ((c0.toNat : Int) = 48) := by
    intro e
    apply hc0
    apply UInt8.toNat_inj.1
    have h48 : c0.toNat = 48 := by omega
    rw [h48]; rfl
  refine Wc.mkG 20 c20 (by kernel_rfl) rfl ?_
  generalize e : entryC _ _ _ = r
  simp (disch := omega) [hD, hC, hN, hT, hg, hG, hD2, hC2, hN2, htk, hda, htr, hL, hc1, c20] at e
  subst e
  repeat (first
    | (refine hk _ _ _ _ _ _ _ _ ?_ ?_; (focus ((omega); done)); (focus ((repeat (first | exact hut.le (by (try dsimp only); omega) | refine UnderT.cons (by (try dsimp only); omega) ?_ | exact UnderT.nil | assumption | exact UnderT.le (by assumption) (by (try dsimp only); omega))); done)))
    | refine W.seq ?_
    | refine W.block ?_
    | ((first | refine W.regG ?_ | refine WoR.go ?_); generalize e : goR _ _ _ _ _ _ _ _ = r; simp (disch := omega) [hD, hC, hN, hT, hg, hG, hD2, hC2, hN2, htk, hda, htr, hL, hc1, c20] at e; replace e : some _ = _ := e; subst e; (try dsimp only [goW]))
    | refine W.cond_true rfl ?_
    | refine W.cond_false rfl ?_
    | refine W.skip ?_
    | refine W.exit ?_
    | (refine prefix_F (c0 :: r0) [48, 120] false ?_ _ ?_ _ fun n1 tyn1 hn1 hun1 => ⟨rfl, ?_⟩; (focus ((exact h1); done)); (focus (((refine ⟨?_, ?_⟩; (focus ((repeat (first | exact hu.le (by (try dsimp only); omega) | exact hu.set.le (by (try dsimp only); omega) | refine Under.cons (by (try dsimp only); omega) ?_ | exact Under.nil)); done)); (focus ((repeat (first | exact hut.le (by (try dsimp only); omega) | refine UnderT.cons (by (try dsimp only); omega) ?_ | exact UnderT.nil | assumption | exact UnderT.le (by assumption) (by (try dsimp only); omega))); done)))); done)); (try dsimp only at hn1))
    | (refine prefix_F (c0 :: r0) [48, 88] false ?_ _ ?_ _ fun n2 tyn2 hn2 hun2 => ⟨rfl, ?_⟩; (focus ((exact h2); done)); (focus (((refine ⟨?_, ?_⟩; (focus ((repeat (first | exact hu.le (by (try dsimp only); omega) | exact hu.set.le (by (try dsimp only); omega) | refine Under.cons (by (try dsimp only); omega) ?_ | exact Under.nil)); done)); (focus ((repeat (first | exact hut.le (by (try dsimp only); omega) | refine UnderT.cons (by (try dsimp only); omega) ?_ | exact UnderT.nil | assumption | exact UnderT.le (by assumption) (by (try dsimp only); omega))); done)))); done)); (try dsimp only at hn2)))
end Go.Proofs.YthblmflngjofjaaDoor.IrP
