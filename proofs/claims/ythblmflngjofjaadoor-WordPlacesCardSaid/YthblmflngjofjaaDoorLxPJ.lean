/- What the functions of the law 'WordPlaces' do: part 11. -/
import Derived.Test.YthblmflngjofjaaDoorLxPI
namespace Go.Proofs.YthblmflngjofjaaDoor.IrP
open Go Go.CI
open Go.LexF hiding spacesB lettersB
set_option maxRecDepth 100000
set_option linter.unusedVariables false
set_option linter.unusedSimpArgs false
attribute [local irreducible] W Wo Wc WoR
attribute [local simp] goR regOut checkOne swapOne sameAt nthOp CVal.beq beqs CVal.block storesTo entryC evalOps evalOper evalE evalP evalL evalOpnd nth setNth COp.cls COp.isStore CVal.isUndef CVal.whole CVal.cells CHeap.put CHeap.get CHeap.set wantedC getEnt setEnt partOf writeBack evalBin evalInt evalStr blockMost initVar descOf List.take List.drop CVal.lenOf CVal.isStr CVal.bare CVal.strip CVal.flat endsC resultsC oneOrTuple finishC cut fillCells setCells szOf szOf_desc elems bytesOf evalAppend fillElems mkElem setElem List.replicate sy_nbeq sy_neqF sy_leT sy_leF sy_setEnt_setEnt dropped sy_wrap64 dropEnts dropCells sizeMost sy_ibeqF sy_ieqF sy_ileT sy_ileF sy_iltT sy_iltF sy_ltT sy_ltF evalSlc optBound eqVal extL extE keyIs findKV nthKV setKV CHeap.ty lookupN CHeap.note CHeap.tyOk dropAll freezeVal freezeAll freezeFlat pCopyCheck pBString pMakeNoZero pIndexByte pClone pIndex hasPair rowOf byteVals idxFrom hasFront idxSub

abbrev numTail : CCode := (.seq (.region [⟨.mv (.var 4), none⟩, ⟨.mv (.var 1), none⟩, ⟨.mv (.var 4), none⟩, ⟨.slc 0 (.loc 1) (some (.loc 0)) none, none⟩, ⟨.mv (.var 5), none⟩, ⟨.call false 13 [(.loc 1), (.loc 0)], none⟩, ⟨.bin .add (.loc 5) (.loc 0), none⟩, ⟨.mv (.loc 0), none⟩] [(6, 7)] [] []) (.seq (.region [⟨.mv (.var 1), none⟩, ⟨.mv (.var 4), none⟩, ⟨.mv (.var 6), none⟩, ⟨.slc 0 (.loc 2) (some (.loc 1)) (some (.loc 0)), none⟩, ⟨.mv (.var 7), none⟩, ⟨.call false 34 [(.loc 1), (.loc 0), (.const (.int .i64 64))], none⟩, ⟨.mv (.loc 0), none⟩, ⟨.extract 0 (.loc 0), none⟩, ⟨.extract 1 (.loc 1), none⟩, ⟨.mv (.loc 1), none⟩, ⟨.mv (.loc 1), none⟩] [(8, 10), (10, 9)] [] []) (.seq (.region [⟨.mv (.var 0), none⟩, ⟨.mv (.var 8), none⟩, ⟨.eqv .ifc true (.loc 0) (.const .nili), none⟩, ⟨.mv (.var 0), none⟩, ⟨.nilck (.loc 0), none⟩, ⟨.fieldAddr 1 (.loc 0), none⟩, ⟨.load none (.loc 0), none⟩, ⟨.call false 17 [(.loc 6), (.loc 4), (.const (.int .i64 3)), (.loc 0)], none⟩] [] [] []) (.seq (.seq (.region [⟨.mv (.var 6), none⟩, ⟨.mv (.var 1), none⟩, ⟨.len true (.loc 0), none⟩, ⟨.bin .lss (.loc 2) (.loc 0), none⟩] [(9, 3)] [] []) (.cond (.var 9) (.region [⟨.mv (.var 0), none⟩, ⟨.mv (.var 1), none⟩, ⟨.mv (.var 6), none⟩, ⟨.mv (.var 6), none⟩, ⟨.bin .add (.loc 0) (.const (.int .i64 1)), none⟩, ⟨.slc 0 (.loc 3) (some (.loc 2)) (some (.loc 0)), none⟩, ⟨.call false 19 [(.const (.str [65, 66, 67, 68, 69, 70, 71, 72, 73, 74, 75, 76, 77, 78, 79, 80, 81, 82, 83, 84, 85, 86, 87, 88, 89, 90, 97, 98, 99, 100, 101, 102, 103, 104, 105, 106, 107, 108, 109, 110, 111, 112, 113, 114, 115, 116, 117, 118, 119, 120, 121, 122, 95, 48, 49, 50, 51, 52, 53, 54, 55, 56, 57, 46])), (.loc 0)], none⟩, ⟨.mv (.var 0), none⟩, ⟨.nilck (.loc 0), none⟩, ⟨.fieldAddr 1 (.loc 0), none⟩, ⟨.load none (.loc 0), none⟩, ⟨.call false 17 [(.loc 10), (.loc 4), (.const (.int .i64 2)), (.loc 0)], none⟩] [] [(10, 0, 1)] []) .skip)) (.seq (.region [⟨.mv (.var 0), none⟩, ⟨.mv (.var 0), none⟩, ⟨.nilck (.loc 0), none⟩, ⟨.fieldAddr 2 (.loc 0), none⟩, ⟨.load none (.loc 0), none⟩, ⟨.mv (.var 10), none⟩, ⟨.mv (.var 0), none⟩, ⟨.nilck (.loc 0), none⟩, ⟨.fieldAddr 1 (.loc 0), none⟩, ⟨.load none (.loc 0), none⟩, ⟨.build [(.int .i64 0), (.str []), (.int .u64 0), (.int .i64 0)] [(0, 1, (.const (.int .i64 2))), (2, 1, (.loc 4)), (3, 1, (.loc 0))], none⟩, ⟨.lit .imm true [(.int .i64 0), (.str []), (.int .u64 0), (.int .i64 0)] 1 [(0, (.loc 0))], none⟩, ⟨.append .imm 0 4 (.loc 7) (.loc 0), none⟩, ⟨.nilck (.loc 12), none⟩, ⟨.fieldAddr 2 (.loc 0), none⟩, ⟨.store 1 (.loc 0) (.loc 2), none⟩] [] [] []) (.region [⟨.mv (.var 0), none⟩, ⟨.nilck (.loc 0), none⟩, ⟨.fieldAddr 1 (.loc 0), none⟩, ⟨.load none (.loc 0), none⟩, ⟨.mv (.var 6), none⟩, ⟨.bin .add (.loc 1) (.loc 0), none⟩, ⟨.nilck (.loc 5), none⟩, ⟨.fieldAddr 1 (.loc 0), none⟩, ⟨.store 1 (.loc 0) (.loc 2), none⟩] [] [] []))))))
abbrev tokC (k : Int) (t : List UInt8) (n : Nat) (a : Int) : CVal := .agg [.int .i64 k, .str t, .int .u64 (n : Int), .int .i64 a]

theorem contains_N (c : UInt8) (b : Bool) (hb : (namesB ++ [46]).contains c = b) : Pu tree.getF 19 [.str [65, 66, 67, 68, 69, 70, 71, 72, 73, 74, 75, 76, 77, 78, 79, 80, 81, 82, 83, 84, 85, 86, 87, 88, 89, 90, 97, 98, 99, 100, 101, 102, 103, 104, 105, 106, 107, 108, 109, 110, 111, 112, 113, 114, 115, 116, 117, 118, 119, 120, 121, 122, 95, 48, 49, 50, 51, 52, 53, 54, 55, 56, 57, 46], .str [c]] (.bool b) := by
  rw [← hb]; exact contains_F (namesB ++ [46]) c (by decide)

theorem tail_ok_end0 {n0 n1 : Nat} {E0 : List (Nat × CObj)} (p d : Nat) (s r : List UInt8) (a n k : Nat) (B : Int) (v0 : Nat) (set ds : List UInt8) (ts : List CVal) (hts : ts.length ≤ 100000) (to : Int) (hs : s.length < 60000) (hda : s.drop a = r) (hlen : a + r.length = s.length) (hnk : n + k ≤ r.length) (hdsE : (r.take (n + k)).drop n = ds)
    (FR : Pu tree.getF 13 [.str (r.drop n), .str set] (.int .i64 (k : Int))) (P : Pu tree.getF 34 [.str ds, .int .i64 B, .int .i64 64] (.tup [.int .u64 (v0 : Int), .nili])) (hend : n + k = r.length) (h : CHeap) (S : St n0 E0 p s (a : Int) (.nils) [] 0 to h) (hn1 : n1 ≤ h.next) (hu1 : Under h.ents n1) (v2 v3 v6 v8 v9 v10 : CVal) (K : CVal → CHeap → Prop)
    (hk : ∀ h' L', St n0 E0 p s ((a : Int) + ((n : Int) + (k : Int))) L' ([] ++ [tokC 2 [] v0 a]) 0 to h' → h.next ≤ h'.next → K (.tup []) h') : W tree.getF numTail ⟨[.ptr p d 0, .str r, v2, v3, .int .i64 (n : Int), .str set, v6, .int .i64 B, v8, v9, v10], h, []⟩ (endW c20 n1 K) := by
  have hg := S.g
  have hf := S.f
  have hp := S.lt
  obtain ⟨hu, hut⟩ := hf
  have hD : ∀ m, h.next ≤ m → dropEnts h.ents m = h.ents := fun m hm => dropEnts_under (hu.le hm)
  have hC : ∀ m, h.next ≤ m → dropCells h.ents m = h.ents := fun m hm => dropCells_under (hu.le hm)
  have hN : ∀ q, h.next ≤ q → getEnt h.ents q = none := fun q hq => getEnt_under hu hq
  have hT : ∀ q, h.next ≤ q → lookupN h.tys q = none := fun q hq => lookupN_under hut hq
  have hG : ∀ x, getEnt (setEnt h.ents p x) p = some x := fun x => sy_getEnt_setEnt hg
  have hD2 : ∀ x m, h.next ≤ m → dropEnts (setEnt h.ents p x) m = setEnt h.ents p x := fun x m hm => dropEnts_under (hu.set.le hm)
  have hC2 : ∀ x m, h.next ≤ m → dropCells (setEnt h.ents p x) m = setEnt h.ents p x := fun x m hm => dropCells_under (hu.set.le hm)
  have hN2 : ∀ x q, h.next ≤ q → getEnt (setEnt h.ents p x) q = none := fun x q hq => getEnt_under hu.set hq
  have hC4 : ∀ x, dropCells (setEnt h.ents p x) n1 = setEnt h.ents p x := fun x => dropCells_under hu1.set
  have htr : r.take r.length = r := List.take_length
  have hto : ((n : Int) + (k : Int)).toNat = n + k := by omega
  have hto1 : ((n : Int) + (k : Int) + 1).toNat = n + k + 1 := by omega
  repeat (first
    | refine W.seq ?_
    | refine W.block ?_
    | ((first | refine W.regG ?_ | refine WoR.go ?_); generalize e : goR _ _ _ _ _ _ _ _ = r; simp (disch := omega) [hD, hC, hN, hT, hg, hG, hD2, hC2, hN2, htr, hto, hto1, hdsE, hC4, c17, c20] at e; replace e : some _ = _ := e; subst e; (try dsimp only [goW]))
    | refine W.cond_true rfl ?_
    | refine W.cond_false rfl ?_
    | refine W.skip ?_
    | refine W.exit ?_
    | (refine FR _ ?_ _ fun n2 tyn2 hn2 hun2 => ⟨rfl, ?_⟩; (focus (((refine ⟨?_, ?_⟩; (focus ((repeat (first | exact hu.le (by (try dsimp only); omega) | exact hu.set.le (by (try dsimp only); omega) | exact hu.set.set.le (by (try dsimp only); omega) | refine Under.cons (by (try dsimp only); omega) ?_ | exact Under.nil)); done)); (focus ((repeat (first | exact hut.le (by (try dsimp only); omega) | refine UnderT.cons (by (try dsimp only); omega) ?_ | exact UnderT.nil | assumption | exact UnderT.le (by assumption) (by (try dsimp only); omega))); done)))); done)); (try dsimp only at hn2))
    | (refine P _ ?_ _ fun n3 tyn3 hn3 hun3 => ⟨rfl, ?_⟩; (focus (((refine ⟨?_, ?_⟩; (focus ((repeat (first | exact hu.le (by (try dsimp only); omega) | exact hu.set.le (by (try dsimp only); omega) | exact hu.set.set.le (by (try dsimp only); omega) | refine Under.cons (by (try dsimp only); omega) ?_ | exact Under.nil)); done)); (focus ((repeat (first | exact hut.le (by (try dsimp only); omega) | refine UnderT.cons (by (try dsimp only); omega) ?_ | exact UnderT.nil | assumption | exact UnderT.le (by assumption) (by (try dsimp only); omega))); done)))); done)); (try dsimp only at hn3))
    | (refine Wc.mkG 17 c17 (by kernel_rfl) rfl ?_; generalize e : entryC _ _ _ = r; simp (disch := omega) [hD, hC, hN, hT, hg, hG, hD2, hC2, hN2, htr, hto, hto1, hdsE, hC4, c17, c20] at e; subst e)
    | ((first | (refine W.ret ?_; (try simp only [outOf, thenW_ret, roundW]); refine endW.of (.inl rfl) rfl ?_) | refine endW.of (.inr rfl) rfl ?_); generalize e : endsC _ _ _ = r; simp (disch := omega) [hD, hC, hN, hT, hg, hG, hD2, hC2, hN2, htr, hto, hto1, hdsE, hC4, c17, c20] at e; subst e; (try dsimp only [goW]); (first | refine ⟨rfl, ?_⟩ | (refine hk _ _ (S.app0 ?_ ?_ ?_) ?_; (focus ((omega); done)); (focus ((omega); done)); (focus ((repeat (first | exact hut.le (by (try dsimp only); omega) | refine UnderT.cons (by (try dsimp only); omega) ?_ | exact UnderT.nil | assumption | exact UnderT.le (by assumption) (by (try dsimp only); omega))); done)); (try dsimp only); omega))))

theorem tail_ok_end1 {n0 n1 : Nat} {E0 : List (Nat × CObj)} (p d : Nat) (s r : List UInt8) (a n k : Nat) (B : Int) (v0 : Nat) (set ds : List UInt8) (ts : List CVal) (hts : ts.length ≤ 100000) (to : Int) (hs : s.length < 60000) (hda : s.drop a = r) (hlen : a + r.length = s.length) (hnk : n + k ≤ r.length) (hdsE : (r.take (n + k)).drop n = ds)
    (FR : Pu tree.getF 13 [.str (r.drop n), .str set] (.int .i64 (k : Int))) (P : Pu tree.getF 34 [.str ds, .int .i64 B, .int .i64 64] (.tup [.int .u64 (v0 : Int), .nili])) (hend : n + k = r.length) (h : CHeap) (i v : Nat) (ht : getEnt h.ents i = some (.tok v)) (hip : i ≠ p) (hi0 : n0 ≤ i) (hin : i < h.next) (S : St n0 E0 p s (a : Int) (.imm (.own i v) 4 ts) ts 0 to h) (hn1 : n1 ≤ h.next) (hu1 : Under h.ents n1) (v2 v3 v6 v8 v9 v10 : CVal) (K : CVal → CHeap → Prop)
    (hk : ∀ h' L', St n0 E0 p s ((a : Int) + ((n : Int) + (k : Int))) L' (ts ++ [tokC 2 [] v0 a]) 0 to h' → h.next ≤ h'.next → K (.tup []) h') : W tree.getF numTail ⟨[.ptr p d 0, .str r, v2, v3, .int .i64 (n : Int), .str set, v6, .int .i64 B, v8, v9, v10], h, []⟩ (endW c20 n1 K) := by
  have hg := S.g
  have hf := S.f
  have hp := S.lt
  obtain ⟨hu, hut⟩ := hf
  have hD : ∀ m, h.next ≤ m → dropEnts h.ents m = h.ents := fun m hm => dropEnts_under (hu.le hm)
  have hC : ∀ m, h.next ≤ m → dropCells h.ents m = h.ents := fun m hm => dropCells_under (hu.le hm)
  have hN : ∀ q, h.next ≤ q → getEnt h.ents q = none := fun q hq => getEnt_under hu hq
  have hT : ∀ q, h.next ≤ q → lookupN h.tys q = none := fun q hq => lookupN_under hut hq
  have hG : ∀ x, getEnt (setEnt h.ents p x) p = some x := fun x => sy_getEnt_setEnt hg
  have hD2 : ∀ x m, h.next ≤ m → dropEnts (setEnt h.ents p x) m = setEnt h.ents p x := fun x m hm => dropEnts_under (hu.set.le hm)
  have hC2 : ∀ x m, h.next ≤ m → dropCells (setEnt h.ents p x) m = setEnt h.ents p x := fun x m hm => dropCells_under (hu.set.le hm)
  have hN2 : ∀ x q, h.next ≤ q → getEnt (setEnt h.ents p x) q = none := fun x q hq => getEnt_under hu.set hq
  have htP : ∀ x, getEnt (setEnt h.ents p x) i = some (.tok v) := fun x => (getEnt_setEnt_ne hip).trans ht
  have hPt : ∀ x y, getEnt (setEnt (setEnt h.ents i x) p y) p = some y := fun x y => sy_getEnt_setEnt ((getEnt_setEnt_ne (Ne.symm hip)).trans hg)
  have hTT : ∀ x y, getEnt (setEnt (setEnt h.ents i x) p y) i = some x := fun x y => (getEnt_setEnt_ne hip).trans (sy_getEnt_setEnt ht)
  have hiP : ∀ x, getEnt (setEnt h.ents i x) p = _ := fun x => (getEnt_setEnt_ne (Ne.symm hip)).trans hg
  have hcomm : ∀ x y, setEnt (setEnt h.ents p y) i x = setEnt (setEnt h.ents i x) p y := fun x y => setEnt_comm (Ne.symm hip)
  have hC3 : ∀ x y m, h.next ≤ m → dropCells (setEnt (setEnt h.ents i x) p y) m = setEnt (setEnt h.ents i x) p y := fun x y m hm => dropCells_under (hu.set.set.le hm)
  have hD3 : ∀ x y m, h.next ≤ m → dropEnts (setEnt (setEnt h.ents i x) p y) m = setEnt (setEnt h.ents i x) p y := fun x y m hm => dropEnts_under (hu.set.set.le hm)
  have hC4 : ∀ x, dropCells (setEnt h.ents p x) n1 = setEnt h.ents p x := fun x => dropCells_under hu1.set
  have hC5 : ∀ x y, dropCells (setEnt (setEnt h.ents i x) p y) n1 = setEnt (setEnt h.ents i x) p y := fun x y => dropCells_under hu1.set.set
  have htr : r.take r.length = r := List.take_length
  have hto : ((n : Int) + (k : Int)).toNat = n + k := by omega
  have hto1 : ((n : Int) + (k : Int) + 1).toNat = n + k + 1 := by omega
  repeat (first
    | refine W.seq ?_
    | refine W.block ?_
    | ((first | refine W.regG ?_ | refine WoR.go ?_); generalize e : goR _ _ _ _ _ _ _ _ = r; simp (disch := omega) [hD, hC, hN, hT, hg, hG, hD2, hC2, hN2, ht, htP, hPt, hTT, hiP, hcomm, hC3, hD3, htr, hto, hto1, hdsE, hC4, hC5, c17, c20] at e; replace e : some _ = _ := e; subst e; (try dsimp only [goW]))
    | refine W.cond_true rfl ?_
    | refine W.cond_false rfl ?_
    | refine W.skip ?_
    | refine W.exit ?_
    | (refine FR _ ?_ _ fun n2 tyn2 hn2 hun2 => ⟨rfl, ?_⟩; (focus (((refine ⟨?_, ?_⟩; (focus ((repeat (first | exact hu.le (by (try dsimp only); omega) | exact hu.set.le (by (try dsimp only); omega) | exact hu.set.set.le (by (try dsimp only); omega) | refine Under.cons (by (try dsimp only); omega) ?_ | exact Under.nil)); done)); (focus ((repeat (first | exact hut.le (by (try dsimp only); omega) | refine UnderT.cons (by (try dsimp only); omega) ?_ | exact UnderT.nil | assumption | exact UnderT.le (by assumption) (by (try dsimp only); omega))); done)))); done)); (try dsimp only at hn2))
    | (refine P _ ?_ _ fun n3 tyn3 hn3 hun3 => ⟨rfl, ?_⟩; (focus (((refine ⟨?_, ?_⟩; (focus ((repeat (first | exact hu.le (by (try dsimp only); omega) | exact hu.set.le (by (try dsimp only); omega) | exact hu.set.set.le (by (try dsimp only); omega) | refine Under.cons (by (try dsimp only); omega) ?_ | exact Under.nil)); done)); (focus ((repeat (first | exact hut.le (by (try dsimp only); omega) | refine UnderT.cons (by (try dsimp only); omega) ?_ | exact UnderT.nil | assumption | exact UnderT.le (by assumption) (by (try dsimp only); omega))); done)))); done)); (try dsimp only at hn3))
    | (refine Wc.mkG 17 c17 (by kernel_rfl) rfl ?_; generalize e : entryC _ _ _ = r; simp (disch := omega) [hD, hC, hN, hT, hg, hG, hD2, hC2, hN2, ht, htP, hPt, hTT, hiP, hcomm, hC3, hD3, htr, hto, hto1, hdsE, hC4, hC5, c17, c20] at e; subst e)
    | ((first | (refine W.ret ?_; (try simp only [outOf, thenW_ret, roundW]); refine endW.of (.inl rfl) rfl ?_) | refine endW.of (.inr rfl) rfl ?_); generalize e : endsC _ _ _ = r; simp (disch := omega) [hD, hC, hN, hT, hg, hG, hD2, hC2, hN2, ht, htP, hPt, hTT, hiP, hcomm, hC3, hD3, htr, hto, hto1, hdsE, hC4, hC5, c17, c20] at e; subst e; (try dsimp only [goW]); (first | refine ⟨rfl, ?_⟩ | (refine hk _ _ (S.app1 ht hip hi0 hin ?_ ?_) ?_; (focus ((omega); done)); (focus ((repeat (first | exact hut.le (by (try dsimp only); omega) | refine UnderT.cons (by (try dsimp only); omega) ?_ | exact UnderT.nil | assumption | exact UnderT.le (by assumption) (by (try dsimp only); omega))); done)); (try dsimp only); omega))))

theorem tail_ok_good0 {n0 n1 : Nat} {E0 : List (Nat × CObj)} (p d : Nat) (s r : List UInt8) (a n k : Nat) (B : Int) (v0 : Nat) (set ds : List UInt8) (ts : List CVal) (hts : ts.length ≤ 100000) (to : Int) (hs : s.length < 60000) (hda : s.drop a = r) (hlen : a + r.length = s.length) (hnk : n + k ≤ r.length) (hdsE : (r.take (n + k)).drop n = ds)
    (FR : Pu tree.getF 13 [.str (r.drop n), .str set] (.int .i64 (k : Int))) (P : Pu tree.getF 34 [.str ds, .int .i64 B, .int .i64 64] (.tup [.int .u64 (v0 : Int), .nili])) (c : UInt8) (t : List UInt8) (hc : r.drop (n + k) = c :: t) (hcc : (namesB ++ [46]).contains c = false) (h : CHeap) (S : St n0 E0 p s (a : Int) (.nils) [] 0 to h) (hn1 : n1 ≤ h.next) (hu1 : Under h.ents n1) (v2 v3 v6 v8 v9 v10 : CVal) (K : CVal → CHeap → Prop)
    (hk : ∀ h' L', St n0 E0 p s ((a : Int) + ((n : Int) + (k : Int))) L' ([] ++ [tokC 2 [] v0 a]) 0 to h' → h.next ≤ h'.next → K (.tup []) h') : W tree.getF numTail ⟨[.ptr p d 0, .str r, v2, v3, .int .i64 (n : Int), .str set, v6, .int .i64 B, v8, v9, v10], h, []⟩ (endW c20 n1 K) := by
  have hg := S.g
  have hf := S.f
  have hp := S.lt
  obtain ⟨hu, hut⟩ := hf
  have hD : ∀ m, h.next ≤ m → dropEnts h.ents m = h.ents := fun m hm => dropEnts_under (hu.le hm)
  have hC : ∀ m, h.next ≤ m → dropCells h.ents m = h.ents := fun m hm => dropCells_under (hu.le hm)
  have hN : ∀ q, h.next ≤ q → getEnt h.ents q = none := fun q hq => getEnt_under hu hq
  have hT : ∀ q, h.next ≤ q → lookupN h.tys q = none := fun q hq => lookupN_under hut hq
  have hG : ∀ x, getEnt (setEnt h.ents p x) p = some x := fun x => sy_getEnt_setEnt hg
  have hD2 : ∀ x m, h.next ≤ m → dropEnts (setEnt h.ents p x) m = setEnt h.ents p x := fun x m hm => dropEnts_under (hu.set.le hm)
  have hC2 : ∀ x m, h.next ≤ m → dropCells (setEnt h.ents p x) m = setEnt h.ents p x := fun x m hm => dropCells_under (hu.set.le hm)
  have hN2 : ∀ x q, h.next ≤ q → getEnt (setEnt h.ents p x) q = none := fun x q hq => getEnt_under hu.set hq
  have hC4 : ∀ x, dropCells (setEnt h.ents p x) n1 = setEnt h.ents p x := fun x => dropCells_under hu1.set
  have htr : r.take r.length = r := List.take_length
  have hto : ((n : Int) + (k : Int)).toNat = n + k := by omega
  have hto1 : ((n : Int) + (k : Int) + 1).toNat = n + k + 1 := by omega
  have hlt : n + k < r.length := by
    rcases Nat.lt_or_ge (n + k) r.length with h' | h'
    · exact h'
    · rw [List.drop_eq_nil_of_le h'] at hc; cases hc
  have hc1 : (r.take (n + k + 1)).drop (n + k) = [c] := by
    rw [List.drop_take, hc, show n + k + 1 - (n + k) = 1 by omega]; rfl
  repeat (first
    | refine W.seq ?_
    | refine W.block ?_
    | ((first | refine W.regG ?_ | refine WoR.go ?_); generalize e : goR _ _ _ _ _ _ _ _ = r; simp (disch := omega) [hD, hC, hN, hT, hg, hG, hD2, hC2, hN2, htr, hto, hto1, hdsE, hC4, hc1, c17, c20] at e; replace e : some _ = _ := e; subst e; (try dsimp only [goW]))
    | refine W.cond_true rfl ?_
    | refine W.cond_false rfl ?_
    | refine W.skip ?_
    | refine W.exit ?_
    | (refine FR _ ?_ _ fun n2 tyn2 hn2 hun2 => ⟨rfl, ?_⟩; (focus (((refine ⟨?_, ?_⟩; (focus ((repeat (first | exact hu.le (by (try dsimp only); omega) | exact hu.set.le (by (try dsimp only); omega) | exact hu.set.set.le (by (try dsimp only); omega) | refine Under.cons (by (try dsimp only); omega) ?_ | exact Under.nil)); done)); (focus ((repeat (first | exact hut.le (by (try dsimp only); omega) | refine UnderT.cons (by (try dsimp only); omega) ?_ | exact UnderT.nil | assumption | exact UnderT.le (by assumption) (by (try dsimp only); omega))); done)))); done)); (try dsimp only at hn2))
    | (refine P _ ?_ _ fun n3 tyn3 hn3 hun3 => ⟨rfl, ?_⟩; (focus (((refine ⟨?_, ?_⟩; (focus ((repeat (first | exact hu.le (by (try dsimp only); omega) | exact hu.set.le (by (try dsimp only); omega) | exact hu.set.set.le (by (try dsimp only); omega) | refine Under.cons (by (try dsimp only); omega) ?_ | exact Under.nil)); done)); (focus ((repeat (first | exact hut.le (by (try dsimp only); omega) | refine UnderT.cons (by (try dsimp only); omega) ?_ | exact UnderT.nil | assumption | exact UnderT.le (by assumption) (by (try dsimp only); omega))); done)))); done)); (try dsimp only at hn3))
    | (refine (contains_N c _ hcc) _ ?_ _ fun n4 tyn4 hn4 hun4 => ⟨rfl, ?_⟩; (focus (((refine ⟨?_, ?_⟩; (focus ((repeat (first | exact hu.le (by (try dsimp only); omega) | exact hu.set.le (by (try dsimp only); omega) | exact hu.set.set.le (by (try dsimp only); omega) | refine Under.cons (by (try dsimp only); omega) ?_ | exact Under.nil)); done)); (focus ((repeat (first | exact hut.le (by (try dsimp only); omega) | refine UnderT.cons (by (try dsimp only); omega) ?_ | exact UnderT.nil | assumption | exact UnderT.le (by assumption) (by (try dsimp only); omega))); done)))); done)); (try dsimp only at hn4))
    | (refine Wc.mkG 17 c17 (by kernel_rfl) rfl ?_; generalize e : entryC _ _ _ = r; simp (disch := omega) [hD, hC, hN, hT, hg, hG, hD2, hC2, hN2, htr, hto, hto1, hdsE, hC4, hc1, c17, c20] at e; subst e)
    | ((first | (refine W.ret ?_; (try simp only [outOf, thenW_ret, roundW]); refine endW.of (.inl rfl) rfl ?_) | refine endW.of (.inr rfl) rfl ?_); generalize e : endsC _ _ _ = r; simp (disch := omega) [hD, hC, hN, hT, hg, hG, hD2, hC2, hN2, htr, hto, hto1, hdsE, hC4, hc1, c17, c20] at e; subst e; (try dsimp only [goW]); (first | refine ⟨rfl, ?_⟩ | (refine hk _ _ (S.app0 ?_ ?_ ?_) ?_; (focus ((omega); done)); (focus ((omega); done)); (focus ((repeat (first | exact hut.le (by (try dsimp only); omega) | refine UnderT.cons (by (try dsimp only); omega) ?_ | exact UnderT.nil | assumption | exact UnderT.le (by assumption) (by (try dsimp only); omega))); done)); (try dsimp only); omega))))

theorem tail_ok_good1 {n0 n1 : Nat} {E0 : List (Nat × CObj)} (p d : Nat) (s r : List UInt8) (a n k : Nat) (B : Int) (v0 : Nat) (set ds : List UInt8) (ts : List CVal) (hts : ts.length ≤ 100000) (to : Int) (hs : s.length < 60000) (hda : s.drop a = r) (hlen : a + r.length = s.length) (hnk : n + k ≤ r.length) (hdsE : (r.take (n + k)).drop n = ds)
    (FR : Pu tree.getF 13 [.str (r.drop n), .str set] (.int .i64 (k : Int))) (P : Pu tree.getF 34 [.str ds, .int .i64 B, .int .i64 64] (.tup [.int .u64 (v0 : Int), .nili])) (c : UInt8) (t : List UInt8) (hc : r.drop (n + k) = c :: t) (hcc : (namesB ++ [46]).contains c = false) (h : CHeap) (i v : Nat) (ht : getEnt h.ents i = some (.tok v)) (hip : i ≠ p) (hi0 : n0 ≤ i) (hin : i < h.next) (S : St n0 E0 p s (a : Int) (.imm (.own i v) 4 ts) ts 0 to h) (hn1 : n1 ≤ h.next) (hu1 : Under h.ents n1) (v2 v3 v6 v8 v9 v10 : CVal) (K : CVal → CHeap → Prop)
    (hk : ∀ h' L', St n0 E0 p s ((a : Int) + ((n : Int) + (k : Int))) L' (ts ++ [tokC 2 [] v0 a]) 0 to h' → h.next ≤ h'.next → K (.tup []) h') : W tree.getF numTail ⟨[.ptr p d 0, .str r, v2, v3, .int .i64 (n : Int), .str set, v6, .int .i64 B, v8, v9, v10], h, []⟩ (endW c20 n1 K) := by
  have hg := S.g
  have hf := S.f
  have hp := S.lt
  obtain ⟨hu, hut⟩ := hf
  have hD : ∀ m, h.next ≤ m → dropEnts h.ents m = h.ents := fun m hm => dropEnts_under (hu.le hm)
  have hC : ∀ m, h.next ≤ m → dropCells h.ents m = h.ents := fun m hm => dropCells_under (hu.le hm)
  have hN : ∀ q, h.next ≤ q → getEnt h.ents q = none := fun q hq => getEnt_under hu hq
  have hT : ∀ q, h.next ≤ q → lookupN h.tys q = none := fun q hq => lookupN_under hut hq
  have hG : ∀ x, getEnt (setEnt h.ents p x) p = some x := fun x => sy_getEnt_setEnt hg
  have hD2 : ∀ x m, h.next ≤ m → dropEnts (setEnt h.ents p x) m = setEnt h.ents p x := fun x m hm => dropEnts_under (hu.set.le hm)
  have hC2 : ∀ x m, h.next ≤ m → dropCells (setEnt h.ents p x) m = setEnt h.ents p x := fun x m hm => dropCells_under (hu.set.le hm)
  have hN2 : ∀ x q, h.next ≤ q → getEnt (setEnt h.ents p x) q = none := fun x q hq => getEnt_under hu.set hq
  have htP : ∀ x, getEnt (setEnt h.ents p x) i = some (.tok v) := fun x => (getEnt_setEnt_ne hip).trans ht
  have hPt : ∀ x y, getEnt (setEnt (setEnt h.ents i x) p y) p = some y := fun x y => sy_getEnt_setEnt ((getEnt_setEnt_ne (Ne.symm hip)).trans hg)
  have hTT : ∀ x y, getEnt (setEnt (setEnt h.ents i x) p y) i = some x := fun x y => (getEnt_setEnt_ne hip).trans (sy_getEnt_setEnt ht)
  have hiP : ∀ x, getEnt (setEnt h.ents i x) p = _ := fun x => (getEnt_setEnt_ne (Ne.symm hip)).trans hg
  have hcomm : ∀ x y, setEnt (setEnt h.ents p y) i x = setEnt (setEnt h.ents i x) p y := fun x y => setEnt_comm (Ne.symm hip)
  have hC3 : ∀ x y m, h.next ≤ m → dropCells (setEnt (setEnt h.ents i x) p y) m = setEnt (setEnt h.ents i x) p y := fun x y m hm => dropCells_under (hu.set.set.le hm)
  have hD3 : ∀ x y m, h.next ≤ m → dropEnts (setEnt (setEnt h.ents i x) p y) m = setEnt (setEnt h.ents i x) p y := fun x y m hm => dropEnts_under (hu.set.set.le hm)
  have hC4 : ∀ x, dropCells (setEnt h.ents p x) n1 = setEnt h.ents p x := fun x => dropCells_under hu1.set
  have hC5 : ∀ x y, dropCells (setEnt (setEnt h.ents i x) p y) n1 = setEnt (setEnt h.ents i x) p y := fun x y => dropCells_under hu1.set.set
  have htr : r.take r.length = r := List.take_length
  have hto : ((n : Int) + (k : Int)).toNat = n + k := by omega
  have hto1 : ((n : Int) + (k : Int) + 1).toNat = n + k + 1 := by omega
  have hlt : n + k < r.length := by
    rcases Nat.lt_or_ge (n + k) r.length with h' | h'
    · exact h'
    · rw [List.drop_eq_nil_of_le h'] at hc; cases hc
  have hc1 : (r.take (n + k + 1)).drop (n + k) = [c] := by
    rw [List.drop_take, hc, show n + k + 1 - (n + k) = 1 by omega]; rfl
  repeat (first
    | refine W.seq ?_
    | refine W.block ?_
    | ((first | refine W.regG ?_ | refine WoR.go ?_); generalize e : goR _ _ _ _ _ _ _ _ = r; simp (disch := omega) [hD, hC, hN, hT, hg, hG, hD2, hC2, hN2, ht, htP, hPt, hTT, hiP, hcomm, hC3, hD3, htr, hto, hto1, hdsE, hC4, hC5, hc1, c17, c20] at e; replace e : some _ = _ := e; subst e; (try dsimp only [goW]))
    | refine W.cond_true rfl ?_
    | refine W.cond_false rfl ?_
    | refine W.skip ?_
    | refine W.exit ?_
    | (refine FR _ ?_ _ fun n2 tyn2 hn2 hun2 => ⟨rfl, ?_⟩; (focus (((refine ⟨?_, ?_⟩; (focus ((repeat (first | exact hu.le (by (try dsimp only); omega) | exact hu.set.le (by (try dsimp only); omega) | exact hu.set.set.le (by (try dsimp only); omega) | refine Under.cons (by (try dsimp only); omega) ?_ | exact Under.nil)); done)); (focus ((repeat (first | exact hut.le (by (try dsimp only); omega) | refine UnderT.cons (by (try dsimp only); omega) ?_ | exact UnderT.nil | assumption | exact UnderT.le (by assumption) (by (try dsimp only); omega))); done)))); done)); (try dsimp only at hn2))
    | (refine P _ ?_ _ fun n3 tyn3 hn3 hun3 => ⟨rfl, ?_⟩; (focus (((refine ⟨?_, ?_⟩; (focus ((repeat (first | exact hu.le (by (try dsimp only); omega) | exact hu.set.le (by (try dsimp only); omega) | exact hu.set.set.le (by (try dsimp only); omega) | refine Under.cons (by (try dsimp only); omega) ?_ | exact Under.nil)); done)); (focus ((repeat (first | exact hut.le (by (try dsimp only); omega) | refine UnderT.cons (by (try dsimp only); omega) ?_ | exact UnderT.nil | assumption | exact UnderT.le (by assumption) (by (try dsimp only); omega))); done)))); done)); (try dsimp only at hn3))
    | (refine (contains_N c _ hcc) _ ?_ _ fun n4 tyn4 hn4 hun4 => ⟨rfl, ?_⟩; (focus (((refine ⟨?_, ?_⟩; (focus ((repeat (first | exact hu.le (by (try dsimp only); omega) | exact hu.set.le (by (try dsimp only); omega) | exact hu.set.set.le (by (try dsimp only); omega) | refine Under.cons (by (try dsimp only); omega) ?_ | exact Under.nil)); done)); (focus ((repeat (first | exact hut.le (by (try dsimp only); omega) | refine UnderT.cons (by (try dsimp only); omega) ?_ | exact UnderT.nil | assumption | exact UnderT.le (by assumption) (by (try dsimp only); omega))); done)))); done)); (try dsimp only at hn4))
    | (refine Wc.mkG 17 c17 (by kernel_rfl) rfl ?_; generalize e : entryC _ _ _ = r; simp (disch := omega) [hD, hC, hN, hT, hg, hG, hD2, hC2, hN2, ht, htP, hPt, hTT, hiP, hcomm, hC3, hD3, htr, hto, hto1, hdsE, hC4, hC5, hc1, c17, c20] at e; subst e)
    | ((first | (refine W.ret ?_; (try simp only [outOf, thenW_ret, roundW]); refine endW.of (.inl rfl) rfl ?_) | refine endW.of (.inr rfl) rfl ?_); generalize e : endsC _ _ _ = r; simp (disch := omega) [hD, hC, hN, hT, hg, hG, hD2, hC2, hN2, ht, htP, hPt, hTT, hiP, hcomm, hC3, hD3, htr, hto, hto1, hdsE, hC4, hC5, hc1, c17, c20] at e; subst e; (try dsimp only [goW]); (first | refine ⟨rfl, ?_⟩ | (refine hk _ _ (S.app1 ht hip hi0 hin ?_ ?_) ?_; (focus ((omega); done)); (focus ((repeat (first | exact hut.le (by (try dsimp only); omega) | refine UnderT.cons (by (try dsimp only); omega) ?_ | exact UnderT.nil | assumption | exact UnderT.le (by assumption) (by (try dsimp only); omega))); done)); (try dsimp only); omega))))

theorem tail_ok_bad0 {n0 n1 : Nat} {E0 : List (Nat × CObj)} (p d : Nat) (s r : List UInt8) (a n k : Nat) (B : Int) (v0 : Nat) (set ds : List UInt8) (ts : List CVal) (hts : ts.length ≤ 100000) (to : Int) (hs : s.length < 60000) (hda : s.drop a = r) (hlen : a + r.length = s.length) (hnk : n + k ≤ r.length) (hdsE : (r.take (n + k)).drop n = ds)
    (FR : Pu tree.getF 13 [.str (r.drop n), .str set] (.int .i64 (k : Int))) (P : Pu tree.getF 34 [.str ds, .int .i64 B, .int .i64 64] (.tup [.int .u64 (v0 : Int), .nili])) (c : UInt8) (t : List UInt8) (hc : r.drop (n + k) = c :: t) (hcc : (namesB ++ [46]).contains c = true) (h : CHeap) (S : St n0 E0 p s (a : Int) (.nils) [] 0 to h) (hn1 : n1 ≤ h.next) (hu1 : Under h.ents n1) (v2 v3 v6 v8 v9 v10 : CVal) (K : CVal → CHeap → Prop)
    (hk : ∀ h' L', St n0 E0 p s ((a : Int) + ((n : Int) + (k : Int))) L' ([] ++ [tokC 2 [] v0 a]) 2 (a : Int) h' → h.next ≤ h'.next → K (.tup []) h') : W tree.getF numTail ⟨[.ptr p d 0, .str r, v2, v3, .int .i64 (n : Int), .str set, v6, .int .i64 B, v8, v9, v10], h, []⟩ (endW c20 n1 K) := by
  have hg := S.g
  have hf := S.f
  have hp := S.lt
  obtain ⟨hu, hut⟩ := hf
  have hD : ∀ m, h.next ≤ m → dropEnts h.ents m = h.ents := fun m hm => dropEnts_under (hu.le hm)
  have hC : ∀ m, h.next ≤ m → dropCells h.ents m = h.ents := fun m hm => dropCells_under (hu.le hm)
  have hN : ∀ q, h.next ≤ q → getEnt h.ents q = none := fun q hq => getEnt_under hu hq
  have hT : ∀ q, h.next ≤ q → lookupN h.tys q = none := fun q hq => lookupN_under hut hq
  have hG : ∀ x, getEnt (setEnt h.ents p x) p = some x := fun x => sy_getEnt_setEnt hg
  have hD2 : ∀ x m, h.next ≤ m → dropEnts (setEnt h.ents p x) m = setEnt h.ents p x := fun x m hm => dropEnts_under (hu.set.le hm)
  have hC2 : ∀ x m, h.next ≤ m → dropCells (setEnt h.ents p x) m = setEnt h.ents p x := fun x m hm => dropCells_under (hu.set.le hm)
  have hN2 : ∀ x q, h.next ≤ q → getEnt (setEnt h.ents p x) q = none := fun x q hq => getEnt_under hu.set hq
  have hC4 : ∀ x, dropCells (setEnt h.ents p x) n1 = setEnt h.ents p x := fun x => dropCells_under hu1.set
  have htr : r.take r.length = r := List.take_length
  have hto : ((n : Int) + (k : Int)).toNat = n + k := by omega
  have hto1 : ((n : Int) + (k : Int) + 1).toNat = n + k + 1 := by omega
  have hlt : n + k < r.length := by
    rcases Nat.lt_or_ge (n + k) r.length with h' | h'
    · exact h'
    · rw [List.drop_eq_nil_of_le h'] at hc; cases hc
  have hc1 : (r.take (n + k + 1)).drop (n + k) = [c] := by
    rw [List.drop_take, hc, show n + k + 1 - (n + k) = 1 by omega]; rfl
  repeat (first
    | refine W.seq ?_
    | refine W.block ?_
    | ((first | refine W.regG ?_ | refine WoR.go ?_); generalize e : goR _ _ _ _ _ _ _ _ = r; simp (disch := omega) [hD, hC, hN, hT, hg, hG, hD2, hC2, hN2, htr, hto, hto1, hdsE, hC4, hc1, c17, c20] at e; replace e : some _ = _ := e; subst e; (try dsimp only [goW]))
    | refine W.cond_true rfl ?_
    | refine W.cond_false rfl ?_
    | refine W.skip ?_
    | refine W.exit ?_
    | (refine FR _ ?_ _ fun n2 tyn2 hn2 hun2 => ⟨rfl, ?_⟩; (focus (((refine ⟨?_, ?_⟩; (focus ((repeat (first | exact hu.le (by (try dsimp only); omega) | exact hu.set.le (by (try dsimp only); omega) | exact hu.set.set.le (by (try dsimp only); omega) | refine Under.cons (by (try dsimp only); omega) ?_ | exact Under.nil)); done)); (focus ((repeat (first | exact hut.le (by (try dsimp only); omega) | refine UnderT.cons (by (try dsimp only); omega) ?_ | exact UnderT.nil | assumption | exact UnderT.le (by assumption) (by (try dsimp only); omega))); done)))); done)); (try dsimp only at hn2))
    | (refine P _ ?_ _ fun n3 tyn3 hn3 hun3 => ⟨rfl, ?_⟩; (focus (((refine ⟨?_, ?_⟩; (focus ((repeat (first | exact hu.le (by (try dsimp only); omega) | exact hu.set.le (by (try dsimp only); omega) | exact hu.set.set.le (by (try dsimp only); omega) | refine Under.cons (by (try dsimp only); omega) ?_ | exact Under.nil)); done)); (focus ((repeat (first | exact hut.le (by (try dsimp only); omega) | refine UnderT.cons (by (try dsimp only); omega) ?_ | exact UnderT.nil | assumption | exact UnderT.le (by assumption) (by (try dsimp only); omega))); done)))); done)); (try dsimp only at hn3))
    | (refine (contains_N c _ hcc) _ ?_ _ fun n4 tyn4 hn4 hun4 => ⟨rfl, ?_⟩; (focus (((refine ⟨?_, ?_⟩; (focus ((repeat (first | exact hu.le (by (try dsimp only); omega) | exact hu.set.le (by (try dsimp only); omega) | exact hu.set.set.le (by (try dsimp only); omega) | refine Under.cons (by (try dsimp only); omega) ?_ | exact Under.nil)); done)); (focus ((repeat (first | exact hut.le (by (try dsimp only); omega) | refine UnderT.cons (by (try dsimp only); omega) ?_ | exact UnderT.nil | assumption | exact UnderT.le (by assumption) (by (try dsimp only); omega))); done)))); done)); (try dsimp only at hn4))
    | (refine Wc.mkG 17 c17 (by kernel_rfl) rfl ?_; generalize e : entryC _ _ _ = r; simp (disch := omega) [hD, hC, hN, hT, hg, hG, hD2, hC2, hN2, htr, hto, hto1, hdsE, hC4, hc1, c17, c20] at e; subst e)
    | ((first | (refine W.ret ?_; (try simp only [outOf, thenW_ret, roundW]); refine endW.of (.inl rfl) rfl ?_) | refine endW.of (.inr rfl) rfl ?_); generalize e : endsC _ _ _ = r; simp (disch := omega) [hD, hC, hN, hT, hg, hG, hD2, hC2, hN2, htr, hto, hto1, hdsE, hC4, hc1, c17, c20] at e; subst e; (try dsimp only [goW]); (first | refine ⟨rfl, ?_⟩ | (refine hk _ _ (S.app0 ?_ ?_ ?_) ?_; (focus ((omega); done)); (focus ((omega); done)); (focus ((repeat (first | exact hut.le (by (try dsimp only); omega) | refine UnderT.cons (by (try dsimp only); omega) ?_ | exact UnderT.nil | assumption | exact UnderT.le (by assumption) (by (try dsimp only); omega))); done)); (try dsimp only); omega))))

theorem tail_ok_bad1 {n0 n1 : Nat} {E0 : List (Nat × CObj)} (p d : Nat) (s r : List UInt8) (a n k : Nat) (B : Int) (v0 : Nat) (set ds : List UInt8) (ts : List CVal) (hts : ts.length ≤ 100000) (to : Int) (hs : s.length < 60000) (hda : s.drop a = r) (hlen : a + r.length = s.length) (hnk : n + k ≤ r.length) (hdsE : (r.take (n + k)).drop n = ds)
    (FR : Pu tree.getF 13 [.str (r.drop n), .str set] (.int .i64 (k : Int))) (P : Pu tree.getF 34 [.str ds, .int .i64 B, .int .i64 64] (.tup [.int .u64 (v0 : Int), .nili])) (c : UInt8) (t : List UInt8) (hc : r.drop (n + k) = c :: t) (hcc : (namesB ++ [46]).contains c = true) (h : CHeap) (i v : Nat) (ht : getEnt h.ents i = some (.tok v)) (hip : i ≠ p) (hi0 : n0 ≤ i) (hin : i < h.next) (S : St n0 E0 p s (a : Int) (.imm (.own i v) 4 ts) ts 0 to h) (hn1 : n1 ≤ h.next) (hu1 : Under h.ents n1) (v2 v3 v6 v8 v9 v10 : CVal) (K : CVal → CHeap → Prop)
    (hk : ∀ h' L', St n0 E0 p s ((a : Int) + ((n : Int) + (k : Int))) L' (ts ++ [tokC 2 [] v0 a]) 2 (a : Int) h' → h.next ≤ h'.next → K (.tup []) h') : W tree.getF numTail ⟨[.ptr p d 0, .str r, v2, v3, .int .i64 (n : Int), .str set, v6, .int .i64 B, v8, v9, v10], h, []⟩ (endW c20 n1 K) := by
  have hg := S.g
  have hf := S.f
  have hp := S.lt
  obtain ⟨hu, hut⟩ := hf
  have hD : ∀ m, h.next ≤ m → dropEnts h.ents m = h.ents := fun m hm => dropEnts_under (hu.le hm)
  have hC : ∀ m, h.next ≤ m → dropCells h.ents m = h.ents := fun m hm => dropCells_under (hu.le hm)
  have hN : ∀ q, h.next ≤ q → getEnt h.ents q = none := fun q hq => getEnt_under hu hq
  have hT : ∀ q, h.next ≤ q → lookupN h.tys q = none := fun q hq => lookupN_under hut hq
  have hG : ∀ x, getEnt (setEnt h.ents p x) p = some x := fun x => sy_getEnt_setEnt hg
  have hD2 : ∀ x m, h.next ≤ m → dropEnts (setEnt h.ents p x) m = setEnt h.ents p x := fun x m hm => dropEnts_under (hu.set.le hm)
  have hC2 : ∀ x m, h.next ≤ m → dropCells (setEnt h.ents p x) m = setEnt h.ents p x := fun x m hm => dropCells_under (hu.set.le hm)
  have hN2 : ∀ x q, h.next ≤ q → getEnt (setEnt h.ents p x) q = none := fun x q hq => getEnt_under hu.set hq
  have htP : ∀ x, getEnt (setEnt h.ents p x) i = some (.tok v) := fun x => (getEnt_setEnt_ne hip).trans ht
  have hPt : ∀ x y, getEnt (setEnt (setEnt h.ents i x) p y) p = some y := fun x y => sy_getEnt_setEnt ((getEnt_setEnt_ne (Ne.symm hip)).trans hg)
  have hTT : ∀ x y, getEnt (setEnt (setEnt h.ents i x) p y) i = some x := fun x y => (getEnt_setEnt_ne hip).trans (sy_getEnt_setEnt ht)
  have hiP : ∀ x, getEnt (setEnt h.ents i x) p = _ := fun x => (getEnt_setEnt_ne (Ne.symm hip)).trans hg
  have hcomm : ∀ x y, setEnt (setEnt h.ents p y) i x = setEnt (setEnt h.ents i x) p y := fun x y => setEnt_comm (Ne.symm hip)
  have hC3 : ∀ x y m, h.next ≤ m → dropCells (setEnt (setEnt h.ents i x) p y) m = setEnt (setEnt h.ents i x) p y := fun x y m hm => dropCells_under (hu.set.set.le hm)
  have hD3 : ∀ x y m, h.next ≤ m → dropEnts (setEnt (setEnt h.ents i x) p y) m = setEnt (setEnt h.ents i x) p y := fun x y m hm => dropEnts_under (hu.set.set.le hm)
  have hC4 : ∀ x, dropCells (setEnt h.ents p x) n1 = setEnt h.ents p x := fun x => dropCells_under hu1.set
  have hC5 : ∀ x y, dropCells (setEnt (setEnt h.ents i x) p y) n1 = setEnt (setEnt h.ents i x) p y := fun x y => dropCells_under hu1.set.set
  have htr : r.take r.length = r := List.take_length
  have hto : ((n : Int) + (k : Int)).toNat = n + k := by omega
  have hto1 : ((n : Int) + (k : Int) + 1).toNat = n + k + 1 := by omega
  have hlt : n + k < r.length := by
    rcases Nat.lt_or_ge (n + k) r.length with h' | h'
    · exact h'
    · rw [List.drop_eq_nil_of_le h'] at hc; cases hc
  have hc1 : (r.take (n + k + 1)).drop (n + k) = [c] := by
    rw [List.drop_take, hc, show n + k + 1 - (n + k) = 1 by omega]; rfl
  repeat (first
    | refine W.seq ?_
    | refine W.block ?_
    | ((first | refine W.regG ?_ | refine WoR.go ?_); generalize e : goR _ _ _ _ _ _ _ _ = r; simp (disch := omega) [hD, hC, hN, hT, hg, hG, hD2, hC2, hN2, ht, htP, hPt, hTT, hiP, hcomm, hC3, hD3, htr, hto, hto1, hdsE, hC4, hC5, hc1, c17, c20] at e; replace e : some _ = _ := e; subst e; (try dsimp only [goW]))
    | refine W.cond_true rfl ?_
    | refine W.cond_false rfl ?_
    | refine W.skip ?_
    | refine W.exit ?_
    | (refine FR _ ?_ _ fun n2 tyn2 hn2 hun2 => ⟨rfl, ?_⟩; (focus (((refine ⟨?_, ?_⟩; (focus ((repeat (first | exact hu.le (by (try dsimp only); omega) | exact hu.set.le (by (try dsimp only); omega) | exact hu.set.set.le (by (try dsimp only); omega) | refine Under.cons (by (try dsimp only); omega) ?_ | exact Under.nil)); done)); (focus ((repeat (first | exact hut.le (by (try dsimp only); omega) | refine UnderT.cons (by (try dsimp only); omega) ?_ | exact UnderT.nil | assumption | exact UnderT.le (by assumption) (by (try dsimp only); omega))); done)))); done)); (try dsimp only at hn2))
    | (refine P _ ?_ _ fun n3 tyn3 hn3 hun3 => ⟨rfl, ?_⟩; (focus (((refine ⟨?_, ?_⟩; (focus ((repeat (first | exact hu.le (by (try dsimp only); omega) | exact hu.set.le (by (try dsimp only); omega) | exact hu.set.set.le (by (try dsimp only); omega) | refine Under.cons (by (try dsimp only); omega) ?_ | exact Under.nil)); done)); (focus ((repeat (first | exact hut.le (by (try dsimp only); omega) | refine UnderT.cons (by (try dsimp only); omega) ?_ | exact UnderT.nil | assumption | exact UnderT.le (by assumption) (by (try dsimp only); omega))); done)))); done)); (try dsimp only at hn3))
    | (refine (contains_N c _ hcc) _ ?_ _ fun n4 tyn4 hn4 hun4 => ⟨rfl, ?_⟩; (focus (((refine ⟨?_, ?_⟩; (focus ((repeat (first | exact hu.le (by (try dsimp only); omega) | exact hu.set.le (by (try dsimp only); omega) | exact hu.set.set.le (by (try dsimp only); omega) | refine Under.cons (by (try dsimp only); omega) ?_ | exact Under.nil)); done)); (focus ((repeat (first | exact hut.le (by (try dsimp only); omega) | refine UnderT.cons (by (try dsimp only); omega) ?_ | exact UnderT.nil | assumption | exact UnderT.le (by assumption) (by (try dsimp only); omega))); done)))); done)); (try dsimp only at hn4))
    | (refine Wc.mkG 17 c17 (by kernel_rfl) rfl ?_; generalize e : entryC _ _ _ = r; simp (disch := omega) [hD, hC, hN, hT, hg, hG, hD2, hC2, hN2, ht, htP, hPt, hTT, hiP, hcomm, hC3, hD3, htr, hto, hto1, hdsE, hC4, hC5, hc1, c17, c20] at e; subst e)
    | ((first | (refine W.ret ?_; (try simp only [outOf, thenW_ret, roundW]); refine endW.of (.inl rfl) rfl ?_) | refine endW.of (.inr rfl) rfl ?_); generalize e : endsC _ _ _ = r; simp (disch := omega) [hD, hC, hN, hT, hg, hG, hD2, hC2, hN2, ht, htP, hPt, hTT, hiP, hcomm, hC3, hD3, htr, hto, hto1, hdsE, hC4, hC5, hc1, c17, c20] at e; subst e; (try dsimp only [goW]); (first | refine ⟨rfl, ?_⟩ | (refine hk _ _ (S.app1 ht hip hi0 hin ?_ ?_) ?_; (focus ((omega); done)); (focus ((repeat (first | exact hut.le (by (try dsimp only); omega) | refine UnderT.cons (by (try dsimp only); omega) ?_ | exact UnderT.nil | assumption | exact UnderT.le (by assumption) (by (try dsimp only); omega))); done)); (try dsimp only); omega))))

theorem tail_ovf_end0 {n0 n1 : Nat} {E0 : List (Nat × CObj)} (p d : Nat) (s r : List UInt8) (a n k : Nat) (B : Int) (v0 : Nat) (set ds : List UInt8) (ts : List CVal) (hts : ts.length ≤ 100000) (to : Int) (hs : s.length < 60000) (hda : s.drop a = r) (hlen : a + r.length = s.length) (hnk : n + k ≤ r.length) (hdsE : (r.take (n + k)).drop n = ds)
    (FR : Pu tree.getF 13 [.str (r.drop n), .str set] (.int .i64 (k : Int))) (P : ∀ (h : CHeap), Fit h → ∀ (K : CVal → CHeap → Prop), (∀ n' ty m d, h.next ≤ n' → UnderT ty n' → K (.tup [.int .u64 (v0 : Int), .ifc 80 (.ptr m d 0)]) ⟨h.ents, n', ty⟩) → Wc tree.getF 34 [.str ds, .int .i64 B, .int .i64 64] h K) (hend : n + k = r.length) (h : CHeap) (S : St n0 E0 p s (a : Int) (.nils) [] 0 to h) (hn1 : n1 ≤ h.next) (hu1 : Under h.ents n1) (v2 v3 v6 v8 v9 v10 : CVal) (K : CVal → CHeap → Prop)
    (hk : ∀ h' L', St n0 E0 p s ((a : Int) + ((n : Int) + (k : Int))) L' ([] ++ [tokC 2 [] v0 a]) 3 (a : Int) h' → h.next ≤ h'.next → K (.tup []) h') : W tree.getF numTail ⟨[.ptr p d 0, .str r, v2, v3, .int .i64 (n : Int), .str set, v6, .int .i64 B, v8, v9, v10], h, []⟩ (endW c20 n1 K) := by
  have hg := S.g
  have hf := S.f
  have hp := S.lt
  obtain ⟨hu, hut⟩ := hf
  have hD : ∀ m, h.next ≤ m → dropEnts h.ents m = h.ents := fun m hm => dropEnts_under (hu.le hm)
  have hC : ∀ m, h.next ≤ m → dropCells h.ents m = h.ents := fun m hm => dropCells_under (hu.le hm)
  have hN : ∀ q, h.next ≤ q → getEnt h.ents q = none := fun q hq => getEnt_under hu hq
  have hT : ∀ q, h.next ≤ q → lookupN h.tys q = none := fun q hq => lookupN_under hut hq
  have hG : ∀ x, getEnt (setEnt h.ents p x) p = some x := fun x => sy_getEnt_setEnt hg
  have hD2 : ∀ x m, h.next ≤ m → dropEnts (setEnt h.ents p x) m = setEnt h.ents p x := fun x m hm => dropEnts_under (hu.set.le hm)
  have hC2 : ∀ x m, h.next ≤ m → dropCells (setEnt h.ents p x) m = setEnt h.ents p x := fun x m hm => dropCells_under (hu.set.le hm)
  have hN2 : ∀ x q, h.next ≤ q → getEnt (setEnt h.ents p x) q = none := fun x q hq => getEnt_under hu.set hq
  have hC4 : ∀ x, dropCells (setEnt h.ents p x) n1 = setEnt h.ents p x := fun x => dropCells_under hu1.set
  have htr : r.take r.length = r := List.take_length
  have hto : ((n : Int) + (k : Int)).toNat = n + k := by omega
  have hto1 : ((n : Int) + (k : Int) + 1).toNat = n + k + 1 := by omega
  repeat (first
    | refine W.seq ?_
    | refine W.block ?_
    | ((first | refine W.regG ?_ | refine WoR.go ?_); generalize e : goR _ _ _ _ _ _ _ _ = r; simp (disch := omega) [hD, hC, hN, hT, hg, hG, hD2, hC2, hN2, htr, hto, hto1, hdsE, hC4, c17, c20] at e; replace e : some _ = _ := e; subst e; (try dsimp only [goW]))
    | refine W.cond_true rfl ?_
    | refine W.cond_false rfl ?_
    | refine W.skip ?_
    | refine W.exit ?_
    | (refine FR _ ?_ _ fun n2 tyn2 hn2 hun2 => ⟨rfl, ?_⟩; (focus (((refine ⟨?_, ?_⟩; (focus ((repeat (first | exact hu.le (by (try dsimp only); omega) | exact hu.set.le (by (try dsimp only); omega) | exact hu.set.set.le (by (try dsimp only); omega) | refine Under.cons (by (try dsimp only); omega) ?_ | exact Under.nil)); done)); (focus ((repeat (first | exact hut.le (by (try dsimp only); omega) | refine UnderT.cons (by (try dsimp only); omega) ?_ | exact UnderT.nil | assumption | exact UnderT.le (by assumption) (by (try dsimp only); omega))); done)))); done)); (try dsimp only at hn2))
    | (refine P _ ?_ _ fun n3 tyn3 m3 d3 hn3 hun3 => ⟨rfl, ?_⟩; (focus (((refine ⟨?_, ?_⟩; (focus ((repeat (first | exact hu.le (by (try dsimp only); omega) | exact hu.set.le (by (try dsimp only); omega) | exact hu.set.set.le (by (try dsimp only); omega) | refine Under.cons (by (try dsimp only); omega) ?_ | exact Under.nil)); done)); (focus ((repeat (first | exact hut.le (by (try dsimp only); omega) | refine UnderT.cons (by (try dsimp only); omega) ?_ | exact UnderT.nil | assumption | exact UnderT.le (by assumption) (by (try dsimp only); omega))); done)))); done)); (try dsimp only at hn3))
    | (refine Wc.mkG 17 c17 (by kernel_rfl) rfl ?_; generalize e : entryC _ _ _ = r; simp (disch := omega) [hD, hC, hN, hT, hg, hG, hD2, hC2, hN2, htr, hto, hto1, hdsE, hC4, c17, c20] at e; subst e)
    | ((first | (refine W.ret ?_; (try simp only [outOf, thenW_ret, roundW]); refine endW.of (.inl rfl) rfl ?_) | refine endW.of (.inr rfl) rfl ?_); generalize e : endsC _ _ _ = r; simp (disch := omega) [hD, hC, hN, hT, hg, hG, hD2, hC2, hN2, htr, hto, hto1, hdsE, hC4, c17, c20] at e; subst e; (try dsimp only [goW]); (first | refine ⟨rfl, ?_⟩ | (refine hk _ _ (S.app0 ?_ ?_ ?_) ?_; (focus ((omega); done)); (focus ((omega); done)); (focus ((repeat (first | exact hut.le (by (try dsimp only); omega) | refine UnderT.cons (by (try dsimp only); omega) ?_ | exact UnderT.nil | assumption | exact UnderT.le (by assumption) (by (try dsimp only); omega))); done)); (try dsimp only); omega))))

theorem tail_ovf_end1 {n0 n1 : Nat} {E0 : List (Nat × CObj)} (p d : Nat) (s r : List UInt8) (a n k : Nat) (B : Int) (v0 : Nat) (set ds : List UInt8) (ts : List CVal) (hts : ts.length ≤ 100000) (to : Int) (hs : s.length < 60000) (hda : s.drop a = r) (hlen : a + r.length = s.length) (hnk : n + k ≤ r.length) (hdsE : (r.take (n + k)).drop n = ds)
    (FR : Pu tree.getF 13 [.str (r.drop n), .str set] (.int .i64 (k : Int))) (P : ∀ (h : CHeap), Fit h → ∀ (K : CVal → CHeap → Prop), (∀ n' ty m d, h.next ≤ n' → UnderT ty n' → K (.tup [.int .u64 (v0 : Int), .ifc 80 (.ptr m d 0)]) ⟨h.ents, n', ty⟩) → Wc tree.getF 34 [.str ds, .int .i64 B, .int .i64 64] h K) (hend : n + k = r.length) (h : CHeap) (i v : Nat) (ht : getEnt h.ents i = some (.tok v)) (hip : i ≠ p) (hi0 : n0 ≤ i) (hin : i < h.next) (S : St n0 E0 p s (a : Int) (.imm (.own i v) 4 ts) ts 0 to h) (hn1 : n1 ≤ h.next) (hu1 : Under h.ents n1) (v2 v3 v6 v8 v9 v10 : CVal) (K : CVal → CHeap → Prop)
    (hk : ∀ h' L', St n0 E0 p s ((a : Int) + ((n : Int) + (k : Int))) L' (ts ++ [tokC 2 [] v0 a]) 3 (a : Int) h' → h.next ≤ h'.next → K (.tup []) h') : W tree.getF numTail ⟨[.ptr p d 0, .str r, v2, v3, .int .i64 (n : Int), .str set, v6, .int .i64 B, v8, v9, v10], h, []⟩ (endW c20 n1 K) := by
  have hg := S.g
  have hf := S.f
  have hp := S.lt
  obtain ⟨hu, hut⟩ := hf
  have hD : ∀ m, h.next ≤ m → dropEnts h.ents m = h.ents := fun m hm => dropEnts_under (hu.le hm)
  have hC : ∀ m, h.next ≤ m → dropCells h.ents m = h.ents := fun m hm => dropCells_under (hu.le hm)
  have hN : ∀ q, h.next ≤ q → getEnt h.ents q = none := fun q hq => getEnt_under hu hq
  have hT : ∀ q, h.next ≤ q → lookupN h.tys q = none := fun q hq => lookupN_under hut hq
  have hG : ∀ x, getEnt (setEnt h.ents p x) p = some x := fun x => sy_getEnt_setEnt hg
  have hD2 : ∀ x m, h.next ≤ m → dropEnts (setEnt h.ents p x) m = setEnt h.ents p x := fun x m hm => dropEnts_under (hu.set.le hm)
  have hC2 : ∀ x m, h.next ≤ m → dropCells (setEnt h.ents p x) m = setEnt h.ents p x := fun x m hm => dropCells_under (hu.set.le hm)
  have hN2 : ∀ x q, h.next ≤ q → getEnt (setEnt h.ents p x) q = none := fun x q hq => getEnt_under hu.set hq
  have htP : ∀ x, getEnt (setEnt h.ents p x) i = some (.tok v) := fun x => (getEnt_setEnt_ne hip).trans ht
  have hPt : ∀ x y, getEnt (setEnt (setEnt h.ents i x) p y) p = some y := fun x y => sy_getEnt_setEnt ((getEnt_setEnt_ne (Ne.symm hip)).trans hg)
  have hTT : ∀ x y, getEnt (setEnt (setEnt h.ents i x) p y) i = some x := fun x y => (getEnt_setEnt_ne hip).trans (sy_getEnt_setEnt ht)
  have hiP : ∀ x, getEnt (setEnt h.ents i x) p = _ := fun x => (getEnt_setEnt_ne (Ne.symm hip)).trans hg
  have hcomm : ∀ x y, setEnt (setEnt h.ents p y) i x = setEnt (setEnt h.ents i x) p y := fun x y => setEnt_comm (Ne.symm hip)
  have hC3 : ∀ x y m, h.next ≤ m → dropCells (setEnt (setEnt h.ents i x) p y) m = setEnt (setEnt h.ents i x) p y := fun x y m hm => dropCells_under (hu.set.set.le hm)
  have hD3 : ∀ x y m, h.next ≤ m → dropEnts (setEnt (setEnt h.ents i x) p y) m = setEnt (setEnt h.ents i x) p y := fun x y m hm => dropEnts_under (hu.set.set.le hm)
  have hC4 : ∀ x, dropCells (setEnt h.ents p x) n1 = setEnt h.ents p x := fun x => dropCells_under hu1.set
  have hC5 : ∀ x y, dropCells (setEnt (setEnt h.ents i x) p y) n1 = setEnt (setEnt h.ents i x) p y := fun x y => dropCells_under hu1.set.set
  have htr : r.take r.length = r := List.take_length
  have hto : ((n : Int) + (k : Int)).toNat = n + k := by omega
  have hto1 : ((n : Int) + (k : Int) + 1).toNat = n + k + 1 := by omega
  repeat (first
    | refine W.seq ?_
    | refine W.block ?_
    | ((first | refine W.regG ?_ | refine WoR.go ?_); generalize e : goR _ _ _ _ _ _ _ _ = r; simp (disch := omega) [hD, hC, hN, hT, hg, hG, hD2, hC2, hN2, ht, htP, hPt, hTT, hiP, hcomm, hC3, hD3, htr, hto, hto1, hdsE, hC4, hC5, c17, c20] at e; replace e : some _ = _ := e; subst e; (try dsimp only [goW]))
    | refine W.cond_true rfl ?_
    | refine W.cond_false rfl ?_
    | refine W.skip ?_
    | refine W.exit ?_
    | (refine FR _ ?_ _ fun n2 tyn2 hn2 hun2 => ⟨rfl, ?_⟩; (focus (((refine ⟨?_, ?_⟩; (focus ((repeat (first | exact hu.le (by (try dsimp only); omega) | exact hu.set.le (by (try dsimp only); omega) | exact hu.set.set.le (by (try dsimp only); omega) | refine Under.cons (by (try dsimp only); omega) ?_ | exact Under.nil)); done)); (focus ((repeat (first | exact hut.le (by (try dsimp only); omega) | refine UnderT.cons (by (try dsimp only); omega) ?_ | exact UnderT.nil | assumption | exact UnderT.le (by assumption) (by (try dsimp only); omega))); done)))); done)); (try dsimp only at hn2))
    | (refine P _ ?_ _ fun n3 tyn3 m3 d3 hn3 hun3 => ⟨rfl, ?_⟩; (focus (((refine ⟨?_, ?_⟩; (focus ((repeat (first | exact hu.le (by (try dsimp only); omega) | exact hu.set.le (by (try dsimp only); omega) | exact hu.set.set.le (by (try dsimp only); omega) | refine Under.cons (by (try dsimp only); omega) ?_ | exact Under.nil)); done)); (focus ((repeat (first | exact hut.le (by (try dsimp only); omega) | refine UnderT.cons (by (try dsimp only); omega) ?_ | exact UnderT.nil | assumption | exact UnderT.le (by assumption) (by (try dsimp only); omega))); done)))); done)); (try dsimp only at hn3))
    | (refine Wc.mkG 17 c17 (by kernel_rfl) rfl ?_; generalize e : entryC _ _ _ = r; simp (disch := omega) [hD, hC, hN, hT, hg, hG, hD2, hC2, hN2, ht, htP, hPt, hTT, hiP, hcomm, hC3, hD3, htr, hto, hto1, hdsE, hC4, hC5, c17, c20] at e; subst e)
    | ((first | (refine W.ret ?_; (try simp only [outOf, thenW_ret, roundW]); refine endW.of (.inl rfl) rfl ?_) | refine endW.of (.inr rfl) rfl ?_); generalize e : endsC _ _ _ = r; simp (disch := omega) [hD, hC, hN, hT, hg, hG, hD2, hC2, hN2, ht, htP, hPt, hTT, hiP, hcomm, hC3, hD3, htr, hto, hto1, hdsE, hC4, hC5, c17, c20] at e; subst e; (try dsimp only [goW]); (first | refine ⟨rfl, ?_⟩ | (refine hk _ _ (S.app1 ht hip hi0 hin ?_ ?_) ?_; (focus ((omega); done)); (focus ((repeat (first | exact hut.le (by (try dsimp only); omega) | refine UnderT.cons (by (try dsimp only); omega) ?_ | exact UnderT.nil | assumption | exact UnderT.le (by assumption) (by (try dsimp only); omega))); done)); (try dsimp only); omega))))

theorem tail_ovf_good0 {n0 n1 : Nat} {E0 : List (Nat × CObj)} (p d : Nat) (s r : List UInt8) (a n k : Nat) (B : Int) (v0 : Nat) (set ds : List UInt8) (ts : List CVal) (hts : ts.length ≤ 100000) (to : Int) (hs : s.length < 60000) (hda : s.drop a = r) (hlen : a + r.length = s.length) (hnk : n + k ≤ r.length) (hdsE : (r.take (n + k)).drop n = ds)
    (FR : Pu tree.getF 13 [.str (r.drop n), .str set] (.int .i64 (k : Int))) (P : ∀ (h : CHeap), Fit h → ∀ (K : CVal → CHeap → Prop), (∀ n' ty m d, h.next ≤ n' → UnderT ty n' → K (.tup [.int .u64 (v0 : Int), .ifc 80 (.ptr m d 0)]) ⟨h.ents, n', ty⟩) → Wc tree.getF 34 [.str ds, .int .i64 B, .int .i64 64] h K) (c : UInt8) (t : List UInt8) (hc : r.drop (n + k) = c :: t) (hcc : (namesB ++ [46]).contains c = false) (h : CHeap) (S : St n0 E0 p s (a : Int) (.nils) [] 0 to h) (hn1 : n1 ≤ h.next) (hu1 : Under h.ents n1) (v2 v3 v6 v8 v9 v10 : CVal) (K : CVal → CHeap → Prop)
    (hk : ∀ h' L', St n0 E0 p s ((a : Int) + ((n : Int) + (k : Int))) L' ([] ++ [tokC 2 [] v0 a]) 3 (a : Int) h' → h.next ≤ h'.next → K (.tup []) h') : W tree.getF numTail ⟨[.ptr p d 0, .str r, v2, v3, .int .i64 (n : Int), .str set, v6, .int .i64 B, v8, v9, v10], h, []⟩ (endW c20 n1 K) := by
  have hg := S.g
  have hf := S.f
  have hp := S.lt
  obtain ⟨hu, hut⟩ := hf
  have hD : ∀ m, h.next ≤ m → dropEnts h.ents m = h.ents := fun m hm => dropEnts_under (hu.le hm)
  have hC : ∀ m, h.next ≤ m → dropCells h.ents m = h.ents := fun m hm => dropCells_under (hu.le hm)
  have hN : ∀ q, h.next ≤ q → getEnt h.ents q = none := fun q hq => getEnt_under hu hq
  have hT : ∀ q, h.next ≤ q → lookupN h.tys q = none := fun q hq => lookupN_under hut hq
  have hG : ∀ x, getEnt (setEnt h.ents p x) p = some x := fun x => sy_getEnt_setEnt hg
  have hD2 : ∀ x m, h.next ≤ m → dropEnts (setEnt h.ents p x) m = setEnt h.ents p x := fun x m hm => dropEnts_under (hu.set.le hm)
  have hC2 : ∀ x m, h.next ≤ m → dropCells (setEnt h.ents p x) m = setEnt h.ents p x := fun x m hm => dropCells_under (hu.set.le hm)
  have hN2 : ∀ x q, h.next ≤ q → getEnt (setEnt h.ents p x) q = none := fun x q hq => getEnt_under hu.set hq
  have hC4 : ∀ x, dropCells (setEnt h.ents p x) n1 = setEnt h.ents p x := fun x => dropCells_under hu1.set
  have htr : r.take r.length = r := List.take_length
  have hto : ((n : Int) + (k : Int)).toNat = n + k := by omega
  have hto1 : ((n : Int) + (k : Int) + 1).toNat = n + k + 1 := by omega
  have hlt : n + k < r.length := by
    rcases Nat.lt_or_ge (n + k) r.length with h' | h'
    · exact h'
    · rw [List.drop_eq_nil_of_le h'] at hc; cases hc
  have hc1 : (r.take (n + k + 1)).drop (n + k) = [c] := by
    rw [List.drop_take, hc, show n + k + 1 - (n + k) = 1 by omega]; rfl
  repeat (first
    | refine W.seq ?_
    | refine W.block ?_
    | ((first | refine W.regG ?_ | refine WoR.go ?_); generalize e : goR _ _ _ _ _ _ _ _ = r; simp (disch := omega) [hD, hC, hN, hT, hg, hG, hD2, hC2, hN2, htr, hto, hto1, hdsE, hC4, hc1, c17, c20] at e; replace e : some _ = _ := e; subst e; (try dsimp only [goW]))
    | refine W.cond_true rfl ?_
    | refine W.cond_false rfl ?_
    | refine W.skip ?_
    | refine W.exit ?_
    | (refine FR _ ?_ _ fun n2 tyn2 hn2 hun2 => ⟨rfl, ?_⟩; (focus (((refine ⟨?_, ?_⟩; (focus ((repeat (first | exact hu.le (by (try dsimp only); omega) | exact hu.set.le (by (try dsimp only); omega) | exact hu.set.set.le (by (try dsimp only); omega) | refine Under.cons (by (try dsimp only); omega) ?_ | exact Under.nil)); done)); (focus ((repeat (first | exact hut.le (by (try dsimp only); omega) | refine UnderT.cons (by (try dsimp only); omega) ?_ | exact UnderT.nil | assumption | exact UnderT.le (by assumption) (by (try dsimp only); omega))); done)))); done)); (try dsimp only at hn2))
    | (refine P _ ?_ _ fun n3 tyn3 m3 d3 hn3 hun3 => ⟨rfl, ?_⟩; (focus (((refine ⟨?_, ?_⟩; (focus ((repeat (first | exact hu.le (by (try dsimp only); omega) | exact hu.set.le (by (try dsimp only); omega) | exact hu.set.set.le (by (try dsimp only); omega) | refine Under.cons (by (try dsimp only); omega) ?_ | exact Under.nil)); done)); (focus ((repeat (first | exact hut.le (by (try dsimp only); omega) | refine UnderT.cons (by (try dsimp only); omega) ?_ | exact UnderT.nil | assumption | exact UnderT.le (by assumption) (by (try dsimp only); omega))); done)))); done)); (try dsimp only at hn3))
    | (refine (contains_N c _ hcc) _ ?_ _ fun n4 tyn4 hn4 hun4 => ⟨rfl, ?_⟩; (focus (((refine ⟨?_, ?_⟩; (focus ((repeat (first | exact hu.le (by (try dsimp only); omega) | exact hu.set.le (by (try dsimp only); omega) | exact hu.set.set.le (by (try dsimp only); omega) | refine Under.cons (by (try dsimp only); omega) ?_ | exact Under.nil)); done)); (focus ((repeat (first | exact hut.le (by (try dsimp only); omega) | refine UnderT.cons (by (try dsimp only); omega) ?_ | exact UnderT.nil | assumption | exact UnderT.le (by assumption) (by (try dsimp only); omega))); done)))); done)); (try dsimp only at hn4))
    | (refine Wc.mkG 17 c17 (by kernel_rfl) rfl ?_; generalize e : entryC _ _ _ = r; simp (disch := omega) [hD, hC, hN, hT, hg, hG, hD2, hC2, hN2, htr, hto, hto1, hdsE, hC4, hc1, c17, c20] at e; subst e)
    | ((first | (refine W.ret ?_; (try simp only [outOf, thenW_ret, roundW]); refine endW.of (.inl rfl) rfl ?_) | refine endW.of (.inr rfl) rfl ?_); generalize e : endsC _ _ _ = r; simp (disch := omega) [hD, hC, hN, hT, hg, hG, hD2, hC2, hN2, htr, hto, hto1, hdsE, hC4, hc1, c17, c20] at e; subst e; (try dsimp only [goW]); (first | refine ⟨rfl, ?_⟩ | (refine hk _ _ (S.app0 ?_ ?_ ?_) ?_; (focus ((omega); done)); (focus ((omega); done)); (focus ((repeat (first | exact hut.le (by (try dsimp only); omega) | refine UnderT.cons (by (try dsimp only); omega) ?_ | exact UnderT.nil | assumption | exact UnderT.le (by assumption) (by (try dsimp only); omega))); done)); (try dsimp only); omega))))

theorem tail_ovf_good1 {n0 n1 : Nat} {E0 : List (Nat × CObj)} (p d : Nat) (s r : List UInt8) (a n k : Nat) (B : Int) (v0 : Nat) (set ds : List UInt8) (ts : List CVal) (hts : ts.length ≤ 100000) (to : Int) (hs : s.length < 60000) (hda : s.drop a = r) (hlen : a + r.length = s.length) (hnk : n + k ≤ r.length) (hdsE : (r.take (n + k)).drop n = ds)
    (FR : Pu tree.getF 13 [.str (r.drop n), .str set] (.int .i64 (k : Int))) (P : ∀ (h : CHeap), Fit h → ∀ (K : CVal → CHeap → Prop), (∀ n' ty m d, h.next ≤ n' → UnderT ty n' → K (.tup [.int .u64 (v0 : Int), .ifc 80 (.ptr m d 0)]) ⟨h.ents, n', ty⟩) → Wc tree.getF 34 [.str ds, .int .i64 B, .int .i64 64] h K) (c : UInt8) (t : List UInt8) (hc : r.drop (n + k) = c :: t) (hcc : (namesB ++ [46]).contains c = false) (h : CHeap) (i v : Nat) (ht : getEnt h.ents i = some (.tok v)) (hip : i ≠ p) (hi0 : n0 ≤ i) (hin : i < h.next) (S : St n0 E0 p s (a : Int) (.imm (.own i v) 4 ts) ts 0 to h) (hn1 : n1 ≤ h.next) (hu1 : Under h.ents n1) (v2 v3 v6 v8 v9 v10 : CVal) (K : CVal → CHeap → Prop)
    (hk : ∀ h' L', St n0 E0 p s ((a : Int) + ((n : Int) + (k : Int))) L' (ts ++ [tokC 2 [] v0 a]) 3 (a : Int) h' → h.next ≤ h'.next → K (.tup []) h') : W tree.getF numTail ⟨[.ptr p d 0, .str r, v2, v3, .int .i64 (n : Int), .str set, v6, .int .i64 B, v8, v9, v10], h, []⟩ (endW c20 n1 K) := by
  have hg := S.g
  have hf := S.f
  have hp := S.lt
  obtain ⟨hu, hut⟩ := hf
  have hD : ∀ m, h.next ≤ m → dropEnts h.ents m = h.ents := fun m hm => dropEnts_under (hu.le hm)
  have hC : ∀ m, h.next ≤ m → dropCells h.ents m = h.ents := fun m hm => dropCells_under (hu.le hm)
  have hN : ∀ q, h.next ≤ q → getEnt h.ents q = none := fun q hq => getEnt_under hu hq
  have hT : ∀ q, h.next ≤ q → lookupN h.tys q = none := fun q hq => lookupN_under hut hq
  have hG : ∀ x, getEnt (setEnt h.ents p x) p = some x := fun x => sy_getEnt_setEnt hg
  have hD2 : ∀ x m, h.next ≤ m → dropEnts (setEnt h.ents p x) m = setEnt h.ents p x := fun x m hm => dropEnts_under (hu.set.le hm)
  have hC2 : ∀ x m, h.next ≤ m → dropCells (setEnt h.ents p x) m = setEnt h.ents p x := fun x m hm => dropCells_under (hu.set.le hm)
  have hN2 : ∀ x q, h.next ≤ q → getEnt (setEnt h.ents p x) q = none := fun x q hq => getEnt_under hu.set hq
  have htP : ∀ x, getEnt (setEnt h.ents p x) i = some (.tok v) := fun x => (getEnt_setEnt_ne hip).trans ht
  have hPt : ∀ x y, getEnt (setEnt (setEnt h.ents i x) p y) p = some y := fun x y => sy_getEnt_setEnt ((getEnt_setEnt_ne (Ne.symm hip)).trans hg)
  have hTT : ∀ x y, getEnt (setEnt (setEnt h.ents i x) p y) i = some x := fun x y => (getEnt_setEnt_ne hip).trans (sy_getEnt_setEnt ht)
  have hiP : ∀ x, getEnt (setEnt h.ents i x) p = _ := fun x => (getEnt_setEnt_ne (Ne.symm hip)).trans hg
  have hcomm : ∀ x y, setEnt (setEnt h.ents p y) i x = setEnt (setEnt h.ents i x) p y := fun x y => setEnt_comm (Ne.symm hip)
  have hC3 : ∀ x y m, h.next ≤ m → dropCells (setEnt (setEnt h.ents i x) p y) m = setEnt (setEnt h.ents i x) p y := fun x y m hm => dropCells_under (hu.set.set.le hm)
  have hD3 : ∀ x y m, h.next ≤ m → dropEnts (setEnt (setEnt h.ents i x) p y) m = setEnt (setEnt h.ents i x) p y := fun x y m hm => dropEnts_under (hu.set.set.le hm)
  have hC4 : ∀ x, dropCells (setEnt h.ents p x) n1 = setEnt h.ents p x := fun x => dropCells_under hu1.set
  have hC5 : ∀ x y, dropCells (setEnt (setEnt h.ents i x) p y) n1 = setEnt (setEnt h.ents i x) p y := fun x y => dropCells_under hu1.set.set
  have htr : r.take r.length = r := List.take_length
  have hto : ((n : Int) + (k : Int)).toNat = n + k := by omega
  have hto1 : ((n : Int) + (k : Int) + 1).toNat = n + k + 1 := by omega
  have hlt : n + k < r.length := by
    rcases Nat.lt_or_ge (n + k) r.length with h' | h'
    · exact h'
    · rw [List.drop_eq_nil_of_le h'] at hc; cases hc
  have hc1 : (r.take (n + k + 1)).drop (n + k) = [c] := by
    rw [List.drop_take, hc, show n + k + 1 - (n + k) = 1 by omega]; rfl
  repeat (first
    | refine W.seq ?_
    | refine W.block ?_
    | ((first | refine W.regG ?_ | refine WoR.go ?_); generalize e : goR _ _ _ _ _ _ _ _ = r; simp (disch := omega) [hD, hC, hN, hT, hg, hG, hD2, hC2, hN2, ht, htP, hPt, hTT, hiP, hcomm, hC3, hD3, htr, hto, hto1, hdsE, hC4, hC5, hc1, c17, c20] at e; replace e : some _ = _ := e; subst e; (try dsimp only [goW]))
    | refine W.cond_true rfl ?_
    | refine W.cond_false rfl ?_
    | refine W.skip ?_
    | refine W.exit ?_
    | (refine FR _ ?_ _ fun n2 tyn2 hn2 hun2 => ⟨rfl, ?_⟩; (focus (((refine ⟨?_, ?_⟩; (focus ((repeat (first | exact hu.le (by (try dsimp only); omega) | exact hu.set.le (by (try dsimp only); omega) | exact hu.set.set.le (by (try dsimp only); omega) | refine Under.cons (by (try dsimp only); omega) ?_ | exact Under.nil)); done)); (focus ((repeat (first | exact hut.le (by (try dsimp only); omega) | refine UnderT.cons (by (try dsimp only); omega) ?_ | exact UnderT.nil | assumption | exact UnderT.le (by assumption) (by (try dsimp only); omega))); done)))); done)); (try dsimp only at hn2))
    | (refine P _ ?_ _ fun n3 tyn3 m3 d3 hn3 hun3 => ⟨rfl, ?_⟩; (focus (((refine ⟨?_, ?_⟩; (focus ((repeat (first | exact hu.le (by (try dsimp only); omega) | exact hu.set.le (by (try dsimp only); omega) | exact hu.set.set.le (by (try dsimp only); omega) | refine Under.cons (by (try dsimp only); omega) ?_ | exact Under.nil)); done)); (focus ((repeat (first | exact hut.le (by (try dsimp only); omega) | refine UnderT.cons (by (try dsimp only); omega) ?_ | exact UnderT.nil | assumption | exact UnderT.le (by assumption) (by (try dsimp only); omega))); done)))); done)); (try dsimp only at hn3))
    | (refine (contains_N c _ hcc) _ ?_ _ fun n4 tyn4 hn4 hun4 => ⟨rfl, ?_⟩; (focus (((refine ⟨?_, ?_⟩; (focus ((repeat (first | exact hu.le (by (try dsimp only); omega) | exact hu.set.le (by (try dsimp only); omega) | exact hu.set.set.le (by (try dsimp only); omega) | refine Under.cons (by (try dsimp only); omega) ?_ | exact Under.nil)); done)); (focus ((repeat (first | exact hut.le (by (try dsimp only); omega) | refine UnderT.cons (by (try dsimp only); omega) ?_ | exact UnderT.nil | assumption | exact UnderT.le (by assumption) (by (try dsimp only); omega))); done)))); done)); (try dsimp only at hn4))
    | (refine Wc.mkG 17 c17 (by kernel_rfl) rfl ?_; generalize e : entryC _ _ _ = r; simp (disch := omega) [hD, hC, hN, hT, hg, hG, hD2, hC2, hN2, ht, htP, hPt, hTT, hiP, hcomm, hC3, hD3, htr, hto, hto1, hdsE, hC4, hC5, hc1, c17, c20] at e; subst e)
    | ((first | (refine W.ret ?_; (try simp only [outOf, thenW_ret, roundW]); refine endW.of (.inl rfl) rfl ?_) | refine endW.of (.inr rfl) rfl ?_); generalize e : endsC _ _ _ = r; simp (disch := omega) [hD, hC, hN, hT, hg, hG, hD2, hC2, hN2, ht, htP, hPt, hTT, hiP, hcomm, hC3, hD3, htr, hto, hto1, hdsE, hC4, hC5, hc1, c17, c20] at e; subst e; (try dsimp only [goW]); (first | refine ⟨rfl, ?_⟩ | (refine hk _ _ (S.app1 ht hip hi0 hin ?_ ?_) ?_; (focus ((omega); done)); (focus ((repeat (first | exact hut.le (by (try dsimp only); omega) | refine UnderT.cons (by (try dsimp only); omega) ?_ | exact UnderT.nil | assumption | exact UnderT.le (by assumption) (by (try dsimp only); omega))); done)); (try dsimp only); omega))))

theorem tail_ovf_bad0 {n0 n1 : Nat} {E0 : List (Nat × CObj)} (p d : Nat) (s r : List UInt8) (a n k : Nat) (B : Int) (v0 : Nat) (set ds : List UInt8) (ts : List CVal) (hts : ts.length ≤ 100000) (to : Int) (hs : s.length < 60000) (hda : s.drop a = r) (hlen : a + r.length = s.length) (hnk : n + k ≤ r.length) (hdsE : (r.take (n + k)).drop n = ds)
    (FR : Pu tree.getF 13 [.str (r.drop n), .str set] (.int .i64 (k : Int))) (P : ∀ (h : CHeap), Fit h → ∀ (K : CVal → CHeap → Prop), (∀ n' ty m d, h.next ≤ n' → UnderT ty n' → K (.tup [.int .u64 (v0 : Int), .ifc 80 (.ptr m d 0)]) ⟨h.ents, n', ty⟩) → Wc tree.getF 34 [.str ds, .int .i64 B, .int .i64 64] h K) (c : UInt8) (t : List UInt8) (hc : r.drop (n + k) = c :: t) (hcc : (namesB ++ [46]).contains c = true) (h : CHeap) (S : St n0 E0 p s (a : Int) (.nils) [] 0 to h) (hn1 : n1 ≤ h.next) (hu1 : Under h.ents n1) (v2 v3 v6 v8 v9 v10 : CVal) (K : CVal → CHeap → Prop)
    (hk : ∀ h' L', St n0 E0 p s ((a : Int) + ((n : Int) + (k : Int))) L' ([] ++ [tokC 2 [] v0 a]) 3 (a : Int) h' → h.next ≤ h'.next → K (.tup []) h') : W tree.getF numTail ⟨[.ptr p d 0, .str r, v2, v3, .int .i64 (n : Int), .str set, v6, .int .i64 B, v8, v9, v10], h, []⟩ (endW c20 n1 K) := by
  have hg := S.g
  have hf := S.f
  have hp := S.lt
  obtain ⟨hu, hut⟩ := hf
  have hD : ∀ m, h.next ≤ m → dropEnts h.ents m = h.ents := fun m hm => dropEnts_under (hu.le hm)
  have hC : ∀ m, h.next ≤ m → dropCells h.ents m = h.ents := fun m hm => dropCells_under (hu.le hm)
  have hN : ∀ q, h.next ≤ q → getEnt h.ents q = none := fun q hq => getEnt_under hu hq
  have hT : ∀ q, h.next ≤ q → lookupN h.tys q = none := fun q hq => lookupN_under hut hq
  have hG : ∀ x, getEnt (setEnt h.ents p x) p = some x := fun x => sy_getEnt_setEnt hg
  have hD2 : ∀ x m, h.next ≤ m → dropEnts (setEnt h.ents p x) m = setEnt h.ents p x := fun x m hm => dropEnts_under (hu.set.le hm)
  have hC2 : ∀ x m, h.next ≤ m → dropCells (setEnt h.ents p x) m = setEnt h.ents p x := fun x m hm => dropCells_under (hu.set.le hm)
  have hN2 : ∀ x q, h.next ≤ q → getEnt (setEnt h.ents p x) q = none := fun x q hq => getEnt_under hu.set hq
  have hC4 : ∀ x, dropCells (setEnt h.ents p x) n1 = setEnt h.ents p x := fun x => dropCells_under hu1.set
  have htr : r.take r.length = r := List.take_length
  have hto : ((n : Int) + (k : Int)).toNat = n + k := by omega
  have hto1 : ((n : Int) + (k : Int) + 1).toNat = n + k + 1 := by omega
  have hlt : n + k < r.length := by
    rcases Nat.lt_or_ge (n + k) r.length with h' | h'
    · exact h'
    · rw [List.drop_eq_nil_of_le h'] at hc; cases hc
  have hc1 : (r.take (n + k + 1)).drop (n + k) = [c] := by
    rw [List.drop_take, hc, show n + k + 1 - (n + k) = 1 by omega]; rfl
  repeat (first
    | refine W.seq ?_
    | refine W.block ?_
    | ((first | refine W.regG ?_ | refine WoR.go ?_); generalize e : goR _ _ _ _ _ _ _ _ = r; simp (disch := omega) [hD, hC, hN, hT, hg, hG, hD2, hC2, hN2, htr, hto, hto1, hdsE, hC4, hc1, c17, c20] at e; replace e : some _ = _ := e; subst e; (try dsimp only [goW]))
    | refine W.cond_true rfl ?_
    | refine W.cond_false rfl ?_
    | refine W.skip ?_
    | refine W.exit ?_
    | (refine FR _ ?_ _ fun n2 tyn2 hn2 hun2 => ⟨rfl, ?_⟩; (focus (((refine ⟨?_, ?_⟩; (focus ((repeat (first | exact hu.le (by (try dsimp only); omega) | exact hu.set.le (by (try dsimp only); omega) | exact hu.set.set.le (by (try dsimp only); omega) | refine Under.cons (by (try dsimp only); omega) ?_ | exact Under.nil)); done)); (focus ((repeat (first | exact hut.le (by (try dsimp only); omega) | refine UnderT.cons (by (try dsimp only); omega) ?_ | exact UnderT.nil | assumption | exact UnderT.le (by assumption) (by (try dsimp only); omega))); done)))); done)); (try dsimp only at hn2))
    | (refine P _ ?_ _ fun n3 tyn3 m3 d3 hn3 hun3 => ⟨rfl, ?_⟩; (focus (((refine ⟨?_, ?_⟩; (focus ((repeat (first | exact hu.le (by (try dsimp only); omega) | exact hu.set.le (by (try dsimp only); omega) | exact hu.set.set.le (by (try dsimp only); omega) | refine Under.cons (by (try dsimp only); omega) ?_ | exact Under.nil)); done)); (focus ((repeat (first | exact hut.le (by (try dsimp only); omega) | refine UnderT.cons (by (try dsimp only); omega) ?_ | exact UnderT.nil | assumption | exact UnderT.le (by assumption) (by (try dsimp only); omega))); done)))); done)); (try dsimp only at hn3))
    | (refine (contains_N c _ hcc) _ ?_ _ fun n4 tyn4 hn4 hun4 => ⟨rfl, ?_⟩; (focus (((refine ⟨?_, ?_⟩; (focus ((repeat (first | exact hu.le (by (try dsimp only); omega) | exact hu.set.le (by (try dsimp only); omega) | exact hu.set.set.le (by (try dsimp only); omega) | refine Under.cons (by (try dsimp only); omega) ?_ | exact Under.nil)); done)); (focus ((repeat (first | exact hut.le (by (try dsimp only); omega) | refine UnderT.cons (by (try dsimp only); omega) ?_ | exact UnderT.nil | assumption | exact UnderT.le (by assumption) (by (try dsimp only); omega))); done)))); done)); (try dsimp only at hn4))
    | (refine Wc.mkG 17 c17 (by kernel_rfl) rfl ?_; generalize e : entryC _ _ _ = r; simp (disch := omega) [hD, hC, hN, hT, hg, hG, hD2, hC2, hN2, htr, hto, hto1, hdsE, hC4, hc1, c17, c20] at e; subst e)
    | ((first | (refine W.ret ?_; (try simp only [outOf, thenW_ret, roundW]); refine endW.of (.inl rfl) rfl ?_) | refine endW.of (.inr rfl) rfl ?_); generalize e : endsC _ _ _ = r; simp (disch := omega) [hD, hC, hN, hT, hg, hG, hD2, hC2, hN2, htr, hto, hto1, hdsE, hC4, hc1, c17, c20] at e; subst e; (try dsimp only [goW]); (first | refine ⟨rfl, ?_⟩ | (refine hk _ _ (S.app0 ?_ ?_ ?_) ?_; (focus ((omega); done)); (focus ((omega); done)); (focus ((repeat (first | exact hut.le (by (try dsimp only); omega) | refine UnderT.cons (by (try dsimp only); omega) ?_ | exact UnderT.nil | assumption | exact UnderT.le (by assumption) (by (try dsimp only); omega))); done)); (try dsimp only); omega))))

theorem tail_ovf_bad1 {n0 n1 : Nat} {E0 : List (Nat × CObj)} (p d : Nat) (s r : List UInt8) (a n k : Nat) (B : Int) (v0 : Nat) (set ds : List UInt8) (ts : List CVal) (hts : ts.length ≤ 100000) (to : Int) (hs : s.length < 60000) (hda : s.drop a = r) (hlen : a + r.length = s.length) (hnk : n + k ≤ r.length) (hdsE : (r.take (n + k)).drop n = ds)
    (FR : Pu tree.getF 13 [.str (r.drop n), .str set] (.int .i64 (k : Int))) (P : ∀ (h : CHeap), Fit h → ∀ (K : CVal → CHeap → Prop), (∀ n' ty m d, h.next ≤ n' → UnderT ty n' → K (.tup [.int .u64 (v0 : Int), .ifc 80 (.ptr m d 0)]) ⟨h.ents, n', ty⟩) → Wc tree.getF 34 [.str ds, .int .i64 B, .int .i64 64] h K) (c : UInt8) (t : List UInt8) (hc : r.drop (n + k) = c :: t) (hcc : (namesB ++ [46]).contains c = true) (h : CHeap) (i v : Nat) (ht : getEnt h.ents i = some (.tok v)) (hip : i ≠ p) (hi0 : n0 ≤ i) (hin : i < h.next) (S : St n0 E0 p s (a : Int) (.imm (.own i v) 4 ts) ts 0 to h) (hn1 : n1 ≤ h.next) (hu1 : Under h.ents n1) (v2 v3 v6 v8 v9 v10 : CVal) (K : CVal → CHeap → Prop)
    (hk : ∀ h' L', St n0 E0 p s ((a : Int) + ((n : Int) + (k : Int))) L' (ts ++ [tokC 2 [] v0 a]) 3 (a : Int) h' → h.next ≤ h'.next → K (.tup []) h') : W tree.getF numTail ⟨[.ptr p d 0, .str r, v2, v3, .int .i64 (n : Int), .str set, v6, .int .i64 B, v8, v9, v10], h, []⟩ (endW c20 n1 K) := by
  have hg := S.g
  have hf := S.f
  have hp := S.lt
  obtain ⟨hu, hut⟩ := hf
  have hD : ∀ m, h.next ≤ m → dropEnts h.ents m = h.ents := fun m hm => dropEnts_under (hu.le hm)
  have hC : ∀ m, h.next ≤ m → dropCells h.ents m = h.ents := fun m hm => dropCells_under (hu.le hm)
  have hN : ∀ q, h.next ≤ q → getEnt h.ents q = none := fun q hq => getEnt_under hu hq
  have hT : ∀ q, h.next ≤ q → lookupN h.tys q = none := fun q hq => lookupN_under hut hq
  have hG : ∀ x, getEnt (setEnt h.ents p x) p = some x := fun x => sy_getEnt_setEnt hg
  have hD2 : ∀ x m, h.next ≤ m → dropEnts (setEnt h.ents p x) m = setEnt h.ents p x := fun x m hm => dropEnts_under (hu.set.le hm)
  have hC2 : ∀ x m, h.next ≤ m → dropCells (setEnt h.ents p x) m = setEnt h.ents p x := fun x m hm => dropCells_under (hu.set.le hm)
  have hN2 : ∀ x q, h.next ≤ q → getEnt (setEnt h.ents p x) q = none := fun x q hq => getEnt_under hu.set hq
  have htP : ∀ x, getEnt (setEnt h.ents p x) i = some (.tok v) := fun x => (getEnt_setEnt_ne hip).trans ht
  have hPt : ∀ x y, getEnt (setEnt (setEnt h.ents i x) p y) p = some y := fun x y => sy_getEnt_setEnt ((getEnt_setEnt_ne (Ne.symm hip)).trans hg)
  have hTT : ∀ x y, getEnt (setEnt (setEnt h.ents i x) p y) i = some x := fun x y => (getEnt_setEnt_ne hip).trans (sy_getEnt_setEnt ht)
  have hiP : ∀ x, getEnt (setEnt h.ents i x) p = _ := fun x => (getEnt_setEnt_ne (Ne.symm hip)).trans hg
  have hcomm : ∀ x y, setEnt (setEnt h.ents p y) i x = setEnt (setEnt h.ents i x) p y := fun x y => setEnt_comm (Ne.symm hip)
  have hC3 : ∀ x y m, h.next ≤ m → dropCells (setEnt (setEnt h.ents i x) p y) m = setEnt (setEnt h.ents i x) p y := fun x y m hm => dropCells_under (hu.set.set.le hm)
  have hD3 : ∀ x y m, h.next ≤ m → dropEnts (setEnt (setEnt h.ents i x) p y) m = setEnt (setEnt h.ents i x) p y := fun x y m hm => dropEnts_under (hu.set.set.le hm)
  have hC4 : ∀ x, dropCells (setEnt h.ents p x) n1 = setEnt h.ents p x := fun x => dropCells_under hu1.set
  have hC5 : ∀ x y, dropCells (setEnt (setEnt h.ents i x) p y) n1 = setEnt (setEnt h.ents i x) p y := fun x y => dropCells_under hu1.set.set
  have htr : r.take r.length = r := List.take_length
  have hto : ((n : Int) + (k : Int)).toNat = n + k := by omega
  have hto1 : ((n : Int) + (k : Int) + 1).toNat = n + k + 1 := by omega
  have hlt : n + k < r.length := by
    rcases Nat.lt_or_ge (n + k) r.length with h' | h'
    · exact h'
    · rw [List.drop_eq_nil_of_le h'] at hc; cases hc
  have hc1 : (r.take (n + k + 1)).drop (n + k) = [c] := by
    rw [List.drop_take, hc, show n + k + 1 - (n + k) = 1 by omega]; rfl
  repeat (first
    | refine W.seq ?_
    | refine W.block ?_
    | ((first | refine W.regG ?_ | refine WoR.go ?_); generalize e : goR _ _ _ _ _ _ _ _ = r; simp (disch := omega) [hD, hC, hN, hT, hg, hG, hD2, hC2, hN2, ht, htP, hPt, hTT, hiP, hcomm, hC3, hD3, htr, hto, hto1, hdsE, hC4, hC5, hc1, c17, c20] at e; replace e : some _ = _ := e; subst e; (try dsimp only [goW]))
    | refine W.cond_true rfl ?_
    | refine W.cond_false rfl ?_
    | refine W.skip ?_
    | refine W.exit ?_
    | (refine FR _ ?_ _ fun n2 tyn2 hn2 hun2 => ⟨rfl, ?_⟩; (focus (((refine ⟨?_, ?_⟩; (focus ((repeat (first | exact hu.le (by (try dsimp only); omega) | exact hu.set.le (by (try dsimp only); omega) | exact hu.set.set.le (by (try dsimp only); omega) | refine Under.cons (by (try dsimp only); omega) ?_ | exact Under.nil)); done)); (focus ((repeat (first | exact hut.le (by (try dsimp only); omega) | refine UnderT.cons (by (try dsimp only); omega) ?_ | exact UnderT.nil | assumption | exact UnderT.le (by assumption) (by (try dsimp only); omega))); done)))); done)); (try dsimp only at hn2))
    | (refine P _ ?_ _ fun n3 tyn3 m3 d3 hn3 hun3 => ⟨rfl, ?_⟩; (focus (((refine ⟨?_, ?_⟩; (focus ((repeat (first | exact hu.le (by (try dsimp only); omega) | exact hu.set.le (by (try dsimp only); omega) | exact hu.set.set.le (by (try dsimp only); omega) | refine Under.cons (by (try dsimp only); omega) ?_ | exact Under.nil)); done)); (focus ((repeat (first | exact hut.le (by (try dsimp only); omega) | refine UnderT.cons (by (try dsimp only); omega) ?_ | exact UnderT.nil | assumption | exact UnderT.le (by assumption) (by (try dsimp only); omega))); done)))); done)); (try dsimp only at hn3))
    | (refine (contains_N c _ hcc) _ ?_ _ fun n4 tyn4 hn4 hun4 => ⟨rfl, ?_⟩; (focus (((refine ⟨?_, ?_⟩; (focus ((repeat (first | exact hu.le (by (try dsimp only); omega) | exact hu.set.le (by (try dsimp only); omega) | exact hu.set.set.le (by (try dsimp only); omega) | refine Under.cons (by (try dsimp only); omega) ?_ | exact Under.nil)); done)); (focus ((repeat (first | exact hut.le (by (try dsimp only); omega) | refine UnderT.cons (by (try dsimp only); omega) ?_ | exact UnderT.nil | assumption | exact UnderT.le (by assumption) (by (try dsimp only); omega))); done)))); done)); (try dsimp only at hn4))
    | (refine Wc.mkG 17 c17 (by kernel_rfl) rfl ?_; generalize e : entryC _ _ _ = r; simp (disch := omega) [hD, hC, hN, hT, hg, hG, hD2, hC2, hN2, ht, htP, hPt, hTT, hiP, hcomm, hC3, hD3, htr, hto, hto1, hdsE, hC4, hC5, hc1, c17, c20] at e; subst e)
    | ((first | (refine W.ret ?_; (try simp only [outOf, thenW_ret, roundW]); refine endW.of (.inl rfl) rfl ?_) | refine endW.of (.inr rfl) rfl ?_); generalize e : endsC _ _ _ = r; simp (disch := omega) [hD, hC, hN, hT, hg, hG, hD2, hC2, hN2, ht, htP, hPt, hTT, hiP, hcomm, hC3, hD3, htr, hto, hto1, hdsE, hC4, hC5, hc1, c17, c20] at e; subst e; (try dsimp only [goW]); (first | refine ⟨rfl, ?_⟩ | (refine hk _ _ (S.app1 ht hip hi0 hin ?_ ?_) ?_; (focus ((omega); done)); (focus ((repeat (first | exact hut.le (by (try dsimp only); omega) | refine UnderT.cons (by (try dsimp only); omega) ?_ | exact UnderT.nil | assumption | exact UnderT.le (by assumption) (by (try dsimp only); omega))); done)); (try dsimp only); omega))))
end Go.Proofs.YthblmflngjofjaaDoor.IrP
