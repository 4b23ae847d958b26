/- What the functions of the law 'JsonDeep' do: part 7. -/
import Derived.Test.YtehdeihlahjglaaDoorJdF
namespace Go.Proofs.YtehdeihlahjglaaDoor.IrJd
open Go Go.CI
set_option maxRecDepth 100000
set_option linter.unusedVariables false
set_option linter.unusedSimpArgs false
attribute [local irreducible] W Wo Wc WoR
attribute [local simp] goR regOut checkOne swapOne sameAt nthOp CVal.beq beqs CVal.block storesTo entryC evalOps evalOper evalE evalP evalL evalOpnd nth setNth COp.cls COp.isStore CVal.isUndef CVal.whole CVal.cells CHeap.put CHeap.get CHeap.set wantedC getEnt setEnt partOf writeBack evalBin evalInt evalStr blockMost initVar descOf List.take List.drop CVal.lenOf CVal.isStr CVal.bare CVal.strip CVal.flat endsC resultsC oneOrTuple finishC cut fillCells setCells szOf elems bytesOf evalAppend fillElems mkElem setElem List.replicate dropped dropEnts dropCells sizeMost evalSlc optBound eqVal extL extE keyIs findKV nthKV setKV CHeap.ty lookupN CHeap.note CHeap.tyOk dropAll freezeVal freezeAll freezeFlat pCopyCheck pBString pMakeNoZero pIndexByte pClone pIndex hasPair rowOf byteVals idxFrom hasFront idxSub

def txt : List Bool → List UInt8
  | [] => [48]
  | false :: r => 91 :: (txt r ++ [93])
  | true :: r => 123 :: 34 :: 97 :: 34 :: 58 :: (txt r ++ [125])
def nodC (t : Tag) : List Bool → List CVal
  | [] => [.int .i64 3, .int .i64 0, .str [], .nils, .nils]
  | false :: r => [.int .i64 5, .int .i64 0, .str [], .imm t 5 [.agg (nodC t r)], .nils]
  | true :: r => [.int .i64 6, .int .i64 0, .str [], .imm t 5 [.agg (nodC t r)], .imm t 1 [.str [97]]]
theorem nod_len (t : Tag) (b : List Bool) : (nodC t b).length = 5 := by rcases b with _ | ⟨_ | _, b⟩ <;> rfl
theorem nod_strip (b : List Bool) : (nodC .none b).map CVal.strip = nodC .none b := by rcases b with _ | ⟨_ | _, b⟩ <;> rfl
theorem txt_len (b : List Bool) : (txt b).length ≤ 6 * b.length + 1 := by
  induction b with
  | nil => simp [txt]
  | cons x b ih => cases x <;> simp [txt] <;> omega
def NS (s : List UInt8) : Prop := ∀ c r, s = c :: r → inSet (marks marks0 spacesB) c false
theorem NS.nil : NS [] := fun c r e => by cases e
abbrev SIGNS : List UInt8 := [48, 91, 93, 123, 125, 34, 58, 44]
theorem NS.cons {c : UInt8} {r : List UInt8} (h : c ∈ SIGNS) : NS (c :: r) := fun c' r' e => by
  cases e; exact inSet_all (l := SIGNS) (by kernel_rfl) h
def ND (s : List UInt8) : Prop := ∀ c r, s = c :: r → inSet (marks marks0 D10) c false
theorem ND.nil : ND [] := fun c r e => by cases e
theorem ND.cons {c : UInt8} {r : List UInt8} (h : c ∈ ([93, 125] : List UInt8)) : ND (c :: r) := fun c' r' e => by
  cases e; exact inSet_all (l := [93, 125]) (by kernel_rfl) h
/-- A text's first sign. -/
theorem txt_head (b : List Bool) : ∃ c r, txt b = c :: r ∧ (c = 48 ∨ c = 91 ∨ c = 123) := by
  rcases b with _ | ⟨_ | _, b⟩
  · exact ⟨_, _, rfl, by simp⟩
  · exact ⟨_, _, rfl, by simp⟩
  · exact ⟨_, _, rfl, by simp⟩
theorem txt_ns (b : List Bool) (r : List UInt8) : NS (txt b ++ r) := by
  obtain ⟨c, q, e, h⟩ := txt_head b
  rw [e]; refine NS.cons ?_; rcases h with rfl | rfl | rfl <;> simp
theorem no_front (b : List Bool) (r : List UInt8) (c : UInt8) (hc : c = 93 ∨ c = 125) : (decide ([c].length ≤ (txt b ++ r).length) && ((txt b ++ r).take [c].length == [c])) = false := by
  obtain ⟨x, q, e, h⟩ := txt_head b
  rw [e]; rcases h with rfl | rfl | rfl <;> rcases hc with rfl | rfl <;> simp
/-- What a reader's function gives, and what is left then. -/
def Rd (f : Nat) (args : List CVal) (s : List UInt8) (v : CVal) (s' : List UInt8) (e : Int) : Prop := ∀ (p d : Nat) (h : CHeap), getEnt h.ents p = some (rdr s 0) → Fit h → p < h.next → ∀ (K : CVal → CHeap → Prop), (∀ n' ty, h.next ≤ n' → UnderT ty n' → K v ⟨setEnt h.ents p (rdr s' e), n', ty⟩) → Wc tree.getF f (.ptr p d 0 :: args) h K

theorem text_a (rest : List UInt8) (hl : rest.length < 90000) : Rd 22 [] (34 :: 97 :: 34 :: rest) (.str [97]) (rest) 0 := by
  intro p d h hg hf hp K hk
  obtain ⟨hu, hut⟩ := hf
  have hD : ∀ m, h.next ≤ m → dropEnts h.ents m = h.ents := fun m hm => dropEnts_under (hu.le hm)
  have hC : ∀ m, h.next ≤ m → dropCells h.ents m = h.ents := fun m hm => dropCells_under (hu.le hm)
  have hN : ∀ q, h.next ≤ q → getEnt h.ents q = none := fun q hq => getEnt_under hu hq
  have hT : ∀ q, h.next ≤ q → lookupN h.tys q = none := fun q hq => lookupN_under hut hq
  have hG : ∀ x, getEnt (setEnt h.ents p x) p = some x := fun x => sy_getEnt_setEnt hg
  have hD2 : ∀ x m, h.next ≤ m → dropEnts (setEnt h.ents p x) m = setEnt h.ents p x := fun x m hm => dropEnts_under (hu.set.le hm)
  have hC2 : ∀ x m, h.next ≤ m → dropCells (setEnt h.ents p x) m = setEnt h.ents p x := fun x m hm => dropCells_under (hu.set.le hm)
  have hN2 : ∀ x q, h.next ≤ q → getEnt (setEnt h.ents p x) q = none := fun x q hq => getEnt_under hu.set hq

  refine Wc.mkG 22 c22 (by kernel_rfl) rfl ?_
  generalize e : entryC _ _ _ = r
  simp (disch := omega) [sy_nbeq, sy_neqF, sy_leT, sy_leF, sy_setEnt_setEnt, sy_wrap64, sy_ibeqF, sy_ieqF, sy_ileT, sy_ileF, sy_iltT, sy_iltF, sy_ltT, sy_ltF, szOf_desc, hD, hC, hN, hT, hg, hG, hD2, hC2, hN2, c22] at e
  subst e
  repeat (first
    | refine W.seq ?_
    | refine W.block ?_
    | (refine W.regG ?_; generalize e : goR _ _ _ _ _ _ _ _ = r; simp (disch := omega) [sy_nbeq, sy_neqF, sy_leT, sy_leF, sy_setEnt_setEnt, sy_wrap64, sy_ibeqF, sy_ieqF, sy_ileT, sy_ileF, sy_iltT, sy_iltF, sy_ltT, sy_ltF, szOf_desc, hD, hC, hN, hT, hg, hG, hD2, hC2, hN2, c12, c22] at e; replace e : some _ = _ := e; subst e; (try dsimp only [goW]))
    | refine W.cond_true rfl ?_
    | refine W.cond_false rfl ?_
    | refine W.skip ?_
    | refine W.exit ?_
    | (refine WoR.go ?_; generalize e : goR _ _ _ _ _ _ _ _ = r; simp (disch := omega) [sy_nbeq, sy_neqF, sy_leT, sy_leF, sy_setEnt_setEnt, sy_wrap64, sy_ibeqF, sy_ieqF, sy_ileT, sy_ileF, sy_iltT, sy_iltF, sy_ltT, sy_ltF, szOf_desc, hD, hC, hN, hT, hg, hG, hD2, hC2, hN2, c12, c22] at e; replace e : some _ = _ := e; subst e; (try dsimp only [goW]))
    | (refine W.loop ?_; try (generalize e : dropped _ _ _ = r; simp (disch := omega) [sy_nbeq, sy_neqF, sy_leT, sy_leF, sy_setEnt_setEnt, sy_wrap64, sy_ibeqF, sy_ieqF, sy_ileT, sy_ileF, sy_iltT, sy_iltF, sy_ltT, sy_ltF, szOf_desc, hD, hC, hN, hT, hg, hG, hD2, hC2, hN2, c12, c22] at e; subst e; try dsimp only))
    | (refine skip_spec p d [] (34 :: 97 :: 34 :: rest) 0 (by simp; omega) (by simp) (NS.cons (by simp)) _ (by simp (disch := omega) [getEnt, setEnt, sy_nbeq, sy_neqF, sy_setEnt_setEnt, hg, hG]) (by repeat (first | exact hu.le (by (try dsimp only); omega) | exact hu.set.le (by (try dsimp only); omega) | refine Under.cons (by (try dsimp only); omega) ?_ | exact Under.nil)) (by (try dsimp only); omega) _ fun n1 hn1 => ⟨rfl, ?_⟩; try dsimp only at hn1)
    | (refine unq_a rest (by omega) _ ⟨by repeat (first | exact hu.le (by (try dsimp only); omega) | exact hu.set.le (by (try dsimp only); omega) | refine Under.cons (by (try dsimp only); omega) ?_ | exact Under.nil), by repeat (first | exact hut.le (by (try dsimp only); omega) | refine UnderT.cons (by (try dsimp only); omega) ?_ | exact UnderT.nil | assumption | exact UnderT.le (by assumption) (by (try dsimp only); omega))⟩ _ fun n2 ty2 hn2 hut2 => ⟨rfl, ?_⟩; try dsimp only at hn2)
    | (refine Wc.mkG 12 c12 (by kernel_rfl) rfl ?_; generalize e : entryC _ _ _ = r; simp (disch := omega) [sy_nbeq, sy_neqF, sy_leT, sy_leF, sy_setEnt_setEnt, sy_wrap64, sy_ibeqF, sy_ieqF, sy_ileT, sy_ileF, sy_iltT, sy_iltF, sy_ltT, sy_ltF, szOf_desc, hD, hC, hN, hT, hg, hG, hD2, hC2, hN2, c12, c22] at e; subst e)
    | (refine Wc.primM (f := 37) (p := (pBString 5)) (by kernel_rfl) ?_; generalize e : (pBString 5) _ _ = r; simp (disch := omega) [sy_nbeq, sy_neqF, sy_leT, sy_leF, sy_setEnt_setEnt, sy_wrap64, sy_ibeqF, sy_ieqF, sy_ileT, sy_ileF, sy_iltT, sy_iltF, sy_ltT, sy_ltF, szOf_desc, hD, hC, hN, hT, hg, hG, hD2, hC2, hN2, c12, c22] at e; subst e; (try dsimp only); refine ⟨rfl, ?_⟩)
    | (refine Wc.primM (f := 55) (p := (pCopyCheck [(103809029, 2), (62914562, 0)])) (by kernel_rfl) ?_; generalize e : (pCopyCheck [(103809029, 2), (62914562, 0)]) _ _ = r; simp (disch := omega) [sy_nbeq, sy_neqF, sy_leT, sy_leF, sy_setEnt_setEnt, sy_wrap64, sy_ibeqF, sy_ieqF, sy_ileT, sy_ileF, sy_iltT, sy_iltF, sy_ltT, sy_ltF, szOf_desc, hD, hC, hN, hT, hg, hG, hD2, hC2, hN2, c12, c22] at e; subst e; (try dsimp only); refine ⟨rfl, ?_⟩)
    | (refine Wc.primM (f := 74) (p := pIndexByte) (by kernel_rfl) ?_; generalize e : pIndexByte _ _ = r; simp (disch := omega) [sy_nbeq, sy_neqF, sy_leT, sy_leF, sy_setEnt_setEnt, sy_wrap64, sy_ibeqF, sy_ieqF, sy_ileT, sy_ileF, sy_iltT, sy_iltF, sy_ltT, sy_ltF, szOf_desc, hD, hC, hN, hT, hg, hG, hD2, hC2, hN2, c12, c22] at e; subst e; (try dsimp only); refine ⟨rfl, ?_⟩)
    | (refine Wc.primM (f := 75) (p := (pMakeNoZero 5)) (by kernel_rfl) ?_; generalize e : (pMakeNoZero 5) _ _ = r; simp (disch := omega) [sy_nbeq, sy_neqF, sy_leT, sy_leF, sy_setEnt_setEnt, sy_wrap64, sy_ibeqF, sy_ieqF, sy_ileT, sy_ileF, sy_iltT, sy_iltF, sy_ltT, sy_ltF, szOf_desc, hD, hC, hN, hT, hg, hG, hD2, hC2, hN2, c12, c22] at e; subst e; (try dsimp only); refine ⟨rfl, ?_⟩)
    | (refine Wc.primM (f := 91) (p := pClone) (by kernel_rfl) ?_; generalize e : pClone _ _ = r; simp (disch := omega) [sy_nbeq, sy_neqF, sy_leT, sy_leF, sy_setEnt_setEnt, sy_wrap64, sy_ibeqF, sy_ieqF, sy_ileT, sy_ileF, sy_iltT, sy_iltF, sy_ltT, sy_ltF, szOf_desc, hD, hC, hN, hT, hg, hG, hD2, hC2, hN2, c12, c22] at e; subst e; (try dsimp only); refine ⟨rfl, ?_⟩)
    | (refine W.ret ?_; (try simp only [outOf, thenW_ret, roundW]); refine endW.of (.inl rfl) rfl ?_; generalize e : endsC _ _ _ = r; simp (disch := omega) [sy_nbeq, sy_neqF, sy_leT, sy_leF, sy_setEnt_setEnt, sy_wrap64, sy_ibeqF, sy_ieqF, sy_ileT, sy_ileF, sy_iltT, sy_iltF, sy_ltT, sy_ltF, szOf_desc, hD, hC, hN, hT, hg, hG, hD2, hC2, hN2, c12, c22] at e; subst e; (try dsimp only [goW]); refine ⟨rfl, ?_⟩)
    | (refine endW.of (.inr rfl) rfl ?_; generalize e : endsC _ _ _ = r; simp (disch := omega) [sy_nbeq, sy_neqF, sy_leT, sy_leF, sy_setEnt_setEnt, sy_wrap64, sy_ibeqF, sy_ieqF, sy_ileT, sy_ileF, sy_iltT, sy_iltF, sy_ltT, sy_ltF, szOf_desc, hD, hC, hN, hT, hg, hG, hD2, hC2, hN2, c12, c22] at e; subst e; (try dsimp only [goW]); refine ⟨rfl, ?_⟩)
    | (refine W.ret ?_; (try simp only [outOf, thenW_ret, roundW]); refine endW.of (.inl rfl) rfl ?_; generalize e : endsC _ _ _ = r; simp (disch := omega) [sy_nbeq, sy_neqF, sy_leT, sy_leF, sy_setEnt_setEnt, sy_wrap64, sy_ibeqF, sy_ieqF, sy_ileT, sy_ileF, sy_iltT, sy_iltF, sy_ltT, sy_ltF, szOf_desc, hD, hC, hN, hT, hg, hG, hD2, hC2, hN2, c12, c22] at e; subst e; (try dsimp only [goW]); refine hk _ _ ?_ ?_; omega; exact (by repeat (first | exact hut.le (by (try dsimp only); omega) | refine UnderT.cons (by (try dsimp only); omega) ?_ | exact UnderT.nil | assumption | exact UnderT.le (by assumption) (by (try dsimp only); omega))))
    | (refine endW.of (.inr rfl) rfl ?_; generalize e : endsC _ _ _ = r; simp (disch := omega) [sy_nbeq, sy_neqF, sy_leT, sy_leF, sy_setEnt_setEnt, sy_wrap64, sy_ibeqF, sy_ieqF, sy_ileT, sy_ileF, sy_iltT, sy_iltF, sy_ltT, sy_ltF, szOf_desc, hD, hC, hN, hT, hg, hG, hD2, hC2, hN2, c12, c22] at e; subst e; (try dsimp only [goW]); refine hk _ _ ?_ ?_; omega; exact (by repeat (first | exact hut.le (by (try dsimp only); omega) | refine UnderT.cons (by (try dsimp only); omega) ?_ | exact UnderT.nil | assumption | exact UnderT.le (by assumption) (by (try dsimp only); omega)))))

theorem pint_0 (h : CHeap) (hu : Under h.ents h.next) (K : CVal → CHeap → Prop) (hk : ∀ n', h.next ≤ n' → K (.tup [.int .i64 0, .nili]) { h with next := n' }) : Wc tree.getF 62 [.str [48], .int .i64 10, .int .i64 64] h K :=
  pint0_pos [48] [] 48 rfl (by simp) (by simp [okDig, dig]) (by simp [val, dig]) h hu K (by simpa [val, dig] using hk)

theorem tree_0 (j : Nat) (rest : List UInt8) (hl : rest.length < 50000) (hns : NS rest) (hnd : ND rest) : Rd 10 [.int .i64 (j : Int)] (48 :: rest) (.agg (nodC .none [])) (rest) 0 := by
  intro p d h hg hf hp K hk
  obtain ⟨hu, hut⟩ := hf
  have hD : ∀ m, h.next ≤ m → dropEnts h.ents m = h.ents := fun m hm => dropEnts_under (hu.le hm)
  have hC : ∀ m, h.next ≤ m → dropCells h.ents m = h.ents := fun m hm => dropCells_under (hu.le hm)
  have hN : ∀ q, h.next ≤ q → getEnt h.ents q = none := fun q hq => getEnt_under hu hq
  have hT : ∀ q, h.next ≤ q → lookupN h.tys q = none := fun q hq => lookupN_under hut hq
  have hG : ∀ x, getEnt (setEnt h.ents p x) p = some x := fun x => sy_getEnt_setEnt hg
  have hD2 : ∀ x m, h.next ≤ m → dropEnts (setEnt h.ents p x) m = setEnt h.ents p x := fun x m hm => dropEnts_under (hu.set.le hm)
  have hC2 : ∀ x m, h.next ≤ m → dropCells (setEnt h.ents p x) m = setEnt h.ents p x := fun x m hm => dropCells_under (hu.set.le hm)
  have hN2 : ∀ x q, h.next ≤ q → getEnt (setEnt h.ents p x) q = none := fun x q hq => getEnt_under hu.set hq

  refine Wc.mkG 10 c10 (by kernel_rfl) rfl ?_
  generalize e : entryC _ _ _ = r
  simp (disch := omega) [sy_nbeq, sy_neqF, sy_leT, sy_leF, sy_setEnt_setEnt, sy_wrap64, sy_ibeqF, sy_ieqF, sy_ileT, sy_ileF, sy_iltT, sy_iltF, sy_ltT, sy_ltF, szOf_desc, hD, hC, hN, hT, hg, hG, hD2, hC2, hN2, nodC, c10] at e
  subst e
  repeat (first
    | refine W.seq ?_
    | refine W.block ?_
    | (refine W.regG ?_; generalize e : goR _ _ _ _ _ _ _ _ = r; simp (disch := omega) [sy_nbeq, sy_neqF, sy_leT, sy_leF, sy_setEnt_setEnt, sy_wrap64, sy_ibeqF, sy_ieqF, sy_ileT, sy_ileF, sy_iltT, sy_iltF, sy_ltT, sy_ltF, szOf_desc, hD, hC, hN, hT, hg, hG, hD2, hC2, hN2, nodC, c10] at e; replace e : some _ = _ := e; subst e; (try dsimp only [goW]))
    | refine W.cond_true rfl ?_
    | refine W.cond_false rfl ?_
    | refine W.skip ?_
    | refine W.exit ?_
    | (refine WoR.go ?_; generalize e : goR _ _ _ _ _ _ _ _ = r; simp (disch := omega) [sy_nbeq, sy_neqF, sy_leT, sy_leF, sy_setEnt_setEnt, sy_wrap64, sy_ibeqF, sy_ieqF, sy_ileT, sy_ileF, sy_iltT, sy_iltF, sy_ltT, sy_ltF, szOf_desc, hD, hC, hN, hT, hg, hG, hD2, hC2, hN2, nodC, c10] at e; replace e : some _ = _ := e; subst e; (try dsimp only [goW]))
    | (refine W.loop ?_; try (generalize e : dropped _ _ _ = r; simp (disch := omega) [sy_nbeq, sy_neqF, sy_leT, sy_leF, sy_setEnt_setEnt, sy_wrap64, sy_ibeqF, sy_ieqF, sy_ileT, sy_ileF, sy_iltT, sy_iltF, sy_ltT, sy_ltF, szOf_desc, hD, hC, hN, hT, hg, hG, hD2, hC2, hN2, nodC, c10] at e; subst e; try dsimp only))
    | (refine skip_spec p d [] (48 :: rest) 0 (by simp; omega) (by simp) (NS.cons (by simp)) _ (by simp (disch := omega) [getEnt, setEnt, sy_nbeq, sy_neqF, sy_setEnt_setEnt, hg, hG]) (by repeat (first | exact hu.le (by (try dsimp only); omega) | exact hu.set.le (by (try dsimp only); omega) | refine Under.cons (by (try dsimp only); omega) ?_ | exact Under.nil)) (by (try dsimp only); omega) _ fun n1 hn1 => ⟨rfl, ?_⟩; try dsimp only at hn1)
    | (refine take_spec p d (48 :: rest) [110, 117, 108, 108] 0 false (by simp; omega) (NS.cons (by simp)) (by simp) _ (by simp (disch := omega) [getEnt, setEnt, sy_nbeq, sy_neqF, sy_setEnt_setEnt, hg, hG]) (by repeat (first | exact hu.le (by (try dsimp only); omega) | exact hu.set.le (by (try dsimp only); omega) | refine Under.cons (by (try dsimp only); omega) ?_ | exact Under.nil)) (by (try dsimp only); omega) _ fun n2 hn2 => ⟨rfl, ?_⟩; try dsimp only at hn2)
    | (refine take_spec p d (48 :: rest) [116, 114, 117, 101] 0 false (by simp; omega) (NS.cons (by simp)) (by simp) _ (by simp (disch := omega) [getEnt, setEnt, sy_nbeq, sy_neqF, sy_setEnt_setEnt, hg, hG]) (by repeat (first | exact hu.le (by (try dsimp only); omega) | exact hu.set.le (by (try dsimp only); omega) | refine Under.cons (by (try dsimp only); omega) ?_ | exact Under.nil)) (by (try dsimp only); omega) _ fun n2 hn2 => ⟨rfl, ?_⟩; try dsimp only at hn2)
    | (refine take_spec p d (48 :: rest) [102, 97, 108, 115, 101] 0 false (by simp; omega) (NS.cons (by simp)) (by simp) _ (by simp (disch := omega) [getEnt, setEnt, sy_nbeq, sy_neqF, sy_setEnt_setEnt, hg, hG]) (by repeat (first | exact hu.le (by (try dsimp only); omega) | exact hu.set.le (by (try dsimp only); omega) | refine Under.cons (by (try dsimp only); omega) ?_ | exact Under.nil)) (by (try dsimp only); omega) _ fun n2 hn2 => ⟨rfl, ?_⟩; try dsimp only at hn2)
    | (refine number_pos p d [48] rest 0 (by simp; omega) (by simp) (by simp [okDig, dig]) hnd (by simp) pint_0 _ (by simp (disch := omega) [getEnt, setEnt, sy_nbeq, sy_neqF, sy_setEnt_setEnt, hg, hG]) (by repeat (first | exact hu.le (by (try dsimp only); omega) | exact hu.set.le (by (try dsimp only); omega) | refine Under.cons (by (try dsimp only); omega) ?_ | exact Under.nil)) (by (try dsimp only); omega) _ fun n3 hn3 => ⟨rfl, ?_⟩; try dsimp only at hn3)
    | (refine Wc.primM (f := 37) (p := (pBString 5)) (by kernel_rfl) ?_; generalize e : (pBString 5) _ _ = r; simp (disch := omega) [sy_nbeq, sy_neqF, sy_leT, sy_leF, sy_setEnt_setEnt, sy_wrap64, sy_ibeqF, sy_ieqF, sy_ileT, sy_ileF, sy_iltT, sy_iltF, sy_ltT, sy_ltF, szOf_desc, hD, hC, hN, hT, hg, hG, hD2, hC2, hN2, nodC, c10] at e; subst e; (try dsimp only); refine ⟨rfl, ?_⟩)
    | (refine Wc.primM (f := 55) (p := (pCopyCheck [(103809029, 2), (62914562, 0)])) (by kernel_rfl) ?_; generalize e : (pCopyCheck [(103809029, 2), (62914562, 0)]) _ _ = r; simp (disch := omega) [sy_nbeq, sy_neqF, sy_leT, sy_leF, sy_setEnt_setEnt, sy_wrap64, sy_ibeqF, sy_ieqF, sy_ileT, sy_ileF, sy_iltT, sy_iltF, sy_ltT, sy_ltF, szOf_desc, hD, hC, hN, hT, hg, hG, hD2, hC2, hN2, nodC, c10] at e; subst e; (try dsimp only); refine ⟨rfl, ?_⟩)
    | (refine Wc.primM (f := 74) (p := pIndexByte) (by kernel_rfl) ?_; generalize e : pIndexByte _ _ = r; simp (disch := omega) [sy_nbeq, sy_neqF, sy_leT, sy_leF, sy_setEnt_setEnt, sy_wrap64, sy_ibeqF, sy_ieqF, sy_ileT, sy_ileF, sy_iltT, sy_iltF, sy_ltT, sy_ltF, szOf_desc, hD, hC, hN, hT, hg, hG, hD2, hC2, hN2, nodC, c10] at e; subst e; (try dsimp only); refine ⟨rfl, ?_⟩)
    | (refine Wc.primM (f := 75) (p := (pMakeNoZero 5)) (by kernel_rfl) ?_; generalize e : (pMakeNoZero 5) _ _ = r; simp (disch := omega) [sy_nbeq, sy_neqF, sy_leT, sy_leF, sy_setEnt_setEnt, sy_wrap64, sy_ibeqF, sy_ieqF, sy_ileT, sy_ileF, sy_iltT, sy_iltF, sy_ltT, sy_ltF, szOf_desc, hD, hC, hN, hT, hg, hG, hD2, hC2, hN2, nodC, c10] at e; subst e; (try dsimp only); refine ⟨rfl, ?_⟩)
    | (refine Wc.primM (f := 91) (p := pClone) (by kernel_rfl) ?_; generalize e : pClone _ _ = r; simp (disch := omega) [sy_nbeq, sy_neqF, sy_leT, sy_leF, sy_setEnt_setEnt, sy_wrap64, sy_ibeqF, sy_ieqF, sy_ileT, sy_ileF, sy_iltT, sy_iltF, sy_ltT, sy_ltF, szOf_desc, hD, hC, hN, hT, hg, hG, hD2, hC2, hN2, nodC, c10] at e; subst e; (try dsimp only); refine ⟨rfl, ?_⟩)
    | (refine W.ret ?_; (try simp only [outOf, thenW_ret, roundW]); refine endW.of (.inl rfl) rfl ?_; generalize e : endsC _ _ _ = r; simp (disch := omega) [sy_nbeq, sy_neqF, sy_leT, sy_leF, sy_setEnt_setEnt, sy_wrap64, sy_ibeqF, sy_ieqF, sy_ileT, sy_ileF, sy_iltT, sy_iltF, sy_ltT, sy_ltF, szOf_desc, hD, hC, hN, hT, hg, hG, hD2, hC2, hN2, nodC, c10] at e; subst e; (try dsimp only [goW]); refine hk _ _ ?_ ?_; omega; exact (by repeat (first | exact hut.le (by (try dsimp only); omega) | refine UnderT.cons (by (try dsimp only); omega) ?_ | exact UnderT.nil | assumption | exact UnderT.le (by assumption) (by (try dsimp only); omega))))
    | (refine endW.of (.inr rfl) rfl ?_; generalize e : endsC _ _ _ = r; simp (disch := omega) [sy_nbeq, sy_neqF, sy_leT, sy_leF, sy_setEnt_setEnt, sy_wrap64, sy_ibeqF, sy_ieqF, sy_ileT, sy_ileF, sy_iltT, sy_iltF, sy_ltT, sy_ltF, szOf_desc, hD, hC, hN, hT, hg, hG, hD2, hC2, hN2, nodC, c10] at e; subst e; (try dsimp only [goW]); refine hk _ _ ?_ ?_; omega; exact (by repeat (first | exact hut.le (by (try dsimp only); omega) | refine UnderT.cons (by (try dsimp only); omega) ?_ | exact UnderT.nil | assumption | exact UnderT.le (by assumption) (by (try dsimp only); omega)))))
end Go.Proofs.YtehdeihlahjglaaDoor.IrJd
