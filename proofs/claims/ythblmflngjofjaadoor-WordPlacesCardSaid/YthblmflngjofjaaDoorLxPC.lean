/- What the functions of the law 'WordPlaces' do: part 4. -/
import Derived.Test.YthblmflngjofjaaDoorLxPB
import Derived.Test.YthblmflngjofjaaDoorLxLexF
namespace Go.Proofs.YthblmflngjofjaaDoor.IrP
open Go Go.CI
open Go.LexF hiding spacesB lettersB
set_option maxRecDepth 100000
set_option linter.unusedVariables false
set_option linter.unusedSimpArgs false
attribute [local irreducible] W Wo Wc WoR
attribute [local simp] goR regOut checkOne swapOne sameAt nthOp CVal.beq beqs CVal.block storesTo entryC evalOps evalOper evalE evalP evalL evalOpnd nth setNth COp.cls COp.isStore CVal.isUndef CVal.whole CVal.cells CHeap.put CHeap.get CHeap.set wantedC getEnt setEnt partOf writeBack evalBin evalInt evalStr blockMost initVar descOf List.take List.drop CVal.lenOf CVal.isStr CVal.bare CVal.strip CVal.flat endsC resultsC oneOrTuple finishC cut fillCells setCells szOf szOf_desc elems bytesOf evalAppend fillElems mkElem setElem List.replicate sy_nbeq sy_neqF sy_leT sy_leF sy_setEnt_setEnt dropped sy_wrap64 dropEnts dropCells sizeMost sy_ibeqF sy_ieqF sy_ileT sy_ileF sy_iltT sy_iltF sy_ltT sy_ltF evalSlc optBound eqVal extL extE keyIs findKV nthKV setKV CHeap.ty lookupN CHeap.note CHeap.tyOk dropAll freezeVal freezeAll freezeFlat pCopyCheck pBString pMakeNoZero pIndexByte pClone pIndex hasPair rowOf byteVals idxFrom hasFront idxSub

theorem pu_of {f : Nat} {args : List CVal} {v : CVal} (H : ∀ (h : CHeap), Under h.ents h.next → ∀ (K : CVal → CHeap → Prop), (∀ n', h.next ≤ n' → K v { h with next := n' }) → Wc tree.getF f args h K) : Pu tree.getF f args v :=
  fun h hf K hk => H h hf.1 K fun n' hn => hk n' h.tys hn (hf.2.le hn)
def isB (v : Bool) : CVal → Bool
  | .bool b => b == v
  | _ => false
theorem isB_eq {v : Bool} {x : CVal} (h : isB v x = true) : x = .bool v := by
  cases x <;> simp [isB] at h; subst h; rfl
/-- A set's marks say who is of it. -/
def setOk (cs : List UInt8) : Bool := (List.range 256).all fun k => isB (cs.contains (UInt8.ofNat k)) (nth (marks marks0 cs) k)
theorem setOk_in {cs : List UInt8} (h : setOk cs = true) (c : UInt8) : inSet (marks marks0 cs) c (cs.contains c) := by
  have h1 := List.all_eq_true.1 h c.toNat (List.mem_range.2 c.toNat_lt)
  have h2 := isB_eq h1
  rw [show UInt8.ofNat c.toNat = c by simp] at h2
  exact h2
theorem front_F (cs : List UInt8) (hok : setOk cs = true) (hc1 : 2 ≤ cs.length) (hcs : cs.length < 1000) (hr : ∀ c ∈ cs, c.toNat < 128) (s : List UInt8) (hl : s.length < 100000) : Pu tree.getF 13 [.str s, .str cs] (.int .i64 ((fr cs s).length : Int)) := by
  refine pu_of ?_
  have e := fr_bk cs s
  have hfl := fr_len cs s
  intro h hu K hk
  have := front_spec cs (fr cs s) (bk cs s) hc1 (by omega) hr (fun c hc => by have := setOk_in hok c; rwa [fr_mem hc] at this) (fun c r hc => by have := setOk_in hok c; rwa [bk_head hc] at this) (by omega) h hu K hk
  rwa [e] at this
theorem idx_one (c : UInt8) : ∀ (s : List UInt8) (i : Nat), decide (0 ≤ idxSub [c] s i) = s.contains c
  | [], i => by simp [idxSub]
  | a :: x, i => by
    have ih := idx_one c x (i + 1)
    unfold idxSub
    by_cases h : a = c
    · subst h; simp [hasFront]
    · have h2 : ¬ c = a := fun e => h e.symm
      have hb : (a == c) = false := by simp [h]
      simp only [hasFront, hb, Bool.and_true, Bool.false_eq_true, if_false, cond_false]
      rw [ih]
      simp [h2]
theorem contains_F (cs : List UInt8) (c : UInt8) (hl : cs.length < 100000) : Pu tree.getF 19 [.str cs, .str [c]] (.bool (cs.contains c)) :=
  pu_of fun h hu K hk => contains0_spec cs [c] (cs.contains c) (by omega) (idx_one c cs 0) h hu K hk
theorem prefix_F (s p : List UInt8) (v : Bool) (hv : (decide (p.length ≤ s.length) && (s.take p.length == p)) = v) : Pu tree.getF 14 [.str s, .str p] (.bool v) :=
  pu_of fun h hu K hk => prefix_spec s p v hv h hu K hk
abbrev lettersD : List UInt8 := Go.LexF.lettersB
theorem ok_letters : setOk namesB = true := by kernel_rfl
theorem ok_spaces : setOk Go.LexF.spacesB = true := by kernel_rfl
theorem ok_10 : setOk D10 = true := by kernel_rfl
theorem ok_8 : setOk D8 = true := by kernel_rfl
theorem ok_16 : setOk hexesB = true := by kernel_rfl
theorem front_names (s : List UInt8) (hl : s.length < 100000) : Pu tree.getF 13 [.str s, .str [65, 66, 67, 68, 69, 70, 71, 72, 73, 74, 75, 76, 77, 78, 79, 80, 81, 82, 83, 84, 85, 86, 87, 88, 89, 90, 97, 98, 99, 100, 101, 102, 103, 104, 105, 106, 107, 108, 109, 110, 111, 112, 113, 114, 115, 116, 117, 118, 119, 120, 121, 122, 95, 48, 49, 50, 51, 52, 53, 54, 55, 56, 57]] (.int .i64 ((fr namesB s).length : Int)) := front_F namesB ok_letters (by decide) (by decide) (by decide) s hl
theorem front_spaces (s : List UInt8) (hl : s.length < 100000) : Pu tree.getF 13 [.str s, .str [9, 10, 11, 12, 13, 32]] (.int .i64 ((fr Go.LexF.spacesB s).length : Int)) := front_F Go.LexF.spacesB ok_spaces (by decide) (by decide) (by decide) s hl
theorem front_10 (s : List UInt8) (hl : s.length < 100000) : Pu tree.getF 13 [.str s, .str D10] (.int .i64 ((fr D10 s).length : Int)) := front_F D10 ok_10 (by decide) (by decide) (by decide) s hl
theorem front_8 (s : List UInt8) (hl : s.length < 100000) : Pu tree.getF 13 [.str s, .str D8] (.int .i64 ((fr D8 s).length : Int)) := front_F D8 ok_8 (by decide) (by decide) (by decide) s hl
theorem front_16 (s : List UInt8) (hl : s.length < 100000) : Pu tree.getF 13 [.str s, .str hexesB] (.int .i64 ((fr hexesB s).length : Int)) := front_F hexesB ok_16 (by decide) (by decide) (by decide) s hl

theorem word_nil  : Pu tree.getF 33 [.str []] (.int .i64 0) := by
  intro h hf K hk
  obtain ⟨hu, hut⟩ := hf
  have hD : ∀ m, h.next ≤ m → dropEnts h.ents m = h.ents := fun m hm => dropEnts_under (hu.le hm)
  have hC : ∀ m, h.next ≤ m → dropCells h.ents m = h.ents := fun m hm => dropCells_under (hu.le hm)
  have hN : ∀ q, h.next ≤ q → getEnt h.ents q = none := fun q hq => getEnt_under hu hq
  have hT : ∀ q, h.next ≤ q → lookupN h.tys q = none := fun q hq => lookupN_under hut hq

  refine Wc.mkG 33 c33 (by kernel_rfl) rfl ?_
  generalize e : entryC _ _ _ = r
  simp (disch := omega) [hD, hC, hN, hT, c33] at e
  subst e
  repeat (first
    | refine W.seq ?_
    | refine W.block ?_
    | ((first | refine W.regG ?_ | refine WoR.go ?_); generalize e : goR _ _ _ _ _ _ _ _ = r; simp (disch := omega) [hD, hC, hN, hT, c33] at e; replace e : some _ = _ := e; subst e; (try dsimp only [goW]))
    | refine W.cond_true rfl ?_
    | refine W.cond_false rfl ?_
    | refine W.skip ?_
    | refine W.exit ?_
    | (refine W.loop ?_; try (generalize e : dropped _ _ _ = r; simp (disch := omega) [hD, hC, hN, hT, c33] at e; subst e; try dsimp only))
    | ((first | (refine W.ret ?_; (try simp only [outOf, thenW_ret, roundW]); refine endW.of (.inl rfl) rfl ?_) | refine endW.of (.inr rfl) rfl ?_); generalize e : endsC _ _ _ = r; simp (disch := omega) [hD, hC, hN, hT, c33] at e; subst e; (try dsimp only [goW]); (refine hk _ _ ?_ ?_; omega; exact (by repeat (first | exact hut.le (by (try dsimp only); omega) | refine UnderT.cons (by (try dsimp only); omega) ?_ | exact UnderT.nil | assumption | exact UnderT.le (by assumption) (by (try dsimp only); omega))))))

theorem word_true (c : UInt8) (r : List UInt8) (hl : r.length < 90000) (hc : Go.LexF.lettersB.contains c = true) : Pu tree.getF 33 [.str (c :: r)] (.int .i64 ((fr namesB (c :: r)).length : Int)) := by
  intro h hf K hk
  obtain ⟨hu, hut⟩ := hf
  have hD : ∀ m, h.next ≤ m → dropEnts h.ents m = h.ents := fun m hm => dropEnts_under (hu.le hm)
  have hC : ∀ m, h.next ≤ m → dropCells h.ents m = h.ents := fun m hm => dropCells_under (hu.le hm)
  have hN : ∀ q, h.next ≤ q → getEnt h.ents q = none := fun q hq => getEnt_under hu hq
  have hT : ∀ q, h.next ≤ q → lookupN h.tys q = none := fun q hq => lookupN_under hut hq

  refine Wc.mkG 33 c33 (by kernel_rfl) rfl ?_
  generalize e : entryC _ _ _ = r
  simp (disch := omega) [hD, hC, hN, hT, hc, c33] at e
  subst e
  repeat (first
    | refine W.seq ?_
    | refine W.block ?_
    | ((first | refine W.regG ?_ | refine WoR.go ?_); generalize e : goR _ _ _ _ _ _ _ _ = r; simp (disch := omega) [hD, hC, hN, hT, hc, c33] at e; replace e : some _ = _ := e; subst e; (try dsimp only [goW]))
    | refine W.cond_true rfl ?_
    | refine W.cond_false rfl ?_
    | refine W.skip ?_
    | refine W.exit ?_
    | (refine W.loop ?_; try (generalize e : dropped _ _ _ = r; simp (disch := omega) [hD, hC, hN, hT, hc, c33] at e; subst e; try dsimp only))
    | (refine contains_F Go.LexF.lettersB c ?_ _ ?_ _ fun n1 tyn1 hn1 hun1 => ⟨rfl, ?_⟩; (focus ((decide); done)); (focus (((refine ⟨?_, ?_⟩; (focus ((repeat (first | exact hu.le (by (try dsimp only); omega) | exact hu.set.le (by (try dsimp only); omega) | refine Under.cons (by (try dsimp only); omega) ?_ | exact Under.nil)); done)); (focus ((repeat (first | exact hut.le (by (try dsimp only); omega) | refine UnderT.cons (by (try dsimp only); omega) ?_ | exact UnderT.nil | assumption | exact UnderT.le (by assumption) (by (try dsimp only); omega))); done)))); done)); (try dsimp only at hn1); rw [hc])
    | (refine (front_names (c :: r) (by simp; omega)) _ ?_ _ fun n2 tyn2 hn2 hun2 => ⟨rfl, ?_⟩; (focus (((refine ⟨?_, ?_⟩; (focus ((repeat (first | exact hu.le (by (try dsimp only); omega) | exact hu.set.le (by (try dsimp only); omega) | refine Under.cons (by (try dsimp only); omega) ?_ | exact Under.nil)); done)); (focus ((repeat (first | exact hut.le (by (try dsimp only); omega) | refine UnderT.cons (by (try dsimp only); omega) ?_ | exact UnderT.nil | assumption | exact UnderT.le (by assumption) (by (try dsimp only); omega))); done)))); done)); (try dsimp only at hn2))
    | ((first | (refine W.ret ?_; (try simp only [outOf, thenW_ret, roundW]); refine endW.of (.inl rfl) rfl ?_) | refine endW.of (.inr rfl) rfl ?_); generalize e : endsC _ _ _ = r; simp (disch := omega) [hD, hC, hN, hT, hc, c33] at e; subst e; (try dsimp only [goW]); (refine hk _ _ ?_ ?_; omega; exact (by repeat (first | exact hut.le (by (try dsimp only); omega) | refine UnderT.cons (by (try dsimp only); omega) ?_ | exact UnderT.nil | assumption | exact UnderT.le (by assumption) (by (try dsimp only); omega))))))

theorem word_false (c : UInt8) (r : List UInt8) (hl : r.length < 90000) (hc : Go.LexF.lettersB.contains c = false) : Pu tree.getF 33 [.str (c :: r)] (.int .i64 0) := by
  intro h hf K hk
  obtain ⟨hu, hut⟩ := hf
  have hD : ∀ m, h.next ≤ m → dropEnts h.ents m = h.ents := fun m hm => dropEnts_under (hu.le hm)
  have hC : ∀ m, h.next ≤ m → dropCells h.ents m = h.ents := fun m hm => dropCells_under (hu.le hm)
  have hN : ∀ q, h.next ≤ q → getEnt h.ents q = none := fun q hq => getEnt_under hu hq
  have hT : ∀ q, h.next ≤ q → lookupN h.tys q = none := fun q hq => lookupN_under hut hq

  refine Wc.mkG 33 c33 (by kernel_rfl) rfl ?_
  generalize e : entryC _ _ _ = r
  simp (disch := omega) [hD, hC, hN, hT, hc, c33] at e
  subst e
  repeat (first
    | refine W.seq ?_
    | refine W.block ?_
    | ((first | refine W.regG ?_ | refine WoR.go ?_); generalize e : goR _ _ _ _ _ _ _ _ = r; simp (disch := omega) [hD, hC, hN, hT, hc, c33] at e; replace e : some _ = _ := e; subst e; (try dsimp only [goW]))
    | refine W.cond_true rfl ?_
    | refine W.cond_false rfl ?_
    | refine W.skip ?_
    | refine W.exit ?_
    | (refine W.loop ?_; try (generalize e : dropped _ _ _ = r; simp (disch := omega) [hD, hC, hN, hT, hc, c33] at e; subst e; try dsimp only))
    | (refine contains_F Go.LexF.lettersB c ?_ _ ?_ _ fun n1 tyn1 hn1 hun1 => ⟨rfl, ?_⟩; (focus ((decide); done)); (focus (((refine ⟨?_, ?_⟩; (focus ((repeat (first | exact hu.le (by (try dsimp only); omega) | exact hu.set.le (by (try dsimp only); omega) | refine Under.cons (by (try dsimp only); omega) ?_ | exact Under.nil)); done)); (focus ((repeat (first | exact hut.le (by (try dsimp only); omega) | refine UnderT.cons (by (try dsimp only); omega) ?_ | exact UnderT.nil | assumption | exact UnderT.le (by assumption) (by (try dsimp only); omega))); done)))); done)); (try dsimp only at hn1); rw [hc])
    | (refine (front_names (c :: r) (by simp; omega)) _ ?_ _ fun n2 tyn2 hn2 hun2 => ⟨rfl, ?_⟩; (focus (((refine ⟨?_, ?_⟩; (focus ((repeat (first | exact hu.le (by (try dsimp only); omega) | exact hu.set.le (by (try dsimp only); omega) | refine Under.cons (by (try dsimp only); omega) ?_ | exact Under.nil)); done)); (focus ((repeat (first | exact hut.le (by (try dsimp only); omega) | refine UnderT.cons (by (try dsimp only); omega) ?_ | exact UnderT.nil | assumption | exact UnderT.le (by assumption) (by (try dsimp only); omega))); done)))); done)); (try dsimp only at hn2))
    | ((first | (refine W.ret ?_; (try simp only [outOf, thenW_ret, roundW]); refine endW.of (.inl rfl) rfl ?_) | refine endW.of (.inr rfl) rfl ?_); generalize e : endsC _ _ _ = r; simp (disch := omega) [hD, hC, hN, hT, hc, c33] at e; subst e; (try dsimp only [goW]); (refine hk _ _ ?_ ?_; omega; exact (by repeat (first | exact hut.le (by (try dsimp only); omega) | refine UnderT.cons (by (try dsimp only); omega) ?_ | exact UnderT.nil | assumption | exact UnderT.le (by assumption) (by (try dsimp only); omega))))))

theorem word_F (s : List UInt8) (hl : s.length < 90000) : Pu tree.getF 33 [.str s] (.int .i64 (wordF s : Int)) := by
  cases s with
  | nil => exact word_nil
  | cons c r =>
    cases hc : Go.LexF.lettersB.contains c with
    | true => have := word_true c r (by simp at hl; omega) hc; simpa only [wordF, hc, if_true] using this
    | false => have := word_false c r (by simp at hl; omega) hc; simp only [wordF, hc, Bool.false_eq_true, if_false]; exact this
end Go.Proofs.YthblmflngjofjaaDoor.IrP
