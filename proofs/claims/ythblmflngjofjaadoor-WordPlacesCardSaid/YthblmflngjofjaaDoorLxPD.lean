/- What the functions of the law 'WordPlaces' do: part 5. -/
import Derived.Test.YthblmflngjofjaaDoorLxPC
namespace Go.Proofs.YthblmflngjofjaaDoor.IrP
open Go Go.CI
open Go.LexF hiding spacesB lettersB
set_option maxRecDepth 100000
set_option linter.unusedVariables false
set_option linter.unusedSimpArgs false
attribute [local irreducible] W Wo Wc WoR
attribute [local simp] goR regOut checkOne swapOne sameAt nthOp CVal.beq beqs CVal.block storesTo entryC evalOps evalOper evalE evalP evalL evalOpnd nth setNth COp.cls COp.isStore CVal.isUndef CVal.whole CVal.cells CHeap.put CHeap.get CHeap.set wantedC getEnt setEnt partOf writeBack evalBin evalInt evalStr blockMost initVar descOf List.take List.drop CVal.lenOf CVal.isStr CVal.bare CVal.strip CVal.flat endsC resultsC oneOrTuple finishC cut fillCells setCells szOf szOf_desc elems bytesOf evalAppend fillElems mkElem setElem List.replicate sy_nbeq sy_neqF sy_leT sy_leF sy_setEnt_setEnt dropped sy_wrap64 dropEnts dropCells sizeMost sy_ibeqF sy_ieqF sy_ileT sy_ileF sy_iltT sy_iltF sy_ltT sy_ltF evalSlc optBound eqVal extL extE keyIs findKV nthKV setKV CHeap.ty lookupN CHeap.note CHeap.tyOk dropAll freezeVal freezeAll freezeFlat pCopyCheck pBString pMakeNoZero pIndexByte pClone pIndex hasPair rowOf byteVals idxFrom hasFront idxSub

abbrev nameLoop : CCode := (.loop true (.seq (.seq (.region [⟨.mv (.var 0), none⟩, ⟨.mv (.var 2), none⟩, ⟨.slc 0 (.loc 1) (some (.loc 0)) none, none⟩, ⟨.call false 14 [(.loc 0), (.const (.str [46]))], none⟩] [(5, 3)] [] []) (.cond (.var 5) .skip (.exit 0))) (.block 1 (.seq (.region [⟨.mv (.var 0), none⟩, ⟨.mv (.var 2), none⟩, ⟨.bin .add (.loc 0) (.const (.int .i64 1)), none⟩, ⟨.slc 0 (.loc 2) (some (.loc 0)) none, none⟩, ⟨.call false 33 [(.loc 0)], none⟩, ⟨.mv (.loc 0), none⟩] [(6, 5)] [] []) (.seq (.seq (.region [⟨.mv (.var 6), none⟩, ⟨.bin .eql (.loc 0) (.const (.int .i64 0)), none⟩] [(7, 1)] [] []) (.cond (.var 7) (.exit 0) .skip)) (.region [⟨.mv (.var 2), none⟩, ⟨.mv (.var 6), none⟩, ⟨.bin .add (.const (.int .i64 1)) (.loc 0), none⟩, ⟨.bin .add (.loc 2) (.loc 0), none⟩, ⟨.mv (.loc 0), none⟩] [(2, 4)] [] []))))))
theorem name_loop (s : List UInt8) (hs : s.length < 80000) (v1 v3 v4 v8 : CVal) (Q : CExit → CSt → Prop) : ∀ (m n : Nat), s.length - n ≤ m → n ≤ s.length → ∀ (h : CHeap) (v5 v6 v7 : CVal), Fit h →
    (∀ n' ty v5 v6 v7, h.next ≤ n' → UnderT ty n' → Q (.exit 0) ⟨[.str s, v1, .int .i64 ((n + tailF (s.drop n) : Nat) : Int), v3, v4, v5, v6, v7, v8], ⟨h.ents, n', ty⟩, []⟩) →
    W tree.getF nameLoop ⟨[.str s, v1, .int .i64 (n : Int), v3, v4, v5, v6, v7, v8], h, []⟩ Q := by
  intro m
  induction m with
  | zero =>
    intro n hm hn h v5 v6 v7 hf hk
    have hnil : s.drop n = [] := List.drop_eq_nil_of_le (by omega)
    rw [hnil, tailF] at hk
    have htk : s.take s.length = s := List.take_length
    obtain ⟨hu, hut⟩ := hf
    have hD : ∀ m, h.next ≤ m → dropEnts h.ents m = h.ents := fun m hm => dropEnts_under (hu.le hm)
    have hC : ∀ m, h.next ≤ m → dropCells h.ents m = h.ents := fun m hm => dropCells_under (hu.le hm)
    have hN : ∀ q, h.next ≤ q → getEnt h.ents q = none := fun q hq => getEnt_under hu hq
    have hT : ∀ q, h.next ≤ q → lookupN h.tys q = none := fun q hq => lookupN_under hut hq

    refine W.loop ?_
    repeat (first
      | refine W.seq ?_
      | refine W.block ?_
      | ((first | refine W.regG ?_ | refine WoR.go ?_); generalize e : goR _ _ _ _ _ _ _ _ = r; simp (disch := omega) [hD, hC, hN, hT, htk, hnil] at e; replace e : some _ = _ := e; subst e; (try dsimp only [goW]))
      | refine W.cond_true rfl ?_
      | refine W.cond_false rfl ?_
      | refine W.skip ?_
      | refine W.exit ?_
      | (refine (prefix_F ([]) [46] false (by simp)) _ ?_ _ fun n1 tyn1 hn1 hun1 => ⟨rfl, ?_⟩; (focus (((refine ⟨?_, ?_⟩; (focus ((repeat (first | exact hu.le (by (try dsimp only); omega) | exact hu.set.le (by (try dsimp only); omega) | refine Under.cons (by (try dsimp only); omega) ?_ | exact Under.nil)); done)); (focus ((repeat (first | exact hut.le (by (try dsimp only); omega) | refine UnderT.cons (by (try dsimp only); omega) ?_ | exact UnderT.nil | assumption | exact UnderT.le (by assumption) (by (try dsimp only); omega))); done)))); done)); (try dsimp only at hn1)))
    refine hk _ _ _ _ _ ?_ ?_
    · omega
    · exact UnderT.le (by assumption) (by omega)
  | succ m ih =>
    intro n hm hn h v5 v6 v7 hf hk
    have htk : s.take s.length = s := List.take_length
    have htn : ((n : Int) + 1).toNat = n + 1 := by omega
    have hf0 := hf
    obtain ⟨hu, hut⟩ := hf
    have hD : ∀ m, h.next ≤ m → dropEnts h.ents m = h.ents := fun m hm => dropEnts_under (hu.le hm)
    have hC : ∀ m, h.next ≤ m → dropCells h.ents m = h.ents := fun m hm => dropCells_under (hu.le hm)
    have hN : ∀ q, h.next ≤ q → getEnt h.ents q = none := fun q hq => getEnt_under hu hq
    have hT : ∀ q, h.next ≤ q → lookupN h.tys q = none := fun q hq => lookupN_under hut hq

    cases hd : s.drop n with
    | nil =>
      rw [hd, tailF] at hk
      refine W.loop ?_
      repeat (first
        | refine W.seq ?_
        | refine W.block ?_
        | ((first | refine W.regG ?_ | refine WoR.go ?_); generalize e : goR _ _ _ _ _ _ _ _ = r; simp (disch := omega) [hD, hC, hN, hT, htk, htn, hd] at e; replace e : some _ = _ := e; subst e; (try dsimp only [goW]))
        | refine W.cond_true rfl ?_
        | refine W.cond_false rfl ?_
        | refine W.skip ?_
        | refine W.exit ?_
        | (refine (prefix_F ([]) [46] false (by simp)) _ ?_ _ fun n1 tyn1 hn1 hun1 => ⟨rfl, ?_⟩; (focus (((refine ⟨?_, ?_⟩; (focus ((repeat (first | exact hu.le (by (try dsimp only); omega) | exact hu.set.le (by (try dsimp only); omega) | refine Under.cons (by (try dsimp only); omega) ?_ | exact Under.nil)); done)); (focus ((repeat (first | exact hut.le (by (try dsimp only); omega) | refine UnderT.cons (by (try dsimp only); omega) ?_ | exact UnderT.nil | assumption | exact UnderT.le (by assumption) (by (try dsimp only); omega))); done)))); done)); (try dsimp only at hn1)))
      refine hk _ _ _ _ _ ?_ ?_
      · omega
      · exact UnderT.le (by assumption) (by omega)
    | cons c t =>
      obtain ⟨hlt, hget, hd1⟩ := get_of_dropG hd
      have htl : t.length = s.length - (n + 1) := by rw [← hd1, List.length_drop]
      rw [hd] at hk
      by_cases hc : c = 46
      · subst hc
        have hw := wordF_le t
        by_cases hz : wordF t = 0
        · rw [tailF, if_pos rfl, if_pos hz] at hk
          have W0 := word_F t (by omega)
          rw [hz] at W0
          refine W.loop ?_
          repeat (first
            | refine W.seq ?_
            | refine W.block ?_
            | ((first | refine W.regG ?_ | refine WoR.go ?_); generalize e : goR _ _ _ _ _ _ _ _ = r; simp (disch := omega) [hD, hC, hN, hT, htk, htn, hd, hd1] at e; replace e : some _ = _ := e; subst e; (try dsimp only [goW]))
            | refine W.cond_true rfl ?_
            | refine W.cond_false rfl ?_
            | refine W.skip ?_
            | refine W.exit ?_
            | (refine (prefix_F (46 :: t) [46] true (by simp)) _ ?_ _ fun n1 tyn1 hn1 hun1 => ⟨rfl, ?_⟩; (focus (((refine ⟨?_, ?_⟩; (focus ((repeat (first | exact hu.le (by (try dsimp only); omega) | exact hu.set.le (by (try dsimp only); omega) | refine Under.cons (by (try dsimp only); omega) ?_ | exact Under.nil)); done)); (focus ((repeat (first | exact hut.le (by (try dsimp only); omega) | refine UnderT.cons (by (try dsimp only); omega) ?_ | exact UnderT.nil | assumption | exact UnderT.le (by assumption) (by (try dsimp only); omega))); done)))); done)); (try dsimp only at hn1))
            | (refine W0 _ ?_ _ fun n2 tyn2 hn2 hun2 => ⟨rfl, ?_⟩; (focus (((refine ⟨?_, ?_⟩; (focus ((repeat (first | exact hu.le (by (try dsimp only); omega) | exact hu.set.le (by (try dsimp only); omega) | refine Under.cons (by (try dsimp only); omega) ?_ | exact Under.nil)); done)); (focus ((repeat (first | exact hut.le (by (try dsimp only); omega) | refine UnderT.cons (by (try dsimp only); omega) ?_ | exact UnderT.nil | assumption | exact UnderT.le (by assumption) (by (try dsimp only); omega))); done)))); done)); (try dsimp only at hn2)))
          refine hk _ _ _ _ _ ?_ ?_
          · omega
          · exact UnderT.le (by assumption) (by omega)
        · rw [tailF, if_pos rfl, if_neg hz] at hk
          obtain ⟨k, hkk⟩ : ∃ k, wordF t = k := ⟨_, rfl⟩
          have W0 := word_F t (by omega)
          rw [hkk] at W0 hz hk hw
          have hkn : ¬ ((k : Int) = 0) := by omega
          refine W.loop ?_
          repeat (first
            | refine W.seq ?_
            | refine W.block ?_
            | ((first | refine W.regG ?_ | refine WoR.go ?_); generalize e : goR _ _ _ _ _ _ _ _ = r; simp (disch := omega) [hD, hC, hN, hT, htk, htn, hd, hd1, hkn] at e; replace e : some _ = _ := e; subst e; (try dsimp only [goW]))
            | refine W.cond_true rfl ?_
            | refine W.cond_false rfl ?_
            | refine W.skip ?_
            | refine W.exit ?_
            | (refine (prefix_F (46 :: t) [46] true (by simp)) _ ?_ _ fun n1 tyn1 hn1 hun1 => ⟨rfl, ?_⟩; (focus (((refine ⟨?_, ?_⟩; (focus ((repeat (first | exact hu.le (by (try dsimp only); omega) | exact hu.set.le (by (try dsimp only); omega) | refine Under.cons (by (try dsimp only); omega) ?_ | exact Under.nil)); done)); (focus ((repeat (first | exact hut.le (by (try dsimp only); omega) | refine UnderT.cons (by (try dsimp only); omega) ?_ | exact UnderT.nil | assumption | exact UnderT.le (by assumption) (by (try dsimp only); omega))); done)))); done)); (try dsimp only at hn1))
            | (refine W0 _ ?_ _ fun n2 tyn2 hn2 hun2 => ⟨rfl, ?_⟩; (focus (((refine ⟨?_, ?_⟩; (focus ((repeat (first | exact hu.le (by (try dsimp only); omega) | exact hu.set.le (by (try dsimp only); omega) | refine Under.cons (by (try dsimp only); omega) ?_ | exact Under.nil)); done)); (focus ((repeat (first | exact hut.le (by (try dsimp only); omega) | refine UnderT.cons (by (try dsimp only); omega) ?_ | exact UnderT.nil | assumption | exact UnderT.le (by assumption) (by (try dsimp only); omega))); done)))); done)); (try dsimp only at hn2)))
          show W tree.getF nameLoop (dropped true _ _) Q
          generalize e : dropped _ _ _ = r
          simp (disch := omega) [hD, hC, hN, hT, htk, htn] at e
          subst e
          have hdk : t.drop k = s.drop (n + (1 + k)) := by rw [← hd1, List.drop_drop]; congr 1; omega
          rw [hdk] at hk
          refine ih (n + (1 + k)) (by omega) (by omega) _ _ _ _ ?_ ?_
          · exact ⟨hu.le (by (try dsimp only); omega), UnderT.le (by assumption) (by (try dsimp only); omega)⟩
          · intro n' ty v5 v6 v7 h1 h2
            have := hk n' ty v5 v6 v7 (by (try dsimp only at h1); omega) h2
            rw [show n + (1 + k) + tailF (s.drop (n + (1 + k))) = n + (1 + k + tailF (s.drop (n + (1 + k)))) by omega]
            exact this
      · have hcb : (c == 46) = false := by simp [hc]
        rw [tailF, if_neg hc] at hk
        refine W.loop ?_
        repeat (first
          | refine W.seq ?_
          | refine W.block ?_
          | ((first | refine W.regG ?_ | refine WoR.go ?_); generalize e : goR _ _ _ _ _ _ _ _ = r; simp (disch := omega) [hD, hC, hN, hT, htk, htn, hd] at e; replace e : some _ = _ := e; subst e; (try dsimp only [goW]))
          | refine W.cond_true rfl ?_
          | refine W.cond_false rfl ?_
          | refine W.skip ?_
          | refine W.exit ?_
          | (refine (prefix_F (c :: t) [46] false (by simp [hc])) _ ?_ _ fun n1 tyn1 hn1 hun1 => ⟨rfl, ?_⟩; (focus (((refine ⟨?_, ?_⟩; (focus ((repeat (first | exact hu.le (by (try dsimp only); omega) | exact hu.set.le (by (try dsimp only); omega) | refine Under.cons (by (try dsimp only); omega) ?_ | exact Under.nil)); done)); (focus ((repeat (first | exact hut.le (by (try dsimp only); omega) | refine UnderT.cons (by (try dsimp only); omega) ?_ | exact UnderT.nil | assumption | exact UnderT.le (by assumption) (by (try dsimp only); omega))); done)))); done)); (try dsimp only at hn1)))
        refine hk _ _ _ _ _ ?_ ?_
        · omega
        · exact UnderT.le (by assumption) (by omega)

theorem name_nil  : Pu tree.getF 18 [.str []] (.int .i64 0) := by
  intro h hf K hk
  obtain ⟨hu, hut⟩ := hf
  have hD : ∀ m, h.next ≤ m → dropEnts h.ents m = h.ents := fun m hm => dropEnts_under (hu.le hm)
  have hC : ∀ m, h.next ≤ m → dropCells h.ents m = h.ents := fun m hm => dropCells_under (hu.le hm)
  have hN : ∀ q, h.next ≤ q → getEnt h.ents q = none := fun q hq => getEnt_under hu hq
  have hT : ∀ q, h.next ≤ q → lookupN h.tys q = none := fun q hq => lookupN_under hut hq

  refine Wc.mkG 18 c18 (by kernel_rfl) rfl ?_
  generalize e : entryC _ _ _ = r
  simp (disch := omega) [hD, hC, hN, hT, c18] at e
  subst e
  repeat (first
    | refine W.seq ?_
    | refine W.block ?_
    | ((first | refine W.regG ?_ | refine WoR.go ?_); generalize e : goR _ _ _ _ _ _ _ _ = r; simp (disch := omega) [hD, hC, hN, hT, c18] at e; replace e : some _ = _ := e; subst e; (try dsimp only [goW]))
    | refine W.cond_true rfl ?_
    | refine W.cond_false rfl ?_
    | refine W.skip ?_
    | refine W.exit ?_
    | (refine W.loop ?_; try (generalize e : dropped _ _ _ = r; simp (disch := omega) [hD, hC, hN, hT, c18] at e; subst e; try dsimp only))
    | (refine (prefix_F ([]) [46] false (by simp)) _ ?_ _ fun n1 tyn1 hn1 hun1 => ⟨rfl, ?_⟩; (focus (((refine ⟨?_, ?_⟩; (focus ((repeat (first | exact hu.le (by (try dsimp only); omega) | exact hu.set.le (by (try dsimp only); omega) | refine Under.cons (by (try dsimp only); omega) ?_ | exact Under.nil)); done)); (focus ((repeat (first | exact hut.le (by (try dsimp only); omega) | refine UnderT.cons (by (try dsimp only); omega) ?_ | exact UnderT.nil | assumption | exact UnderT.le (by assumption) (by (try dsimp only); omega))); done)))); done)); (try dsimp only at hn1))
    | (refine word_nil _ ?_ _ fun n2 tyn2 hn2 hun2 => ⟨rfl, ?_⟩; (focus (((refine ⟨?_, ?_⟩; (focus ((repeat (first | exact hu.le (by (try dsimp only); omega) | exact hu.set.le (by (try dsimp only); omega) | refine Under.cons (by (try dsimp only); omega) ?_ | exact Under.nil)); done)); (focus ((repeat (first | exact hut.le (by (try dsimp only); omega) | refine UnderT.cons (by (try dsimp only); omega) ?_ | exact UnderT.nil | assumption | exact UnderT.le (by assumption) (by (try dsimp only); omega))); done)))); done)); (try dsimp only at hn2))
    | ((first | (refine W.ret ?_; (try simp only [outOf, thenW_ret, roundW]); refine endW.of (.inl rfl) rfl ?_) | refine endW.of (.inr rfl) rfl ?_); generalize e : endsC _ _ _ = r; simp (disch := omega) [hD, hC, hN, hT, c18] at e; subst e; (try dsimp only [goW]); (refine hk _ _ ?_ ?_; omega; exact (by repeat (first | exact hut.le (by (try dsimp only); omega) | refine UnderT.cons (by (try dsimp only); omega) ?_ | exact UnderT.nil | assumption | exact UnderT.le (by assumption) (by (try dsimp only); omega))))))

theorem name_dot (t : List UInt8) (hl : t.length < 70000) : Pu tree.getF 18 [.str (46 :: t)] (.int .i64 (tailF (46 :: t) : Int)) := by
  intro h hf K hk
  obtain ⟨hu, hut⟩ := hf
  have hD : ∀ m, h.next ≤ m → dropEnts h.ents m = h.ents := fun m hm => dropEnts_under (hu.le hm)
  have hC : ∀ m, h.next ≤ m → dropCells h.ents m = h.ents := fun m hm => dropCells_under (hu.le hm)
  have hN : ∀ q, h.next ≤ q → getEnt h.ents q = none := fun q hq => getEnt_under hu hq
  have hT : ∀ q, h.next ≤ q → lookupN h.tys q = none := fun q hq => lookupN_under hut hq

  have htk : (46 :: t).take (t.length + 1) = 46 :: t := List.take_of_length_le (by simp)
  have hw := wordF_le t
  have W0 := word_F t (by omega)
  by_cases hz : wordF t = 0
  · rw [tailF, if_pos rfl, if_pos hz] at hk
    rw [hz] at W0
    refine Wc.mkG 18 c18 (by kernel_rfl) rfl ?_
    generalize e : entryC _ _ _ = r
    simp (disch := omega) [hD, hC, hN, hT, htk, c18] at e
    subst e
    repeat (first
      | refine W.seq ?_
      | refine W.block ?_
      | ((first | refine W.regG ?_ | refine WoR.go ?_); generalize e : goR _ _ _ _ _ _ _ _ = r; simp (disch := omega) [hD, hC, hN, hT, htk, c18] at e; replace e : some _ = _ := e; subst e; (try dsimp only [goW]))
      | refine W.cond_true rfl ?_
      | refine W.cond_false rfl ?_
      | refine W.skip ?_
      | refine W.exit ?_
      | (refine (prefix_F (46 :: t) [46] true (by simp)) _ ?_ _ fun n1 tyn1 hn1 hun1 => ⟨rfl, ?_⟩; (focus (((refine ⟨?_, ?_⟩; (focus ((repeat (first | exact hu.le (by (try dsimp only); omega) | exact hu.set.le (by (try dsimp only); omega) | refine Under.cons (by (try dsimp only); omega) ?_ | exact Under.nil)); done)); (focus ((repeat (first | exact hut.le (by (try dsimp only); omega) | refine UnderT.cons (by (try dsimp only); omega) ?_ | exact UnderT.nil | assumption | exact UnderT.le (by assumption) (by (try dsimp only); omega))); done)))); done)); (try dsimp only at hn1))
      | (refine W0 _ ?_ _ fun n2 tyn2 hn2 hun2 => ⟨rfl, ?_⟩; (focus (((refine ⟨?_, ?_⟩; (focus ((repeat (first | exact hu.le (by (try dsimp only); omega) | exact hu.set.le (by (try dsimp only); omega) | refine Under.cons (by (try dsimp only); omega) ?_ | exact Under.nil)); done)); (focus ((repeat (first | exact hut.le (by (try dsimp only); omega) | refine UnderT.cons (by (try dsimp only); omega) ?_ | exact UnderT.nil | assumption | exact UnderT.le (by assumption) (by (try dsimp only); omega))); done)))); done)); (try dsimp only at hn2))
      | ((first | (refine W.ret ?_; (try simp only [outOf, thenW_ret, roundW]); refine endW.of (.inl rfl) rfl ?_) | refine endW.of (.inr rfl) rfl ?_); generalize e : endsC _ _ _ = r; simp (disch := omega) [hD, hC, hN, hT, htk, c18] at e; subst e; (try dsimp only [goW]); (refine hk _ _ ?_ ?_; omega; exact (by repeat (first | exact hut.le (by (try dsimp only); omega) | refine UnderT.cons (by (try dsimp only); omega) ?_ | exact UnderT.nil | assumption | exact UnderT.le (by assumption) (by (try dsimp only); omega))))))
  · rw [tailF, if_pos rfl, if_neg hz] at hk
    obtain ⟨k, hkk⟩ : ∃ k, wordF t = k := ⟨_, rfl⟩
    rw [hkk] at W0 hz hk hw
    have hkn : ¬ ((k : Int) = 0) := by omega
    push_cast at hk
    refine Wc.mkG 18 c18 (by kernel_rfl) rfl ?_
    generalize e : entryC _ _ _ = r
    simp (disch := omega) [hD, hC, hN, hT, htk, c18] at e
    subst e
    repeat (first
      | refine W.seq ?_
      | refine W.block ?_
      | ((first | refine W.regG ?_ | refine WoR.go ?_); generalize e : goR _ _ _ _ _ _ _ _ = r; simp (disch := omega) [hD, hC, hN, hT, htk, hkn, c18] at e; replace e : some _ = _ := e; subst e; (try dsimp only [goW]))
      | refine W.cond_true rfl ?_
      | refine W.cond_false rfl ?_
      | refine W.skip ?_
      | refine W.exit ?_
      | (refine (prefix_F (46 :: t) [46] true (by simp)) _ ?_ _ fun n1 tyn1 hn1 hun1 => ⟨rfl, ?_⟩; (focus (((refine ⟨?_, ?_⟩; (focus ((repeat (first | exact hu.le (by (try dsimp only); omega) | exact hu.set.le (by (try dsimp only); omega) | refine Under.cons (by (try dsimp only); omega) ?_ | exact Under.nil)); done)); (focus ((repeat (first | exact hut.le (by (try dsimp only); omega) | refine UnderT.cons (by (try dsimp only); omega) ?_ | exact UnderT.nil | assumption | exact UnderT.le (by assumption) (by (try dsimp only); omega))); done)))); done)); (try dsimp only at hn1))
      | (refine W0 _ ?_ _ fun n2 tyn2 hn2 hun2 => ⟨rfl, ?_⟩; (focus (((refine ⟨?_, ?_⟩; (focus ((repeat (first | exact hu.le (by (try dsimp only); omega) | exact hu.set.le (by (try dsimp only); omega) | refine Under.cons (by (try dsimp only); omega) ?_ | exact Under.nil)); done)); (focus ((repeat (first | exact hut.le (by (try dsimp only); omega) | refine UnderT.cons (by (try dsimp only); omega) ?_ | exact UnderT.nil | assumption | exact UnderT.le (by assumption) (by (try dsimp only); omega))); done)))); done)); (try dsimp only at hn2)))
    refine name_loop (46 :: t) (by simp; omega) _ _ _ _ _ (46 :: t).length (1 + k) (by simp) (by simp; omega) _ _ _ _ ?_ ?_
    · exact ⟨hu.le (by (try dsimp only); omega), UnderT.le (by assumption) (by (try dsimp only); omega)⟩
    · intro n' ty v5 v6 v7 h1 h2
      try dsimp only at h1
      rw [show (46 :: t).drop (1 + k) = t.drop k by rw [Nat.add_comm]; rfl]
      repeat (first
        | refine W.seq ?_
        | refine W.block ?_
        | ((first | refine W.regG ?_ | refine WoR.go ?_); generalize e : goR _ _ _ _ _ _ _ _ = r; simp (disch := omega) [hD, hC, hN, hT, htk, c18] at e; replace e : some _ = _ := e; subst e; (try dsimp only [goW]))
        | refine W.cond_true rfl ?_
        | refine W.cond_false rfl ?_
        | refine W.skip ?_
        | refine W.exit ?_
        | ((first | (refine W.ret ?_; (try simp only [outOf, thenW_ret, roundW]); refine endW.of (.inl rfl) rfl ?_) | refine endW.of (.inr rfl) rfl ?_); generalize e : endsC _ _ _ = r; simp (disch := omega) [hD, hC, hN, hT, htk, c18] at e; subst e; (try dsimp only [goW]); (refine hk _ _ ?_ ?_; omega; exact (by repeat (first | exact hut.le (by (try dsimp only); omega) | refine UnderT.cons (by (try dsimp only); omega) ?_ | exact UnderT.nil | assumption | exact UnderT.le (by assumption) (by (try dsimp only); omega))))))
theorem name_plain (c : UInt8) (t : List UInt8) (hc : c ≠ 46) (hl : t.length < 70000) : Pu tree.getF 18 [.str (c :: t)] (.int .i64 (nameF (c :: t) : Int)) := by
  intro h hf K hk
  obtain ⟨hu, hut⟩ := hf
  have hD : ∀ m, h.next ≤ m → dropEnts h.ents m = h.ents := fun m hm => dropEnts_under (hu.le hm)
  have hC : ∀ m, h.next ≤ m → dropCells h.ents m = h.ents := fun m hm => dropCells_under (hu.le hm)
  have hN : ∀ q, h.next ≤ q → getEnt h.ents q = none := fun q hq => getEnt_under hu hq
  have hT : ∀ q, h.next ≤ q → lookupN h.tys q = none := fun q hq => lookupN_under hut hq

  have htk : (c :: t).take (t.length + 1) = c :: t := List.take_of_length_le (by simp)
  have hw := wordF_le (c :: t)
  have W0 := word_F (c :: t) (by simp; omega)
  by_cases hz : wordF (c :: t) = 0
  · rw [nameF, if_neg hc, if_pos hz] at hk
    rw [hz] at W0
    refine Wc.mkG 18 c18 (by kernel_rfl) rfl ?_
    generalize e : entryC _ _ _ = r
    simp (disch := omega) [hD, hC, hN, hT, htk, c18] at e
    subst e
    repeat (first
      | refine W.seq ?_
      | refine W.block ?_
      | ((first | refine W.regG ?_ | refine WoR.go ?_); generalize e : goR _ _ _ _ _ _ _ _ = r; simp (disch := omega) [hD, hC, hN, hT, htk, c18] at e; replace e : some _ = _ := e; subst e; (try dsimp only [goW]))
      | refine W.cond_true rfl ?_
      | refine W.cond_false rfl ?_
      | refine W.skip ?_
      | refine W.exit ?_
      | (refine (prefix_F (c :: t) [46] false (by simp [hc])) _ ?_ _ fun n1 tyn1 hn1 hun1 => ⟨rfl, ?_⟩; (focus (((refine ⟨?_, ?_⟩; (focus ((repeat (first | exact hu.le (by (try dsimp only); omega) | exact hu.set.le (by (try dsimp only); omega) | refine Under.cons (by (try dsimp only); omega) ?_ | exact Under.nil)); done)); (focus ((repeat (first | exact hut.le (by (try dsimp only); omega) | refine UnderT.cons (by (try dsimp only); omega) ?_ | exact UnderT.nil | assumption | exact UnderT.le (by assumption) (by (try dsimp only); omega))); done)))); done)); (try dsimp only at hn1))
      | (refine W0 _ ?_ _ fun n2 tyn2 hn2 hun2 => ⟨rfl, ?_⟩; (focus (((refine ⟨?_, ?_⟩; (focus ((repeat (first | exact hu.le (by (try dsimp only); omega) | exact hu.set.le (by (try dsimp only); omega) | refine Under.cons (by (try dsimp only); omega) ?_ | exact Under.nil)); done)); (focus ((repeat (first | exact hut.le (by (try dsimp only); omega) | refine UnderT.cons (by (try dsimp only); omega) ?_ | exact UnderT.nil | assumption | exact UnderT.le (by assumption) (by (try dsimp only); omega))); done)))); done)); (try dsimp only at hn2))
      | ((first | (refine W.ret ?_; (try simp only [outOf, thenW_ret, roundW]); refine endW.of (.inl rfl) rfl ?_) | refine endW.of (.inr rfl) rfl ?_); generalize e : endsC _ _ _ = r; simp (disch := omega) [hD, hC, hN, hT, htk, c18] at e; subst e; (try dsimp only [goW]); (refine hk _ _ ?_ ?_; omega; exact (by repeat (first | exact hut.le (by (try dsimp only); omega) | refine UnderT.cons (by (try dsimp only); omega) ?_ | exact UnderT.nil | assumption | exact UnderT.le (by assumption) (by (try dsimp only); omega))))))
  · rw [nameF, if_neg hc, if_neg hz] at hk
    obtain ⟨k, hkk⟩ : ∃ k, wordF (c :: t) = k := ⟨_, rfl⟩
    rw [hkk] at W0 hz hk hw
    have hkn : ¬ ((k : Int) = 0) := by omega
    have hw2 : k ≤ t.length + 1 := by simpa using hw
    push_cast at hk
    refine Wc.mkG 18 c18 (by kernel_rfl) rfl ?_
    generalize e : entryC _ _ _ = r
    simp (disch := omega) [hD, hC, hN, hT, htk, c18] at e
    subst e
    repeat (first
      | refine W.seq ?_
      | refine W.block ?_
      | ((first | refine W.regG ?_ | refine WoR.go ?_); generalize e : goR _ _ _ _ _ _ _ _ = r; simp (disch := omega) [hD, hC, hN, hT, htk, hkn, c18] at e; replace e : some _ = _ := e; subst e; (try dsimp only [goW]))
      | refine W.cond_true rfl ?_
      | refine W.cond_false rfl ?_
      | refine W.skip ?_
      | refine W.exit ?_
      | (refine (prefix_F (c :: t) [46] false (by simp [hc])) _ ?_ _ fun n1 tyn1 hn1 hun1 => ⟨rfl, ?_⟩; (focus (((refine ⟨?_, ?_⟩; (focus ((repeat (first | exact hu.le (by (try dsimp only); omega) | exact hu.set.le (by (try dsimp only); omega) | refine Under.cons (by (try dsimp only); omega) ?_ | exact Under.nil)); done)); (focus ((repeat (first | exact hut.le (by (try dsimp only); omega) | refine UnderT.cons (by (try dsimp only); omega) ?_ | exact UnderT.nil | assumption | exact UnderT.le (by assumption) (by (try dsimp only); omega))); done)))); done)); (try dsimp only at hn1))
      | (refine W0 _ ?_ _ fun n2 tyn2 hn2 hun2 => ⟨rfl, ?_⟩; (focus (((refine ⟨?_, ?_⟩; (focus ((repeat (first | exact hu.le (by (try dsimp only); omega) | exact hu.set.le (by (try dsimp only); omega) | refine Under.cons (by (try dsimp only); omega) ?_ | exact Under.nil)); done)); (focus ((repeat (first | exact hut.le (by (try dsimp only); omega) | refine UnderT.cons (by (try dsimp only); omega) ?_ | exact UnderT.nil | assumption | exact UnderT.le (by assumption) (by (try dsimp only); omega))); done)))); done)); (try dsimp only at hn2)))
    refine name_loop (c :: t) (by simp; omega) _ _ _ _ _ (c :: t).length k (by simp) hw _ _ _ _ ?_ ?_
    · exact ⟨hu.le (by (try dsimp only); omega), UnderT.le (by assumption) (by (try dsimp only); omega)⟩
    · intro n' ty v5 v6 v7 h1 h2
      try dsimp only at h1
      repeat (first
        | refine W.seq ?_
        | refine W.block ?_
        | ((first | refine W.regG ?_ | refine WoR.go ?_); generalize e : goR _ _ _ _ _ _ _ _ = r; simp (disch := omega) [hD, hC, hN, hT, htk, c18] at e; replace e : some _ = _ := e; subst e; (try dsimp only [goW]))
        | refine W.cond_true rfl ?_
        | refine W.cond_false rfl ?_
        | refine W.skip ?_
        | refine W.exit ?_
        | ((first | (refine W.ret ?_; (try simp only [outOf, thenW_ret, roundW]); refine endW.of (.inl rfl) rfl ?_) | refine endW.of (.inr rfl) rfl ?_); generalize e : endsC _ _ _ = r; simp (disch := omega) [hD, hC, hN, hT, htk, c18] at e; subst e; (try dsimp only [goW]); (refine hk _ _ ?_ ?_; omega; exact (by repeat (first | exact hut.le (by (try dsimp only); omega) | refine UnderT.cons (by (try dsimp only); omega) ?_ | exact UnderT.nil | assumption | exact UnderT.le (by assumption) (by (try dsimp only); omega))))))
theorem name_F (s : List UInt8) (hl : s.length < 70000) : Pu tree.getF 18 [.str s] (.int .i64 (nameF s : Int)) := by
  cases s with
  | nil => exact name_nil
  | cons c t =>
    by_cases hc : c = 46
    · subst hc; have := name_dot t (by simp at hl; omega); rw [nameF, if_pos rfl]; exact this
    · exact name_plain c t hc (by simp at hl; omega)
end Go.Proofs.YthblmflngjofjaaDoor.IrP
