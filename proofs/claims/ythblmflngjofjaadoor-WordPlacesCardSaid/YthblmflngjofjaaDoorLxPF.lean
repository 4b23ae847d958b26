/- What the functions of the law 'WordPlaces' do: part 7. -/
import Derived.Test.YthblmflngjofjaaDoorLxPE
namespace Go.Proofs.YthblmflngjofjaaDoor.IrP
open Go Go.CI
open Go.LexF hiding spacesB lettersB
set_option maxRecDepth 100000
set_option linter.unusedVariables false
set_option linter.unusedSimpArgs false
attribute [local irreducible] W Wo Wc WoR
attribute [local simp] goR regOut checkOne swapOne sameAt nthOp CVal.beq beqs CVal.block storesTo entryC evalOps evalOper evalE evalP evalL evalOpnd nth setNth COp.cls COp.isStore CVal.isUndef CVal.whole CVal.cells CHeap.put CHeap.get CHeap.set wantedC getEnt setEnt partOf writeBack evalBin evalInt evalStr blockMost initVar descOf List.take List.drop CVal.lenOf CVal.isStr CVal.bare CVal.strip CVal.flat endsC resultsC oneOrTuple finishC cut fillCells setCells szOf szOf_desc elems bytesOf evalAppend fillElems mkElem setElem List.replicate sy_nbeq sy_neqF sy_leT sy_leF sy_setEnt_setEnt dropped sy_wrap64 dropEnts dropCells sizeMost sy_ibeqF sy_ieqF sy_ileT sy_ileF sy_iltT sy_iltF sy_ltT sy_ltF evalSlc optBound eqVal extL extE keyIs findKV nthKV setKV CHeap.ty lookupN CHeap.note CHeap.tyOk dropAll freezeVal freezeAll freezeFlat pCopyCheck pBString pMakeNoZero pIndexByte pClone pIndex hasPair rowOf byteVals idxFrom hasFront idxSub

theorem indexb_F (s : List UInt8) (hl : s.length < 100000) : Pu tree.getF 15 [.str s, .int .u8 10] (.int .i64 (idxFrom 10 s 0)) := by
  intro h hf K hk
  obtain ⟨hu, hut⟩ := hf
  have hD : ∀ m, h.next ≤ m → dropEnts h.ents m = h.ents := fun m hm => dropEnts_under (hu.le hm)
  have hC : ∀ m, h.next ≤ m → dropCells h.ents m = h.ents := fun m hm => dropCells_under (hu.le hm)
  have hN : ∀ q, h.next ≤ q → getEnt h.ents q = none := fun q hq => getEnt_under hu hq
  have hT : ∀ q, h.next ≤ q → lookupN h.tys q = none := fun q hq => lookupN_under hut hq

  refine Wc.mkG 15 c15 (by kernel_rfl) rfl ?_
  generalize e : entryC _ _ _ = r
  simp (disch := omega) [hD, hC, hN, hT, c15] at e
  subst e
  repeat (first
    | refine W.seq ?_
    | refine W.block ?_
    | ((first | refine W.regG ?_ | refine WoR.go ?_); generalize e : goR _ _ _ _ _ _ _ _ = r; simp (disch := omega) [hD, hC, hN, hT, c31, c15] at e; replace e : some _ = _ := e; subst e; (try dsimp only [goW]))
    | refine W.cond_true rfl ?_
    | refine W.cond_false rfl ?_
    | refine W.skip ?_
    | refine W.exit ?_
    | (refine W.loop ?_; try (generalize e : dropped _ _ _ = r; simp (disch := omega) [hD, hC, hN, hT, c31, c15] at e; subst e; try dsimp only))
    | (refine Wc.mkG 31 c31 (by kernel_rfl) rfl ?_; generalize e : entryC _ _ _ = r; simp (disch := omega) [hD, hC, hN, hT, c31, c15] at e; subst e)
    | (refine Wc.primM (f := 44) (p := pIndexByte) (by kernel_rfl) ?_; generalize e : pIndexByte _ _ = r; simp (disch := omega) [hD, hC, hN, hT, c31, c15] at e; subst e; (try dsimp only); refine ⟨rfl, ?_⟩)
    | ((first | (refine W.ret ?_; (try simp only [outOf, thenW_ret, roundW]); refine endW.of (.inl rfl) rfl ?_) | refine endW.of (.inr rfl) rfl ?_); generalize e : endsC _ _ _ = r; simp (disch := omega) [hD, hC, hN, hT, c31, c15] at e; subst e; (try dsimp only [goW]); (first | refine ⟨rfl, ?_⟩ | (refine hk _ _ ?_ ?_; omega; exact (by repeat (first | exact hut.le (by (try dsimp only); omega) | refine UnderT.cons (by (try dsimp only); omega) ?_ | exact UnderT.nil | assumption | exact UnderT.le (by assumption) (by (try dsimp only); omega)))))))

theorem index_F (s p : List UInt8) (hl : s.length < 100000) : Pu tree.getF 16 [.str s, .str p] (.int .i64 (idxSub p s 0)) :=
  pu_of fun h hu K hk => index_spec s p (by omega) h hu K hk
abbrev skipLoop : CCode := (.loop true (.seq (.seq (.region [⟨.mv (.var 0), none⟩, ⟨.nilck (.loc 0), none⟩, ⟨.fieldAddr 3 (.loc 0), none⟩, ⟨.load none (.loc 0), none⟩, ⟨.bin .eql (.loc 0) (.const (.int .i64 0)), none⟩] [(1, 4)] [] []) (.cond (.var 1) .skip (.exit 0))) (.block 1 (.seq (.region [⟨.mv (.var 0), none⟩, ⟨.nilck (.loc 0), none⟩, ⟨.fieldAddr 1 (.loc 0), none⟩, ⟨.load none (.loc 0), none⟩, ⟨.mv (.var 0), none⟩, ⟨.nilck (.loc 0), none⟩, ⟨.fieldAddr 0 (.loc 0), none⟩, ⟨.load none (.loc 0), none⟩, ⟨.mv (.var 0), none⟩, ⟨.nilck (.loc 0), none⟩, ⟨.fieldAddr 1 (.loc 0), none⟩, ⟨.load none (.loc 0), none⟩, ⟨.slc 0 (.loc 4) (some (.loc 0)) none, none⟩, ⟨.call false 13 [(.loc 0), (.const (.str [9, 10, 11, 12, 13, 32]))], none⟩, ⟨.bin .add (.loc 10) (.loc 0), none⟩, ⟨.nilck (.loc 14), none⟩, ⟨.fieldAddr 1 (.loc 0), none⟩, ⟨.store 1 (.loc 0) (.loc 2), none⟩] [] [(3, 0, 1)] []) (.seq (.region [⟨.mv (.var 0), none⟩, ⟨.nilck (.loc 0), none⟩, ⟨.fieldAddr 0 (.loc 0), none⟩, ⟨.load none (.loc 0), none⟩, ⟨.mv (.var 0), none⟩, ⟨.nilck (.loc 0), none⟩, ⟨.fieldAddr 1 (.loc 0), none⟩, ⟨.load none (.loc 0), none⟩, ⟨.slc 0 (.loc 4) (some (.loc 0)) none, none⟩, ⟨.mv (.loc 0), none⟩] [(2, 9)] [] []) (.block 2 (.seq (.region [⟨.mv (.var 2), none⟩, ⟨.call false 14 [(.loc 0), (.const (.str [47, 47]))], none⟩, ⟨.mv (.loc 0), none⟩] [(3, 2)] [] []) (.cond (.var 3) (.seq (.region [⟨.mv (.var 2), none⟩, ⟨.call false 15 [(.loc 0), (.const (.int .u8 10))], none⟩, ⟨.mv (.loc 0), none⟩] [(4, 2)] [] []) (.seq (.seq (.region [⟨.mv (.var 4), none⟩, ⟨.bin .lss (.loc 0) (.const (.int .i64 0)), none⟩] [(5, 1)] [] []) (.cond (.var 5) (.region [⟨.mv (.var 2), none⟩, ⟨.len true (.loc 0), none⟩, ⟨.mv (.loc 0), none⟩] [(4, 2)] [] []) .skip)) (.region [⟨.mv (.var 0), none⟩, ⟨.nilck (.loc 0), none⟩, ⟨.fieldAddr 1 (.loc 0), none⟩, ⟨.load none (.loc 0), none⟩, ⟨.mv (.var 4), none⟩, ⟨.bin .add (.loc 1) (.loc 0), none⟩, ⟨.nilck (.loc 5), none⟩, ⟨.fieldAddr 1 (.loc 0), none⟩, ⟨.store 1 (.loc 0) (.loc 2), none⟩] [] [] []))) (.seq (.region [⟨.mv (.var 2), none⟩, ⟨.call false 14 [(.loc 0), (.const (.str [47, 42]))], none⟩, ⟨.mv (.loc 0), none⟩] [(6, 2)] [] []) (.cond (.var 6) (.seq (.region [⟨.mv (.var 2), none⟩, ⟨.slc 0 (.loc 0) (some (.const (.int .i64 2))) none, none⟩, ⟨.call false 16 [(.loc 0), (.const (.str [42, 47]))], none⟩, ⟨.mv (.loc 0), none⟩] [(7, 3)] [] []) (.seq (.region [⟨.mv (.var 0), none⟩, ⟨.mv (.var 7), none⟩, ⟨.bin .lss (.loc 0) (.const (.int .i64 0)), none⟩, ⟨.mv (.var 0), none⟩, ⟨.nilck (.loc 0), none⟩, ⟨.fieldAddr 1 (.loc 0), none⟩, ⟨.load none (.loc 0), none⟩, ⟨.call false 17 [(.loc 6), (.loc 4), (.const (.int .i64 2)), (.loc 0)], none⟩] [] [] []) (.region [⟨.mv (.var 0), none⟩, ⟨.nilck (.loc 0), none⟩, ⟨.fieldAddr 1 (.loc 0), none⟩, ⟨.load none (.loc 0), none⟩, ⟨.mv (.var 7), none⟩, ⟨.bin .add (.loc 0) (.const (.int .i64 4)), none⟩, ⟨.bin .add (.loc 2) (.loc 0), none⟩, ⟨.nilck (.loc 6), none⟩, ⟨.fieldAddr 1 (.loc 0), none⟩, ⟨.store 1 (.loc 0) (.loc 2), none⟩] [] [] []))) .ret))))))))))
theorem skip_loop (s : List UInt8) (hs : s.length < 60000) (p d : Nat) (L : CVal) (hL : L.whole = true) (hLc : L.cells.length = 1) (to : Int) (Q : CExit → CSt → Prop) : ∀ (m : Nat) (r : List UInt8) (a : Nat), r.length ≤ m → s.drop a = r → a + r.length = s.length → ∀ (h : CHeap) (v1 v2 v3 v4 v5 v6 v7 : CVal), getEnt h.ents p = some (rdr s a L 0 to) → Fit h → p < h.next →
    (∀ n' ty v1 v2 v3 v4 v5 v6 v7, h.next ≤ n' → UnderT ty n' → (skipF r).2 = true → Q .ret ⟨[.ptr p d 0, v1, v2, v3, v4, v5, v6, v7], ⟨setEnt h.ents p (rdr s ((s.length - (skipF r).1.length : Nat) : Int) L 0 to), n', ty⟩, []⟩) →
    (∀ n' ty v1 v2 v3 v4 v5 v6 v7, h.next ≤ n' → UnderT ty n' → (skipF r).2 = false → Q (.exit 0) ⟨[.ptr p d 0, v1, v2, v3, v4, v5, v6, v7], ⟨setEnt h.ents p (rdr s (((s.length - (skipF r).1.length : Nat) : Int) + 3) L 2 ((s.length - (skipF r).1.length : Nat) : Int)), n', ty⟩, []⟩) →
    W tree.getF skipLoop ⟨[.ptr p d 0, v1, v2, v3, v4, v5, v6, v7], h, []⟩ Q := by
  intro m
  induction m with
  | zero =>
    intro r a hm hda hlen h v1 v2 v3 v4 v5 v6 v7 hg hf hp hk1 hk2
    obtain rfl : r = [] := List.length_eq_zero_iff.1 (by omega)
    rw [skipF_nil] at hk1
    have hpos : s.length - ([] : List UInt8).length = a := by simp at hlen ⊢; omega
    dsimp only at hk1
    rw [hpos] at hk1
    have htk : s.take s.length = s := List.take_length
    have hto : (a : Int).toNat = a := by omega
    have F0 := front_spaces [] (by simp)
    rw [show (fr Go.LexF.spacesB []).length = 0 by rfl] at F0
    obtain ⟨hu, hut⟩ := hf
    have hD : ∀ m, h.next ≤ m → dropEnts h.ents m = h.ents := fun m hm => dropEnts_under (hu.le hm)
    have hC : ∀ m, h.next ≤ m → dropCells h.ents m = h.ents := fun m hm => dropCells_under (hu.le hm)
    have hN : ∀ q, h.next ≤ q → getEnt h.ents q = none := fun q hq => getEnt_under hu hq
    have hT : ∀ q, h.next ≤ q → lookupN h.tys q = none := fun q hq => lookupN_under hut hq
    have hG : ∀ x, getEnt (setEnt h.ents p x) p = some x := fun x => sy_getEnt_setEnt hg
    have hD2 : ∀ x m, h.next ≤ m → dropEnts (setEnt h.ents p x) m = setEnt h.ents p x := fun x m hm => dropEnts_under (hu.set.le hm)
    have hC2 : ∀ x m, h.next ≤ m → dropCells (setEnt h.ents p x) m = setEnt h.ents p x := fun x m hm => dropCells_under (hu.set.le hm)
    have hN2 : ∀ x q, h.next ≤ q → getEnt (setEnt h.ents p x) q = none := fun x q hq => getEnt_under hu.set hq

    refine W.loop ?_
    repeat (first
      | refine W.seq ?_
      | refine W.block ?_
      | ((first | refine W.regG ?_ | refine WoR.go ?_); generalize e : goR _ _ _ _ _ _ _ _ = r; simp (disch := omega) [hD, hC, hN, hT, hg, hG, hD2, hC2, hN2, htk, hda, hto, hL, hLc, c17] at e; replace e : some _ = _ := e; subst e; (try dsimp only [goW]))
      | refine W.cond_true rfl ?_
      | refine W.cond_false rfl ?_
      | refine W.skip ?_
      | refine W.exit ?_
      | (refine F0 _ ?_ _ fun n1 tyn1 hn1 hun1 => ⟨rfl, ?_⟩; (focus (((refine ⟨?_, ?_⟩; (focus ((repeat (first | exact hu.le (by (try dsimp only); omega) | exact hu.set.le (by (try dsimp only); omega) | refine Under.cons (by (try dsimp only); omega) ?_ | exact Under.nil)); done)); (focus ((repeat (first | exact hut.le (by (try dsimp only); omega) | refine UnderT.cons (by (try dsimp only); omega) ?_ | exact UnderT.nil | assumption | exact UnderT.le (by assumption) (by (try dsimp only); omega))); done)))); done)); (try dsimp only at hn1))
      | (refine prefix_F [] [47, 47] false ?_ _ ?_ _ fun n2 tyn2 hn2 hun2 => ⟨rfl, ?_⟩; (focus ((simp); done)); (focus (((refine ⟨?_, ?_⟩; (focus ((repeat (first | exact hu.le (by (try dsimp only); omega) | exact hu.set.le (by (try dsimp only); omega) | refine Under.cons (by (try dsimp only); omega) ?_ | exact Under.nil)); done)); (focus ((repeat (first | exact hut.le (by (try dsimp only); omega) | refine UnderT.cons (by (try dsimp only); omega) ?_ | exact UnderT.nil | assumption | exact UnderT.le (by assumption) (by (try dsimp only); omega))); done)))); done)); (try dsimp only at hn2))
      | (refine prefix_F [] [47, 42] false ?_ _ ?_ _ fun n3 tyn3 hn3 hun3 => ⟨rfl, ?_⟩; (focus ((simp); done)); (focus (((refine ⟨?_, ?_⟩; (focus ((repeat (first | exact hu.le (by (try dsimp only); omega) | exact hu.set.le (by (try dsimp only); omega) | refine Under.cons (by (try dsimp only); omega) ?_ | exact Under.nil)); done)); (focus ((repeat (first | exact hut.le (by (try dsimp only); omega) | refine UnderT.cons (by (try dsimp only); omega) ?_ | exact UnderT.nil | assumption | exact UnderT.le (by assumption) (by (try dsimp only); omega))); done)))); done)); (try dsimp only at hn3))
      | (refine W.ret ?_; (try simp only [outOf, thenW_ret, roundW]); refine hk1 _ _ _ _ _ _ _ _ _ ?_ ?_ ?_; (focus ((omega); done)); (focus ((repeat (first | exact hut.le (by (try dsimp only); omega) | refine UnderT.cons (by (try dsimp only); omega) ?_ | exact UnderT.nil | assumption | exact UnderT.le (by assumption) (by (try dsimp only); omega))); done)); rfl)
      | (refine Wc.mkG 17 c17 (by kernel_rfl) rfl ?_; generalize e : entryC _ _ _ = r; simp (disch := omega) [hD, hC, hN, hT, hg, hG, hD2, hC2, hN2, htk, hda, hto, hL, hLc, c17] at e; subst e)
      | ((first | (refine W.ret ?_; (try simp only [outOf, thenW_ret, roundW]); refine endW.of (.inl rfl) rfl ?_) | refine endW.of (.inr rfl) rfl ?_); generalize e : endsC _ _ _ = r; simp (disch := omega) [hD, hC, hN, hT, hg, hG, hD2, hC2, hN2, htk, hda, hto, hL, hLc, c17] at e; subst e; (try dsimp only [goW]); refine ⟨rfl, ?_⟩))
  | succ m ih =>
    intro r a hm hda hlen h v1 v2 v3 v4 v5 v6 v7 hg hf hp hk1 hk2
    have htk : s.take s.length = s := List.take_length
    have hle := fr_len Go.LexF.spacesB r
    have hdr := drop_fr Go.LexF.spacesB r
    obtain ⟨k, hk0⟩ : ∃ k, (fr Go.LexF.spacesB r).length = k := ⟨_, rfl⟩
    obtain ⟨q, hq⟩ : ∃ q, bk Go.LexF.spacesB r = q := ⟨_, rfl⟩
    have F0 := front_spaces r (by omega)
    rw [hk0] at F0 hle hdr
    rw [hq] at hle hdr
    rw [skipF_sp, hq] at hk1 hk2
    have hdk : s.drop (a + k) = q := by rw [← hdr, ← hda, List.drop_drop]
    have hto : ((a : Int) + (k : Int)).toNat = a + k := by omega
    have hpos : s.length - q.length = a + k := by omega
    have htq : q.take q.length = q := List.take_length
    obtain ⟨hu, hut⟩ := hf
    have hD : ∀ m, h.next ≤ m → dropEnts h.ents m = h.ents := fun m hm => dropEnts_under (hu.le hm)
    have hC : ∀ m, h.next ≤ m → dropCells h.ents m = h.ents := fun m hm => dropCells_under (hu.le hm)
    have hN : ∀ q, h.next ≤ q → getEnt h.ents q = none := fun q hq => getEnt_under hu hq
    have hT : ∀ q, h.next ≤ q → lookupN h.tys q = none := fun q hq => lookupN_under hut hq
    have hG : ∀ x, getEnt (setEnt h.ents p x) p = some x := fun x => sy_getEnt_setEnt hg
    have hD2 : ∀ x m, h.next ≤ m → dropEnts (setEnt h.ents p x) m = setEnt h.ents p x := fun x m hm => dropEnts_under (hu.set.le hm)
    have hC2 : ∀ x m, h.next ≤ m → dropCells (setEnt h.ents p x) m = setEnt h.ents p x := fun x m hm => dropCells_under (hu.set.le hm)
    have hN2 : ∀ x q, h.next ≤ q → getEnt (setEnt h.ents p x) q = none := fun x q hq => getEnt_under hu.set hq

    by_cases hS : (decide (2 ≤ q.length) && (q.take 2 == [47, 47])) = true
    · obtain ⟨t, hqq⟩ : ∃ t, q = 47 :: 47 :: t := by
        simp only [Bool.and_eq_true, decide_eq_true_eq, beq_iff_eq] at hS
        exact ⟨q.drop 2, by have := List.take_append_drop 2 q; rw [hS.2] at this; exact this.symm⟩
      have hsk : skipF q = skipF (dropLine q) := by
        rw [hqq]
        have e1 : dropLine (47 :: 47 :: t) = dropLine t := rfl
        rw [e1]
        conv => lhs; rw [skipF_eq]
        rw [if_neg (by decide), if_pos rfl]
        rfl
      rw [hsk] at hk1 hk2
      have hdl := drop_line q
      have hdle := dropLine_le q
      have I0 := indexb_F q (by omega)
      obtain ⟨n, hn⟩ : ∃ n, q.length - (dropLine q).length = n := ⟨_, rfl⟩
      have hdn : s.drop (a + (k + n)) = dropLine q := by
        rw [hn] at hdl
        rw [← hdl, ← hdk, List.drop_drop]; congr 1; omega
      have hcont : ∀ (h' : CHeap) (w1 w2 w3 w4 w5 w6 w7 : CVal), h'.ents = setEnt h.ents p (rdr s ((a : Int) + ((k : Int) + (n : Int))) L 0 to) → h.next ≤ h'.next → UnderT h'.tys h'.next → W tree.getF skipLoop ⟨[.ptr p d 0, w1, w2, w3, w4, w5, w6, w7], h', []⟩ Q := by
        intro h' w1 w2 w3 w4 w5 w6 w7 e1 e2 e3
        have e4 : ((a : Int) + ((k : Int) + (n : Int))) = ((a + (k + n) : Nat) : Int) := by omega
        rw [e4] at e1
        have hlt2 : (dropLine q).length < r.length := by
          have h1 := dropLine_le t
          have h2 : dropLine q = dropLine t := by rw [hqq]; rfl
          have h3 : q.length = t.length + 2 := by rw [hqq]; rfl
          rw [h2]; omega
        refine ih (dropLine q) (a + (k + n)) (by omega) hdn (by omega) h' _ _ _ _ _ _ _ (by rw [e1]; exact hG _) ⟨by rw [e1]; exact hu.set.le e2, e3⟩ (by omega) ?_ ?_
        · intro n' ty u1 u2 u3 u4 u5 u6 u7 g1 g2 g3
          rw [e1, sy_setEnt_setEnt]
          exact hk1 n' ty u1 u2 u3 u4 u5 u6 u7 (by omega) g2 g3
        · intro n' ty u1 u2 u3 u4 u5 u6 u7 g1 g2 g3
          rw [e1, sy_setEnt_setEnt]
          exact hk2 n' ty u1 u2 u3 u4 u5 u6 u7 (by omega) g2 g3
      rcases idx_line q 0 with ⟨h1, h2⟩ | ⟨h1, h2, h3⟩
      · rw [h2] at I0
        have hnq : q.length = n := by rw [← hn, h1]; simp
        refine W.loop ?_
        repeat (first
          | refine W.seq ?_
          | refine W.block ?_
          | ((first | refine W.regG ?_ | refine WoR.go ?_); generalize e : goR _ _ _ _ _ _ _ _ = r; simp (disch := omega) [hD, hC, hN, hT, hg, hG, hD2, hC2, hN2, htk, hda, hto, hL, hLc, hdk, htq, hnq, c17] at e; replace e : some _ = _ := e; subst e; (try dsimp only [goW]))
          | refine W.cond_true rfl ?_
          | refine W.cond_false rfl ?_
          | refine W.skip ?_
          | refine W.exit ?_
          | (refine F0 _ ?_ _ fun n1 tyn1 hn1 hun1 => ⟨rfl, ?_⟩; (focus (((refine ⟨?_, ?_⟩; (focus ((repeat (first | exact hu.le (by (try dsimp only); omega) | exact hu.set.le (by (try dsimp only); omega) | refine Under.cons (by (try dsimp only); omega) ?_ | exact Under.nil)); done)); (focus ((repeat (first | exact hut.le (by (try dsimp only); omega) | refine UnderT.cons (by (try dsimp only); omega) ?_ | exact UnderT.nil | assumption | exact UnderT.le (by assumption) (by (try dsimp only); omega))); done)))); done)); (try dsimp only at hn1))
          | (refine prefix_F q [47, 47] true ?_ _ ?_ _ fun n2 tyn2 hn2 hun2 => ⟨rfl, ?_⟩; (focus ((exact hS); done)); (focus (((refine ⟨?_, ?_⟩; (focus ((repeat (first | exact hu.le (by (try dsimp only); omega) | exact hu.set.le (by (try dsimp only); omega) | refine Under.cons (by (try dsimp only); omega) ?_ | exact Under.nil)); done)); (focus ((repeat (first | exact hut.le (by (try dsimp only); omega) | refine UnderT.cons (by (try dsimp only); omega) ?_ | exact UnderT.nil | assumption | exact UnderT.le (by assumption) (by (try dsimp only); omega))); done)))); done)); (try dsimp only at hn2))
          | (refine I0 _ ?_ _ fun n3 tyn3 hn3 hun3 => ⟨rfl, ?_⟩; (focus (((refine ⟨?_, ?_⟩; (focus ((repeat (first | exact hu.le (by (try dsimp only); omega) | exact hu.set.le (by (try dsimp only); omega) | refine Under.cons (by (try dsimp only); omega) ?_ | exact Under.nil)); done)); (focus ((repeat (first | exact hut.le (by (try dsimp only); omega) | refine UnderT.cons (by (try dsimp only); omega) ?_ | exact UnderT.nil | assumption | exact UnderT.le (by assumption) (by (try dsimp only); omega))); done)))); done)); (try dsimp only at hn3))
          | (refine Wc.mkG 17 c17 (by kernel_rfl) rfl ?_; generalize e : entryC _ _ _ = r; simp (disch := omega) [hD, hC, hN, hT, hg, hG, hD2, hC2, hN2, htk, hda, hto, hL, hLc, hdk, htq, hnq, c17] at e; subst e)
          | ((first | (refine W.ret ?_; (try simp only [outOf, thenW_ret, roundW]); refine endW.of (.inl rfl) rfl ?_) | refine endW.of (.inr rfl) rfl ?_); generalize e : endsC _ _ _ = r; simp (disch := omega) [hD, hC, hN, hT, hg, hG, hD2, hC2, hN2, htk, hda, hto, hL, hLc, hdk, htq, hnq, c17] at e; subst e; (try dsimp only [goW]); refine ⟨rfl, ?_⟩))
        show W tree.getF skipLoop (dropped true _ _) Q
        generalize e : dropped _ _ _ = r
        simp (disch := omega) [hD, hC, hN, hT, hg, hG, hD2, hC2, hN2, htk, hda, hto, hL, hLc, hdk, htq] at e
        subst e
        refine hcont _ _ _ _ _ _ _ _ ?_ ?_ ?_
        · (try dsimp only); simp [Int.add_assoc]
        · (try dsimp only); omega
        · exact UnderT.le (by assumption) (by (try dsimp only); omega)
      · rw [h1, show 0 + (q.length - (dropLine q).length) = n by omega] at I0
        refine W.loop ?_
        repeat (first
          | refine W.seq ?_
          | refine W.block ?_
          | ((first | refine W.regG ?_ | refine WoR.go ?_); generalize e : goR _ _ _ _ _ _ _ _ = r; simp (disch := omega) [hD, hC, hN, hT, hg, hG, hD2, hC2, hN2, htk, hda, hto, hL, hLc, hdk, htq, c17] at e; replace e : some _ = _ := e; subst e; (try dsimp only [goW]))
          | refine W.cond_true rfl ?_
          | refine W.cond_false rfl ?_
          | refine W.skip ?_
          | refine W.exit ?_
          | (refine F0 _ ?_ _ fun n1 tyn1 hn1 hun1 => ⟨rfl, ?_⟩; (focus (((refine ⟨?_, ?_⟩; (focus ((repeat (first | exact hu.le (by (try dsimp only); omega) | exact hu.set.le (by (try dsimp only); omega) | refine Under.cons (by (try dsimp only); omega) ?_ | exact Under.nil)); done)); (focus ((repeat (first | exact hut.le (by (try dsimp only); omega) | refine UnderT.cons (by (try dsimp only); omega) ?_ | exact UnderT.nil | assumption | exact UnderT.le (by assumption) (by (try dsimp only); omega))); done)))); done)); (try dsimp only at hn1))
          | (refine prefix_F q [47, 47] true ?_ _ ?_ _ fun n2 tyn2 hn2 hun2 => ⟨rfl, ?_⟩; (focus ((exact hS); done)); (focus (((refine ⟨?_, ?_⟩; (focus ((repeat (first | exact hu.le (by (try dsimp only); omega) | exact hu.set.le (by (try dsimp only); omega) | refine Under.cons (by (try dsimp only); omega) ?_ | exact Under.nil)); done)); (focus ((repeat (first | exact hut.le (by (try dsimp only); omega) | refine UnderT.cons (by (try dsimp only); omega) ?_ | exact UnderT.nil | assumption | exact UnderT.le (by assumption) (by (try dsimp only); omega))); done)))); done)); (try dsimp only at hn2))
          | (refine I0 _ ?_ _ fun n3 tyn3 hn3 hun3 => ⟨rfl, ?_⟩; (focus (((refine ⟨?_, ?_⟩; (focus ((repeat (first | exact hu.le (by (try dsimp only); omega) | exact hu.set.le (by (try dsimp only); omega) | refine Under.cons (by (try dsimp only); omega) ?_ | exact Under.nil)); done)); (focus ((repeat (first | exact hut.le (by (try dsimp only); omega) | refine UnderT.cons (by (try dsimp only); omega) ?_ | exact UnderT.nil | assumption | exact UnderT.le (by assumption) (by (try dsimp only); omega))); done)))); done)); (try dsimp only at hn3))
          | (refine Wc.mkG 17 c17 (by kernel_rfl) rfl ?_; generalize e : entryC _ _ _ = r; simp (disch := omega) [hD, hC, hN, hT, hg, hG, hD2, hC2, hN2, htk, hda, hto, hL, hLc, hdk, htq, c17] at e; subst e)
          | ((first | (refine W.ret ?_; (try simp only [outOf, thenW_ret, roundW]); refine endW.of (.inl rfl) rfl ?_) | refine endW.of (.inr rfl) rfl ?_); generalize e : endsC _ _ _ = r; simp (disch := omega) [hD, hC, hN, hT, hg, hG, hD2, hC2, hN2, htk, hda, hto, hL, hLc, hdk, htq, c17] at e; subst e; (try dsimp only [goW]); refine ⟨rfl, ?_⟩))
        show W tree.getF skipLoop (dropped true _ _) Q
        generalize e : dropped _ _ _ = r
        simp (disch := omega) [hD, hC, hN, hT, hg, hG, hD2, hC2, hN2, htk, hda, hto, hL, hLc, hdk, htq] at e
        subst e
        refine hcont _ _ _ _ _ _ _ _ ?_ ?_ ?_
        · (try dsimp only); simp [Int.add_assoc]
        · (try dsimp only); omega
        · exact UnderT.le (by assumption) (by (try dsimp only); omega)
    · have hS1 : (decide (2 ≤ q.length) && (q.take 2 == [47, 47])) = false := by simpa using hS
      by_cases hC : (decide (2 ≤ q.length) && (q.take 2 == [47, 42])) = true
      · obtain ⟨t, hqq⟩ : ∃ t, q = 47 :: 42 :: t := by
          simp only [Bool.and_eq_true, decide_eq_true_eq, beq_iff_eq] at hC
          exact ⟨q.drop 2, by have := List.take_append_drop 2 q; rw [hC.2] at this; exact this.symm⟩
        have hq2 : q.drop 2 = t := by rw [hqq]; rfl
        have hlq : q.length = t.length + 2 := by rw [hqq]; rfl
        have hsk : skipF q = match dropCmt t with | none => (q, false) | some u => skipF u := by
          rw [hqq, skipF_eq, if_neg (by decide), if_pos rfl]; rfl
        rw [hsk] at hk1 hk2
        have I0 := index_F t [42, 47] (by omega)
        have hI := idx_cmt t 0
        cases hd : dropCmt t with
        | none =>
          rw [hd] at hI hk2
          dsimp only at hI hk2
          rw [hI] at I0
          rw [hpos] at hk2
          push_cast at hk2
          refine W.loop ?_
          repeat (first
            | refine W.seq ?_
            | refine W.block ?_
            | ((first | refine W.regG ?_ | refine WoR.go ?_); generalize e : goR _ _ _ _ _ _ _ _ = r; simp (disch := omega) [hD, hC, hN, hT, hg, hG, hD2, hC2, hN2, htk, hda, hto, hL, hLc, hdk, htq, hq2, c17] at e; replace e : some _ = _ := e; subst e; (try dsimp only [goW]))
            | refine W.cond_true rfl ?_
            | refine W.cond_false rfl ?_
            | refine W.skip ?_
            | refine W.exit ?_
            | (refine W.loop ?_; try (generalize e : dropped _ _ _ = r; simp (disch := omega) [hD, hC, hN, hT, hg, hG, hD2, hC2, hN2, htk, hda, hto, hL, hLc, hdk, htq, hq2, c17] at e; subst e; try dsimp only))
            | (refine F0 _ ?_ _ fun n1 tyn1 hn1 hun1 => ⟨rfl, ?_⟩; (focus (((refine ⟨?_, ?_⟩; (focus ((repeat (first | exact hu.le (by (try dsimp only); omega) | exact hu.set.le (by (try dsimp only); omega) | refine Under.cons (by (try dsimp only); omega) ?_ | exact Under.nil)); done)); (focus ((repeat (first | exact hut.le (by (try dsimp only); omega) | refine UnderT.cons (by (try dsimp only); omega) ?_ | exact UnderT.nil | assumption | exact UnderT.le (by assumption) (by (try dsimp only); omega))); done)))); done)); (try dsimp only at hn1))
            | (refine prefix_F q [47, 47] false ?_ _ ?_ _ fun n2 tyn2 hn2 hun2 => ⟨rfl, ?_⟩; (focus ((exact hS1); done)); (focus (((refine ⟨?_, ?_⟩; (focus ((repeat (first | exact hu.le (by (try dsimp only); omega) | exact hu.set.le (by (try dsimp only); omega) | refine Under.cons (by (try dsimp only); omega) ?_ | exact Under.nil)); done)); (focus ((repeat (first | exact hut.le (by (try dsimp only); omega) | refine UnderT.cons (by (try dsimp only); omega) ?_ | exact UnderT.nil | assumption | exact UnderT.le (by assumption) (by (try dsimp only); omega))); done)))); done)); (try dsimp only at hn2))
            | (refine prefix_F q [47, 42] true ?_ _ ?_ _ fun n3 tyn3 hn3 hun3 => ⟨rfl, ?_⟩; (focus ((exact hC); done)); (focus (((refine ⟨?_, ?_⟩; (focus ((repeat (first | exact hu.le (by (try dsimp only); omega) | exact hu.set.le (by (try dsimp only); omega) | refine Under.cons (by (try dsimp only); omega) ?_ | exact Under.nil)); done)); (focus ((repeat (first | exact hut.le (by (try dsimp only); omega) | refine UnderT.cons (by (try dsimp only); omega) ?_ | exact UnderT.nil | assumption | exact UnderT.le (by assumption) (by (try dsimp only); omega))); done)))); done)); (try dsimp only at hn3))
            | (refine I0 _ ?_ _ fun n4 tyn4 hn4 hun4 => ⟨rfl, ?_⟩; (focus (((refine ⟨?_, ?_⟩; (focus ((repeat (first | exact hu.le (by (try dsimp only); omega) | exact hu.set.le (by (try dsimp only); omega) | refine Under.cons (by (try dsimp only); omega) ?_ | exact Under.nil)); done)); (focus ((repeat (first | exact hut.le (by (try dsimp only); omega) | refine UnderT.cons (by (try dsimp only); omega) ?_ | exact UnderT.nil | assumption | exact UnderT.le (by assumption) (by (try dsimp only); omega))); done)))); done)); (try dsimp only at hn4))
            | (refine hk2 _ _ _ _ _ _ _ _ _ ?_ ?_ ?_; (focus ((omega); done)); (focus ((repeat (first | exact hut.le (by (try dsimp only); omega) | refine UnderT.cons (by (try dsimp only); omega) ?_ | exact UnderT.nil | assumption | exact UnderT.le (by assumption) (by (try dsimp only); omega))); done)); rfl)
            | (refine Wc.mkG 17 c17 (by kernel_rfl) rfl ?_; generalize e : entryC _ _ _ = r; simp (disch := omega) [hD, hC, hN, hT, hg, hG, hD2, hC2, hN2, htk, hda, hto, hL, hLc, hdk, htq, hq2, c17] at e; subst e)
            | ((first | (refine W.ret ?_; (try simp only [outOf, thenW_ret, roundW]); refine endW.of (.inl rfl) rfl ?_) | refine endW.of (.inr rfl) rfl ?_); generalize e : endsC _ _ _ = r; simp (disch := omega) [hD, hC, hN, hT, hg, hG, hD2, hC2, hN2, htk, hda, hto, hL, hLc, hdk, htq, hq2, c17] at e; subst e; (try dsimp only [goW]); refine ⟨rfl, ?_⟩))
        | some u =>
          rw [hd] at hI hk1 hk2
          dsimp only at hI hk1 hk2
          have hul := dropCmt_lt hd
          obtain ⟨n, hn⟩ : ∃ n, 0 + (t.length - u.length - 2) = n := ⟨_, rfl⟩
          rw [hI.1, hn] at I0
          have hnn : ¬ (n : Int) < 0 := by omega
          have hdn : s.drop (a + (k + (n + 4))) = u := by
            have h1 := hI.2
            have h2 : s.drop (a + (k + 2)) = t := by rw [← hq2, ← hdk, List.drop_drop]; congr 1
            rw [← h1, ← h2, List.drop_drop]; congr 1
            rw [List.length_drop]; omega
          have hcont : ∀ (h' : CHeap) (w1 w2 w3 w4 w5 w6 w7 : CVal), h'.ents = setEnt h.ents p (rdr s ((a : Int) + ((k : Int) + ((n : Int) + 4))) L 0 to) → h.next ≤ h'.next → UnderT h'.tys h'.next → W tree.getF skipLoop ⟨[.ptr p d 0, w1, w2, w3, w4, w5, w6, w7], h', []⟩ Q := by
            intro h' w1 w2 w3 w4 w5 w6 w7 e1 e2 e3
            have e4 : ((a : Int) + ((k : Int) + ((n : Int) + 4))) = ((a + (k + (n + 4)) : Nat) : Int) := by omega
            rw [e4] at e1
            refine ih u (a + (k + (n + 4))) (by omega) hdn (by omega) h' _ _ _ _ _ _ _ (by rw [e1]; exact hG _) ⟨by rw [e1]; exact hu.set.le e2, e3⟩ (by omega) ?_ ?_
            · intro n' ty u1 u2 u3 u4 u5 u6 u7 g1 g2 g3
              rw [e1, sy_setEnt_setEnt]
              exact hk1 n' ty u1 u2 u3 u4 u5 u6 u7 (by omega) g2 g3
            · intro n' ty u1 u2 u3 u4 u5 u6 u7 g1 g2 g3
              rw [e1, sy_setEnt_setEnt]
              exact hk2 n' ty u1 u2 u3 u4 u5 u6 u7 (by omega) g2 g3
          refine W.loop ?_
          repeat (first
            | refine W.seq ?_
            | refine W.block ?_
            | ((first | refine W.regG ?_ | refine WoR.go ?_); generalize e : goR _ _ _ _ _ _ _ _ = r; simp (disch := omega) [hD, hC, hN, hT, hg, hG, hD2, hC2, hN2, htk, hda, hto, hL, hLc, hdk, htq, hq2, hnn, c17] at e; replace e : some _ = _ := e; subst e; (try dsimp only [goW]))
            | refine W.cond_true rfl ?_
            | refine W.cond_false rfl ?_
            | refine W.skip ?_
            | refine W.exit ?_
            | (refine F0 _ ?_ _ fun n1 tyn1 hn1 hun1 => ⟨rfl, ?_⟩; (focus (((refine ⟨?_, ?_⟩; (focus ((repeat (first | exact hu.le (by (try dsimp only); omega) | exact hu.set.le (by (try dsimp only); omega) | refine Under.cons (by (try dsimp only); omega) ?_ | exact Under.nil)); done)); (focus ((repeat (first | exact hut.le (by (try dsimp only); omega) | refine UnderT.cons (by (try dsimp only); omega) ?_ | exact UnderT.nil | assumption | exact UnderT.le (by assumption) (by (try dsimp only); omega))); done)))); done)); (try dsimp only at hn1))
            | (refine prefix_F q [47, 47] false ?_ _ ?_ _ fun n2 tyn2 hn2 hun2 => ⟨rfl, ?_⟩; (focus ((exact hS1); done)); (focus (((refine ⟨?_, ?_⟩; (focus ((repeat (first | exact hu.le (by (try dsimp only); omega) | exact hu.set.le (by (try dsimp only); omega) | refine Under.cons (by (try dsimp only); omega) ?_ | exact Under.nil)); done)); (focus ((repeat (first | exact hut.le (by (try dsimp only); omega) | refine UnderT.cons (by (try dsimp only); omega) ?_ | exact UnderT.nil | assumption | exact UnderT.le (by assumption) (by (try dsimp only); omega))); done)))); done)); (try dsimp only at hn2))
            | (refine prefix_F q [47, 42] true ?_ _ ?_ _ fun n3 tyn3 hn3 hun3 => ⟨rfl, ?_⟩; (focus ((exact hC); done)); (focus (((refine ⟨?_, ?_⟩; (focus ((repeat (first | exact hu.le (by (try dsimp only); omega) | exact hu.set.le (by (try dsimp only); omega) | refine Under.cons (by (try dsimp only); omega) ?_ | exact Under.nil)); done)); (focus ((repeat (first | exact hut.le (by (try dsimp only); omega) | refine UnderT.cons (by (try dsimp only); omega) ?_ | exact UnderT.nil | assumption | exact UnderT.le (by assumption) (by (try dsimp only); omega))); done)))); done)); (try dsimp only at hn3))
            | (refine I0 _ ?_ _ fun n4 tyn4 hn4 hun4 => ⟨rfl, ?_⟩; (focus (((refine ⟨?_, ?_⟩; (focus ((repeat (first | exact hu.le (by (try dsimp only); omega) | exact hu.set.le (by (try dsimp only); omega) | refine Under.cons (by (try dsimp only); omega) ?_ | exact Under.nil)); done)); (focus ((repeat (first | exact hut.le (by (try dsimp only); omega) | refine UnderT.cons (by (try dsimp only); omega) ?_ | exact UnderT.nil | assumption | exact UnderT.le (by assumption) (by (try dsimp only); omega))); done)))); done)); (try dsimp only at hn4))
            | (refine Wc.mkG 17 c17 (by kernel_rfl) rfl ?_; generalize e : entryC _ _ _ = r; simp (disch := omega) [hD, hC, hN, hT, hg, hG, hD2, hC2, hN2, htk, hda, hto, hL, hLc, hdk, htq, hq2, hnn, c17] at e; subst e)
            | ((first | (refine W.ret ?_; (try simp only [outOf, thenW_ret, roundW]); refine endW.of (.inl rfl) rfl ?_) | refine endW.of (.inr rfl) rfl ?_); generalize e : endsC _ _ _ = r; simp (disch := omega) [hD, hC, hN, hT, hg, hG, hD2, hC2, hN2, htk, hda, hto, hL, hLc, hdk, htq, hq2, hnn, c17] at e; subst e; (try dsimp only [goW]); refine ⟨rfl, ?_⟩))
          show W tree.getF skipLoop (dropped true _ _) Q
          generalize e : dropped _ _ _ = r
          simp (disch := omega) [hD, hC, hN, hT, hg, hG, hD2, hC2, hN2, htk, hda, hto, hL, hLc, hdk, htq] at e
          subst e
          refine hcont _ _ _ _ _ _ _ _ ?_ ?_ ?_
          · (try dsimp only); simp [Int.add_assoc]
          · (try dsimp only); omega
          · exact UnderT.le (by assumption) (by (try dsimp only); omega)
      · have hC1 : (decide (2 ≤ q.length) && (q.take 2 == [47, 42])) = false := by simpa using hC
        have hsk : skipF q = (q, true) := by
          cases hqc : q with
          | nil => exact skipF_nil
          | cons c t =>
            rw [skipF_eq, if_neg (by have := bk_head (hq.trans hqc); rw [this]; decide)]
            split
            · rename_i hc
              cases t with
              | nil => rfl
              | cons d t' =>
                dsimp only
                rw [hqc, hc] at hS hC
                rw [if_neg (fun e => hS (by rw [e]; simp)), if_neg (fun e => hC (by rw [e]; simp))]
            · rfl
        rw [hsk] at hk1
        dsimp only at hk1
        rw [hpos] at hk1
        push_cast at hk1
        refine W.loop ?_
        repeat (first
          | refine W.seq ?_
          | refine W.block ?_
          | ((first | refine W.regG ?_ | refine WoR.go ?_); generalize e : goR _ _ _ _ _ _ _ _ = r; simp (disch := omega) [hD, hC, hN, hT, hg, hG, hD2, hC2, hN2, htk, hda, hto, hL, hLc, hdk, htq, c17] at e; replace e : some _ = _ := e; subst e; (try dsimp only [goW]))
          | refine W.cond_true rfl ?_
          | refine W.cond_false rfl ?_
          | refine W.skip ?_
          | refine W.exit ?_
          | (refine F0 _ ?_ _ fun n1 tyn1 hn1 hun1 => ⟨rfl, ?_⟩; (focus (((refine ⟨?_, ?_⟩; (focus ((repeat (first | exact hu.le (by (try dsimp only); omega) | exact hu.set.le (by (try dsimp only); omega) | refine Under.cons (by (try dsimp only); omega) ?_ | exact Under.nil)); done)); (focus ((repeat (first | exact hut.le (by (try dsimp only); omega) | refine UnderT.cons (by (try dsimp only); omega) ?_ | exact UnderT.nil | assumption | exact UnderT.le (by assumption) (by (try dsimp only); omega))); done)))); done)); (try dsimp only at hn1))
          | (refine prefix_F q [47, 47] false ?_ _ ?_ _ fun n2 tyn2 hn2 hun2 => ⟨rfl, ?_⟩; (focus ((exact hS1); done)); (focus (((refine ⟨?_, ?_⟩; (focus ((repeat (first | exact hu.le (by (try dsimp only); omega) | exact hu.set.le (by (try dsimp only); omega) | refine Under.cons (by (try dsimp only); omega) ?_ | exact Under.nil)); done)); (focus ((repeat (first | exact hut.le (by (try dsimp only); omega) | refine UnderT.cons (by (try dsimp only); omega) ?_ | exact UnderT.nil | assumption | exact UnderT.le (by assumption) (by (try dsimp only); omega))); done)))); done)); (try dsimp only at hn2))
          | (refine prefix_F q [47, 42] false ?_ _ ?_ _ fun n3 tyn3 hn3 hun3 => ⟨rfl, ?_⟩; (focus ((exact hC1); done)); (focus (((refine ⟨?_, ?_⟩; (focus ((repeat (first | exact hu.le (by (try dsimp only); omega) | exact hu.set.le (by (try dsimp only); omega) | refine Under.cons (by (try dsimp only); omega) ?_ | exact Under.nil)); done)); (focus ((repeat (first | exact hut.le (by (try dsimp only); omega) | refine UnderT.cons (by (try dsimp only); omega) ?_ | exact UnderT.nil | assumption | exact UnderT.le (by assumption) (by (try dsimp only); omega))); done)))); done)); (try dsimp only at hn3))
          | (refine W.ret ?_; (try simp only [outOf, thenW_ret, roundW]); refine hk1 _ _ _ _ _ _ _ _ _ ?_ ?_ ?_; (focus ((omega); done)); (focus ((repeat (first | exact hut.le (by (try dsimp only); omega) | refine UnderT.cons (by (try dsimp only); omega) ?_ | exact UnderT.nil | assumption | exact UnderT.le (by assumption) (by (try dsimp only); omega))); done)); rfl)
          | (refine Wc.mkG 17 c17 (by kernel_rfl) rfl ?_; generalize e : entryC _ _ _ = r; simp (disch := omega) [hD, hC, hN, hT, hg, hG, hD2, hC2, hN2, htk, hda, hto, hL, hLc, hdk, htq, c17] at e; subst e)
          | ((first | (refine W.ret ?_; (try simp only [outOf, thenW_ret, roundW]); refine endW.of (.inl rfl) rfl ?_) | refine endW.of (.inr rfl) rfl ?_); generalize e : endsC _ _ _ = r; simp (disch := omega) [hD, hC, hN, hT, hg, hG, hD2, hC2, hN2, htk, hda, hto, hL, hLc, hdk, htq, c17] at e; subst e; (try dsimp only [goW]); refine ⟨rfl, ?_⟩))
end Go.Proofs.YthblmflngjofjaaDoor.IrP
