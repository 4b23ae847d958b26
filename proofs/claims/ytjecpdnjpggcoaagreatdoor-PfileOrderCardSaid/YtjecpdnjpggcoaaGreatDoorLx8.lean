/- What the functions of the law 'PfileOrder' do: part 8 of 8. -/
import Derived.Test.YtjecpdnjpggcoaaGreatDoorLx7
namespace Go.Proofs.YtjecpdnjpggcoaaGreatDoor.IrO
open Go Go.CI
open Go.LexF hiding spacesB lettersB
set_option maxRecDepth 100000
set_option maxHeartbeats 4000000
set_option linter.unusedVariables false
set_option linter.unusedSimpArgs false
attribute [local irreducible] W Wo Wc WoR
attribute [local simp] goR regOut checkOne swapOne sameAt nthOp CVal.beq beqs CVal.block storesTo entryC evalOps evalOper evalE evalP evalL evalOpnd nth setNth COp.cls COp.isStore CVal.isUndef CVal.whole CVal.cells CHeap.put CHeap.get CHeap.set wantedC getEnt setEnt partOf writeBack evalBin evalInt evalStr blockMost initVar descOf List.take List.drop CVal.lenOf CVal.isStr CVal.bare CVal.strip CVal.flat endsC resultsC oneOrTuple finishC cut fillCells setCells szOf szOf_desc elems bytesOf evalAppend fillElems mkElem setElem List.replicate sy_nbeq sy_neqF sy_leT sy_leF sy_setEnt_setEnt dropped sy_wrap64 dropEnts dropCells sizeMost sy_ibeqF sy_ieqF sy_ileT sy_ileF sy_iltT sy_iltF sy_ltT sy_ltF evalSlc optBound eqVal extL extE keyIs findKV nthKV setKV CHeap.ty lookupN CHeap.note CHeap.tyOk dropAll freezeVal freezeAll freezeFlat cellsEq cellEq pCopyCheck pBString pMakeNoZero pIndexByte pClone pIndex hasPair rowOf byteVals idxFrom hasFront idxSub
theorem wTJ1 {P : Prop} (h : P := by refine Wc.mkG 7 c7 (by kernel_rfl) rfl ?_; generalize e : entryC _ _ _ = r; simp (disch := omega) [hX, sy_ibneT, sy_ibneF, sy_ibeqT, c7] at e; subst e; repeat (first | refine sq_ ?_ | refine bl_ ?_ | ((first | refine rg_ ?_ | refine go_ ?_); generalize e : goR _ _ _ _ _ _ _ _ = r; simp (disch := omega) [hX, sy_ibneT, sy_ibneF, sy_ibeqT, c7] at e; replace e : some _ = _ := e; subst e; (try dsimp only [goW])) | refine ct_ rfl ?_ | refine cf_ rfl ?_ | refine sk_ ?_ | refine ex_ ?_ | (refine W.loop ?_; try (generalize e : dropped _ _ _ = r; simp (disch := omega) [hX, sy_ibneT, sy_ibneF, sy_ibeqT, c7] at e; subst e; try dsimp only)) | ((first | (refine W.ret ?_; (try simp only [outOf, thenW_ret, roundW]); refine endW.of (.inl rfl) rfl ?_) | refine endW.of (.inr rfl) rfl ?_); generalize e : endsC _ _ _ = r; simp (disch := omega) [hX, sy_ibneT, sy_ibneF, sy_ibeqT, c7] at e; subst e; (try dsimp only [goW]); (refine hk _ _ ?_ ?_; omega; exact ut_)))) : P := h

theorem st_loop (cs : List UInt8) (hl : cs.length < 1000) (t1 t2 : Tag) (Q : CExit → CSt → Prop) (v2 v6 : CVal) : ∀ (m i : Nat), cs.length - i ≤ m → i ≤ cs.length → ∀ (h : CHeap) (v4 v5 : CVal), Fit h →
    (∀ n' ty w3 w4 w5, h.next ≤ n' → UnderT ty n' → Q (.exit 0) ⟨[.imm t1 1 (cs.map eI), .imm t2 1 (cs.map eI), v2, w3, w4, w5, v6], ⟨h.ents, n', ty⟩, []⟩) →
    W tree.getF stLoop ⟨[.imm t1 1 (cs.map eI), .imm t2 1 (cs.map eI), v2, .int .i64 (i : Int), v4, v5, v6], h, []⟩ Q := by
  intro m
  induction m with
  | zero =>
    intro i hm hi h v4 v5 hf hk
    have hno : ¬ (i : Int) < (cs.length : Int) := by omega
    obtain ⟨hu, hut, hX⟩ := fx4 hf
    refine W.loop ?_
    repeat (first | refine sq_ ?_ | refine bl_ ?_ | ((first | refine rg_ ?_ | refine go_ ?_); generalize e : goR _ _ _ _ _ _ _ _ = r; simp (disch := omega) [hX, List.length_map, sy_ibneT, sy_ibneF, sy_ibeqT] at e; replace e : some _ = _ := e; subst e; (try dsimp only [goW])) | refine ct_ rfl ?_ | refine cf_ rfl ?_ | refine sk_ ?_ | refine ex_ ?_)
    all_goals ((try simp only [outOf, thenW_ret, roundW]); refine hk _ _ _ _ _ ?_ ?_; (focus (omega; done)); exact ut_)
  | succ m ih =>
    intro i hm hi h v4 v5 hf hk
    by_cases hlt : i < cs.length
    · have hn := nth_mapG eI cs i _ (List.getElem?_eq_getElem hlt)
      try dsimp only at hn
      have hlt1 : (i : Int) < (cs.length : Int) := by omega
      have hih : ∀ (h' : CHeap) (v4 v5 : CVal), h'.ents = h.ents → h.next ≤ h'.next → UnderT h'.tys h'.next → W tree.getF stLoop ⟨[.imm t1 1 (cs.map eI), .imm t2 1 (cs.map eI), v2, .int .i64 ((i : Int) + 1), v4, v5, v6], h', []⟩ Q := by
        intro h' v4 v5 e1 e2 e3
        have := ih (i + 1) (by omega) (by omega) h' v4 v5 ⟨by rw [e1]; exact hf.1.le e2, e3⟩ (fun n' ty w3 w4 w5 g1 g2 => by rw [e1]; exact hk n' ty w3 w4 w5 (by omega) g2)
        have e4 : ((i + 1 : Nat) : Int) = (i : Int) + 1 := by omega
        rw [e4] at this
        exact this
      obtain ⟨hu, hut, hX⟩ := fx4 hf
      refine W.loop ?_
      repeat (first | refine sq_ ?_ | refine bl_ ?_ | ((first | refine rg_ ?_ | refine go_ ?_); generalize e : goR _ _ _ _ _ _ _ _ = r; simp (disch := omega) [hX, List.length_map, sy_ibneT, sy_ibneF, sy_ibeqT, hn] at e; replace e : some _ = _ := e; subst e; (try dsimp only [goW])) | refine ct_ rfl ?_ | refine cf_ rfl ?_ | refine sk_ ?_ | refine ex_ ?_)
      show W tree.getF stLoop (dropped true _ _) Q
      generalize e : dropped _ _ _ = r0
      simp (disch := omega) [hX] at e
      subst e
      try dsimp only
      refine hih _ _ _ rfl ?_ ?_
      · (try dsimp only); omega
      · exact ut_
    · have hno : ¬ (i : Int) < (cs.length : Int) := by omega
      obtain ⟨hu, hut, hX⟩ := fx4 hf
      refine W.loop ?_
      repeat (first | refine sq_ ?_ | refine bl_ ?_ | ((first | refine rg_ ?_ | refine go_ ?_); generalize e : goR _ _ _ _ _ _ _ _ = r; simp (disch := omega) [hX, List.length_map, sy_ibneT, sy_ibneF, sy_ibeqT] at e; replace e : some _ = _ := e; subst e; (try dsimp only [goW])) | refine ct_ rfl ?_ | refine cf_ rfl ?_ | refine sk_ ?_ | refine ex_ ?_)
      all_goals ((try simp only [outOf, thenW_ret, roundW]); refine hk _ _ _ _ _ ?_ ?_; (focus (omega; done)); exact ut_)

theorem same_ll (cs : List UInt8) (hl : cs.length < 1000) (t1 t2 : Tag) : Pu tree.getF 7 [.imm t1 1 (cs.map eI), .imm t2 1 (cs.map eI)] (.bool true) := by
  intro h hf K hk
  obtain ⟨hu, hut, hX⟩ := fx4 hf

  refine Wc.mkG 7 c7 (by kernel_rfl) rfl ?_
  generalize e : entryC _ _ _ = r
  simp (disch := omega) [hX, List.length_map, sy_ibneT, sy_ibneF, sy_ibeqT, c7] at e
  subst e
  repeat (first | refine sq_ ?_ | refine bl_ ?_ | ((first | refine rg_ ?_ | refine go_ ?_); generalize e : goR _ _ _ _ _ _ _ _ = r; simp (disch := omega) [hX, List.length_map, sy_ibneT, sy_ibneF, sy_ibeqT] at e; replace e : some _ = _ := e; subst e; (try dsimp only [goW])) | refine ct_ rfl ?_ | refine cf_ rfl ?_ | refine sk_ ?_ | refine ex_ ?_)
  refine st_loop cs hl t1 t2 _ _ _ cs.length 0 (by omega) (by omega) _ _ _ ?_ ?_
  · exact fit_
  · intro n' ty w3 w4 w5 g1 g2
    try dsimp only at g1
    try simp only [outOf, thenW_ret, roundW]
    repeat (first | refine sq_ ?_ | refine bl_ ?_ | ((first | refine rg_ ?_ | refine go_ ?_); generalize e : goR _ _ _ _ _ _ _ _ = r; simp (disch := omega) [hX, List.length_map, sy_ibneT, sy_ibneF, sy_ibeqT, c7] at e; replace e : some _ = _ := e; subst e; (try dsimp only [goW])) | refine ct_ rfl ?_ | refine cf_ rfl ?_ | refine sk_ ?_ | refine ex_ ?_ | ((first | (refine W.ret ?_; (try simp only [outOf, thenW_ret, roundW]); refine endW.of (.inl rfl) rfl ?_) | refine endW.of (.inr rfl) rfl ?_); generalize e : endsC _ _ _ = r; simp (disch := omega) [hX, List.length_map, sy_ibneT, sy_ibneF, sy_ibeqT, c7] at e; subst e; (try dsimp only [goW]); (refine hk _ _ ?_ ?_; omega; exact ut_)))

theorem same_nn  : Pu tree.getF 7 [.nils, .nils] (.bool true) := by
  intro h hf K hk
  obtain ⟨hu, hut, hX⟩ := fx4 hf

  exact wTJ1

theorem same_en  : Pu tree.getF 7 [.imm .none 1 [], .nils] (.bool true) := by
  intro h hf K hk
  obtain ⟨hu, hut, hX⟩ := fx4 hf

  exact wTJ1


theorem same_ne (t : Tag) : Pu tree.getF 7 [.nils, .imm t 1 []] (.bool true) := by
  intro h hf K hk
  obtain ⟨hu, hut, hX⟩ := fx4 hf

  exact wTJ1
/-- The law's own list of names. -/
def Nl (L : CVal) (cs : List UInt8) : Prop := L = .nils ∧ cs = [] ∨ ∃ t, L = .imm t 1 (cs.map eI)
theorem same_P (cs : List UInt8) (hl : cs.length < 1000) (A B : CVal) (hA : Rl 1 (cs.map eI) A) (hB : Nl B cs) : Pu tree.getF 7 [A, B] (.bool true) := by
  rcases hA with ⟨rfl, hA⟩ | ⟨rfl, _⟩
  · obtain rfl : cs = [] := by cases cs with | nil => rfl | cons a r => simp at hA
    rcases hB with ⟨rfl, _⟩ | ⟨t, rfl⟩
    · exact same_nn
    · exact same_ne t
  · rcases hB with ⟨rfl, rfl⟩ | ⟨t, rfl⟩
    · exact same_en
    · exact same_ll cs hl .none t

abbrev mgLoop : CCode := (.loop true (.seq (.seq (.region [.v 17, .v 11, .g (.len false (.loc 0)), .g (.bin .lss (.loc 2) (.loc 0))] [(18, 3)] [] []) (.cond (.var 18) .skip (.exit 3))) (.seq (.block 4 (.seq (.region [.g (.fieldAddr 2 (.var 15)), .l 0, .v 17, .g (.idxAddr 7 (.loc 1) (.loc 0)), .f 0 0, .l 0, .v 11, .v 17, .g (.idxAddr 1 (.loc 1) (.loc 0)), .l 0, .g (.bin .neq (.loc 4) (.loc 0)), .m (.loc 0), ⟨.fieldAddr 2 (.var 15), (some (0, false))⟩, ⟨.load none (.loc 0), (some (1, false))⟩, ⟨.mv (.var 17), (some (2, false))⟩, ⟨.idxAddr 7 (.loc 1) (.loc 0), (some (3, false))⟩, ⟨.fieldAddr 1 (.loc 0), (some (4, false))⟩, ⟨.load none (.loc 0), (some (5, false))⟩, ⟨.len false (.loc 0), (some (6, false))⟩, ⟨.bin .neq (.loc 0) (.const (.int .i64 1)), (some (7, false))⟩, .g (.pick (.loc 8) (.const (.bool true)) (.loc 0))] [(19, 20)] [] []) (.cond (.var 19) (.seq (.region [.m (.const (.bool false))] [(23, 0)] [] []) .ret) .skip))) (.region [.v 17, .g (.bin .add (.loc 0) (.const (.int .i64 1))), .m (.loc 0)] [(17, 2)] [] []))))
theorem mg_loop (q dq : Nat) (cs : List UInt8) (hl : cs.length < 1000) (t : Tag) (RI RE : CVal) (v0 v1 v2 v3 v4 v5 v6 v7 v8 v9 v10 v12 v13 v14 v16 v20 v21 v22 v23 : CVal) (Q : CExit → CSt → Prop) : ∀ (m i : Nat), cs.length - i ≤ m → i ≤ cs.length → ∀ (h : CHeap) (v18 v19 : CVal), Fit h → q < h.next → getEnt h.ents q = some (.cells [.str [], RI, .imm .none 7 (cs.map eM), RE]) →
    (∀ n' ty w1 w2 w3, h.next ≤ n' → UnderT ty n' → Q (.exit 3) ⟨[v0, v1, v2, v3, v4, v5, v6, v7, v8, v9, v10, .imm t 1 (cs.map eI), v12, v13, v14, .ptr q dq 0, v16, w1, w2, w3, v20, v21, v22, v23], ⟨h.ents, n', ty⟩, []⟩) →
    W tree.getF mgLoop ⟨[v0, v1, v2, v3, v4, v5, v6, v7, v8, v9, v10, .imm t 1 (cs.map eI), v12, v13, v14, .ptr q dq 0, v16, .int .i64 (i : Int), v18, v19, v20, v21, v22, v23], h, []⟩ Q := by
  intro m
  induction m with
  | zero =>
    intro i hm hi h v18 v19 hf hqn hq hk
    have hno : ¬ (i : Int) < (cs.length : Int) := by omega
    obtain ⟨hu, hut, hX⟩ := fx4 hf
    refine W.loop ?_
    repeat (first | refine sq_ ?_ | refine bl_ ?_ | ((first | refine rg_ ?_ | refine go_ ?_); generalize e : goR _ _ _ _ _ _ _ _ = r; simp (disch := omega) [hX, List.length_map, sy_ibneT, sy_ibneF, sy_ibeqT, hq] at e; replace e : some _ = _ := e; subst e; (try dsimp only [goW])) | refine ct_ rfl ?_ | refine cf_ rfl ?_ | refine sk_ ?_ | refine ex_ ?_)
    all_goals ((try simp only [outOf, thenW_ret, roundW]); refine hk _ _ _ _ _ ?_ ?_; (focus (omega; done)); exact ut_)
  | succ m ih =>
    intro i hm hi h v18 v19 hf hqn hq hk
    by_cases hlt : i < cs.length
    · have hn := nth_mapG eI cs i _ (List.getElem?_eq_getElem hlt)
      have hn2 := nth_mapG eM cs i _ (List.getElem?_eq_getElem hlt)
      try dsimp only at hn hn2
      have hlt1 : (i : Int) < (cs.length : Int) := by omega
      have hih : ∀ (h' : CHeap) (v18 v19 : CVal), h'.ents = h.ents → h.next ≤ h'.next → UnderT h'.tys h'.next → W tree.getF mgLoop ⟨[v0, v1, v2, v3, v4, v5, v6, v7, v8, v9, v10, .imm t 1 (cs.map eI), v12, v13, v14, .ptr q dq 0, v16, .int .i64 ((i : Int) + 1), v18, v19, v20, v21, v22, v23], h', []⟩ Q := by
        intro h' v18 v19 e1 e2 e3
        have := ih (i + 1) (by omega) (by omega) h' v18 v19 ⟨by rw [e1]; exact hf.1.le e2, e3⟩ (by omega) (by rw [e1]; exact hq) (fun n' ty w1 w2 w3 g1 g2 => by rw [e1]; exact hk n' ty w1 w2 w3 (by omega) g2)
        have e4 : ((i + 1 : Nat) : Int) = (i : Int) + 1 := by omega
        rw [e4] at this
        exact this
      obtain ⟨hu, hut, hX⟩ := fx4 hf
      refine W.loop ?_
      repeat (first | refine sq_ ?_ | refine bl_ ?_ | ((first | refine rg_ ?_ | refine go_ ?_); generalize e : goR _ _ _ _ _ _ _ _ = r; simp (disch := omega) [hX, List.length_map, sy_ibneT, sy_ibneF, sy_ibeqT, hq, hn, hn2] at e; replace e : some _ = _ := e; subst e; (try dsimp only [goW])) | refine ct_ rfl ?_ | refine cf_ rfl ?_ | refine sk_ ?_ | refine ex_ ?_)
      show W tree.getF mgLoop (dropped true _ _) Q
      generalize e : dropped _ _ _ = r0
      simp (disch := omega) [hX] at e
      subst e
      try dsimp only
      refine hih _ _ _ rfl ?_ ?_
      · (try dsimp only); omega
      · exact ut_
    · have hno : ¬ (i : Int) < (cs.length : Int) := by omega
      obtain ⟨hu, hut, hX⟩ := fx4 hf
      refine W.loop ?_
      repeat (first | refine sq_ ?_ | refine bl_ ?_ | ((first | refine rg_ ?_ | refine go_ ?_); generalize e : goR _ _ _ _ _ _ _ _ = r; simp (disch := omega) [hX, List.length_map, sy_ibneT, sy_ibneF, sy_ibeqT, hq] at e; replace e : some _ = _ := e; subst e; (try dsimp only [goW])) | refine ct_ rfl ?_ | refine cf_ rfl ?_ | refine sk_ ?_ | refine ex_ ?_)
      all_goals ((try simp only [outOf, thenW_ret, roundW]); refine hk _ _ _ _ _ ?_ ?_; (focus (omega; done)); exact ut_)

abbrev enLoop : CCode := (.loop true (.seq (.seq (.region [.v 20, .v 13, .g (.len false (.loc 0)), .g (.bin .lss (.loc 2) (.loc 0))] [(21, 3)] [] []) (.cond (.var 21) .skip (.exit 5))) (.seq (.block 6 (.seq (.region [.g (.fieldAddr 3 (.var 15)), .l 0, .v 20, .g (.idxAddr 2 (.loc 1) (.loc 0)), .f 0 0, .l 0, .v 13, .v 20, .g (.idxAddr 1 (.loc 1) (.loc 0)), .l 0, .g (.bin .neq (.loc 4) (.loc 0)), .m (.loc 0), ⟨.fieldAddr 3 (.var 15), (some (0, false))⟩, ⟨.load none (.loc 0), (some (1, false))⟩, ⟨.mv (.var 20), (some (2, false))⟩, ⟨.idxAddr 2 (.loc 1) (.loc 0), (some (3, false))⟩, ⟨.fieldAddr 1 (.loc 0), (some (4, false))⟩, ⟨.load none (.loc 0), (some (5, false))⟩, ⟨.len false (.loc 0), (some (6, false))⟩, ⟨.bin .neq (.loc 0) (.const (.int .i64 1)), (some (7, false))⟩, .g (.pick (.loc 8) (.const (.bool true)) (.loc 0))] [(22, 20)] [] []) (.cond (.var 22) (.seq (.region [.m (.const (.bool false))] [(23, 0)] [] []) .ret) .skip))) (.region [.v 20, .g (.bin .add (.loc 0) (.const (.int .i64 1))), .m (.loc 0)] [(20, 2)] [] []))))
theorem en_loop (q dq : Nat) (cs : List UInt8) (hl : cs.length < 1000) (t : Tag) (RI RM : CVal) (v0 v1 v2 v3 v4 v5 v6 v7 v8 v9 v10 v11 v12 v14 v16 v17 v18 v19 v23 : CVal) (Q : CExit → CSt → Prop) : ∀ (m i : Nat), cs.length - i ≤ m → i ≤ cs.length → ∀ (h : CHeap) (v21 v22 : CVal), Fit h → q < h.next → getEnt h.ents q = some (.cells [.str [], RI, RM, .imm .none 2 (cs.map eE)]) →
    (∀ n' ty w1 w2 w3, h.next ≤ n' → UnderT ty n' → Q (.exit 5) ⟨[v0, v1, v2, v3, v4, v5, v6, v7, v8, v9, v10, v11, v12, .imm t 1 (cs.map eI), v14, .ptr q dq 0, v16, v17, v18, v19, w1, w2, w3, v23], ⟨h.ents, n', ty⟩, []⟩) →
    W tree.getF enLoop ⟨[v0, v1, v2, v3, v4, v5, v6, v7, v8, v9, v10, v11, v12, .imm t 1 (cs.map eI), v14, .ptr q dq 0, v16, v17, v18, v19, .int .i64 (i : Int), v21, v22, v23], h, []⟩ Q := by
  intro m
  induction m with
  | zero =>
    intro i hm hi h v21 v22 hf hqn hq hk
    have hno : ¬ (i : Int) < (cs.length : Int) := by omega
    obtain ⟨hu, hut, hX⟩ := fx4 hf
    refine W.loop ?_
    repeat (first | refine sq_ ?_ | refine bl_ ?_ | ((first | refine rg_ ?_ | refine go_ ?_); generalize e : goR _ _ _ _ _ _ _ _ = r; simp (disch := omega) [hX, List.length_map, sy_ibneT, sy_ibneF, sy_ibeqT, hq] at e; replace e : some _ = _ := e; subst e; (try dsimp only [goW])) | refine ct_ rfl ?_ | refine cf_ rfl ?_ | refine sk_ ?_ | refine ex_ ?_)
    all_goals ((try simp only [outOf, thenW_ret, roundW]); refine hk _ _ _ _ _ ?_ ?_; (focus (omega; done)); exact ut_)
  | succ m ih =>
    intro i hm hi h v21 v22 hf hqn hq hk
    by_cases hlt : i < cs.length
    · have hn := nth_mapG eI cs i _ (List.getElem?_eq_getElem hlt)
      have hn2 := nth_mapG eE cs i _ (List.getElem?_eq_getElem hlt)
      try dsimp only at hn hn2
      have hlt1 : (i : Int) < (cs.length : Int) := by omega
      have hih : ∀ (h' : CHeap) (v21 v22 : CVal), h'.ents = h.ents → h.next ≤ h'.next → UnderT h'.tys h'.next → W tree.getF enLoop ⟨[v0, v1, v2, v3, v4, v5, v6, v7, v8, v9, v10, v11, v12, .imm t 1 (cs.map eI), v14, .ptr q dq 0, v16, v17, v18, v19, .int .i64 ((i : Int) + 1), v21, v22, v23], h', []⟩ Q := by
        intro h' v21 v22 e1 e2 e3
        have := ih (i + 1) (by omega) (by omega) h' v21 v22 ⟨by rw [e1]; exact hf.1.le e2, e3⟩ (by omega) (by rw [e1]; exact hq) (fun n' ty w1 w2 w3 g1 g2 => by rw [e1]; exact hk n' ty w1 w2 w3 (by omega) g2)
        have e4 : ((i + 1 : Nat) : Int) = (i : Int) + 1 := by omega
        rw [e4] at this
        exact this
      obtain ⟨hu, hut, hX⟩ := fx4 hf
      refine W.loop ?_
      repeat (first | refine sq_ ?_ | refine bl_ ?_ | ((first | refine rg_ ?_ | refine go_ ?_); generalize e : goR _ _ _ _ _ _ _ _ = r; simp (disch := omega) [hX, List.length_map, sy_ibneT, sy_ibneF, sy_ibeqT, hq, hn, hn2] at e; replace e : some _ = _ := e; subst e; (try dsimp only [goW])) | refine ct_ rfl ?_ | refine cf_ rfl ?_ | refine sk_ ?_ | refine ex_ ?_)
      show W tree.getF enLoop (dropped true _ _) Q
      generalize e : dropped _ _ _ = r0
      simp (disch := omega) [hX] at e
      subst e
      try dsimp only
      refine hih _ _ _ rfl ?_ ?_
      · (try dsimp only); omega
      · exact ut_
    · have hno : ¬ (i : Int) < (cs.length : Int) := by omega
      obtain ⟨hu, hut, hX⟩ := fx4 hf
      refine W.loop ?_
      repeat (first | refine sq_ ?_ | refine bl_ ?_ | ((first | refine rg_ ?_ | refine go_ ?_); generalize e : goR _ _ _ _ _ _ _ _ = r; simp (disch := omega) [hX, List.length_map, sy_ibneT, sy_ibneF, sy_ibeqT, hq] at e; replace e : some _ = _ := e; subst e; (try dsimp only [goW])) | refine ct_ rfl ?_ | refine cf_ rfl ?_ | refine sk_ ?_ | refine ex_ ?_)
      all_goals ((try simp only [outOf, thenW_ret, roundW]); refine hk _ _ _ _ _ ?_ ?_; (focus (omega; done)); exact ut_)
def txt : It → List UInt8
  | .imp c => [32, 105, 109, 112, 111, 114, 116, 32, 39, c, 39, 59]
  | .msg c => [32, 109, 101, 115, 115, 97, 103, 101, 32, c, 32, 123, 32, 105, 110, 116, 51, 50, 32, 120, 32, 61, 32, 49, 59, 32, 125]
  | .enu c => [32, 101, 110, 117, 109, 32, c, 32, 123, 32, 88, 32, 61, 32, 48, 59, 32, 125]
  | .semi => [32, 59]
def nmC (i : Nat) : UInt8 := UInt8.ofNat (97 + (i : Int)).toNat
def itOf (x : Int) (i : Nat) : It := if x.tmod 4 = 0 then .imp (nmC i) else if x.tmod 4 = 1 then .msg (nmC i) else if x.tmod 4 = 2 then .enu (nmC i) else .semi
def itsF : Nat → List Int → List It
  | _, [] => []
  | i, x :: r => itOf x i :: itsF (i + 1) r
abbrev lbLoop : CCode := (.loop true (.seq (.seq (.region [.v 3, .v 1, .g (.len false (.loc 0)), .g (.bin .lss (.loc 2) (.loc 0))] [(4, 3)] [] []) (.cond (.var 4) .skip (.exit 0))) (.seq (.block 1 (.seq (.region [.v 3, .g (.bin .add (.const (.int .i64 97)) (.loc 0)), .g (.conv .u8 (.loc 0)), .g (.lit .imm false [(.int .u8 0)] 1 [(0, (.loc 0))]), .g (.b2s (.loc 0)), .m (.loc 0)] [(8, 5)] [] []) (.seq (.region [.v 1, .v 3, .g (.idxAddr 1 (.loc 1) (.loc 0)), .l 0, .g (.bin .rem (.loc 0) (.const (.int .u8 4)))] [(5, 4)] [] []) (.block 2 (.seq (.region [.g (.bin .eql (.var 5) (.const (.int .u8 0))), .m (.loc 0)] [(6, 1)] [] []) (.cond (.var 6) (.region [.v 7, .g (.bin .add (.loc 0) (.const (.str [32, 105, 109, 112, 111, 114, 116, 32, 39]))), .v 8, .g (.bin .add (.loc 1) (.loc 0)), .g (.bin .add (.loc 0) (.const (.str [39, 59]))), .v 9, .v 8, .g (.lit .imm false [(.str [])] 1 [(0, (.loc 0))]), .g (.append .imm 0 1 (.loc 2) (.loc 0)), .m (.loc 4), .m (.loc 1)] [(7, 9), (9, 10)] [] []) (.seq (.region [.g (.bin .eql (.var 5) (.const (.int .u8 1))), .m (.loc 0)] [(10, 1)] [] []) (.cond (.var 10) (.region [.v 7, .g (.bin .add (.loc 0) (.const (.str [32, 109, 101, 115, 115, 97, 103, 101, 32]))), .v 8, .g (.bin .add (.loc 1) (.loc 0)), .g (.bin .add (.loc 0) (.const (.str [32, 123, 32, 105, 110, 116, 51, 50, 32, 120, 32, 61, 32, 49, 59, 32, 125]))), .v 11, .v 8, .g (.lit .imm false [(.str [])] 1 [(0, (.loc 0))]), .g (.append .imm 0 1 (.loc 2) (.loc 0)), .m (.loc 4), .m (.loc 1)] [(7, 9), (11, 10)] [] []) (.seq (.region [.g (.bin .eql (.var 5) (.const (.int .u8 2))), .m (.loc 0)] [(12, 1)] [] []) (.cond (.var 12) (.region [.v 7, .g (.bin .add (.loc 0) (.const (.str [32, 101, 110, 117, 109, 32]))), .v 8, .g (.bin .add (.loc 1) (.loc 0)), .g (.bin .add (.loc 0) (.const (.str [32, 123, 32, 88, 32, 61, 32, 48, 59, 32, 125]))), .v 13, .v 8, .g (.lit .imm false [(.str [])] 1 [(0, (.loc 0))]), .g (.append .imm 0 1 (.loc 2) (.loc 0)), .m (.loc 4), .m (.loc 1)] [(7, 9), (13, 10)] [] []) (.region [.v 7, .g (.bin .add (.loc 0) (.const (.str [32, 59]))), .m (.loc 0)] [(7, 2)] [] []))))))))))) (.region [.v 3, .g (.bin .add (.loc 0) (.const (.int .i64 1))), .m (.loc 0)] [(3, 2)] [] []))))

theorem lb_imp_n (xs : List Int) (i : Nat) (x : Int) (hx : xs[i]? = some x) (hx0 : 0 ≤ x ∧ x < 256) (hi : i ≤ 24) (acc : List UInt8) (hacc : acc.length ≤ 5000) (hv : x.tmod 4 = 0) (c : UInt8) (hcc : UInt8.ofNat (97 + (i : Int)).toNat = c) (L11 L13 : CVal) (Q : CExit → CSt → Prop) (v0 v2 v14 v15 v16 v17 v18 v19 v20 v21 v22 v23 v4 v5 v6 v8 v10 v12 : CVal) (h : CHeap) (hf : Fit h)
    (hk : ∀ z n' ty w4 w5 w6 w8 w10 w12, h.next ≤ z → z < n' → UnderT ty n' → W tree.getF lbLoop ⟨[v0, .imm .none 1 (xs.map (CVal.int .u8)), v2, .int .i64 ((i : Int) + 1), w4, w5, w6, .str (acc ++ [32, 105, 109, 112, 111, 114, 116, 32, 39, c, 39, 59]), w8, .imm (.own z 0) 1 [.str [c]], w10, L11, w12, L13, v14, v15, v16, v17, v18, v19, v20, v21, v22, v23], ⟨(z, .tok 0) :: h.ents, n', ty⟩, []⟩ Q) : W tree.getF lbLoop ⟨[v0, .imm .none 1 (xs.map (CVal.int .u8)), v2, .int .i64 (i : Int), v4, v5, v6, .str acc, v8, .nils, v10, L11, v12, L13, v14, v15, v16, v17, v18, v19, v20, v21, v22, v23], h, []⟩ Q := by
  obtain ⟨hil, _⟩ := List.getElem?_eq_some_iff.1 hx
  have hn := nth_mapG (CVal.int .u8) xs i _ hx
  have hlt : (i : Int) < (xs.length : Int) := by omega
  have hjt : ((i : Nat) : Int).toNat = i := by omega
  obtain ⟨hu, hut, hX⟩ := fx4 hf
  refine W.loop ?_
  repeat (first | refine sq_ ?_ | refine bl_ ?_ | ((first | refine rg_ ?_ | refine go_ ?_); generalize e : goR _ _ _ _ _ _ _ _ = r; simp (disch := omega) [hX, List.length_map, sy_ibneT, sy_ibneF, sy_ibeqT, sy_wrapu8, hn, hv, hcc, hjt] at e; replace e : some _ = _ := e; subst e; (try dsimp only [goW])) | refine ct_ rfl ?_ | refine cf_ rfl ?_ | refine sk_ ?_ | refine ex_ ?_)
  show W tree.getF lbLoop (dropped true _ _) Q
  generalize e : dropped _ _ _ = r0
  simp (disch := omega) [hX, List.length_map, sy_ibneT, sy_ibneF, sy_ibeqT, sy_wrapu8, hn, hv, hcc, hjt] at e
  subst e
  try dsimp only
  refine hk _ _ _ _ _ _ _ _ _ ?_ ?_ ?_
  · (try dsimp only); omega
  · (try dsimp only); omega
  · exact ut_

theorem lb_imp_o (xs : List Int) (i : Nat) (x : Int) (hx : xs[i]? = some x) (hx0 : 0 ≤ x ∧ x < 256) (hi : i ≤ 24) (acc : List UInt8) (hacc : acc.length ≤ 5000) (hv : x.tmod 4 = 0) (c : UInt8) (hcc : UInt8.ofNat (97 + (i : Int)).toNat = c) (L11 L13 : CVal) (Q : CExit → CSt → Prop) (v0 v2 v14 v15 v16 v17 v18 v19 v20 v21 v22 v23 v4 v5 v6 v8 v10 v12 : CVal) (h : CHeap) (hf : Fit h) (iq vq : Nat) (ts : List CVal) (hts : ts.length < 1000) (hti : getEnt h.ents iq = some (.tok vq)) (hin : iq < h.next)
    (hk : ∀ n' ty w4 w5 w6 w8 w10 w12, h.next ≤ n' → UnderT ty n' → W tree.getF lbLoop ⟨[v0, .imm .none 1 (xs.map (CVal.int .u8)), v2, .int .i64 ((i : Int) + 1), w4, w5, w6, .str (acc ++ [32, 105, 109, 112, 111, 114, 116, 32, 39, c, 39, 59]), w8, .imm (.own iq (vq + 1)) 1 (ts ++ [.str [c]]), w10, L11, w12, L13, v14, v15, v16, v17, v18, v19, v20, v21, v22, v23], ⟨setEnt h.ents iq (.tok (vq + 1)), n', ty⟩, []⟩ Q) : W tree.getF lbLoop ⟨[v0, .imm .none 1 (xs.map (CVal.int .u8)), v2, .int .i64 (i : Int), v4, v5, v6, .str acc, v8, .imm (.own iq vq) 1 ts, v10, L11, v12, L13, v14, v15, v16, v17, v18, v19, v20, v21, v22, v23], h, []⟩ Q := by
  obtain ⟨hil, _⟩ := List.getElem?_eq_some_iff.1 hx
  have hn := nth_mapG (CVal.int .u8) xs i _ hx
  have hlt : (i : Int) < (xs.length : Int) := by omega
  have hjt : ((i : Nat) : Int).toNat = i := by omega
  obtain ⟨hu, hut, hX⟩ := fx4 hf
  have hS1 : ∀ t, getEnt (setEnt h.ents iq t) iq = some t := fun t => sy_getEnt_setEnt hti
  have hS2 : ∀ t m, h.next ≤ m → dropCells (setEnt h.ents iq t) m = setEnt h.ents iq t := fun t m hm => dropCells_under (hu.set.le hm)
  refine W.loop ?_
  repeat (first | refine sq_ ?_ | refine bl_ ?_ | ((first | refine rg_ ?_ | refine go_ ?_); generalize e : goR _ _ _ _ _ _ _ _ = r; simp (disch := omega) [hX, List.length_map, sy_ibneT, sy_ibneF, sy_ibeqT, sy_wrapu8, hn, hv, hcc, hjt, hti, beqs_refl, hS1, hS2] at e; replace e : some _ = _ := e; subst e; (try dsimp only [goW])) | refine ct_ rfl ?_ | refine cf_ rfl ?_ | refine sk_ ?_ | refine ex_ ?_)
  show W tree.getF lbLoop (dropped true _ _) Q
  generalize e : dropped _ _ _ = r0
  simp (disch := omega) [hX, List.length_map, sy_ibneT, sy_ibneF, sy_ibeqT, sy_wrapu8, hn, hv, hcc, hjt, hti, beqs_refl, hS1, hS2] at e
  subst e
  try dsimp only
  refine hk _ _ _ _ _ _ _ _ ?_ ?_
  · (try dsimp only); omega
  · exact ut_

theorem lb_msg_n (xs : List Int) (i : Nat) (x : Int) (hx : xs[i]? = some x) (hx0 : 0 ≤ x ∧ x < 256) (hi : i ≤ 24) (acc : List UInt8) (hacc : acc.length ≤ 5000) (hv : x.tmod 4 = 1) (c : UInt8) (hcc : UInt8.ofNat (97 + (i : Int)).toNat = c) (L9 L13 : CVal) (Q : CExit → CSt → Prop) (v0 v2 v14 v15 v16 v17 v18 v19 v20 v21 v22 v23 v4 v5 v6 v8 v10 v12 : CVal) (h : CHeap) (hf : Fit h)
    (hk : ∀ z n' ty w4 w5 w6 w8 w10 w12, h.next ≤ z → z < n' → UnderT ty n' → W tree.getF lbLoop ⟨[v0, .imm .none 1 (xs.map (CVal.int .u8)), v2, .int .i64 ((i : Int) + 1), w4, w5, w6, .str (acc ++ [32, 109, 101, 115, 115, 97, 103, 101, 32, c, 32, 123, 32, 105, 110, 116, 51, 50, 32, 120, 32, 61, 32, 49, 59, 32, 125]), w8, L9, w10, .imm (.own z 0) 1 [.str [c]], w12, L13, v14, v15, v16, v17, v18, v19, v20, v21, v22, v23], ⟨(z, .tok 0) :: h.ents, n', ty⟩, []⟩ Q) : W tree.getF lbLoop ⟨[v0, .imm .none 1 (xs.map (CVal.int .u8)), v2, .int .i64 (i : Int), v4, v5, v6, .str acc, v8, L9, v10, .nils, v12, L13, v14, v15, v16, v17, v18, v19, v20, v21, v22, v23], h, []⟩ Q := by
  obtain ⟨hil, _⟩ := List.getElem?_eq_some_iff.1 hx
  have hn := nth_mapG (CVal.int .u8) xs i _ hx
  have hlt : (i : Int) < (xs.length : Int) := by omega
  have hjt : ((i : Nat) : Int).toNat = i := by omega
  obtain ⟨hu, hut, hX⟩ := fx4 hf
  refine W.loop ?_
  repeat (first | refine sq_ ?_ | refine bl_ ?_ | ((first | refine rg_ ?_ | refine go_ ?_); generalize e : goR _ _ _ _ _ _ _ _ = r; simp (disch := omega) [hX, List.length_map, sy_ibneT, sy_ibneF, sy_ibeqT, sy_wrapu8, hn, hv, hcc, hjt] at e; replace e : some _ = _ := e; subst e; (try dsimp only [goW])) | refine ct_ rfl ?_ | refine cf_ rfl ?_ | refine sk_ ?_ | refine ex_ ?_)
  show W tree.getF lbLoop (dropped true _ _) Q
  generalize e : dropped _ _ _ = r0
  simp (disch := omega) [hX, List.length_map, sy_ibneT, sy_ibneF, sy_ibeqT, sy_wrapu8, hn, hv, hcc, hjt] at e
  subst e
  try dsimp only
  refine hk _ _ _ _ _ _ _ _ _ ?_ ?_ ?_
  · (try dsimp only); omega
  · (try dsimp only); omega
  · exact ut_

theorem lb_msg_o (xs : List Int) (i : Nat) (x : Int) (hx : xs[i]? = some x) (hx0 : 0 ≤ x ∧ x < 256) (hi : i ≤ 24) (acc : List UInt8) (hacc : acc.length ≤ 5000) (hv : x.tmod 4 = 1) (c : UInt8) (hcc : UInt8.ofNat (97 + (i : Int)).toNat = c) (L9 L13 : CVal) (Q : CExit → CSt → Prop) (v0 v2 v14 v15 v16 v17 v18 v19 v20 v21 v22 v23 v4 v5 v6 v8 v10 v12 : CVal) (h : CHeap) (hf : Fit h) (iq vq : Nat) (ts : List CVal) (hts : ts.length < 1000) (hti : getEnt h.ents iq = some (.tok vq)) (hin : iq < h.next)
    (hk : ∀ n' ty w4 w5 w6 w8 w10 w12, h.next ≤ n' → UnderT ty n' → W tree.getF lbLoop ⟨[v0, .imm .none 1 (xs.map (CVal.int .u8)), v2, .int .i64 ((i : Int) + 1), w4, w5, w6, .str (acc ++ [32, 109, 101, 115, 115, 97, 103, 101, 32, c, 32, 123, 32, 105, 110, 116, 51, 50, 32, 120, 32, 61, 32, 49, 59, 32, 125]), w8, L9, w10, .imm (.own iq (vq + 1)) 1 (ts ++ [.str [c]]), w12, L13, v14, v15, v16, v17, v18, v19, v20, v21, v22, v23], ⟨setEnt h.ents iq (.tok (vq + 1)), n', ty⟩, []⟩ Q) : W tree.getF lbLoop ⟨[v0, .imm .none 1 (xs.map (CVal.int .u8)), v2, .int .i64 (i : Int), v4, v5, v6, .str acc, v8, L9, v10, .imm (.own iq vq) 1 ts, v12, L13, v14, v15, v16, v17, v18, v19, v20, v21, v22, v23], h, []⟩ Q := by
  obtain ⟨hil, _⟩ := List.getElem?_eq_some_iff.1 hx
  have hn := nth_mapG (CVal.int .u8) xs i _ hx
  have hlt : (i : Int) < (xs.length : Int) := by omega
  have hjt : ((i : Nat) : Int).toNat = i := by omega
  obtain ⟨hu, hut, hX⟩ := fx4 hf
  have hS1 : ∀ t, getEnt (setEnt h.ents iq t) iq = some t := fun t => sy_getEnt_setEnt hti
  have hS2 : ∀ t m, h.next ≤ m → dropCells (setEnt h.ents iq t) m = setEnt h.ents iq t := fun t m hm => dropCells_under (hu.set.le hm)
  refine W.loop ?_
  repeat (first | refine sq_ ?_ | refine bl_ ?_ | ((first | refine rg_ ?_ | refine go_ ?_); generalize e : goR _ _ _ _ _ _ _ _ = r; simp (disch := omega) [hX, List.length_map, sy_ibneT, sy_ibneF, sy_ibeqT, sy_wrapu8, hn, hv, hcc, hjt, hti, beqs_refl, hS1, hS2] at e; replace e : some _ = _ := e; subst e; (try dsimp only [goW])) | refine ct_ rfl ?_ | refine cf_ rfl ?_ | refine sk_ ?_ | refine ex_ ?_)
  show W tree.getF lbLoop (dropped true _ _) Q
  generalize e : dropped _ _ _ = r0
  simp (disch := omega) [hX, List.length_map, sy_ibneT, sy_ibneF, sy_ibeqT, sy_wrapu8, hn, hv, hcc, hjt, hti, beqs_refl, hS1, hS2] at e
  subst e
  try dsimp only
  refine hk _ _ _ _ _ _ _ _ ?_ ?_
  · (try dsimp only); omega
  · exact ut_

theorem lb_enu_n (xs : List Int) (i : Nat) (x : Int) (hx : xs[i]? = some x) (hx0 : 0 ≤ x ∧ x < 256) (hi : i ≤ 24) (acc : List UInt8) (hacc : acc.length ≤ 5000) (hv : x.tmod 4 = 2) (c : UInt8) (hcc : UInt8.ofNat (97 + (i : Int)).toNat = c) (L9 L11 : CVal) (Q : CExit → CSt → Prop) (v0 v2 v14 v15 v16 v17 v18 v19 v20 v21 v22 v23 v4 v5 v6 v8 v10 v12 : CVal) (h : CHeap) (hf : Fit h)
    (hk : ∀ z n' ty w4 w5 w6 w8 w10 w12, h.next ≤ z → z < n' → UnderT ty n' → W tree.getF lbLoop ⟨[v0, .imm .none 1 (xs.map (CVal.int .u8)), v2, .int .i64 ((i : Int) + 1), w4, w5, w6, .str (acc ++ [32, 101, 110, 117, 109, 32, c, 32, 123, 32, 88, 32, 61, 32, 48, 59, 32, 125]), w8, L9, w10, L11, w12, .imm (.own z 0) 1 [.str [c]], v14, v15, v16, v17, v18, v19, v20, v21, v22, v23], ⟨(z, .tok 0) :: h.ents, n', ty⟩, []⟩ Q) : W tree.getF lbLoop ⟨[v0, .imm .none 1 (xs.map (CVal.int .u8)), v2, .int .i64 (i : Int), v4, v5, v6, .str acc, v8, L9, v10, L11, v12, .nils, v14, v15, v16, v17, v18, v19, v20, v21, v22, v23], h, []⟩ Q := by
  obtain ⟨hil, _⟩ := List.getElem?_eq_some_iff.1 hx
  have hn := nth_mapG (CVal.int .u8) xs i _ hx
  have hlt : (i : Int) < (xs.length : Int) := by omega
  have hjt : ((i : Nat) : Int).toNat = i := by omega
  obtain ⟨hu, hut, hX⟩ := fx4 hf
  refine W.loop ?_
  repeat (first | refine sq_ ?_ | refine bl_ ?_ | ((first | refine rg_ ?_ | refine go_ ?_); generalize e : goR _ _ _ _ _ _ _ _ = r; simp (disch := omega) [hX, List.length_map, sy_ibneT, sy_ibneF, sy_ibeqT, sy_wrapu8, hn, hv, hcc, hjt] at e; replace e : some _ = _ := e; subst e; (try dsimp only [goW])) | refine ct_ rfl ?_ | refine cf_ rfl ?_ | refine sk_ ?_ | refine ex_ ?_)
  show W tree.getF lbLoop (dropped true _ _) Q
  generalize e : dropped _ _ _ = r0
  simp (disch := omega) [hX, List.length_map, sy_ibneT, sy_ibneF, sy_ibeqT, sy_wrapu8, hn, hv, hcc, hjt] at e
  subst e
  try dsimp only
  refine hk _ _ _ _ _ _ _ _ _ ?_ ?_ ?_
  · (try dsimp only); omega
  · (try dsimp only); omega
  · exact ut_

theorem lb_enu_o (xs : List Int) (i : Nat) (x : Int) (hx : xs[i]? = some x) (hx0 : 0 ≤ x ∧ x < 256) (hi : i ≤ 24) (acc : List UInt8) (hacc : acc.length ≤ 5000) (hv : x.tmod 4 = 2) (c : UInt8) (hcc : UInt8.ofNat (97 + (i : Int)).toNat = c) (L9 L11 : CVal) (Q : CExit → CSt → Prop) (v0 v2 v14 v15 v16 v17 v18 v19 v20 v21 v22 v23 v4 v5 v6 v8 v10 v12 : CVal) (h : CHeap) (hf : Fit h) (iq vq : Nat) (ts : List CVal) (hts : ts.length < 1000) (hti : getEnt h.ents iq = some (.tok vq)) (hin : iq < h.next)
    (hk : ∀ n' ty w4 w5 w6 w8 w10 w12, h.next ≤ n' → UnderT ty n' → W tree.getF lbLoop ⟨[v0, .imm .none 1 (xs.map (CVal.int .u8)), v2, .int .i64 ((i : Int) + 1), w4, w5, w6, .str (acc ++ [32, 101, 110, 117, 109, 32, c, 32, 123, 32, 88, 32, 61, 32, 48, 59, 32, 125]), w8, L9, w10, L11, w12, .imm (.own iq (vq + 1)) 1 (ts ++ [.str [c]]), v14, v15, v16, v17, v18, v19, v20, v21, v22, v23], ⟨setEnt h.ents iq (.tok (vq + 1)), n', ty⟩, []⟩ Q) : W tree.getF lbLoop ⟨[v0, .imm .none 1 (xs.map (CVal.int .u8)), v2, .int .i64 (i : Int), v4, v5, v6, .str acc, v8, L9, v10, L11, v12, .imm (.own iq vq) 1 ts, v14, v15, v16, v17, v18, v19, v20, v21, v22, v23], h, []⟩ Q := by
  obtain ⟨hil, _⟩ := List.getElem?_eq_some_iff.1 hx
  have hn := nth_mapG (CVal.int .u8) xs i _ hx
  have hlt : (i : Int) < (xs.length : Int) := by omega
  have hjt : ((i : Nat) : Int).toNat = i := by omega
  obtain ⟨hu, hut, hX⟩ := fx4 hf
  have hS1 : ∀ t, getEnt (setEnt h.ents iq t) iq = some t := fun t => sy_getEnt_setEnt hti
  have hS2 : ∀ t m, h.next ≤ m → dropCells (setEnt h.ents iq t) m = setEnt h.ents iq t := fun t m hm => dropCells_under (hu.set.le hm)
  refine W.loop ?_
  repeat (first | refine sq_ ?_ | refine bl_ ?_ | ((first | refine rg_ ?_ | refine go_ ?_); generalize e : goR _ _ _ _ _ _ _ _ = r; simp (disch := omega) [hX, List.length_map, sy_ibneT, sy_ibneF, sy_ibeqT, sy_wrapu8, hn, hv, hcc, hjt, hti, beqs_refl, hS1, hS2] at e; replace e : some _ = _ := e; subst e; (try dsimp only [goW])) | refine ct_ rfl ?_ | refine cf_ rfl ?_ | refine sk_ ?_ | refine ex_ ?_)
  show W tree.getF lbLoop (dropped true _ _) Q
  generalize e : dropped _ _ _ = r0
  simp (disch := omega) [hX, List.length_map, sy_ibneT, sy_ibneF, sy_ibeqT, sy_wrapu8, hn, hv, hcc, hjt, hti, beqs_refl, hS1, hS2] at e
  subst e
  try dsimp only
  refine hk _ _ _ _ _ _ _ _ ?_ ?_
  · (try dsimp only); omega
  · exact ut_

theorem lb_semi (xs : List Int) (i : Nat) (x : Int) (hx : xs[i]? = some x) (hx0 : 0 ≤ x ∧ x < 256) (hi : i ≤ 24) (acc : List UInt8) (hacc : acc.length ≤ 5000) (hv : x.tmod 4 = 3) (c : UInt8) (hcc : UInt8.ofNat (97 + (i : Int)).toNat = c) (L9 L11 L13 : CVal) (Q : CExit → CSt → Prop) (v0 v2 v14 v15 v16 v17 v18 v19 v20 v21 v22 v23 v4 v5 v6 v8 v10 v12 : CVal) (h : CHeap) (hf : Fit h)
    (hk : ∀ n' ty w4 w5 w6 w8 w10 w12, h.next ≤ n' → UnderT ty n' → W tree.getF lbLoop ⟨[v0, .imm .none 1 (xs.map (CVal.int .u8)), v2, .int .i64 ((i : Int) + 1), w4, w5, w6, .str (acc ++ [32, 59]), w8, L9, w10, L11, w12, L13, v14, v15, v16, v17, v18, v19, v20, v21, v22, v23], ⟨h.ents, n', ty⟩, []⟩ Q) : W tree.getF lbLoop ⟨[v0, .imm .none 1 (xs.map (CVal.int .u8)), v2, .int .i64 (i : Int), v4, v5, v6, .str acc, v8, L9, v10, L11, v12, L13, v14, v15, v16, v17, v18, v19, v20, v21, v22, v23], h, []⟩ Q := by
  obtain ⟨hil, _⟩ := List.getElem?_eq_some_iff.1 hx
  have hn := nth_mapG (CVal.int .u8) xs i _ hx
  have hlt : (i : Int) < (xs.length : Int) := by omega
  have hjt : ((i : Nat) : Int).toNat = i := by omega
  obtain ⟨hu, hut, hX⟩ := fx4 hf
  refine W.loop ?_
  repeat (first | refine sq_ ?_ | refine bl_ ?_ | ((first | refine rg_ ?_ | refine go_ ?_); generalize e : goR _ _ _ _ _ _ _ _ = r; simp (disch := omega) [hX, List.length_map, sy_ibneT, sy_ibneF, sy_ibeqT, sy_wrapu8, hn, hv, hcc, hjt] at e; replace e : some _ = _ := e; subst e; (try dsimp only [goW])) | refine ct_ rfl ?_ | refine cf_ rfl ?_ | refine sk_ ?_ | refine ex_ ?_)
  show W tree.getF lbLoop (dropped true _ _) Q
  generalize e : dropped _ _ _ = r0
  simp (disch := omega) [hX, List.length_map, sy_ibneT, sy_ibneF, sy_ibeqT, sy_wrapu8, hn, hv, hcc, hjt] at e
  subst e
  try dsimp only
  refine hk _ _ _ _ _ _ _ _ ?_ ?_
  · (try dsimp only); omega
  · exact ut_

theorem lb_end (xs : List Int) (i : Nat) (hx : xs.length ≤ i) (Q : CExit → CSt → Prop) (L9 L11 L13 s7 v0 v2 v14 v15 v16 v17 v18 v19 v20 v21 v22 v23 v4 v5 v6 v8 v10 v12 : CVal) (h : CHeap) (hf : Fit h)
    (hk : ∀ n' ty w4, h.next ≤ n' → UnderT ty n' → Q (.exit 0) ⟨[v0, .imm .none 1 (xs.map (CVal.int .u8)), v2, .int .i64 (i : Int), w4, v5, v6, s7, v8, L9, v10, L11, v12, L13, v14, v15, v16, v17, v18, v19, v20, v21, v22, v23], ⟨h.ents, n', ty⟩, []⟩) : W tree.getF lbLoop ⟨[v0, .imm .none 1 (xs.map (CVal.int .u8)), v2, .int .i64 (i : Int), v4, v5, v6, s7, v8, L9, v10, L11, v12, L13, v14, v15, v16, v17, v18, v19, v20, v21, v22, v23], h, []⟩ Q := by
  have hno : ¬ (i : Int) < (xs.length : Int) := by omega
  obtain ⟨hu, hut, hX⟩ := fx4 hf
  refine W.loop ?_
  repeat (first | refine sq_ ?_ | refine bl_ ?_ | ((first | refine rg_ ?_ | refine go_ ?_); generalize e : goR _ _ _ _ _ _ _ _ = r; simp (disch := omega) [hX, List.length_map, sy_ibneT, sy_ibneF, sy_ibeqT] at e; replace e : some _ = _ := e; subst e; (try dsimp only [goW])) | refine ct_ rfl ?_ | refine cf_ rfl ?_ | refine sk_ ?_ | refine ex_ ?_)
  all_goals ((try simp only [outOf, thenW_ret, roundW]); refine hk _ _ _ ?_ ?_; (focus (omega; done)); exact ut_)
/-- Where the law's first loop stands: its three lists. -/
structure GS (n0 : Nat) (LI LM LE : CVal) (tI tM tE : List CVal) (iI iM iE : Nat) (h : CHeap) : Prop where
  sI : LS n0 0 0 1 LI tI iI h
  sM : LS n0 0 0 1 LM tM iM h
  sE : LS n0 0 0 1 LE tE iE h
  dIM : LI = .nils ∨ LM = .nils ∨ iI ≠ iM
  dIE : LI = .nils ∨ LE = .nils ∨ iI ≠ iE
  dME : LM = .nils ∨ LE = .nils ∨ iM ≠ iE
  n1 : 1 ≤ n0
  nn : n0 ≤ h.next
  f : Fit h
theorem GS.semi {n0 : Nat} {LI LM LE : CVal} {tI tM tE : List CVal} {iI iM iE : Nat} {h : CHeap} {n' : Nat} {ty : List (Nat × Nat)} (S : GS n0 LI LM LE tI tM tE iI iM iE h) (hn : h.next ≤ n') (ht : UnderT ty n') : GS n0 LI LM LE tI tM tE iI iM iE ⟨h.ents, n', ty⟩ where
  sI := S.sI.keep hn (.inr fun _ _ _ => rfl)
  sM := S.sM.keep hn (.inr fun _ _ _ => rfl)
  sE := S.sE.keep hn (.inr fun _ _ _ => rfl)
  dIM := S.dIM
  dIE := S.dIE
  dME := S.dME
  n1 := S.n1
  nn := by have := S.nn; (try dsimp only); omega
  f := ⟨S.f.1.le hn, ht⟩

theorem GS.nilI {n0 : Nat} {LM LE : CVal} {tI tM tE : List CVal} {iI iM iE : Nat} {h : CHeap} {z n' : Nat} {ty : List (Nat × Nat)} {x : CVal} (S : GS n0 .nils LM LE tI tM tE iI iM iE h) (hz : h.next ≤ z) (hn : z < n') (ht : UnderT ty n') :
    GS n0 (.imm (.own z 0) 1 [x]) (LM) (LE) [x] tM tE z iM iE ⟨(z, .tok 0) :: h.ents, n', ty⟩ := by
  have hn1 := S.n1; have hnn := S.nn
  have keep : ∀ i, i ≠ 0 → i ≠ 0 → i < h.next → getEnt ((z, CObj.tok 0) :: h.ents) i = getEnt h.ents i := by
    intro i h1 h2 h3
    have hzi : (z == i) = false := by simp; omega
    simp only [getEnt, hzi, Bool.false_eq_true, if_false]
  exact {
    sI := .inr ⟨0, rfl, by simp, by simp [getEnt], by omega, by omega, by omega, hn⟩
    sM := S.sM.keep (by (try dsimp only); omega) (.inr (keep _))
    sE := S.sE.keep (by (try dsimp only); omega) (.inr (keep _))
    dIM := by
      by_cases hv : LM = .nils
      · exact .inr (.inl hv)
      · have := S.sM.notnil hv; exact .inr (.inr (by omega))
    dIE := by
      by_cases hv : LE = .nils
      · exact .inr (.inl hv)
      · have := S.sE.notnil hv; exact .inr (.inr (by omega))
    dME := S.dME
    n1 := hn1
    nn := by (try dsimp only); omega
    f := ⟨Under.cons hn (S.f.1.le (by (try dsimp only); omega)), ht⟩ }

theorem GS.ownI {n0 : Nat} {LM LE : CVal} {tM tE ts : List CVal} {iI iM iE : Nat} {h : CHeap} {v n' : Nat} {ty : List (Nat × Nat)} {x : CVal} (S : GS n0 (.imm (.own iI v) 1 ts) LM LE ts tM tE iI iM iE h) (hti : getEnt h.ents iI = some (.tok v)) (hip : iI ≠ 0) (hi0 : n0 ≤ iI) (hin : iI < h.next) (hn : h.next ≤ n') (ht : UnderT ty n') :
    GS n0 (.imm (.own iI (v + 1)) 1 (ts ++ [x])) (LM) (LE) (ts ++ [x]) tM tE iI iM iE ⟨setEnt h.ents iI (.tok (v + 1)), n', ty⟩ := by
  have hn1 := S.n1; have hnn := S.nn
  have keep : ∀ i, i ≠ iI → i ≠ 0 → i ≠ 0 → i < h.next → getEnt (setEnt h.ents iI (.tok (v + 1))) i = getEnt h.ents i := fun i h0 h1 h2 h3 => getEnt_setEnt_ne h0
  exact {
    sI := .inr ⟨v + 1, rfl, by simp, sy_getEnt_setEnt hti, hip, hip, hi0, by (try dsimp only); omega⟩
    sM := S.sM.keep (by (try dsimp only); omega) (by
      rcases S.dIM with e | e | e
      · cases e
      · exact .inl e
      · exact .inr (keep _ (fun h => e h.symm)))
    sE := S.sE.keep (by (try dsimp only); omega) (by
      rcases S.dIE with e | e | e
      · cases e
      · exact .inl e
      · exact .inr (keep _ (fun h => e h.symm)))
    dIM := by
      rcases S.dIM with e | e | e
      · cases e
      · exact .inr (.inl e)
      · exact .inr (.inr e)
    dIE := by
      rcases S.dIE with e | e | e
      · cases e
      · exact .inr (.inl e)
      · exact .inr (.inr e)
    dME := S.dME
    n1 := hn1
    nn := by (try dsimp only); omega
    f := ⟨S.f.1.set.le hn, ht⟩ }

theorem GS.nilM {n0 : Nat} {LI LE : CVal} {tI tM tE : List CVal} {iI iM iE : Nat} {h : CHeap} {z n' : Nat} {ty : List (Nat × Nat)} {x : CVal} (S : GS n0 LI .nils LE tI tM tE iI iM iE h) (hz : h.next ≤ z) (hn : z < n') (ht : UnderT ty n') :
    GS n0 (LI) (.imm (.own z 0) 1 [x]) (LE) tI [x] tE iI z iE ⟨(z, .tok 0) :: h.ents, n', ty⟩ := by
  have hn1 := S.n1; have hnn := S.nn
  have keep : ∀ i, i ≠ 0 → i ≠ 0 → i < h.next → getEnt ((z, CObj.tok 0) :: h.ents) i = getEnt h.ents i := by
    intro i h1 h2 h3
    have hzi : (z == i) = false := by simp; omega
    simp only [getEnt, hzi, Bool.false_eq_true, if_false]
  exact {
    sM := .inr ⟨0, rfl, by simp, by simp [getEnt], by omega, by omega, by omega, hn⟩
    sI := S.sI.keep (by (try dsimp only); omega) (.inr (keep _))
    sE := S.sE.keep (by (try dsimp only); omega) (.inr (keep _))
    dIM := by
      by_cases hv : LI = .nils
      · exact .inl hv
      · have := S.sI.notnil hv; exact .inr (.inr (by omega))
    dME := by
      by_cases hv : LE = .nils
      · exact .inr (.inl hv)
      · have := S.sE.notnil hv; exact .inr (.inr (by omega))
    dIE := S.dIE
    n1 := hn1
    nn := by (try dsimp only); omega
    f := ⟨Under.cons hn (S.f.1.le (by (try dsimp only); omega)), ht⟩ }

theorem GS.ownM {n0 : Nat} {LI LE : CVal} {tI tE ts : List CVal} {iI iM iE : Nat} {h : CHeap} {v n' : Nat} {ty : List (Nat × Nat)} {x : CVal} (S : GS n0 LI (.imm (.own iM v) 1 ts) LE tI ts tE iI iM iE h) (hti : getEnt h.ents iM = some (.tok v)) (hip : iM ≠ 0) (hi0 : n0 ≤ iM) (hin : iM < h.next) (hn : h.next ≤ n') (ht : UnderT ty n') :
    GS n0 (LI) (.imm (.own iM (v + 1)) 1 (ts ++ [x])) (LE) tI (ts ++ [x]) tE iI iM iE ⟨setEnt h.ents iM (.tok (v + 1)), n', ty⟩ := by
  have hn1 := S.n1; have hnn := S.nn
  have keep : ∀ i, i ≠ iM → i ≠ 0 → i ≠ 0 → i < h.next → getEnt (setEnt h.ents iM (.tok (v + 1))) i = getEnt h.ents i := fun i h0 h1 h2 h3 => getEnt_setEnt_ne h0
  exact {
    sM := .inr ⟨v + 1, rfl, by simp, sy_getEnt_setEnt hti, hip, hip, hi0, by (try dsimp only); omega⟩
    sI := S.sI.keep (by (try dsimp only); omega) (by
      rcases S.dIM with e | e | e
      · exact .inl e
      · cases e
      · exact .inr (keep _ e))
    sE := S.sE.keep (by (try dsimp only); omega) (by
      rcases S.dME with e | e | e
      · cases e
      · exact .inl e
      · exact .inr (keep _ (fun h => e h.symm)))
    dIM := by
      rcases S.dIM with e | e | e
      · exact .inl e
      · cases e
      · exact .inr (.inr e)
    dME := by
      rcases S.dME with e | e | e
      · cases e
      · exact .inr (.inl e)
      · exact .inr (.inr e)
    dIE := S.dIE
    n1 := hn1
    nn := by (try dsimp only); omega
    f := ⟨S.f.1.set.le hn, ht⟩ }

theorem GS.nilE {n0 : Nat} {LI LM : CVal} {tI tM tE : List CVal} {iI iM iE : Nat} {h : CHeap} {z n' : Nat} {ty : List (Nat × Nat)} {x : CVal} (S : GS n0 LI LM .nils tI tM tE iI iM iE h) (hz : h.next ≤ z) (hn : z < n') (ht : UnderT ty n') :
    GS n0 (LI) (LM) (.imm (.own z 0) 1 [x]) tI tM [x] iI iM z ⟨(z, .tok 0) :: h.ents, n', ty⟩ := by
  have hn1 := S.n1; have hnn := S.nn
  have keep : ∀ i, i ≠ 0 → i ≠ 0 → i < h.next → getEnt ((z, CObj.tok 0) :: h.ents) i = getEnt h.ents i := by
    intro i h1 h2 h3
    have hzi : (z == i) = false := by simp; omega
    simp only [getEnt, hzi, Bool.false_eq_true, if_false]
  exact {
    sE := .inr ⟨0, rfl, by simp, by simp [getEnt], by omega, by omega, by omega, hn⟩
    sI := S.sI.keep (by (try dsimp only); omega) (.inr (keep _))
    sM := S.sM.keep (by (try dsimp only); omega) (.inr (keep _))
    dIE := by
      by_cases hv : LI = .nils
      · exact .inl hv
      · have := S.sI.notnil hv; exact .inr (.inr (by omega))
    dME := by
      by_cases hv : LM = .nils
      · exact .inl hv
      · have := S.sM.notnil hv; exact .inr (.inr (by omega))
    dIM := S.dIM
    n1 := hn1
    nn := by (try dsimp only); omega
    f := ⟨Under.cons hn (S.f.1.le (by (try dsimp only); omega)), ht⟩ }

theorem GS.ownE {n0 : Nat} {LI LM : CVal} {tI tM ts : List CVal} {iI iM iE : Nat} {h : CHeap} {v n' : Nat} {ty : List (Nat × Nat)} {x : CVal} (S : GS n0 LI LM (.imm (.own iE v) 1 ts) tI tM ts iI iM iE h) (hti : getEnt h.ents iE = some (.tok v)) (hip : iE ≠ 0) (hi0 : n0 ≤ iE) (hin : iE < h.next) (hn : h.next ≤ n') (ht : UnderT ty n') :
    GS n0 (LI) (LM) (.imm (.own iE (v + 1)) 1 (ts ++ [x])) tI tM (ts ++ [x]) iI iM iE ⟨setEnt h.ents iE (.tok (v + 1)), n', ty⟩ := by
  have hn1 := S.n1; have hnn := S.nn
  have keep : ∀ i, i ≠ iE → i ≠ 0 → i ≠ 0 → i < h.next → getEnt (setEnt h.ents iE (.tok (v + 1))) i = getEnt h.ents i := fun i h0 h1 h2 h3 => getEnt_setEnt_ne h0
  exact {
    sE := .inr ⟨v + 1, rfl, by simp, sy_getEnt_setEnt hti, hip, hip, hi0, by (try dsimp only); omega⟩
    sI := S.sI.keep (by (try dsimp only); omega) (by
      rcases S.dIE with e | e | e
      · exact .inl e
      · cases e
      · exact .inr (keep _ e))
    sM := S.sM.keep (by (try dsimp only); omega) (by
      rcases S.dME with e | e | e
      · exact .inl e
      · cases e
      · exact .inr (keep _ e))
    dIE := by
      rcases S.dIE with e | e | e
      · exact .inl e
      · cases e
      · exact .inr (.inr e)
    dME := by
      rcases S.dME with e | e | e
      · exact .inl e
      · cases e
      · exact .inr (.inr e)
    dIM := S.dIM
    n1 := hn1
    nn := by (try dsimp only); omega
    f := ⟨S.f.1.set.le hn, ht⟩ }

theorem lb_all {n0 : Nat} (xs : List Int) (hxs : ∀ x ∈ xs, 0 ≤ x ∧ x < 256) (hxl : xs.length ≤ 25) (Q : CExit → CSt → Prop) (v0 v2 v14 v15 v16 v17 v18 v19 v20 v21 v22 v23 : CVal) : ∀ (r : List Int) (i : Nat), xs.drop i = r → i + r.length = xs.length → ∀ (acc : List UInt8) (LI LM LE : CVal) (tI tM tE : List CVal) (iI iM iE : Nat) (v4 v5 v6 v8 v10 v12 : CVal) (h : CHeap), GS n0 LI LM LE tI tM tE iI iM iE h → acc.length ≤ 100 + 30 * i → tI.length ≤ i → tM.length ≤ i → tE.length ≤ i →
    (∀ LI' LM' LE' iI' iM' iE' w3 w4 w5 w6 w8 w10 w12 h', GS n0 LI' LM' LE' (tI ++ (cI (itsF i r)).map eI) (tM ++ (cM (itsF i r)).map eI) (tE ++ (cE (itsF i r)).map eI) iI' iM' iE' h' → h.next ≤ h'.next → Q (.exit 0) ⟨[v0, .imm .none 1 (xs.map (CVal.int .u8)), v2, w3, w4, w5, w6, .str (acc ++ (itsF i r).flatMap txt), w8, LI', w10, LM', w12, LE', v14, v15, v16, v17, v18, v19, v20, v21, v22, v23], h', []⟩) →
    W tree.getF lbLoop ⟨[v0, .imm .none 1 (xs.map (CVal.int .u8)), v2, .int .i64 (i : Int), v4, v5, v6, .str acc, v8, LI, v10, LM, v12, LE, v14, v15, v16, v17, v18, v19, v20, v21, v22, v23], h, []⟩ Q := by
  intro r
  induction r with
  | nil =>
    intro i hdr hlen acc LI LM LE tI tM tE iI iM iE v4 v5 v6 v8 v10 v12 h S hacc kI kM kE hk
    refine lb_end xs i (by simp at hlen; omega) Q LI LM LE (.str acc) v0 v2 v14 v15 v16 v17 v18 v19 v20 v21 v22 v23 v4 v5 v6 v8 v10 v12 h S.f ?_
    intro n' ty w4 g1 g2
    have := hk LI LM LE iI iM iE (.int .i64 (i : Int)) w4 v5 v6 v8 v10 v12 ⟨h.ents, n', ty⟩ (by simpa [itsF, cI, cM, cE] using S.semi g1 g2) g1
    simpa [itsF] using this
  | cons x r ih =>
    intro i hdr hlen acc LI LM LE tI tM tE iI iM iE v4 v5 v6 v8 v10 v12 h S hacc kI kM kE hk
    simp only [List.length_cons] at hlen
    have hx : xs[i]? = some x := by
      have := congrArg List.head? hdr
      simpa using this
    have hdr1 : xs.drop (i + 1) = r := by
      have := congrArg (List.drop 1) hdr
      rw [List.drop_drop] at this
      simpa using this
    have hx0 := hxs x (List.mem_of_getElem? hx)
    have hm0 := Int.tmod_nonneg 4 hx0.1
    have hm1 := Int.tmod_lt_of_pos x (show (0 : Int) < 4 by omega)
    by_cases h0 : x.tmod 4 = 0
    ·
      have hit : itOf x i = It.imp (nmC i) := by unfold itOf; rw [if_pos h0]
      have hlen : (txt (It.imp (nmC i))).length ≤ 30 := by simp [txt]
      rcases S.sI with ⟨rfl, rfl⟩ | ⟨vq, rfl, _, hti, hip, _, hi0, hin⟩
      · refine lb_imp_n xs i x hx hx0 (by omega) acc (by omega) h0 (nmC i) rfl LM LE Q v0 v2 v14 v15 v16 v17 v18 v19 v20 v21 v22 v23 v4 v5 v6 v8 v10 v12 h S.f ?_
        intro z n' ty w4 w5 w6 w8 w10 w12 g1 g2 g3
        have e4 : ((i : Int) + 1) = ((i + 1 : Nat) : Int) := by omega
        rw [e4]
        refine ih (i + 1) hdr1 (by omega) _ _ _ _ _ _ _ _ _ _ _ _ _ _ _ _ _ (S.nilI (x := .str [nmC i]) g1 g2 g3) (by simp; omega) (by (try simp) <;> omega) (by (try simp) <;> omega) (by (try simp) <;> omega) ?_
        intro LI' LM' LE' iI' iM' iE' w3 w4 w5 w6 w8 w10 w12 h' S' g'
        have := hk LI' LM' LE' iI' iM' iE' w3 w4 w5 w6 w8 w10 w12 h' (by simpa [itsF, hit, cI, cM, cE, List.append_assoc] using S') (by (try dsimp only at g'); omega)
        simpa [itsF, hit, txt, List.append_assoc] using this
      · refine lb_imp_o xs i x hx hx0 (by omega) acc (by omega) h0 (nmC i) rfl LM LE Q v0 v2 v14 v15 v16 v17 v18 v19 v20 v21 v22 v23 v4 v5 v6 v8 v10 v12 h S.f _ vq tI (by omega) hti hin ?_
        intro n' ty w4 w5 w6 w8 w10 w12 g1 g3
        have e4 : ((i : Int) + 1) = ((i + 1 : Nat) : Int) := by omega
        rw [e4]
        refine ih (i + 1) hdr1 (by omega) _ _ _ _ _ _ _ _ _ _ _ _ _ _ _ _ _ (S.ownI (x := .str [nmC i]) hti hip hi0 hin g1 g3) (by simp; omega) (by (try simp) <;> omega) (by (try simp) <;> omega) (by (try simp) <;> omega) ?_
        intro LI' LM' LE' iI' iM' iE' w3 w4 w5 w6 w8 w10 w12 h' S' g'
        have := hk LI' LM' LE' iI' iM' iE' w3 w4 w5 w6 w8 w10 w12 h' (by simpa [itsF, hit, cI, cM, cE, List.append_assoc] using S') (by (try dsimp only at g'); omega)
        simpa [itsF, hit, txt, List.append_assoc] using this
    by_cases h1 : x.tmod 4 = 1
    ·
      have hit : itOf x i = It.msg (nmC i) := by unfold itOf; rw [if_neg h0, if_pos h1]
      have hlen : (txt (It.msg (nmC i))).length ≤ 30 := by simp [txt]
      rcases S.sM with ⟨rfl, rfl⟩ | ⟨vq, rfl, _, hti, hip, _, hi0, hin⟩
      · refine lb_msg_n xs i x hx hx0 (by omega) acc (by omega) h1 (nmC i) rfl LI LE Q v0 v2 v14 v15 v16 v17 v18 v19 v20 v21 v22 v23 v4 v5 v6 v8 v10 v12 h S.f ?_
        intro z n' ty w4 w5 w6 w8 w10 w12 g1 g2 g3
        have e4 : ((i : Int) + 1) = ((i + 1 : Nat) : Int) := by omega
        rw [e4]
        refine ih (i + 1) hdr1 (by omega) _ _ _ _ _ _ _ _ _ _ _ _ _ _ _ _ _ (S.nilM (x := .str [nmC i]) g1 g2 g3) (by simp; omega) (by (try simp) <;> omega) (by (try simp) <;> omega) (by (try simp) <;> omega) ?_
        intro LI' LM' LE' iI' iM' iE' w3 w4 w5 w6 w8 w10 w12 h' S' g'
        have := hk LI' LM' LE' iI' iM' iE' w3 w4 w5 w6 w8 w10 w12 h' (by simpa [itsF, hit, cI, cM, cE, List.append_assoc] using S') (by (try dsimp only at g'); omega)
        simpa [itsF, hit, txt, List.append_assoc] using this
      · refine lb_msg_o xs i x hx hx0 (by omega) acc (by omega) h1 (nmC i) rfl LI LE Q v0 v2 v14 v15 v16 v17 v18 v19 v20 v21 v22 v23 v4 v5 v6 v8 v10 v12 h S.f _ vq tM (by omega) hti hin ?_
        intro n' ty w4 w5 w6 w8 w10 w12 g1 g3
        have e4 : ((i : Int) + 1) = ((i + 1 : Nat) : Int) := by omega
        rw [e4]
        refine ih (i + 1) hdr1 (by omega) _ _ _ _ _ _ _ _ _ _ _ _ _ _ _ _ _ (S.ownM (x := .str [nmC i]) hti hip hi0 hin g1 g3) (by simp; omega) (by (try simp) <;> omega) (by (try simp) <;> omega) (by (try simp) <;> omega) ?_
        intro LI' LM' LE' iI' iM' iE' w3 w4 w5 w6 w8 w10 w12 h' S' g'
        have := hk LI' LM' LE' iI' iM' iE' w3 w4 w5 w6 w8 w10 w12 h' (by simpa [itsF, hit, cI, cM, cE, List.append_assoc] using S') (by (try dsimp only at g'); omega)
        simpa [itsF, hit, txt, List.append_assoc] using this
    by_cases h2 : x.tmod 4 = 2
    ·
      have hit : itOf x i = It.enu (nmC i) := by unfold itOf; rw [if_neg h0, if_neg h1, if_pos h2]
      have hlen : (txt (It.enu (nmC i))).length ≤ 30 := by simp [txt]
      rcases S.sE with ⟨rfl, rfl⟩ | ⟨vq, rfl, _, hti, hip, _, hi0, hin⟩
      · refine lb_enu_n xs i x hx hx0 (by omega) acc (by omega) h2 (nmC i) rfl LI LM Q v0 v2 v14 v15 v16 v17 v18 v19 v20 v21 v22 v23 v4 v5 v6 v8 v10 v12 h S.f ?_
        intro z n' ty w4 w5 w6 w8 w10 w12 g1 g2 g3
        have e4 : ((i : Int) + 1) = ((i + 1 : Nat) : Int) := by omega
        rw [e4]
        refine ih (i + 1) hdr1 (by omega) _ _ _ _ _ _ _ _ _ _ _ _ _ _ _ _ _ (S.nilE (x := .str [nmC i]) g1 g2 g3) (by simp; omega) (by (try simp) <;> omega) (by (try simp) <;> omega) (by (try simp) <;> omega) ?_
        intro LI' LM' LE' iI' iM' iE' w3 w4 w5 w6 w8 w10 w12 h' S' g'
        have := hk LI' LM' LE' iI' iM' iE' w3 w4 w5 w6 w8 w10 w12 h' (by simpa [itsF, hit, cI, cM, cE, List.append_assoc] using S') (by (try dsimp only at g'); omega)
        simpa [itsF, hit, txt, List.append_assoc] using this
      · refine lb_enu_o xs i x hx hx0 (by omega) acc (by omega) h2 (nmC i) rfl LI LM Q v0 v2 v14 v15 v16 v17 v18 v19 v20 v21 v22 v23 v4 v5 v6 v8 v10 v12 h S.f _ vq tE (by omega) hti hin ?_
        intro n' ty w4 w5 w6 w8 w10 w12 g1 g3
        have e4 : ((i : Int) + 1) = ((i + 1 : Nat) : Int) := by omega
        rw [e4]
        refine ih (i + 1) hdr1 (by omega) _ _ _ _ _ _ _ _ _ _ _ _ _ _ _ _ _ (S.ownE (x := .str [nmC i]) hti hip hi0 hin g1 g3) (by simp; omega) (by (try simp) <;> omega) (by (try simp) <;> omega) (by (try simp) <;> omega) ?_
        intro LI' LM' LE' iI' iM' iE' w3 w4 w5 w6 w8 w10 w12 h' S' g'
        have := hk LI' LM' LE' iI' iM' iE' w3 w4 w5 w6 w8 w10 w12 h' (by simpa [itsF, hit, cI, cM, cE, List.append_assoc] using S') (by (try dsimp only at g'); omega)
        simpa [itsF, hit, txt, List.append_assoc] using this
    have h3 : x.tmod 4 = 3 := by omega
    have hit : itOf x i = It.semi := by unfold itOf; rw [if_neg h0, if_neg h1, if_neg h2]
    have hlen : (txt (It.semi)).length ≤ 30 := by simp [txt]
    refine lb_semi xs i x hx hx0 (by omega) acc (by omega) h3 (nmC i) rfl LI LM LE Q v0 v2 v14 v15 v16 v17 v18 v19 v20 v21 v22 v23 v4 v5 v6 v8 v10 v12 h S.f ?_
    intro n' ty w4 w5 w6 w8 w10 w12 g1 g3
    have e4 : ((i : Int) + 1) = ((i + 1 : Nat) : Int) := by omega
    rw [e4]
    refine ih (i + 1) hdr1 (by omega) _ _ _ _ _ _ _ _ _ _ _ _ _ _ _ _ _ (S.semi g1 g3) (by simp; omega) (by (try simp) <;> omega) (by (try simp) <;> omega) (by (try simp) <;> omega) ?_
    intro LI' LM' LE' iI' iM' iE' w3 w4 w5 w6 w8 w10 w12 h' S' g'
    have := hk LI' LM' LE' iI' iM' iE' w3 w4 w5 w6 w8 w10 w12 h' (by simpa [itsF, hit, cI, cM, cE, List.append_assoc] using S') (by (try dsimp only at g'); omega)
    simpa [itsF, hit, txt, List.append_assoc] using this

end Go.Proofs.YtjecpdnjpggcoaaGreatDoor.IrO
namespace Go.Proofs.YtjecpdnjpggcoaaGreatDoor.IrO
open Go Go.CI
open Go.LexF hiding spacesB lettersB
set_option maxRecDepth 100000
set_option linter.unusedVariables false
set_option linter.unusedSimpArgs false
attribute [local irreducible] W Wo Wc WoR
attribute [local simp] goR regOut checkOne swapOne sameAt nthOp CVal.beq beqs CVal.block storesTo entryC evalOps evalOper evalE evalP evalL evalOpnd nth setNth COp.cls COp.isStore CVal.isUndef CVal.whole CVal.cells CHeap.put CHeap.get CHeap.set wantedC getEnt setEnt partOf writeBack evalBin evalInt evalStr blockMost initVar descOf List.take List.drop CVal.lenOf CVal.isStr CVal.bare CVal.strip CVal.flat endsC resultsC oneOrTuple finishC cut fillCells setCells szOf szOf_desc elems bytesOf evalAppend fillElems mkElem setElem List.replicate sy_nbeq sy_neqF sy_leT sy_leF sy_setEnt_setEnt dropped sy_wrap64 dropEnts dropCells sizeMost sy_ibeqF sy_ieqF sy_ileT sy_ileF sy_iltT sy_iltF sy_ltT sy_ltF evalSlc optBound eqVal extL extE keyIs findKV nthKV setKV CHeap.ty lookupN CHeap.note CHeap.tyOk dropAll freezeVal freezeAll freezeFlat cellsEq cellEq pCopyCheck pBString pMakeNoZero pIndexByte pClone pIndex hasPair rowOf byteVals idxFrom hasFront idxSub
theorem wTM1 {P : Prop} (h : P := by refine Wc.mkG 9 c9 (by kernel_rfl) rfl ?_; generalize e : entryC _ _ _ = r; simp (disch := omega) [hX, hg, hY, c9] at e; subst e; repeat (first | refine sq_ ?_ | refine bl_ ?_ | ((first | refine rg_ ?_ | refine go_ ?_); generalize e : goR _ _ _ _ _ _ _ _ = r; simp (disch := omega) [hX, hg, hY, List.length_map, c9] at e; replace e : some _ = _ := e; subst e; (try dsimp only [goW])) | refine ct_ rfl ?_ | refine cf_ rfl ?_ | refine sk_ ?_ | refine ex_ ?_ | ((first | (refine W.ret ?_; (try simp only [outOf, thenW_ret, roundW]); refine endW.of (.inl rfl) rfl ?_) | refine endW.of (.inr rfl) rfl ?_); generalize e : endsC _ _ _ = r; simp (disch := omega) [hX, hg, hY, List.length_map, c9] at e; subst e; (try dsimp only [goW]); (refine hk _ _ ?_ ?_; omega; exact ut_)))) : P := h

/-- A list of bytes, nil or not. -/
def Nums (L : CVal) (len : Nat) : Prop := L = .nils ∧ len = 0 ∨ ∃ xs : List Int, L = .imm .none 1 (xs.map (CVal.int .u8)) ∧ xs.length = len ∧ ∀ x ∈ xs, 0 ≤ x ∧ x < 256
abbrev pk (L : CVal) (n : Int) : CObj := .cells [L, .int .i64 n]

theorem num_nil (n m : Int) (hm : 1 ≤ m) (hm2 : m ≤ 200) (hn0 : 0 ≤ n)  (h : CHeap) (p d : Nat) (hf : Fit h) (hg : getEnt h.ents p = some (pk (.nils) n)) (hp : p < h.next) (K : CVal → CHeap → Prop) (hk : ∀ n2 ty, h.next ≤ n2 → UnderT ty n2 → K (.int .i64 0) ⟨h.ents, n2, ty⟩) : Wc tree.getF 9 [.ptr p d 0, .int .i64 m] h K := by
  obtain ⟨hu, hut, hX⟩ := fx4 hf
  have hY := fx5 hf hg
  exact wTM1

theorem num_end (n m : Int) (hm : 1 ≤ m) (hm2 : m ≤ 200)  (xs : List Int) (hxl : xs.length ≤ 1000) (hn : (xs.length : Int) ≤ n) (h : CHeap) (p d : Nat) (hf : Fit h) (hg : getEnt h.ents p = some (pk (.imm .none 1 (xs.map (CVal.int .u8))) n)) (hp : p < h.next) (K : CVal → CHeap → Prop) (hk : ∀ n2 ty, h.next ≤ n2 → UnderT ty n2 → K (.int .i64 0) ⟨h.ents, n2, ty⟩) : Wc tree.getF 9 [.ptr p d 0, .int .i64 m] h K := by
  obtain ⟨hu, hut, hX⟩ := fx4 hf
  have hY := fx5 hf hg
  exact wTM1

theorem num_more (n m : Int) (hm : 1 ≤ m) (hm2 : m ≤ 200)  (xs : List Int) (hxl : xs.length ≤ 1000) (j : Nat) (hj : n = (j : Int)) (x : Int) (hx : xs[j]? = some x) (hx0 : 0 ≤ x ∧ x < 256) (v : Int) (hv : x.tmod m = v) (h : CHeap) (p d : Nat) (hf : Fit h) (hg : getEnt h.ents p = some (pk (.imm .none 1 (xs.map (CVal.int .u8))) n)) (hp : p < h.next) (K : CVal → CHeap → Prop) (hk : ∀ n2 ty, h.next ≤ n2 → UnderT ty n2 → K (.int .i64 v) ⟨setEnt h.ents p (pk (.imm .none 1 (xs.map (CVal.int .u8))) (n + 1)), n2, ty⟩) : Wc tree.getF 9 [.ptr p d 0, .int .i64 m] h K := by
  obtain ⟨hu, hut, hX⟩ := fx4 hf
  have hY := fx5 hf hg
  obtain ⟨hjl, hjx⟩ := List.getElem?_eq_some_iff.1 hx
  have hn := nth_mapG (CVal.int .u8) xs j _ hx
  have hm0 : ¬ m = 0 := by omega
  have hjn : n.toNat = j := by omega
  have hj1 : (n + 1 - 1).toNat = j := by omega
  have hjj : ((j : Nat) : Int).toNat = j := by omega
  have hnw : n + 1 - 1 = n := by omega
  refine Wc.mkG 9 c9 (by kernel_rfl) rfl ?_
  generalize e : entryC _ _ _ = r
  simp (disch := omega) [hX, hg, hY, c9] at e
  subst e
  repeat (first | refine sq_ ?_ | refine bl_ ?_ | ((first | refine rg_ ?_ | refine go_ ?_); generalize e : goR _ _ _ _ _ _ _ _ = r; simp (disch := omega) [hX, hg, hY, List.length_map, hn, hv, hm0, hjn, hj1, hjj, hnw, c9] at e; replace e : some _ = _ := e; subst e; (try dsimp only [goW])) | refine ct_ rfl ?_ | refine cf_ rfl ?_ | refine sk_ ?_ | refine ex_ ?_ | ((first | (refine W.ret ?_; (try simp only [outOf, thenW_ret, roundW]); refine endW.of (.inl rfl) rfl ?_) | refine endW.of (.inr rfl) rfl ?_); generalize e : endsC _ _ _ = r; simp (disch := omega) [hX, hg, hY, List.length_map, hn, hv, hm0, hjn, hj1, hjj, hnw, c9] at e; subst e; (try dsimp only [goW]); (refine hk _ _ ?_ ?_; omega; exact ut_)))

theorem num_L (L : CVal) (len : Nat) (hL : Nums L len) (hlen : len ≤ 1000) (n m : Int) (hn0 : 0 ≤ n) (hm : 1 ≤ m) (hm2 : m ≤ 200) (h : CHeap) (p d : Nat) (hf : Fit h) (hg : getEnt h.ents p = some (pk L n)) (hp : p < h.next) (K : CVal → CHeap → Prop)
    (hk : ∀ n2 ty v n', h.next ≤ n2 → UnderT ty n2 → 0 ≤ v → v < m → 0 ≤ n' → K (.int .i64 v) ⟨setEnt h.ents p (pk L n'), n2, ty⟩) : Wc tree.getF 9 [.ptr p d 0, .int .i64 m] h K := by
  have same : ∀ n2 ty, h.next ≤ n2 → UnderT ty n2 → K (.int .i64 0) ⟨h.ents, n2, ty⟩ := by
    intro n2 ty h1 h2
    have := hk n2 ty 0 n h1 h2 (by omega) (by omega) hn0
    rwa [setEnt_same hg] at this
  rcases hL with ⟨rfl, rfl⟩ | ⟨xs, rfl, rfl, hxs⟩
  · exact num_nil n m hm hm2 hn0 h p d hf hg hp K same
  · by_cases hn : (xs.length : Int) ≤ n
    · exact num_end n m hm hm2 xs (by omega) hn h p d hf hg hp K same
    · obtain ⟨j, hj⟩ : ∃ j : Nat, n = (j : Int) := ⟨n.toNat, by omega⟩
      have hjl : j < xs.length := by omega
      have hx : xs[j]? = some xs[j] := List.getElem?_eq_getElem hjl
      have hx0 := hxs _ (List.getElem_mem hjl)
      refine num_more n m hm hm2 xs (by omega) j hj _ hx hx0 _ rfl h p d hf hg hp K ?_
      intro n2 ty h1 h2
      exact hk n2 ty _ _ h1 h2 (Int.tmod_nonneg _ hx0.1) (Int.tmod_lt_of_pos _ (by omega)) (by omega)

end Go.Proofs.YtjecpdnjpggcoaaGreatDoor.IrO
namespace Go.Proofs.YtjecpdnjpggcoaaGreatDoor.IrO
open Go Go.CI
open Go.LexF hiding spacesB lettersB
set_option maxRecDepth 100000
set_option maxHeartbeats 4000000
set_option linter.unusedVariables false
set_option linter.unusedSimpArgs false
attribute [local irreducible] W Wo Wc WoR
attribute [local simp] goR regOut checkOne swapOne sameAt nthOp CVal.beq beqs CVal.block storesTo entryC evalOps evalOper evalE evalP evalL evalOpnd nth setNth COp.cls COp.isStore CVal.isUndef CVal.whole CVal.cells CHeap.put CHeap.get CHeap.set wantedC getEnt setEnt partOf writeBack evalBin evalInt evalStr blockMost initVar descOf List.take List.drop CVal.lenOf CVal.isStr CVal.bare CVal.strip CVal.flat endsC resultsC oneOrTuple finishC cut fillCells setCells szOf szOf_desc elems bytesOf evalAppend fillElems mkElem setElem List.replicate sy_nbeq sy_neqF sy_leT sy_leF sy_setEnt_setEnt dropped sy_wrap64 dropEnts dropCells sizeMost sy_ibeqF sy_ieqF sy_ileT sy_ileF sy_iltT sy_iltF sy_ltT sy_ltF evalSlc optBound eqVal extL extE keyIs findKV nthKV setKV CHeap.ty lookupN CHeap.note CHeap.tyOk dropAll freezeVal freezeAll freezeFlat cellsEq cellEq pCopyCheck pBString pMakeNoZero pIndexByte pClone pIndex hasPair rowOf byteVals idxFrom hasFront idxSub
def LetI : It → Prop
  | .imp c => ∃ j, j ≤ 24 ∧ c = nmC j
  | .msg c => ∃ j, j ≤ 24 ∧ c = nmC j
  | .enu c => ∃ j, j ≤ 24 ∧ c = nmC j
  | .semi => True
theorem nmC_ne (j : Nat) (hj : j ≤ 24) : nmC j ≠ 46 := by
  intro e
  have h := congrArg UInt8.toNat e
  unfold nmC at h
  rw [UInt8.toNat_ofNat', Nat.mod_eq_of_lt (by omega)] at h
  have : (46 : UInt8).toNat = 46 := rfl
  omega
theorem LetI.ok {it : It} (h : LetI it) : okI it := by
  cases it with
  | imp c => trivial
  | msg c => obtain ⟨j, hj, rfl⟩ := h; exact nmC_ne j hj
  | enu c => obtain ⟨j, hj, rfl⟩ := h; exact nmC_ne j hj
  | semi => trivial
theorem itsF_let : ∀ (r : List Int) (i : Nat), i + r.length ≤ 25 → ∀ it ∈ itsF i r, LetI it
  | [], _, _, it, h => by cases h
  | x :: r, i, hl, it, h => by
    simp only [List.length_cons] at hl
    rcases List.mem_cons.1 h with rfl | h
    · unfold itOf
      split
      · exact ⟨i, by omega, rfl⟩
      · split
        · exact ⟨i, by omega, rfl⟩
        · split
          · exact ⟨i, by omega, rfl⟩
          · trivial
    · exact itsF_let r (i + 1) (by omega) it h
theorem itsF_len : ∀ (r : List Int) (i : Nat), (itsF i r).length = r.length
  | [], _ => rfl
  | x :: r, i => by simp only [itsF, List.length_cons, itsF_len r]
theorem cI_len : ∀ its : List It, (cI its).length ≤ its.length ∧ (cM its).length ≤ its.length ∧ (cE its).length ≤ its.length
  | [] => by simp [cI, cM, cE]
  | it :: r => by have := cI_len r; cases it <;> simp [cI, cM, cE] <;> omega
/-- What the lexer does with such a text. -/
def LexH : Prop := ∀ its : List It, (∀ it ∈ its, LetI it) → its.length ≤ 25 → ∃ l : List Tok, l.length < 100000 ∧ l.map strip = [(1, [115, 121, 110, 116, 97, 120], 0), (4, [61], 0), (3, [112, 114, 111, 116, 111, 51], 0), (4, [59], 0)] ++ (its.flatMap itT ++ [(5, [], 0)]) ∧ Pu tree.getF 12 [.str ([115, 121, 110, 116, 97, 120, 61, 39, 112, 114, 111, 116, 111, 51, 39, 59] ++ its.flatMap txt)] (.tup [.imm .none 4 (l.map tokV), .int .i64 0, .int .i64 0])
theorem map_ne {cs : List UInt8} {f g : UInt8 → CVal} (h : cs.map f ≠ []) : cs.map g ≠ [] := by cases cs with | nil => exact absurd rfl h | cons a r => simp
theorem map_nil {cs : List UInt8} {f : UInt8 → CVal} (h : cs.map f = []) : cs = [] := by cases cs with | nil => rfl | cons a r => simp at h

theorem law_long (xs : List Int) (hl : 25 < xs.length) : Wc tree.getF 4 [.imm .none 1 (xs.map (CVal.int .u8))] noHeap fun v _ => v = .bool true := by
  refine Wc.mkG 4 c4 (by kernel_rfl) rfl ?_
  generalize e : entryC _ _ _ = r
  simp (disch := omega) [noHeap, List.length_map, sy_ibneT, sy_ibneF, sy_ibeqT, c4] at e
  subst e
  repeat (first | refine sq_ ?_ | refine bl_ ?_ | ((first | refine rg_ ?_ | refine go_ ?_); generalize e : goR _ _ _ _ _ _ _ _ = r; simp (disch := omega) [noHeap, List.length_map, sy_ibneT, sy_ibneF, sy_ibeqT, c4] at e; replace e : some _ = _ := e; subst e; (try dsimp only [goW])) | refine ct_ rfl ?_ | refine cf_ rfl ?_ | refine sk_ ?_ | refine ex_ ?_ | (refine wc_start (m := 1000000) (by kernel_rfl) fun n1 ty1 hn1 hut1 => ⟨rfl, ?_⟩) | ((first | (refine W.ret ?_; (try simp only [outOf, thenW_ret, roundW]); refine endW.of (.inl rfl) rfl ?_) | refine endW.of (.inr rfl) rfl ?_); generalize e : endsC _ _ _ = r; simp (disch := omega) [noHeap, List.length_map, sy_ibneT, sy_ibneF, sy_ibeqT, c4] at e; subst e; (try dsimp only [goW]); (all_goals rfl)))

theorem law_n (H : LexH) : Wc tree.getF 4 [.nils] noHeap fun v _ => v = .bool true := by
  obtain ⟨l, hll, hst, LX⟩ := H [] (by simp) (by simp)
  obtain ⟨its, hits⟩ : ∃ its : List It, its = [] := ⟨[], rfl⟩
  rw [← hits] at hst LX
  have hok : ∀ it ∈ its, okI it := by rw [hits]; simp
  have hlen : its.length ≤ 25 := by rw [hits]; simp
  have hcl := cI_len its
  rw [show [115, 121, 110, 116, 97, 120, 61, 39, 112, 114, 111, 116, 111, 51, 39, 59] ++ its.flatMap txt = [115, 121, 110, 116, 97, 120, 61, 39, 112, 114, 111, 116, 111, 51, 39, 59] by rw [hits]; rfl] at LX
  obtain ⟨LI', hLI⟩ : ∃ L, L = CVal.nils := ⟨_, rfl⟩
  have hNI : Nl .nils (cI its) := .inl ⟨rfl, by rw [hits]; rfl⟩
  have hz1 : (cI its).map eI = [] := by rw [hits]; rfl
  have hz2 : (cM its).map eM = [] := by rw [hits]; rfl
  have hz3 : (cE its).map eE = [] := by rw [hits]; rfl
  refine Wc.mkG 4 c4 (by kernel_rfl) rfl ?_
  generalize e : entryC _ _ _ = r
  simp (disch := omega) [noHeap, List.length_map, sy_ibneT, sy_ibneF, sy_ibeqT, c4] at e
  subst e
  repeat (first | refine sq_ ?_ | refine bl_ ?_ | ((first | refine rg_ ?_ | refine go_ ?_); generalize e : goR _ _ _ _ _ _ _ _ = r; simp (disch := omega) [noHeap, List.length_map, sy_ibneT, sy_ibneF, sy_ibeqT, c8, c4] at e; replace e : some _ = _ := e; subst e; (try dsimp only [goW])) | refine ct_ rfl ?_ | refine cf_ rfl ?_ | refine sk_ ?_ | refine ex_ ?_ | (refine W.loop ?_; try (generalize e : dropped _ _ _ = r; simp (disch := omega) [noHeap, List.length_map, sy_ibneT, sy_ibneF, sy_ibeqT, c8, c4] at e; subst e; try dsimp only)) | (refine wc_start (m := 1000000) (by kernel_rfl) fun n1 ty1 hn1 hut1 => ⟨rfl, ?_⟩) | (refine parse_P _ l hll LX its hst hok hlen _ ?_ _ fun n9 ty9 RI RM RE hn9 hun9 hRI hRM hRE => ⟨rfl, ?_⟩; (focus (((refine ⟨?_, ?_⟩; (focus ((repeat (first | refine Under.cons (by (try dsimp only); omega) ?_ | exact Under.nil)); done)); (focus ((repeat (first | refine UnderT.cons (by (try dsimp only); omega) ?_ | exact UnderT.nil | assumption | exact UnderT.le (by assumption) (by (try dsimp only); omega))); done)))); done)); (try dsimp only at hn9); have SP := same_P (cI its) (by omega) RI _ hRI hNI; obtain ⟨RI0, hRI0⟩ : ∃ x, x = RI := ⟨_, rfl⟩; obtain ⟨RM0, hRM0⟩ : ∃ x, x = RM := ⟨_, rfl⟩; obtain ⟨RE0, hRE0⟩ : ∃ x, x = RE := ⟨_, rfl⟩; (rcases hRI with ⟨rfl, yI⟩ | ⟨rfl, yI⟩ <;> (try (exfalso; exact yI hz1)) <;> rcases hRM with ⟨rfl, yM⟩ | ⟨rfl, yM⟩ <;> (try (exfalso; exact yM hz2)) <;> rcases hRE with ⟨rfl, yE⟩ | ⟨rfl, yE⟩ <;> (try (exfalso; exact yE hz3)))) | (refine SP _ ?_ _ fun n10 tyn10 hn10 hun10 => ⟨rfl, ?_⟩; (focus (((refine ⟨?_, ?_⟩; (focus ((repeat (first | refine Under.cons (by (try dsimp only); omega) ?_ | exact Under.nil)); done)); (focus ((repeat (first | refine UnderT.cons (by (try dsimp only); omega) ?_ | exact UnderT.nil | assumption | exact UnderT.le (by assumption) (by (try dsimp only); omega))); done)))); done)); (try dsimp only at hn10)) | (refine num_L .nils 0 (.inl ⟨rfl, rfl⟩) (by omega) 0 1 (by omega) (by omega) (by omega) _ _ _ ?_ ?_ ?_ _ fun n70 ty70 v70 j70 hn70 hun70 hv70 hw70 hj70 => ⟨rfl, ?_⟩; (focus (((refine ⟨?_, ?_⟩; (focus ((repeat (first | refine Under.cons (by (try dsimp only); omega) ?_ | exact Under.nil)); done)); (focus ((repeat (first | refine UnderT.cons (by (try dsimp only); omega) ?_ | exact UnderT.nil | assumption | exact UnderT.le (by assumption) (by (try dsimp only); omega))); done)))); done)); (focus (((simp (disch := omega) [getEnt, sy_nbeq, sy_neqF])); done)); (try dsimp only); omega; (try dsimp only at hn70); (obtain rfl : v70 = 0 := by omega)) | (simp only [thenW_exit, roundW, outOf, reduceIte]; (try simp only [thenW_normal])) | (refine Wc.mkG 8 c8 (by kernel_rfl) rfl ?_; generalize e : entryC _ _ _ = r; simp (disch := omega) [noHeap, List.length_map, sy_ibneT, sy_ibneF, sy_ibeqT, c8, c4] at e; subst e) | ((first | (refine W.ret ?_; (try simp only [outOf, thenW_ret, roundW]); refine endW.of (.inl rfl) rfl ?_) | refine endW.of (.inr rfl) rfl ?_); generalize e : endsC _ _ _ = r; simp (disch := omega) [noHeap, List.length_map, sy_ibneT, sy_ibneF, sy_ibeqT, c8, c4] at e; subst e; (try dsimp only [goW]); (first | refine ⟨rfl, ?_⟩ | (all_goals rfl))))

theorem law_l (H : LexH) (xs : List Int) (hxs : ∀ x ∈ xs, 0 ≤ x ∧ x < 256) (hxl : xs.length ≤ 25) : Wc tree.getF 4 [(.imm .none 1 (xs.map (CVal.int .u8)))] noHeap fun v _ => v = .bool true := by
  obtain ⟨its, hits⟩ : ∃ its, itsF 0 xs = its := ⟨_, rfl⟩
  have hil : its.length = xs.length := by rw [← hits]; exact itsF_len xs 0
  have hlet := itsF_let xs 0 (by omega)
  rw [hits] at hlet
  obtain ⟨l, hll, hst, LX⟩ := H its hlet (by omega)
  have hok : ∀ it ∈ its, okI it := fun it hi => (hlet it hi).ok
  have hlen : its.length ≤ 25 := by omega
  have hcl := cI_len its
  refine Wc.mkG 4 c4 (by kernel_rfl) rfl ?_
  generalize e : entryC _ _ _ = r
  simp (disch := omega) [noHeap, List.length_map, sy_ibneT, sy_ibneF, sy_ibeqT, c4] at e
  subst e
  repeat (first | refine sq_ ?_ | refine bl_ ?_ | ((first | refine rg_ ?_ | refine go_ ?_); generalize e : goR _ _ _ _ _ _ _ _ = r; simp (disch := omega) [noHeap, List.length_map, sy_ibneT, sy_ibneF, sy_ibeqT] at e; replace e : some _ = _ := e; subst e; (try dsimp only [goW])) | refine ct_ rfl ?_ | refine cf_ rfl ?_ | refine sk_ ?_ | refine ex_ ?_ | (refine wc_start (m := 1000000) (by kernel_rfl) fun n1 ty1 hn1 hut1 => ⟨rfl, ?_⟩))
  refine lb_all (n0 := n1 + 1) xs hxs hxl _ _ _ _ _ _ _ _ _ _ _ _ _ xs 0 rfl (by omega) [115, 121, 110, 116, 97, 120, 61, 39, 112, 114, 111, 116, 111, 51, 39, 59] .nils .nils .nils [] [] [] 0 0 0 _ _ _ _ _ _ _ ?_ (by simp) (by simp) (by simp) (by simp) ?_
  · exact {
      sI := .inl ⟨rfl, rfl⟩
      sM := .inl ⟨rfl, rfl⟩
      sE := .inl ⟨rfl, rfl⟩
      dIM := .inl rfl
      dIE := .inl rfl
      dME := .inl rfl
      n1 := by omega
      nn := by (try dsimp only); omega
      f := by (refine ⟨?_, ?_⟩; (focus ((repeat (first | refine Under.cons (by (try dsimp only); omega) ?_ | exact Under.nil)); done)); (focus ((repeat (first | refine UnderT.cons (by (try dsimp only); omega) ?_ | exact UnderT.nil | assumption | exact UnderT.le (by assumption) (by (try dsimp only); omega))); done))) }
  · intro LI' LM' LE' iI iM iE w3 w4 w5 w6 w8 w10 w12 h S' g'
    try dsimp only at g'
    rw [hits] at S' ⊢
    simp only [List.nil_append] at S'
    have hTI := S'.sI
    have hTM := S'.sM
    have hTE := S'.sE
    have hf := S'.f
    have hNI : Nl LI' (cI its) := by
      rcases hTI with ⟨e1, e2⟩ | ⟨v, e1, _⟩
      · exact .inl ⟨e1, map_nil e2⟩
      · exact .inr ⟨_, e1⟩
    generalize hTt : [115, 121, 110, 116, 97, 120, 61, 39, 112, 114, 111, 116, 111, 51, 39, 59] ++ its.flatMap txt = tt at LX ⊢
    obtain ⟨hu, hut, hX⟩ := fx4 hf
    rcases hTI with ⟨rfl, zI⟩ | ⟨vI, rfl, zI, _⟩ <;> rcases hTM with ⟨rfl, zM⟩ | ⟨vM, rfl, zM, _⟩ <;> rcases hTE with ⟨rfl, zE⟩ | ⟨vE, rfl, zE, _⟩
    all_goals
      repeat' (first
        | refine sq_ ?_
        | refine bl_ ?_
        | ((first | refine rg_ ?_ | refine go_ ?_); generalize e : goR _ _ _ _ _ _ _ _ = r; simp (disch := omega) [hX, List.length_map, sy_ibneT, sy_ibneF, sy_ibeqT, c8, c4] at e; replace e : some _ = _ := e; subst e; (try dsimp only [goW]))
        | refine ct_ rfl ?_
        | refine cf_ rfl ?_
        | refine sk_ ?_
        | refine ex_ ?_
        | (refine parse_P _ l hll LX its hst hok hlen _ ?_ _ fun n9 ty9 RI RM RE hn9 hun9 hRI hRM hRE => ⟨rfl, ?_⟩; exact fit_; (try dsimp only at hn9); have SP := same_P (cI its) (by omega) RI _ hRI hNI; obtain ⟨RI0, hRI0⟩ : ∃ x, x = RI := ⟨_, rfl⟩; obtain ⟨RM0, hRM0⟩ : ∃ x, x = RM := ⟨_, rfl⟩; obtain ⟨RE0, hRE0⟩ : ∃ x, x = RE := ⟨_, rfl⟩; (rcases hRI with ⟨rfl, yI⟩ | ⟨rfl, yI⟩ <;> (try (exfalso; first | exact zI yI | exact yI zI | contradiction)) <;> rcases hRM with ⟨rfl, yM⟩ | ⟨rfl, yM⟩ <;> (try (exfalso; first | exact zM yM | exact yM zM | exact map_ne zM yM | exact map_ne yM zM | contradiction)) <;> rcases hRE with ⟨rfl, yE⟩ | ⟨rfl, yE⟩ <;> (try (exfalso; first | exact map_ne zE yE | exact map_ne yE zE | contradiction))))
        | (refine SP _ ?_ _ fun n10 tyn10 hn10 hun10 => ⟨rfl, ?_⟩; exact fit_; (try dsimp only at hn10))
        | (refine (same_ll (cI its) (by omega) .none .none) _ ?_ _ fun n11 tyn11 hn11 hun11 => ⟨rfl, ?_⟩; exact fit_; (try dsimp only at hn11))
        | (refine mg_loop _ _ (cM its) (by omega) _ RI0 RE0 _ _ _ _ _ _ _ _ _ _ _ _ _ _ _ _ _ _ _ _ (cM its).length 0 (by omega) (by omega) _ _ _ ?_ ?_ ?_ ?_; exact fit_; (try dsimp only); omega; (focus (((simp (disch := omega) [getEnt, sy_nbeq, sy_neqF, hRI0, hRM0, hRE0])); done)); intro n50 ty50 u1 u2 u3 g50 h50; (try dsimp only at g50))
        | (refine en_loop _ _ (cE its) (by omega) _ RI0 RM0 _ _ _ _ _ _ _ _ _ _ _ _ _ _ _ _ _ _ _ _ (cE its).length 0 (by omega) (by omega) _ _ _ ?_ ?_ ?_ ?_; exact fit_; (try dsimp only); omega; (focus (((simp (disch := omega) [getEnt, sy_nbeq, sy_neqF, hRI0, hRM0, hRE0])); done)); intro n60 ty60 u4 u5 u6 g60 h60; (try dsimp only at g60))
        | (refine W.loop ?_; try (generalize e : dropped _ _ _ = r; simp (disch := omega) [hX, List.length_map, sy_ibneT, sy_ibneF, sy_ibeqT, c8, c4] at e; subst e; try dsimp only))
        | (refine num_L (.imm .none 1 (xs.map (CVal.int .u8))) xs.length (.inr ⟨xs, rfl, rfl, hxs⟩) (by omega) 0 1 (by omega) (by omega) (by omega) _ _ _ ?_ ?_ ?_ _ fun n70 ty70 v70 j70 hn70 hun70 hv70 hw70 hj70 => ⟨rfl, ?_⟩; exact fit_; (focus (((simp (disch := omega) [getEnt, sy_nbeq, sy_neqF])); done)); (try dsimp only); omega; (try dsimp only at hn70); (obtain rfl : v70 = 0 := by omega))
        | (simp only [thenW_exit, roundW, outOf, reduceIte]; (try simp only [thenW_normal]))
        | (refine Wc.mkG 8 c8 (by kernel_rfl) rfl ?_; generalize e : entryC _ _ _ = r; simp (disch := omega) [hX, List.length_map, sy_ibneT, sy_ibneF, sy_ibeqT, c8, c4] at e; subst e)
        | ((first | (refine W.ret ?_; (try simp only [outOf, thenW_ret, roundW]); refine endW.of (.inl rfl) rfl ?_) | refine endW.of (.inr rfl) rfl ?_); generalize e : endsC _ _ _ = r; simp (disch := omega) [hX, List.length_map, sy_ibneT, sy_ibneF, sy_ibeqT, c8, c4] at e; subst e; (try dsimp only [goW]); (first | refine ⟨rfl, ?_⟩ | (all_goals rfl))))

theorem lawH (H : LexH) (c : CVal) (xs : List Int) (hc : c = .nils ∧ xs = [] ∨ c = .imm .none 1 (xs.map (CVal.int .u8))) (hw : ∀ x ∈ xs, 0 ≤ x ∧ x < 256) : Wc tree.getF 4 [c] noHeap fun v _ => v = .bool true := by
  rcases hc with ⟨rfl, rfl⟩ | rfl
  · exact law_n H
  · rcases Nat.lt_or_ge 25 xs.length with h | h
    · exact law_long xs h
    · exact law_l H xs hw h

end Go.Proofs.YtjecpdnjpggcoaaGreatDoor.IrO
namespace Go.Proofs.YtjecpdnjpggcoaaGreatDoor.IrO
open Go Go.CI
open Go.LexF hiding spacesB lettersB
set_option maxRecDepth 100000
set_option linter.unusedVariables false
set_option linter.unusedSimpArgs false
theorem nmC_val (j : Nat) (hj : j ≤ 24) : (nmC j).toNat = 97 + j := by
  unfold nmC
  rw [UInt8.toNat_ofNat', Nat.mod_eq_of_lt (by omega)]
  omega
theorem nmC_let (j : Nat) (hj : j ≤ 24) : Go.LexF.lettersB.contains (nmC j) = true := by
  have h := nmC_val j hj
  have := all256s (p := fun c => !(decide (97 ≤ c.toNat ∧ c.toNat ≤ 121)) || Go.LexF.lettersB.contains c) (by decide +kernel) (nmC j)
  have h2 : decide (97 ≤ (nmC j).toNat ∧ (nmC j).toNat ≤ 121) = true := decide_eq_true (by omega)
  rw [h2] at this
  simpa using this
/-- A text of ASCII between single quotes. -/
theorem quoteF : ∀ (x R acc : List UInt8) (k : Nat), (∀ c ∈ x, c ≠ 39 ∧ c ≠ 10 ∧ c ≠ 92) → textF 39 (x ++ 39 :: R) acc k = some (acc ++ x, k + x.length + 1)
  | [], R, acc, k, _ => by
    show textF 39 (39 :: R) acc k = _
    unfold textF
    rw [if_pos rfl]; simp
  | c :: x, R, acc, k, h => by
    obtain ⟨h1, h2, h3⟩ := h c (by simp)
    have ih := quoteF x R (acc ++ [c]) (k + 1) (fun d hd => h d (by simp [hd]))
    show textF 39 (c :: (x ++ 39 :: R)) acc k = _
    unfold textF
    rw [if_neg h1, if_neg h2, if_neg h3, ih]
    simp; omega
theorem valid_asciis : ∀ x : List UInt8, (∀ c ∈ x, c.toNat < 128) → validF x = true
  | [], _ => by rw [validF]; rfl
  | c :: x, h => by rw [valid_ascii (h c (by simp))]; exact valid_asciis x fun d hd => h d (by simp [hd])
theorem quote_ok (x : List UInt8) (h : ∀ c ∈ x, c ≠ 39 ∧ c ≠ 10 ∧ c ≠ 92 ∧ c.toNat < 128) : TokOk (39 :: (x ++ [39])) 3 x 0 true := by
  refine ⟨by simp, fun R hR => ?_, fun R => skip_no (by decide) (by decide) _, by omega⟩
  have ht := quoteF x R [] 0 (fun c hc => ⟨(h c hc).1, (h c hc).2.1, (h c hc).2.2.1⟩)
  have e : (39 :: (x ++ [39])) ++ R = 39 :: (x ++ 39 :: R) := by simp
  rw [e]
  simp only [wordW]
  rw [nameF_no (by decide) (by decide), if_neg (by omega), if_neg (by decide), if_pos (by decide), ht]
  dsimp only
  rw [List.nil_append, valid_asciis x fun c hc => (h c hc).2.2.2]
  simp
theorem one_ok : TokOk [49] 2 [] 1 false := num_ok (x := [49]) (by decide) (by decide)
abbrev cN (x g : List UInt8) : Cel := ⟨x, 1, x, 0, g, false⟩
abbrev cS (c : UInt8) (g : List UInt8) : Cel := ⟨[c], 4, [c], 0, g, true⟩
abbrev cQ (x g : List UInt8) : Cel := ⟨39 :: (x ++ [39]), 3, x, 0, g, true⟩
abbrev d0 (g : List UInt8) : Cel := ⟨[48], 2, [], 0, g, false⟩
abbrev d1 (g : List UInt8) : Cel := ⟨[49], 2, [], 1, g, false⟩

def cellsI : It → List UInt8 → List Cel
  | .imp c, g => [cN [105, 109, 112, 111, 114, 116] [32], cQ [c] [], cS 59 g]
  | .msg c, g => [cN [109, 101, 115, 115, 97, 103, 101] [32], cN [c] [32], cS 123 [32], cN [105, 110, 116, 51, 50] [32], cN [120] [32], cS 61 [32], d1 [], cS 59 [32], cS 125 g]
  | .enu c, g => [cN [101, 110, 117, 109] [32], cN [c] [32], cS 123 [32], cN [88] [32], cS 61 [32], d0 [], cS 59 [32], cS 125 g]
  | .semi, g => [cS 59 g]
def gapOf : List It → List UInt8
  | [] => []
  | _ :: _ => [32]
def allC : List It → List Cel
  | [] => []
  | it :: r => cellsI it (gapOf r) ++ allC r
theorem cells_txt (it : It) (g : List UInt8) : 32 :: rnd (cellsI it g) = txt it ++ g := by cases it <;> simp [cellsI, rnd, txt]
theorem all_txt : ∀ its : List It, gapOf its ++ rnd (allC its) = its.flatMap txt
  | [] => rfl
  | it :: r => by
    have h1 := all_txt r
    have h2 := cells_txt it (gapOf r)
    show 32 :: rnd (cellsI it (gapOf r) ++ allC r) = _
    rw [rnd_app, List.flatMap_cons, ← h1, ← List.append_assoc, ← h2]
    rfl
theorem gap_of (its : List It) : GapOk (gapOf its) := by
  cases its with
  | nil => exact gap_nil
  | cons a r => exact gap_sp (by decide) gap_nil
theorem g32 : GapOk [32] := gap_sp (by decide) gap_nil
theorem sepG {p : Cel} {r : List Cel} (h : p.g = [32]) : Sep p r := .inr (.inl ⟨32, [], h, by decide⟩)
theorem sepF {p : Cel} {r : List Cel} (h : p.fr = true) : Sep p r := .inl h
theorem sepS {p : Cel} {c : UInt8} {g : List UInt8} {r : List Cel} (h : p.g = []) (hc : brk c = true) : Sep p (cS c g :: r) := .inr (.inr ⟨h, _, _, rfl, c, [], rfl, hc⟩)
theorem letter_name {c : UInt8} (h : Go.LexF.lettersB.contains c = true) : nameB [c] = true := by simp only [nameB, h, Bool.true_and]; rfl
theorem cells_wf (it : It) (h : LetI it) (g : List UInt8) (hg : GapOk g) : WFB (cellsI it g) := by
  have S : ∀ c : UInt8, signsB.contains c = true → TokOk [c] 4 [c] 0 true := fun c hc => sign_ok hc
  cases it with
  | imp c =>
    obtain ⟨j, hj, rfl⟩ := h
    have hv := nmC_val j hj
    refine ⟨name_ok (by decide), g32, sepG rfl, quote_ok _ ?_, gap_nil, sepF rfl, S 59 (by decide), hg, sepF rfl, trivial⟩
    intro c hc
    rw [List.mem_singleton] at hc
    subst hc
    refine ⟨?_, ?_, ?_, by omega⟩ <;> (intro e; have := congrArg UInt8.toNat e; rw [hv] at this; have h39 : (39 : UInt8).toNat = 39 := rfl; have h10 : (10 : UInt8).toNat = 10 := rfl; have h92 : (92 : UInt8).toNat = 92 := rfl; omega)
  | msg c =>
    obtain ⟨j, hj, rfl⟩ := h
    exact ⟨name_ok (by decide), g32, sepG rfl, name_ok (letter_name (nmC_let j hj)), g32, sepG rfl, S 123 (by decide), g32, sepG rfl, name_ok (by decide), g32, sepG rfl, name_ok (by decide), g32, sepG rfl, S 61 (by decide), g32, sepG rfl, one_ok, gap_nil, sepS rfl (by decide), S 59 (by decide), g32, sepG rfl, S 125 (by decide), hg, sepF rfl, trivial⟩
  | enu c =>
    obtain ⟨j, hj, rfl⟩ := h
    exact ⟨name_ok (by decide), g32, sepG rfl, name_ok (letter_name (nmC_let j hj)), g32, sepG rfl, S 123 (by decide), g32, sepG rfl, name_ok (by decide), g32, sepG rfl, S 61 (by decide), g32, sepG rfl, zero_ok, gap_nil, sepS rfl (by decide), S 59 (by decide), g32, sepG rfl, S 125 (by decide), hg, sepF rfl, trivial⟩
  | semi => exact ⟨S 59 (by decide), hg, sepF rfl, trivial⟩
theorem all_wf : ∀ its : List It, (∀ it ∈ its, LetI it) → WFB (allC its)
  | [], _ => trivial
  | it :: r, h => (cells_wf it (h it (by simp)) (gapOf r) (gap_of r)).app (all_wf r fun x hx => h x (by simp [hx]))
def preC (its : List It) : List Cel := [cN [115, 121, 110, 116, 97, 120] [], cS 61 [], cQ [112, 114, 111, 116, 111, 51] [], cS 59 (gapOf its)]
theorem pre_wf (its : List It) : WFB (preC its) := by
  refine ⟨name_ok (by decide), gap_nil, sepS rfl (by decide), sign_ok (by decide), gap_nil, sepF rfl, quote_ok _ (by decide), gap_nil, sepF rfl, sign_ok (by decide), gap_of its, sepF rfl, trivial⟩
theorem toks_strip : ∀ (ps : List Cel) (a : Nat), (toks a ps).map strip = ps.map fun p => (p.k, p.tx, p.n)
  | [], _ => rfl
  | p :: r, a => by simp only [toks, List.map_cons, toks_strip r]; rfl
theorem cells_itT (it : It) (g : List UInt8) : (cellsI it g).map (fun p => ((p.k, p.tx, p.n) : Tk3)) = itT it := by cases it <;> rfl
theorem all_itT : ∀ its : List It, (allC its).map (fun p => ((p.k, p.tx, p.n) : Tk3)) = its.flatMap itT
  | [] => rfl
  | it :: r => by rw [allC, List.map_append, cells_itT, all_itT r, List.flatMap_cons]
theorem all_len : ∀ its : List It, (allC its).length ≤ 9 * its.length
  | [] => by simp [allC]
  | it :: r => by
    have := all_len r
    have h2 : (cellsI it (gapOf r)).length ≤ 9 := by cases it <;> simp [cellsI]
    rw [allC, List.length_append, List.length_cons]; omega
theorem txt_len : ∀ its : List It, (its.flatMap txt).length ≤ 30 * its.length
  | [] => by simp
  | it :: r => by
    have := txt_len r
    have h2 : (txt it).length ≤ 30 := by cases it <;> simp [txt]
    rw [List.flatMap_cons, List.length_append, List.length_cons]; omega
theorem lexH : LexH := by
  intro its hlet hlen
  have hwf := ((pre_wf its).app (all_wf its hlet)).wf
  have htx : rnd (preC its ++ allC its) = [115, 121, 110, 116, 97, 120, 61, 39, 112, 114, 111, 116, 111, 51, 39, 59] ++ its.flatMap txt := by
    rw [rnd_app, ← all_txt]
    simp [preC, rnd]
  have hl2 := txt_len its
  have hF := lexF_cells _ hwf (by rw [htx, List.length_append, show ([115, 121, 110, 116, 97, 120, 61, 39, 112, 114, 111, 116, 111, 51, 39, 59] : List UInt8).length = 16 from rfl]; omega)
  rw [htx] at hF
  have hal := all_len its
  refine ⟨toks 0 (preC its ++ allC its) ++ [(5, [], 0, ([115, 121, 110, 116, 97, 120, 61, 39, 112, 114, 111, 116, 111, 51, 39, 59] ++ its.flatMap txt).length)], ?_, ?_, ?_⟩
  · rw [List.length_append, toks_len, List.length_append]; simp [preC]; omega
  · rw [List.map_append, toks_strip, List.map_append, all_itT]; rfl
  · have LX := lex_F ([115, 121, 110, 116, 97, 120, 61, 39, 112, 114, 111, 116, 111, 51, 39, 59] ++ its.flatMap txt) (by rw [List.length_append, show ([115, 121, 110, 116, 97, 120, 61, 39, 112, 114, 111, 116, 111, 51, 39, 59] : List UInt8).length = 16 from rfl]; omega)
    unfold lexV at LX
    rw [hF] at LX
    exact LX
theorem law (c : CVal) (xs : List Int) (hc : c = .nils ∧ xs = [] ∨ c = .imm .none 1 (xs.map (CVal.int .u8))) (hw : ∀ x ∈ xs, 0 ≤ x ∧ x < 256) : Wc tree.getF 4 [c] noHeap fun v _ => v = .bool true := lawH lexH c xs hc hw

end Go.Proofs.YtjecpdnjpggcoaaGreatDoor.IrO
