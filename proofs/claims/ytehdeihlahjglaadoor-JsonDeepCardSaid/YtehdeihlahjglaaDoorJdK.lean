/- What the functions of the law 'JsonDeep' do: part 11. -/
import Derived.Test.YtehdeihlahjglaaDoorJdJ
namespace Go.Proofs.YtehdeihlahjglaaDoor.IrJd
open Go Go.CI
set_option maxRecDepth 100000
set_option linter.unusedVariables false
set_option linter.unusedSimpArgs false
attribute [local irreducible] W Wo Wc WoR
attribute [local simp] goR regOut checkOne swapOne sameAt nthOp CVal.beq beqs CVal.block storesTo entryC evalOps evalOper evalE evalP evalL evalOpnd nth setNth COp.cls COp.isStore CVal.isUndef CVal.whole CVal.cells CHeap.put CHeap.get CHeap.set wantedC getEnt setEnt partOf writeBack evalBin evalInt evalStr blockMost initVar descOf List.take List.drop CVal.lenOf CVal.isStr CVal.bare CVal.strip CVal.flat endsC resultsC oneOrTuple finishC cut fillCells setCells szOf elems bytesOf evalAppend fillElems mkElem setElem List.replicate dropped dropEnts dropCells sizeMost evalSlc optBound eqVal extL extE keyIs findKV nthKV setKV CHeap.ty lookupN CHeap.note CHeap.tyOk dropAll freezeVal freezeAll freezeFlat pCopyCheck pBString pMakeNoZero pIndexByte pClone pIndex hasPair rowOf byteVals idxFrom hasFront idxSub

theorem nod_stripF (b : List Bool) : (nodC .full b).map CVal.strip = nodC .full b := by rcases b with _ | ⟨_ | _, b⟩ <;> rfl
theorem same_nod : ∀ b : List Bool, Pu tree.getF 7 [.agg (nodC .none b), .agg (nodC .full b)] (.bool true)
  | [] => same_0 _ _
  | false :: b => same_lst _ _ (nod_len _ b) (nod_len _ b) (nod_strip b) (nod_stripF b) (same_nod b)
  | true :: b => same_tab _ _ (nod_len _ b) (nod_len _ b) (nod_strip b) (nod_stripF b) (same_nod b)
theorem print_nod : ∀ b : List Bool, b.length ≤ 40 → Pu tree.getF 8 [.agg (nodC .full b)] (.str (txt b))
  | [], _ => print_0
  | false :: b, h => print_lst _ (nod_len _ b) (nod_stripF b) _ (by have := txt_len b; simp at h; omega) (print_nod b (by simp at h; omega))
  | true :: b, h => print_tab _ (nod_len _ b) (nod_stripF b) _ (by have := txt_len b; simp at h; omega) (print_nod b (by simp at h; omega))
theorem may_yes : ∀ (b : List Bool) (j : Nat), j + b.length ≤ 20 → Pu tree.getF 13 [.agg (nodC .full b), .int .i64 (j : Int)] (.bool true)
  | [], j, _ => may_0 j
  | false :: b, j, h => may_lst_true j (by simp at h; omega) _ (nod_len _ b) (nod_stripF b) (may_yes b (j + 1) (by simp at h; omega))
  | true :: b, j, h => may_tab_true j (by simp at h; omega) _ (nod_len _ b) (nod_stripF b) (may_yes b (j + 1) (by simp at h; omega))
theorem may_no : ∀ (b : List Bool) (j : Nat), j ≤ 20 → 20 < j + b.length → Pu tree.getF 13 [.agg (nodC .full b), .int .i64 (j : Int)] (.bool false)
  | [], j, h, h2 => by simp at h2; omega
  | x :: b, j, h, h2 => by
    rcases Nat.lt_or_ge j 20 with hj | hj
    · cases x with
      | false => exact may_lst_false j hj _ (nod_len _ b) (nod_stripF b) (may_no b (j + 1) (by omega) (by simp at h2; omega))
      | true => exact may_tab_false j hj _ (nod_len _ b) (nod_stripF b) (may_no b (j + 1) (by omega) (by simp at h2; omega))
    · obtain rfl : j = 20 := by omega
      cases x with
      | false => exact may_lst_20 _ (nod_len _ b) (nod_stripF b)
      | true => exact may_tab_20 _ (nod_len _ b) (nod_stripF b)
def par (x : Int) : Bool := !decide (x % 2 = 0)
def wrapA : List Int → List Bool → List Bool
  | [], b => b
  | x :: r, b => wrapA r (par x :: b)
theorem wrapA_len : ∀ (r : List Int) (b : List Bool), (wrapA r b).length = r.length + b.length
  | [], b => by simp [wrapA]
  | x :: r, b => by rw [wrapA, wrapA_len r]; simp; omega
abbrev bldLoop : CCode := (.loop true (.seq (.seq (.region [⟨.mv (.var 3), none⟩, ⟨.mv (.var 1), none⟩, ⟨.len false (.loc 0), none⟩, ⟨.bin .lss (.loc 2) (.loc 0), none⟩] [(4, 3)] [] []) (.cond (.var 4) .skip (.exit 0))) (.seq (.block 1 (.seq (.region [⟨.mv (.var 1), none⟩, ⟨.mv (.var 3), none⟩, ⟨.idxAddr 1 (.loc 1) (.loc 0), none⟩, ⟨.load none (.loc 0), none⟩, ⟨.bin .rem (.loc 0) (.const (.int .u8 2)), none⟩, ⟨.bin .eql (.loc 0) (.const (.int .u8 0)), none⟩] [(5, 5)] [] []) (.cond (.var 5) (.seq (.region [⟨.mv (.var 6), none⟩, ⟨.bin .add (.const (.str [91])) (.loc 0), none⟩, ⟨.bin .add (.loc 0) (.const (.str [93])), none⟩, ⟨.mv (.loc 0), none⟩] [(6, 3)] [] []) (.region [⟨.load (some 5) (.var 7), none⟩, ⟨.lit .imm true [(.int .i64 0), (.int .i64 0), (.str []), .nils, .nils] 1 [(0, (.loc 0))], none⟩, ⟨.build [(.int .i64 0), (.int .i64 0), (.str []), .nils, .nils] [(0, 1, (.const (.int .i64 5))), (3, 1, (.loc 0))], none⟩, ⟨.store 5 (.var 7) (.loc 0), none⟩] [] [] [])) (.seq (.region [⟨.mv (.var 6), none⟩, ⟨.bin .add (.const (.str [123, 34, 97, 34, 58])) (.loc 0), none⟩, ⟨.bin .add (.loc 0) (.const (.str [125])), none⟩, ⟨.mv (.loc 0), none⟩] [(6, 3)] [] []) (.region [⟨.lit .imm false [(.str [])] 1 [(0, (.const (.str [97])))], none⟩, ⟨.load (some 5) (.var 7), none⟩, ⟨.lit .imm true [(.int .i64 0), (.int .i64 0), (.str []), .nils, .nils] 1 [(0, (.loc 0))], none⟩, ⟨.build [(.int .i64 0), (.int .i64 0), (.str []), .nils, .nils] [(0, 1, (.const (.int .i64 6))), (4, 1, (.loc 2)), (3, 1, (.loc 0))], none⟩, ⟨.store 5 (.var 7) (.loc 0), none⟩] [] [] []))))) (.region [⟨.mv (.var 3), none⟩, ⟨.bin .add (.loc 0) (.const (.int .i64 1)), none⟩, ⟨.mv (.loc 0), none⟩] [(3, 2)] [] []))))
theorem build_loop (xs : List Int) (hx : xs.length ≤ 30) (hw : ∀ x ∈ xs, 0 ≤ x) (q : Nat) (v0 v2 v8 v9 v10 v11 : CVal) (Q : CExit → CSt → Prop) : ∀ (r : List Int) (i : Nat), xs.drop i = r → ∀ (b : List Bool), b.length = i → ∀ (n : Nat) (ty : List (Nat × Nat)) (v4 v5 : CVal), q < n → UnderT ty n →
    (∀ n' ty' v3 v4 v5, n ≤ n' → UnderT ty' n' → Q (.exit 0) ⟨[v0, .imm .none 1 (xs.map (CVal.int .u8)), v2, v3, v4, v5, .str (txt (wrapA r b)), .ptr q 29360133 0, v8, v9, v10, v11], ⟨[(q, .cells (nodC .full (wrapA r b)))], n', ty'⟩, []⟩) →
    W tree.getF bldLoop ⟨[v0, .imm .none 1 (xs.map (CVal.int .u8)), v2, .int .i64 (i : Int), v4, v5, .str (txt b), .ptr q 29360133 0, v8, v9, v10, v11], ⟨[(q, .cells (nodC .full b))], n, ty⟩, []⟩ Q := by
  intro r
  induction r with
  | nil =>
    intro i hi b hb n ty v4 v5 hq hut hk
    have hil : xs.length ≤ i := by
      rcases Nat.lt_or_ge i xs.length with h | h
      · rw [List.drop_eq_getElem_cons h] at hi; cases hi
      · exact h
    refine W.loop ?_
    repeat (first
      | refine W.seq ?_
      | refine W.block ?_
      | (refine W.regG ?_; generalize e : goR _ _ _ _ _ _ _ _ = r; simp (disch := omega) [sy_nbeq, sy_neqF, sy_leT, sy_leF, sy_setEnt_setEnt, sy_wrap64, sy_ibeqF, sy_ieqF, sy_ileT, sy_ileF, sy_iltT, sy_iltF, sy_ltT, sy_ltF, szOf_desc, List.length_map] at e; replace e : some _ = _ := e; subst e; (try dsimp only [goW]))
      | refine W.cond_true rfl ?_
      | refine W.cond_false rfl ?_
      | refine W.skip ?_
      | refine W.exit ?_
      | (refine WoR.go ?_; generalize e : goR _ _ _ _ _ _ _ _ = r; simp (disch := omega) [sy_nbeq, sy_neqF, sy_leT, sy_leF, sy_setEnt_setEnt, sy_wrap64, sy_ibeqF, sy_ieqF, sy_ileT, sy_ileF, sy_iltT, sy_iltF, sy_ltT, sy_ltF, szOf_desc, List.length_map] at e; replace e : some _ = _ := e; subst e; (try dsimp only [goW])))
    exact hk _ _ _ _ _ (by omega) (UnderT.le hut (by omega))
  | cons x r ih =>
    intro i hi b hb n ty v4 v5 hq hut hk
    obtain ⟨hlt, hget, hdrop⟩ := get_of_dropG hi
    have hxm : x ∈ xs := List.mem_of_getElem? hget
    have hx0 := hw x hxm
    have hn : nth (xs.map (CVal.int .u8)) i = .int .u8 x := nth_mapG _ xs i x hget
    have hm : x.tmod 2 = x % 2 := Int.tmod_eq_emod_of_nonneg hx0
    have h5 := nod_len .full b
    have ht5 : (nodC .full b).take 5 = nodC .full b := List.take_of_length_le (by omega)
    have hd5 : (nodC .full b).drop 5 = [] := List.drop_eq_nil_of_le (by omega)
    have hst := nod_stripF b
    have htl := txt_len b
    by_cases hp : x % 2 = 0
    · have hpar : par x = false := by simp [par, hp]
      rw [wrapA, hpar] at hk
      refine W.loop ?_
      repeat (first
        | refine W.seq ?_
        | refine W.block ?_
        | (refine W.regG ?_; generalize e : goR _ _ _ _ _ _ _ _ = r; simp (disch := omega) [sy_nbeq, sy_neqF, sy_leT, sy_leF, sy_setEnt_setEnt, sy_wrap64, sy_ibeqF, sy_ieqF, sy_ileT, sy_ileF, sy_iltT, sy_iltF, sy_ltT, sy_ltF, szOf_desc, List.length_map, hn, hm, h5, ht5, hd5, hst, hp] at e; replace e : some _ = _ := e; subst e; (try dsimp only [goW]))
        | refine W.cond_true rfl ?_
        | refine W.cond_false rfl ?_
        | refine W.skip ?_
        | refine W.exit ?_
        | (refine WoR.go ?_; generalize e : goR _ _ _ _ _ _ _ _ = r; simp (disch := omega) [sy_nbeq, sy_neqF, sy_leT, sy_leF, sy_setEnt_setEnt, sy_wrap64, sy_ibeqF, sy_ieqF, sy_ileT, sy_ileF, sy_iltT, sy_iltF, sy_ltT, sy_ltF, szOf_desc, List.length_map, hn, hm, h5, ht5, hd5, hst, hp] at e; replace e : some _ = _ := e; subst e; (try dsimp only [goW])))
      show W tree.getF bldLoop (dropped true _ _) Q
      generalize e : dropped _ _ _ = r
      simp (disch := omega) [sy_nbeq, sy_neqF, sy_leT, sy_leF, sy_setEnt_setEnt, sy_wrap64, sy_ibeqF, sy_ieqF, sy_ileT, sy_ileF, sy_iltT, sy_iltF, sy_ltT, sy_ltF, szOf_desc, List.length_map, hn, hm, h5, ht5, hd5, hst] at e
      subst e
      refine ih (i + 1) hdrop (false :: b) (by simp [hb]) _ _ _ _ ?_ ?_ ?_
      · omega
      · exact UnderT.le hut (by omega)
      · intro n' ty' v3 v4 v5 h1 h2; exact hk n' ty' v3 v4 v5 (by omega) h2
    · have hpar : par x = true := by simp [par, hp]
      rw [wrapA, hpar] at hk
      refine W.loop ?_
      repeat (first
        | refine W.seq ?_
        | refine W.block ?_
        | (refine W.regG ?_; generalize e : goR _ _ _ _ _ _ _ _ = r; simp (disch := omega) [sy_nbeq, sy_neqF, sy_leT, sy_leF, sy_setEnt_setEnt, sy_wrap64, sy_ibeqF, sy_ieqF, sy_ileT, sy_ileF, sy_iltT, sy_iltF, sy_ltT, sy_ltF, szOf_desc, List.length_map, hn, hm, h5, ht5, hd5, hst, hp] at e; replace e : some _ = _ := e; subst e; (try dsimp only [goW]))
        | refine W.cond_true rfl ?_
        | refine W.cond_false rfl ?_
        | refine W.skip ?_
        | refine W.exit ?_
        | (refine WoR.go ?_; generalize e : goR _ _ _ _ _ _ _ _ = r; simp (disch := omega) [sy_nbeq, sy_neqF, sy_leT, sy_leF, sy_setEnt_setEnt, sy_wrap64, sy_ibeqF, sy_ieqF, sy_ileT, sy_ileF, sy_iltT, sy_iltF, sy_ltT, sy_ltF, szOf_desc, List.length_map, hn, hm, h5, ht5, hd5, hst, hp] at e; replace e : some _ = _ := e; subst e; (try dsimp only [goW])))
      show W tree.getF bldLoop (dropped true _ _) Q
      generalize e : dropped _ _ _ = r
      simp (disch := omega) [sy_nbeq, sy_neqF, sy_leT, sy_leF, sy_setEnt_setEnt, sy_wrap64, sy_ibeqF, sy_ieqF, sy_ileT, sy_ileF, sy_iltT, sy_iltF, sy_ltT, sy_ltF, szOf_desc, List.length_map, hn, hm, h5, ht5, hd5, hst] at e
      subst e
      refine ih (i + 1) hdrop (true :: b) (by simp [hb]) _ _ _ _ ?_ ?_ ?_
      · omega
      · exact UnderT.le hut (by omega)
      · intro n' ty' v3 v4 v5 h1 h2; exact hk n' ty' v3 v4 v5 (by omega) h2
end Go.Proofs.YtehdeihlahjglaaDoor.IrJd
