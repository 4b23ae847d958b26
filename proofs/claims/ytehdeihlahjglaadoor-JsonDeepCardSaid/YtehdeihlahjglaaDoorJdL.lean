/- What the functions of the law 'JsonDeep' do: part 12. -/
import Derived.Test.YtehdeihlahjglaaDoorJdK
namespace Go.Proofs.YtehdeihlahjglaaDoor.IrJd
open Go Go.CI
set_option maxRecDepth 100000
set_option linter.unusedVariables false
set_option linter.unusedSimpArgs false
attribute [local simp] goR regOut checkOne swapOne sameAt nthOp CVal.beq beqs CVal.block storesTo entryC evalOps evalOper evalE evalP evalL evalOpnd nth setNth COp.cls COp.isStore CVal.isUndef CVal.whole CVal.cells CHeap.put CHeap.get CHeap.set wantedC getEnt setEnt partOf writeBack evalBin evalInt evalStr blockMost initVar descOf List.take List.drop CVal.lenOf CVal.isStr CVal.bare CVal.strip CVal.flat endsC resultsC oneOrTuple finishC cut fillCells setCells szOf elems bytesOf evalAppend fillElems mkElem setElem List.replicate dropped dropEnts dropCells sizeMost evalSlc optBound eqVal extL extE keyIs findKV nthKV setKV CHeap.ty lookupN CHeap.note CHeap.tyOk dropAll freezeVal freezeAll freezeFlat pCopyCheck pBString pMakeNoZero pIndexByte pClone pIndex hasPair rowOf byteVals idxFrom hasFront idxSub
attribute [local irreducible] W Wo Wc WoR

theorem law_long (xs : List Int) (hl : 30 < xs.length) : Wc tree.getF 3 [.imm .none 1 (xs.map (CVal.int .u8))] noHeap fun v _ => v = .bool true := by
  refine Wc.mkG 3 c3 (by kernel_rfl) rfl ?_
  generalize e : entryC _ _ _ = r
  simp (disch := omega) [sy_nbeq, sy_neqF, sy_leT, sy_leF, sy_setEnt_setEnt, sy_wrap64, sy_ibeqF, sy_ieqF, sy_ileT, sy_ileF, sy_iltT, sy_iltF, sy_ltT, sy_ltF, szOf_desc, noHeap, List.length_map, c3] at e
  subst e
  repeat (first
    | refine W.seq ?_
    | refine W.block ?_
    | (refine W.regG ?_; generalize e : goR _ _ _ _ _ _ _ _ = r; simp (disch := omega) [sy_nbeq, sy_neqF, sy_leT, sy_leF, sy_setEnt_setEnt, sy_wrap64, sy_ibeqF, sy_ieqF, sy_ileT, sy_ileF, sy_iltT, sy_iltF, sy_ltT, sy_ltF, szOf_desc, noHeap, List.length_map, c3] at e; replace e : some _ = _ := e; subst e; (try dsimp only [goW]))
    | refine W.cond_true rfl ?_
    | refine W.cond_false rfl ?_
    | refine W.skip ?_
    | refine W.exit ?_
    | (refine WoR.go ?_; generalize e : goR _ _ _ _ _ _ _ _ = r; simp (disch := omega) [sy_nbeq, sy_neqF, sy_leT, sy_leF, sy_setEnt_setEnt, sy_wrap64, sy_ibeqF, sy_ieqF, sy_ileT, sy_ileF, sy_iltT, sy_iltF, sy_ltT, sy_ltF, szOf_desc, noHeap, List.length_map, c3] at e; replace e : some _ = _ := e; subst e; (try dsimp only [goW]))
    | (refine wc_start (m := 1000000) (by kernel_rfl) fun n1 ty1 hn1 hut1 => ⟨rfl, ?_⟩)
    | (refine W.ret ?_; (try simp only [outOf, thenW_ret, roundW]); refine endW.of (.inl rfl) rfl ?_; generalize e : endsC _ _ _ = r; simp (disch := omega) [sy_nbeq, sy_neqF, sy_leT, sy_leF, sy_setEnt_setEnt, sy_wrap64, sy_ibeqF, sy_ieqF, sy_ileT, sy_ileF, sy_iltT, sy_iltF, sy_ltT, sy_ltF, szOf_desc, noHeap, List.length_map, c3] at e; subst e; (try dsimp only [goW]); all_goals rfl)
    | (refine endW.of (.inr rfl) rfl ?_; generalize e : endsC _ _ _ = r; simp (disch := omega) [sy_nbeq, sy_neqF, sy_leT, sy_leF, sy_setEnt_setEnt, sy_wrap64, sy_ibeqF, sy_ieqF, sy_ileT, sy_ileF, sy_iltT, sy_iltF, sy_ltT, sy_ltF, szOf_desc, noHeap, List.length_map, c3] at e; subst e; (try dsimp only [goW]); all_goals rfl))

theorem law_ok (xs : List Int) (hx : xs.length ≤ 30) (hw : ∀ x ∈ xs, 0 ≤ x) (hd : xs.length ≤ 20) : Wc tree.getF 3 [.imm .none 1 (xs.map (CVal.int .u8))] noHeap fun v _ => v = .bool true := by
  have hwl := wrapA_len xs []
  have hnl := nod_len .full (wrapA xs [])
  have hnl2 := nod_len .none (wrapA xs [])
  have hst := nod_stripF (wrapA xs [])
  have hst2 := nod_strip (wrapA xs [])
  have htk : (nodC .full (wrapA xs [])).take 5 = nodC .full (wrapA xs []) := List.take_of_length_le (by omega)
  have htk2 : (nodC .none (wrapA xs [])).take 5 = nodC .none (wrapA xs []) := List.take_of_length_le (by omega)
  have htl := txt_len (wrapA xs [])
  simp only [List.length_nil, Nat.add_zero] at hwl
  have T0 := tree_ok (wrapA xs []) 0 [] (by omega) (by simp; omega) NS.nil ND.nil
  rw [List.append_nil] at T0
  have P := parse_ok (txt (wrapA xs [])) (by omega) _ hnl2 hst2 T0
  have S := same_nod (wrapA xs [])
  have M := may_yes (wrapA xs []) 0 (by omega)
  have R := print_nod (wrapA xs []) (by omega)
  refine Wc.mkG 3 c3 (by kernel_rfl) rfl ?_
  generalize e : entryC _ _ _ = r
  simp (disch := omega) [sy_nbeq, sy_neqF, sy_leT, sy_leF, sy_setEnt_setEnt, sy_wrap64, sy_ibeqF, sy_ieqF, sy_ileT, sy_ileF, sy_iltT, sy_iltF, sy_ltT, sy_ltF, szOf_desc, noHeap, List.length_map, c3] at e
  subst e
  repeat (first
    | refine W.seq ?_
    | refine W.block ?_
    | (refine W.regG ?_; generalize e : goR _ _ _ _ _ _ _ _ = r; simp (disch := omega) [sy_nbeq, sy_neqF, sy_leT, sy_leF, sy_setEnt_setEnt, sy_wrap64, sy_ibeqF, sy_ieqF, sy_ileT, sy_ileF, sy_iltT, sy_iltF, sy_ltT, sy_ltF, szOf_desc, noHeap, List.length_map, c3] at e; replace e : some _ = _ := e; subst e; (try dsimp only [goW]))
    | refine W.cond_true rfl ?_
    | refine W.cond_false rfl ?_
    | refine W.skip ?_
    | refine W.exit ?_
    | (refine WoR.go ?_; generalize e : goR _ _ _ _ _ _ _ _ = r; simp (disch := omega) [sy_nbeq, sy_neqF, sy_leT, sy_leF, sy_setEnt_setEnt, sy_wrap64, sy_ibeqF, sy_ieqF, sy_ileT, sy_ileF, sy_iltT, sy_iltF, sy_ltT, sy_ltF, szOf_desc, noHeap, List.length_map, c3] at e; replace e : some _ = _ := e; subst e; (try dsimp only [goW]))
    | (refine wc_start (m := 1000000) (by kernel_rfl) fun n1 ty1 hn1 hut1 => ⟨rfl, ?_⟩))
  refine build_loop xs hx hw _ _ _ _ _ _ _ _ xs 0 rfl [] rfl _ _ _ _ ?_ ?_ ?_
  · omega
  · exact UnderT.le (by assumption) (by omega)
  · intro n2 ty2 v3 v4 v5 hn2 hut2
    repeat (first
      | refine W.seq ?_
      | refine W.block ?_
      | (refine W.regG ?_; generalize e : goR _ _ _ _ _ _ _ _ = r; simp (disch := omega) [sy_nbeq, sy_neqF, sy_leT, sy_leF, sy_setEnt_setEnt, sy_wrap64, sy_ibeqF, sy_ieqF, sy_ileT, sy_ileF, sy_iltT, sy_iltF, sy_ltT, sy_ltF, szOf_desc, noHeap, List.length_map, hnl, hnl2, hst, hst2, htk, htk2, c6, c3] at e; replace e : some _ = _ := e; subst e; (try dsimp only [goW]))
      | refine W.cond_true rfl ?_
      | refine W.cond_false rfl ?_
      | refine W.skip ?_
      | refine W.exit ?_
      | (refine WoR.go ?_; generalize e : goR _ _ _ _ _ _ _ _ = r; simp (disch := omega) [sy_nbeq, sy_neqF, sy_leT, sy_leF, sy_setEnt_setEnt, sy_wrap64, sy_ibeqF, sy_ieqF, sy_ileT, sy_ileF, sy_iltT, sy_iltF, sy_ltT, sy_ltF, szOf_desc, noHeap, List.length_map, hnl, hnl2, hst, hst2, htk, htk2, c6, c3] at e; replace e : some _ = _ := e; subst e; (try dsimp only [goW]))
      | (refine P _ ?_ _ fun n3 tyn3 hn3 hun3 => ⟨rfl, ?_⟩; (focus (((refine ⟨?_, ?_⟩; (focus ((repeat (first | refine Under.cons (by (try dsimp only); omega) ?_ | exact Under.nil)); done)); (focus ((repeat (first | refine UnderT.cons (by (try dsimp only); omega) ?_ | exact UnderT.nil | assumption | exact UnderT.le (by assumption) (by (try dsimp only); omega))); done)))); done)); (try dsimp only at hn3))
      | (refine S _ ?_ _ fun n4 tyn4 hn4 hun4 => ⟨rfl, ?_⟩; (focus (((refine ⟨?_, ?_⟩; (focus ((repeat (first | refine Under.cons (by (try dsimp only); omega) ?_ | exact Under.nil)); done)); (focus ((repeat (first | refine UnderT.cons (by (try dsimp only); omega) ?_ | exact UnderT.nil | assumption | exact UnderT.le (by assumption) (by (try dsimp only); omega))); done)))); done)); (try dsimp only at hn4))
      | (refine M _ ?_ _ fun n5 tyn5 hn5 hun5 => ⟨rfl, ?_⟩; (focus (((refine ⟨?_, ?_⟩; (focus ((repeat (first | refine Under.cons (by (try dsimp only); omega) ?_ | exact Under.nil)); done)); (focus ((repeat (first | refine UnderT.cons (by (try dsimp only); omega) ?_ | exact UnderT.nil | assumption | exact UnderT.le (by assumption) (by (try dsimp only); omega))); done)))); done)); (try dsimp only at hn5))
      | (refine R _ ?_ _ fun n6 tyn6 hn6 hun6 => ⟨rfl, ?_⟩; (focus (((refine ⟨?_, ?_⟩; (focus ((repeat (first | refine Under.cons (by (try dsimp only); omega) ?_ | exact Under.nil)); done)); (focus ((repeat (first | refine UnderT.cons (by (try dsimp only); omega) ?_ | exact UnderT.nil | assumption | exact UnderT.le (by assumption) (by (try dsimp only); omega))); done)))); done)); (try dsimp only at hn6))
      | (refine Wc.mkG 6 c6 (by kernel_rfl) rfl ?_; generalize e : entryC _ _ _ = r; simp (disch := omega) [sy_nbeq, sy_neqF, sy_leT, sy_leF, sy_setEnt_setEnt, sy_wrap64, sy_ibeqF, sy_ieqF, sy_ileT, sy_ileF, sy_iltT, sy_iltF, sy_ltT, sy_ltF, szOf_desc, noHeap, List.length_map, hnl, hnl2, hst, hst2, htk, htk2, c6, c3] at e; subst e)
      | (refine W.ret ?_; (try simp only [outOf, thenW_ret, roundW]); refine endW.of (.inl rfl) rfl ?_; generalize e : endsC _ _ _ = r; simp (disch := omega) [sy_nbeq, sy_neqF, sy_leT, sy_leF, sy_setEnt_setEnt, sy_wrap64, sy_ibeqF, sy_ieqF, sy_ileT, sy_ileF, sy_iltT, sy_iltF, sy_ltT, sy_ltF, szOf_desc, noHeap, List.length_map, hnl, hnl2, hst, hst2, htk, htk2, c6, c3] at e; subst e; (try dsimp only [goW]); refine ⟨rfl, ?_⟩)
      | (refine endW.of (.inr rfl) rfl ?_; generalize e : endsC _ _ _ = r; simp (disch := omega) [sy_nbeq, sy_neqF, sy_leT, sy_leF, sy_setEnt_setEnt, sy_wrap64, sy_ibeqF, sy_ieqF, sy_ileT, sy_ileF, sy_iltT, sy_iltF, sy_ltT, sy_ltF, szOf_desc, noHeap, List.length_map, hnl, hnl2, hst, hst2, htk, htk2, c6, c3] at e; subst e; (try dsimp only [goW]); refine ⟨rfl, ?_⟩)
      | (refine W.ret ?_; (try simp only [outOf, thenW_ret, roundW]); refine endW.of (.inl rfl) rfl ?_; generalize e : endsC _ _ _ = r; simp (disch := omega) [sy_nbeq, sy_neqF, sy_leT, sy_leF, sy_setEnt_setEnt, sy_wrap64, sy_ibeqF, sy_ieqF, sy_ileT, sy_ileF, sy_iltT, sy_iltF, sy_ltT, sy_ltF, szOf_desc, noHeap, List.length_map, hnl, hnl2, hst, hst2, htk, htk2, c6, c3] at e; subst e; (try dsimp only [goW]); all_goals rfl)
      | (refine endW.of (.inr rfl) rfl ?_; generalize e : endsC _ _ _ = r; simp (disch := omega) [sy_nbeq, sy_neqF, sy_leT, sy_leF, sy_setEnt_setEnt, sy_wrap64, sy_ibeqF, sy_ieqF, sy_ileT, sy_ileF, sy_iltT, sy_iltF, sy_ltT, sy_ltF, szOf_desc, noHeap, List.length_map, hnl, hnl2, hst, hst2, htk, htk2, c6, c3] at e; subst e; (try dsimp only [goW]); all_goals rfl))

theorem law_bad (xs : List Int) (hx : xs.length ≤ 30) (hw : ∀ x ∈ xs, 0 ≤ x) (hd : 20 < xs.length) : Wc tree.getF 3 [.imm .none 1 (xs.map (CVal.int .u8))] noHeap fun v _ => v = .bool true := by
  have hwl := wrapA_len xs []
  have hnl := nod_len .full (wrapA xs [])
  have hnl2 := nod_len .none (wrapA xs [])
  have hst := nod_stripF (wrapA xs [])
  have hst2 := nod_strip (wrapA xs [])
  have htk : (nodC .full (wrapA xs [])).take 5 = nodC .full (wrapA xs []) := List.take_of_length_le (by omega)
  have htk2 : (nodC .none (wrapA xs [])).take 5 = nodC .none (wrapA xs []) := List.take_of_length_le (by omega)
  have htl := txt_len (wrapA xs [])
  simp only [List.length_nil, Nat.add_zero] at hwl
  obtain ⟨cs, x, s2, h1, h2, h3, h4, T0⟩ := tree_bad (wrapA xs []) 0 [] (by omega) (by omega) (by omega) (by simp; omega)
  rw [List.append_nil] at T0
  have P := parse_err (txt (wrapA xs [])) (by omega) x s2 h4 (by rcases h3 with rfl | rfl <;> exact NS.cons (by simp)) cs h1 h2 T0
  have M := may_no (wrapA xs []) 0 (by omega) (by omega)
  refine Wc.mkG 3 c3 (by kernel_rfl) rfl ?_
  generalize e : entryC _ _ _ = r
  simp (disch := omega) [sy_nbeq, sy_neqF, sy_leT, sy_leF, sy_setEnt_setEnt, sy_wrap64, sy_ibeqF, sy_ieqF, sy_ileT, sy_ileF, sy_iltT, sy_iltF, sy_ltT, sy_ltF, szOf_desc, noHeap, List.length_map, c3] at e
  subst e
  repeat (first
    | refine W.seq ?_
    | refine W.block ?_
    | (refine W.regG ?_; generalize e : goR _ _ _ _ _ _ _ _ = r; simp (disch := omega) [sy_nbeq, sy_neqF, sy_leT, sy_leF, sy_setEnt_setEnt, sy_wrap64, sy_ibeqF, sy_ieqF, sy_ileT, sy_ileF, sy_iltT, sy_iltF, sy_ltT, sy_ltF, szOf_desc, noHeap, List.length_map, c3] at e; replace e : some _ = _ := e; subst e; (try dsimp only [goW]))
    | refine W.cond_true rfl ?_
    | refine W.cond_false rfl ?_
    | refine W.skip ?_
    | refine W.exit ?_
    | (refine WoR.go ?_; generalize e : goR _ _ _ _ _ _ _ _ = r; simp (disch := omega) [sy_nbeq, sy_neqF, sy_leT, sy_leF, sy_setEnt_setEnt, sy_wrap64, sy_ibeqF, sy_ieqF, sy_ileT, sy_ileF, sy_iltT, sy_iltF, sy_ltT, sy_ltF, szOf_desc, noHeap, List.length_map, c3] at e; replace e : some _ = _ := e; subst e; (try dsimp only [goW]))
    | (refine wc_start (m := 1000000) (by kernel_rfl) fun n1 ty1 hn1 hut1 => ⟨rfl, ?_⟩))
  refine build_loop xs hx hw _ _ _ _ _ _ _ _ xs 0 rfl [] rfl _ _ _ _ ?_ ?_ ?_
  · omega
  · exact UnderT.le (by assumption) (by omega)
  · intro n2 ty2 v3 v4 v5 hn2 hut2
    repeat (first
      | refine W.seq ?_
      | refine W.block ?_
      | (refine W.regG ?_; generalize e : goR _ _ _ _ _ _ _ _ = r; simp (disch := omega) [sy_nbeq, sy_neqF, sy_leT, sy_leF, sy_setEnt_setEnt, sy_wrap64, sy_ibeqF, sy_ieqF, sy_ileT, sy_ileF, sy_iltT, sy_iltF, sy_ltT, sy_ltF, szOf_desc, noHeap, List.length_map, hnl, hnl2, hst, hst2, htk, htk2, c6, c3] at e; replace e : some _ = _ := e; subst e; (try dsimp only [goW]))
      | refine W.cond_true rfl ?_
      | refine W.cond_false rfl ?_
      | refine W.skip ?_
      | refine W.exit ?_
      | (refine WoR.go ?_; generalize e : goR _ _ _ _ _ _ _ _ = r; simp (disch := omega) [sy_nbeq, sy_neqF, sy_leT, sy_leF, sy_setEnt_setEnt, sy_wrap64, sy_ibeqF, sy_ieqF, sy_ileT, sy_ileF, sy_iltT, sy_iltF, sy_ltT, sy_ltF, szOf_desc, noHeap, List.length_map, hnl, hnl2, hst, hst2, htk, htk2, c6, c3] at e; replace e : some _ = _ := e; subst e; (try dsimp only [goW]))
      | (refine P _ ?_ _ fun n3 tyn3 hn3 hun3 => ⟨rfl, ?_⟩; (focus (((refine ⟨?_, ?_⟩; (focus ((repeat (first | refine Under.cons (by (try dsimp only); omega) ?_ | exact Under.nil)); done)); (focus ((repeat (first | refine UnderT.cons (by (try dsimp only); omega) ?_ | exact UnderT.nil | assumption | exact UnderT.le (by assumption) (by (try dsimp only); omega))); done)))); done)); (try dsimp only at hn3))
      | (refine M _ ?_ _ fun n5 tyn5 hn5 hun5 => ⟨rfl, ?_⟩; (focus (((refine ⟨?_, ?_⟩; (focus ((repeat (first | refine Under.cons (by (try dsimp only); omega) ?_ | exact Under.nil)); done)); (focus ((repeat (first | refine UnderT.cons (by (try dsimp only); omega) ?_ | exact UnderT.nil | assumption | exact UnderT.le (by assumption) (by (try dsimp only); omega))); done)))); done)); (try dsimp only at hn5))
      | (refine Wc.mkG 6 c6 (by kernel_rfl) rfl ?_; generalize e : entryC _ _ _ = r; simp (disch := omega) [sy_nbeq, sy_neqF, sy_leT, sy_leF, sy_setEnt_setEnt, sy_wrap64, sy_ibeqF, sy_ieqF, sy_ileT, sy_ileF, sy_iltT, sy_iltF, sy_ltT, sy_ltF, szOf_desc, noHeap, List.length_map, hnl, hnl2, hst, hst2, htk, htk2, c6, c3] at e; subst e)
      | (refine W.ret ?_; (try simp only [outOf, thenW_ret, roundW]); refine endW.of (.inl rfl) rfl ?_; generalize e : endsC _ _ _ = r; simp (disch := omega) [sy_nbeq, sy_neqF, sy_leT, sy_leF, sy_setEnt_setEnt, sy_wrap64, sy_ibeqF, sy_ieqF, sy_ileT, sy_ileF, sy_iltT, sy_iltF, sy_ltT, sy_ltF, szOf_desc, noHeap, List.length_map, hnl, hnl2, hst, hst2, htk, htk2, c6, c3] at e; subst e; (try dsimp only [goW]); refine ⟨rfl, ?_⟩)
      | (refine endW.of (.inr rfl) rfl ?_; generalize e : endsC _ _ _ = r; simp (disch := omega) [sy_nbeq, sy_neqF, sy_leT, sy_leF, sy_setEnt_setEnt, sy_wrap64, sy_ibeqF, sy_ieqF, sy_ileT, sy_ileF, sy_iltT, sy_iltF, sy_ltT, sy_ltF, szOf_desc, noHeap, List.length_map, hnl, hnl2, hst, hst2, htk, htk2, c6, c3] at e; subst e; (try dsimp only [goW]); refine ⟨rfl, ?_⟩)
      | (refine W.ret ?_; (try simp only [outOf, thenW_ret, roundW]); refine endW.of (.inl rfl) rfl ?_; generalize e : endsC _ _ _ = r; simp (disch := omega) [sy_nbeq, sy_neqF, sy_leT, sy_leF, sy_setEnt_setEnt, sy_wrap64, sy_ibeqF, sy_ieqF, sy_ileT, sy_ileF, sy_iltT, sy_iltF, sy_ltT, sy_ltF, szOf_desc, noHeap, List.length_map, hnl, hnl2, hst, hst2, htk, htk2, c6, c3] at e; subst e; (try dsimp only [goW]); all_goals rfl)
      | (refine endW.of (.inr rfl) rfl ?_; generalize e : endsC _ _ _ = r; simp (disch := omega) [sy_nbeq, sy_neqF, sy_leT, sy_leF, sy_setEnt_setEnt, sy_wrap64, sy_ibeqF, sy_ieqF, sy_ileT, sy_ileF, sy_iltT, sy_iltF, sy_ltT, sy_ltF, szOf_desc, noHeap, List.length_map, hnl, hnl2, hst, hst2, htk, htk2, c6, c3] at e; subst e; (try dsimp only [goW]); all_goals rfl))

theorem law_nil : Wc tree.getF 3 [.nils] noHeap fun v _ => v = .bool true := by
  have T0 := tree_ok [] 0 [] (by simp) (by simp) NS.nil ND.nil
  rw [List.append_nil] at T0
  have P := parse_ok (txt []) (by simp [txt]) _ rfl rfl T0
  have S := same_nod []
  have M := may_yes [] 0 (by simp)
  have R := print_nod [] (by simp)
  refine Wc.mkG 3 c3 (by kernel_rfl) rfl ?_
  generalize e : entryC _ _ _ = r
  simp (disch := omega) [sy_nbeq, sy_neqF, sy_leT, sy_leF, sy_setEnt_setEnt, sy_wrap64, sy_ibeqF, sy_ieqF, sy_ileT, sy_ileF, sy_iltT, sy_iltF, sy_ltT, sy_ltF, szOf_desc, noHeap, List.length_map, c3] at e
  subst e
  repeat (first
    | refine W.seq ?_
    | refine W.block ?_
    | (refine W.regG ?_; generalize e : goR _ _ _ _ _ _ _ _ = r; simp (disch := omega) [sy_nbeq, sy_neqF, sy_leT, sy_leF, sy_setEnt_setEnt, sy_wrap64, sy_ibeqF, sy_ieqF, sy_ileT, sy_ileF, sy_iltT, sy_iltF, sy_ltT, sy_ltF, szOf_desc, noHeap, List.length_map, nodC, txt, c6, c3] at e; replace e : some _ = _ := e; subst e; (try dsimp only [goW]))
    | refine W.cond_true rfl ?_
    | refine W.cond_false rfl ?_
    | refine W.skip ?_
    | refine W.exit ?_
    | (refine WoR.go ?_; generalize e : goR _ _ _ _ _ _ _ _ = r; simp (disch := omega) [sy_nbeq, sy_neqF, sy_leT, sy_leF, sy_setEnt_setEnt, sy_wrap64, sy_ibeqF, sy_ieqF, sy_ileT, sy_ileF, sy_iltT, sy_iltF, sy_ltT, sy_ltF, szOf_desc, noHeap, List.length_map, nodC, txt, c6, c3] at e; replace e : some _ = _ := e; subst e; (try dsimp only [goW]))
    | (refine W.loop ?_; try (generalize e : dropped _ _ _ = r; simp (disch := omega) [sy_nbeq, sy_neqF, sy_leT, sy_leF, sy_setEnt_setEnt, sy_wrap64, sy_ibeqF, sy_ieqF, sy_ileT, sy_ileF, sy_iltT, sy_iltF, sy_ltT, sy_ltF, szOf_desc, noHeap, List.length_map, nodC, txt, c6, c3] at e; subst e; try dsimp only))
    | (refine wc_start (m := 1000000) (by kernel_rfl) fun n1 ty1 hn1 hut1 => ⟨rfl, ?_⟩)
    | (refine P _ ?_ _ fun n3 tyn3 hn3 hun3 => ⟨rfl, ?_⟩; (focus (((refine ⟨?_, ?_⟩; (focus ((repeat (first | refine Under.cons (by (try dsimp only); omega) ?_ | exact Under.nil)); done)); (focus ((repeat (first | refine UnderT.cons (by (try dsimp only); omega) ?_ | exact UnderT.nil | assumption | exact UnderT.le (by assumption) (by (try dsimp only); omega))); done)))); done)); (try dsimp only at hn3))
    | (refine S _ ?_ _ fun n4 tyn4 hn4 hun4 => ⟨rfl, ?_⟩; (focus (((refine ⟨?_, ?_⟩; (focus ((repeat (first | refine Under.cons (by (try dsimp only); omega) ?_ | exact Under.nil)); done)); (focus ((repeat (first | refine UnderT.cons (by (try dsimp only); omega) ?_ | exact UnderT.nil | assumption | exact UnderT.le (by assumption) (by (try dsimp only); omega))); done)))); done)); (try dsimp only at hn4))
    | (refine M _ ?_ _ fun n5 tyn5 hn5 hun5 => ⟨rfl, ?_⟩; (focus (((refine ⟨?_, ?_⟩; (focus ((repeat (first | refine Under.cons (by (try dsimp only); omega) ?_ | exact Under.nil)); done)); (focus ((repeat (first | refine UnderT.cons (by (try dsimp only); omega) ?_ | exact UnderT.nil | assumption | exact UnderT.le (by assumption) (by (try dsimp only); omega))); done)))); done)); (try dsimp only at hn5))
    | (refine R _ ?_ _ fun n6 tyn6 hn6 hun6 => ⟨rfl, ?_⟩; (focus (((refine ⟨?_, ?_⟩; (focus ((repeat (first | refine Under.cons (by (try dsimp only); omega) ?_ | exact Under.nil)); done)); (focus ((repeat (first | refine UnderT.cons (by (try dsimp only); omega) ?_ | exact UnderT.nil | assumption | exact UnderT.le (by assumption) (by (try dsimp only); omega))); done)))); done)); (try dsimp only at hn6))
    | (refine Wc.mkG 6 c6 (by kernel_rfl) rfl ?_; generalize e : entryC _ _ _ = r; simp (disch := omega) [sy_nbeq, sy_neqF, sy_leT, sy_leF, sy_setEnt_setEnt, sy_wrap64, sy_ibeqF, sy_ieqF, sy_ileT, sy_ileF, sy_iltT, sy_iltF, sy_ltT, sy_ltF, szOf_desc, noHeap, List.length_map, nodC, txt, c6, c3] at e; subst e)
    | (refine W.ret ?_; (try simp only [outOf, thenW_ret, roundW]); refine endW.of (.inl rfl) rfl ?_; generalize e : endsC _ _ _ = r; simp (disch := omega) [sy_nbeq, sy_neqF, sy_leT, sy_leF, sy_setEnt_setEnt, sy_wrap64, sy_ibeqF, sy_ieqF, sy_ileT, sy_ileF, sy_iltT, sy_iltF, sy_ltT, sy_ltF, szOf_desc, noHeap, List.length_map, nodC, txt, c6, c3] at e; subst e; (try dsimp only [goW]); refine ⟨rfl, ?_⟩)
    | (refine endW.of (.inr rfl) rfl ?_; generalize e : endsC _ _ _ = r; simp (disch := omega) [sy_nbeq, sy_neqF, sy_leT, sy_leF, sy_setEnt_setEnt, sy_wrap64, sy_ibeqF, sy_ieqF, sy_ileT, sy_ileF, sy_iltT, sy_iltF, sy_ltT, sy_ltF, szOf_desc, noHeap, List.length_map, nodC, txt, c6, c3] at e; subst e; (try dsimp only [goW]); refine ⟨rfl, ?_⟩)
    | (refine W.ret ?_; (try simp only [outOf, thenW_ret, roundW]); refine endW.of (.inl rfl) rfl ?_; generalize e : endsC _ _ _ = r; simp (disch := omega) [sy_nbeq, sy_neqF, sy_leT, sy_leF, sy_setEnt_setEnt, sy_wrap64, sy_ibeqF, sy_ieqF, sy_ileT, sy_ileF, sy_iltT, sy_iltF, sy_ltT, sy_ltF, szOf_desc, noHeap, List.length_map, nodC, txt, c6, c3] at e; subst e; (try dsimp only [goW]); all_goals rfl)
    | (refine endW.of (.inr rfl) rfl ?_; generalize e : endsC _ _ _ = r; simp (disch := omega) [sy_nbeq, sy_neqF, sy_leT, sy_leF, sy_setEnt_setEnt, sy_wrap64, sy_ibeqF, sy_ieqF, sy_ileT, sy_ileF, sy_iltT, sy_iltF, sy_ltT, sy_ltF, szOf_desc, noHeap, List.length_map, nodC, txt, c6, c3] at e; subst e; (try dsimp only [goW]); all_goals rfl))

theorem law (c : CVal) (xs : List Int) (hc : c = .nils ∧ xs = [] ∨ c = .imm .none 1 (xs.map (CVal.int .u8))) (hw : ∀ x ∈ xs, 0 ≤ x) : Wc tree.getF 3 [c] noHeap fun v _ => v = .bool true := by
  rcases hc with ⟨rfl, rfl⟩ | rfl
  · exact law_nil
  · rcases Nat.lt_or_ge 30 xs.length with h | h
    · exact law_long xs h
    · rcases Nat.lt_or_ge 20 xs.length with h2 | h2
      · exact law_bad xs h hw h2
      · exact law_ok xs h hw h2
end Go.Proofs.YtehdeihlahjglaaDoor.IrJd
