/- What the functions of the law 'WordSpaces' do: part 6 of 6. -/
import Derived.Test.YtalphliifcecdaaDoorLx5
namespace Go.Proofs.YtalphliifcecdaaDoor.IrS
open Go Go.CI
open Go.LexF hiding spacesB lettersB
set_option maxRecDepth 100000
set_option maxHeartbeats 4000000
set_option linter.unusedVariables false
set_option linter.unusedSimpArgs false
attribute [local irreducible] W Wo Wc WoR
attribute [local simp] goR regOut checkOne swapOne sameAt nthOp CVal.beq beqs CVal.block storesTo entryC evalOps evalOper evalE evalP evalL evalOpnd nth setNth COp.cls COp.isStore CVal.isUndef CVal.whole CVal.cells CHeap.put CHeap.get CHeap.set wantedC getEnt setEnt partOf writeBack evalBin evalInt evalStr blockMost initVar descOf List.take List.drop CVal.lenOf CVal.isStr CVal.bare CVal.strip CVal.flat endsC resultsC oneOrTuple finishC cut fillCells setCells szOf szOf_desc elems bytesOf evalAppend fillElems mkElem setElem List.replicate sy_nbeq sy_neqF sy_leT sy_leF sy_setEnt_setEnt dropped sy_wrap64 dropEnts dropCells sizeMost sy_ibeqF sy_ieqF sy_ileT sy_ileF sy_iltT sy_iltF sy_ltT sy_ltF evalSlc optBound eqVal extL extE keyIs findKV nthKV setKV CHeap.ty lookupN CHeap.note CHeap.tyOk dropAll freezeVal freezeAll freezeFlat cellsEq cellEq pCopyCheck pBString pMakeNoZero pIndexByte pClone pIndex hasPair rowOf byteVals idxFrom hasFront idxSub
theorem wSK1 {P : Prop} (h : P := by repeat (first | refine sq_ ?_ | refine bl_ ?_ | ((first | refine rg_ ?_ | refine go_ ?_); generalize e : goR _ _ _ _ _ _ _ _ = r; simp (disch := omega) [noHeap, List.length_map, sy_ibneT, sy_ibneF, sy_ibeqT, c3] at e; replace e : some _ = _ := e; subst e; (try dsimp only [goW])) | refine ct_ rfl ?_ | refine cf_ rfl ?_ | refine sk_ ?_ | refine ex_ ?_ | (refine LX2 _ ?_ _ fun n4 tyn4 hn4 hun4 => ⟨rfl, ?_⟩; (focus (((refine ⟨?_, ?_⟩; (focus ((repeat (first | refine Under.cons (by (try dsimp only); omega) ?_ | exact Under.nil)); done)); (focus ((repeat (first | refine UnderT.cons (by (try dsimp only); omega) ?_ | exact UnderT.nil | assumption | exact UnderT.le (by assumption) (by (try dsimp only); omega))); done)))); done)); (try dsimp only at hn4)) | ((first | (refine W.ret ?_; (try simp only [outOf, thenW_ret, roundW]); refine endW.of (.inl rfl) rfl ?_) | refine endW.of (.inr rfl) rfl ?_); generalize e : endsC _ _ _ = r; simp (disch := omega) [noHeap, List.length_map, sy_ibneT, sy_ibneF, sy_ibeqT, c3] at e; subst e; (try dsimp only [goW]); (all_goals rfl)))) : P := h
theorem wSK2 {P : Prop} (h : P := by repeat (first | refine sq_ ?_ | refine bl_ ?_ | ((first | refine rg_ ?_ | refine go_ ?_); generalize e : goR _ _ _ _ _ _ _ _ = r; simp (disch := omega) [noHeap, List.length_map, sy_ibneT, sy_ibneF, sy_ibeqT, c3] at e; replace e : some _ = _ := e; subst e; (try dsimp only [goW])) | refine ct_ rfl ?_ | refine cf_ rfl ?_ | refine sk_ ?_ | refine ex_ ?_ | ((first | (refine W.ret ?_; (try simp only [outOf, thenW_ret, roundW]); refine endW.of (.inl rfl) rfl ?_) | refine endW.of (.inr rfl) rfl ?_); generalize e : endsC _ _ _ = r; simp (disch := omega) [noHeap, List.length_map, sy_ibneT, sy_ibneF, sy_ibeqT, c3] at e; subst e; (try dsimp only [goW]); (all_goals rfl)))) : P := h

theorem law_nn  : Wc tree.getF 3 [.nils, .nils] noHeap fun v _ => v = .bool true := by
  refine Wc.mkG 3 c3 (by kernel_rfl) rfl ?_
  generalize e : entryC _ _ _ = r
  simp (disch := omega) [noHeap, List.length_map, sy_ibneT, sy_ibneF, sy_ibeqT, c3] at e
  subst e
  repeat (first | refine sq_ ?_ | refine bl_ ?_ | ((first | refine rg_ ?_ | refine go_ ?_); generalize e : goR _ _ _ _ _ _ _ _ = r; simp (disch := omega) [noHeap, List.length_map, sy_ibneT, sy_ibneF, sy_ibeqT, c5] at e; replace e : some _ = _ := e; subst e; (try dsimp only [goW])) | refine ct_ rfl ?_ | refine cf_ rfl ?_ | refine sk_ ?_ | refine ex_ ?_ | (refine wc_start (m := 1000000) (by kernel_rfl) fun n1 ty1 hn1 hut1 => ⟨rfl, ?_⟩) | (refine Wc.mkG 5 c5 (by kernel_rfl) rfl ?_; generalize e : entryC _ _ _ = r; simp (disch := omega) [noHeap, List.length_map, sy_ibneT, sy_ibneF, sy_ibeqT, c5] at e; subst e) | ((first | (refine W.ret ?_; (try simp only [outOf, thenW_ret, roundW]); refine endW.of (.inl rfl) rfl ?_) | refine endW.of (.inr rfl) rfl ?_); generalize e : endsC _ _ _ = r; simp (disch := omega) [noHeap, List.length_map, sy_ibneT, sy_ibneF, sy_ibeqT, c5] at e; subst e; (try dsimp only [goW]); refine ⟨rfl, ?_⟩))
  refine text_P .nils 0 (.inl ⟨rfl, rfl⟩) (by omega) 0 (by omega) _ _ _ ?_ ?_ ?_ _ fun n2 ty2 t j2 hn2 hun2 hB hb hj2 => ⟨rfl, ?_⟩
  · (refine ⟨?_, ?_⟩; (focus ((repeat (first | refine Under.cons (by (try dsimp only); omega) ?_ | exact Under.nil)); done)); (focus ((repeat (first | refine UnderT.cons (by (try dsimp only); omega) ?_ | exact UnderT.nil | assumption | exact UnderT.le (by assumption) (by (try dsimp only); omega))); done)))
  · simp (disch := omega) [getEnt]
  · (try dsimp only); omega
  try dsimp only at hn2
  obtain ⟨ps, hwb, rfl⟩ := hB
  have hw := hwb.wf
  have hcl := cells_le ps hw
  have hF := lexF_cells ps hw hb
  have LX := lex_F (rnd ps) (by omega)
  unfold lexV at LX
  rw [hF] at LX
  dsimp only at LX
  obtain ⟨l, hl⟩ : ∃ l, endT ps = l := ⟨_, rfl⟩
  have hll : l.length = ps.length + 1 := by rw [← hl]; exact endT_len ps
  have hlg : ∀ i, i ≤ ps.length → ∃ k tx n, l[i]? = some (k, tx, n, (rnd (ps.take i)).length) := fun i hi => by
    rw [← hl]; obtain ⟨k, tx, n, h1, _⟩ := endT_get ps i hi; exact ⟨k, tx, n, h1⟩
  rw [show toks 0 ps ++ [(5, [], 0, (rnd ps).length)] = l from hl] at LX
  have hlz : ¬ (l.length : Int) = 0 := by omega
  repeat (first | refine sq_ ?_ | refine bl_ ?_ | ((first | refine rg_ ?_ | refine go_ ?_); generalize e : goR _ _ _ _ _ _ _ _ = r; simp (disch := omega) [noHeap, List.length_map, sy_ibneT, sy_ibneF, sy_ibeqT, hlz] at e; replace e : some _ = _ := e; subst e; (try dsimp only [goW])) | refine ct_ rfl ?_ | refine cf_ rfl ?_ | refine sk_ ?_ | refine ex_ ?_ | (refine LX _ ?_ _ fun n3 tyn3 hn3 hun3 => ⟨rfl, ?_⟩; (focus (((refine ⟨?_, ?_⟩; (focus ((repeat (first | refine Under.cons (by (try dsimp only); omega) ?_ | exact Under.nil)); done)); (focus ((repeat (first | refine UnderT.cons (by (try dsimp only); omega) ?_ | exact UnderT.nil | assumption | exact UnderT.le (by assumption) (by (try dsimp only); omega))); done)))); done)); (try dsimp only at hn3)))
  refine sl_loop_n ps hw hb l hll hlg _ _ _ _ _ _ _ _ _ _ _ _ _ _ ps.length 0 (by omega) (by omega) _ _ _ _ ?_ ?_
  · (refine ⟨?_, ?_⟩; (focus ((repeat (first | refine Under.cons (by (try dsimp only); omega) ?_ | exact Under.nil)); done)); (focus ((repeat (first | refine UnderT.cons (by (try dsimp only); omega) ?_ | exact UnderT.nil | assumption | exact UnderT.le (by assumption) (by (try dsimp only); omega))); done)))
  · intro n' ty w8 w9 w10 w12 g1 g2
    try dsimp only at g1
    have hwT := addS_WF (spOf []) (fun i => ⟨(spOf_ok _ i).1, (spOf_ok _ i).2.1⟩) 0 ps hw
    have hTl := addS_bound (spOf []) (fun i => (spOf_ok _ i).2.2) ps 0
    have hcmp := endT_same (spOf []) ps
    have hF2 := lexF_cells (addS (spOf []) 0 ps) hwT
    have LX2 := lex_F (rnd (addS (spOf []) 0 ps)) (by omega)
    have hl2e := endT_len (addS (spOf []) 0 ps)
    rw [addS_len] at hl2e
    obtain ⟨l2, hl2⟩ : ∃ l2, endT (addS (spOf []) 0 ps) = l2 := ⟨_, rfl⟩
    rw [hl2] at hl2e hcmp
    rw [hl] at hcmp
    rw [show toks 0 (addS (spOf []) 0 ps) ++ [(5, [], 0, (rnd (addS (spOf []) 0 ps)).length)] = l2 from hl2] at hF2
    generalize rnd (addS (spOf []) 0 ps) = T at *
    unfold lexV at LX2
    by_cases hbig : 3000 < T.length
    · have hF3 : lexF T = .error (3, 0) := by unfold lexF; rw [if_pos hbig]
      rw [hF3] at LX2
      dsimp only at LX2
      have hc : (T.length : Int) > 3000 := by omega
      exact wSK1
    · rw [hF2 (by omega)] at LX2
      dsimp only at LX2
      have hnb : ¬ (T.length : Int) > 3000 := by omega
      have hle : (l2.length : Int) = (l.length : Int) := by omega
      repeat (first | refine sq_ ?_ | refine bl_ ?_ | ((first | refine rg_ ?_ | refine go_ ?_); generalize e : goR _ _ _ _ _ _ _ _ = r; simp (disch := omega) [noHeap, List.length_map, sy_ibneT, sy_ibneF, sy_ibeqT, hle] at e; replace e : some _ = _ := e; subst e; (try dsimp only [goW])) | refine ct_ rfl ?_ | refine cf_ rfl ?_ | refine sk_ ?_ | refine ex_ ?_ | (refine LX2 _ ?_ _ fun n4 tyn4 hn4 hun4 => ⟨rfl, ?_⟩; (focus (((refine ⟨?_, ?_⟩; (focus ((repeat (first | refine Under.cons (by (try dsimp only); omega) ?_ | exact Under.nil)); done)); (focus ((repeat (first | refine UnderT.cons (by (try dsimp only); omega) ?_ | exact UnderT.nil | assumption | exact UnderT.le (by assumption) (by (try dsimp only); omega))); done)))); done)); (try dsimp only at hn4)))
      refine cl_loop l l2 ps.length (by omega) hll hl2e hcmp _ _ _ _ _ _ _ _ _ _ _ _ _ _ _ _ _ _ (ps.length + 1) 0 (by omega) (by omega) _ _ _ ?_ ?_
      · (refine ⟨?_, ?_⟩; (focus ((repeat (first | refine Under.cons (by (try dsimp only); omega) ?_ | exact Under.nil)); done)); (focus ((repeat (first | refine UnderT.cons (by (try dsimp only); omega) ?_ | exact UnderT.nil | assumption | exact UnderT.le (by assumption) (by (try dsimp only); omega))); done)))
      · intro n' ty w18 w19 w20 g3 g4
        try dsimp only at g3
        exact wSK2

theorem law_ne  : Wc tree.getF 3 [.nils, (.imm .none 1 [])] noHeap fun v _ => v = .bool true := by
  refine Wc.mkG 3 c3 (by kernel_rfl) rfl ?_
  generalize e : entryC _ _ _ = r
  simp (disch := omega) [noHeap, List.length_map, sy_ibneT, sy_ibneF, sy_ibeqT, c3] at e
  subst e
  repeat (first | refine sq_ ?_ | refine bl_ ?_ | ((first | refine rg_ ?_ | refine go_ ?_); generalize e : goR _ _ _ _ _ _ _ _ = r; simp (disch := omega) [noHeap, List.length_map, sy_ibneT, sy_ibneF, sy_ibeqT, c5] at e; replace e : some _ = _ := e; subst e; (try dsimp only [goW])) | refine ct_ rfl ?_ | refine cf_ rfl ?_ | refine sk_ ?_ | refine ex_ ?_ | (refine wc_start (m := 1000000) (by kernel_rfl) fun n1 ty1 hn1 hut1 => ⟨rfl, ?_⟩) | (refine Wc.mkG 5 c5 (by kernel_rfl) rfl ?_; generalize e : entryC _ _ _ = r; simp (disch := omega) [noHeap, List.length_map, sy_ibneT, sy_ibneF, sy_ibeqT, c5] at e; subst e) | ((first | (refine W.ret ?_; (try simp only [outOf, thenW_ret, roundW]); refine endW.of (.inl rfl) rfl ?_) | refine endW.of (.inr rfl) rfl ?_); generalize e : endsC _ _ _ = r; simp (disch := omega) [noHeap, List.length_map, sy_ibneT, sy_ibneF, sy_ibeqT, c5] at e; subst e; (try dsimp only [goW]); refine ⟨rfl, ?_⟩))
  refine text_P .nils 0 (.inl ⟨rfl, rfl⟩) (by omega) 0 (by omega) _ _ _ ?_ ?_ ?_ _ fun n2 ty2 t j2 hn2 hun2 hB hb hj2 => ⟨rfl, ?_⟩
  · (refine ⟨?_, ?_⟩; (focus ((repeat (first | refine Under.cons (by (try dsimp only); omega) ?_ | exact Under.nil)); done)); (focus ((repeat (first | refine UnderT.cons (by (try dsimp only); omega) ?_ | exact UnderT.nil | assumption | exact UnderT.le (by assumption) (by (try dsimp only); omega))); done)))
  · simp (disch := omega) [getEnt]
  · (try dsimp only); omega
  try dsimp only at hn2
  obtain ⟨ps, hwb, rfl⟩ := hB
  have hw := hwb.wf
  have hcl := cells_le ps hw
  have hF := lexF_cells ps hw hb
  have LX := lex_F (rnd ps) (by omega)
  unfold lexV at LX
  rw [hF] at LX
  dsimp only at LX
  obtain ⟨l, hl⟩ : ∃ l, endT ps = l := ⟨_, rfl⟩
  have hll : l.length = ps.length + 1 := by rw [← hl]; exact endT_len ps
  have hlg : ∀ i, i ≤ ps.length → ∃ k tx n, l[i]? = some (k, tx, n, (rnd (ps.take i)).length) := fun i hi => by
    rw [← hl]; obtain ⟨k, tx, n, h1, _⟩ := endT_get ps i hi; exact ⟨k, tx, n, h1⟩
  rw [show toks 0 ps ++ [(5, [], 0, (rnd ps).length)] = l from hl] at LX
  have hlz : ¬ (l.length : Int) = 0 := by omega
  repeat (first | refine sq_ ?_ | refine bl_ ?_ | ((first | refine rg_ ?_ | refine go_ ?_); generalize e : goR _ _ _ _ _ _ _ _ = r; simp (disch := omega) [noHeap, List.length_map, sy_ibneT, sy_ibneF, sy_ibeqT, hlz] at e; replace e : some _ = _ := e; subst e; (try dsimp only [goW])) | refine ct_ rfl ?_ | refine cf_ rfl ?_ | refine sk_ ?_ | refine ex_ ?_ | (refine LX _ ?_ _ fun n3 tyn3 hn3 hun3 => ⟨rfl, ?_⟩; (focus (((refine ⟨?_, ?_⟩; (focus ((repeat (first | refine Under.cons (by (try dsimp only); omega) ?_ | exact Under.nil)); done)); (focus ((repeat (first | refine UnderT.cons (by (try dsimp only); omega) ?_ | exact UnderT.nil | assumption | exact UnderT.le (by assumption) (by (try dsimp only); omega))); done)))); done)); (try dsimp only at hn3)))
  refine sl_loop_e ps hw hb l hll hlg _ _ _ _ _ _ _ _ _ _ _ _ _ _ ps.length 0 (by omega) (by omega) _ _ _ _ ?_ ?_
  · (refine ⟨?_, ?_⟩; (focus ((repeat (first | refine Under.cons (by (try dsimp only); omega) ?_ | exact Under.nil)); done)); (focus ((repeat (first | refine UnderT.cons (by (try dsimp only); omega) ?_ | exact UnderT.nil | assumption | exact UnderT.le (by assumption) (by (try dsimp only); omega))); done)))
  · intro n' ty w8 w9 w10 w12 g1 g2
    try dsimp only at g1
    have hwT := addS_WF (spOf []) (fun i => ⟨(spOf_ok _ i).1, (spOf_ok _ i).2.1⟩) 0 ps hw
    have hTl := addS_bound (spOf []) (fun i => (spOf_ok _ i).2.2) ps 0
    have hcmp := endT_same (spOf []) ps
    have hF2 := lexF_cells (addS (spOf []) 0 ps) hwT
    have LX2 := lex_F (rnd (addS (spOf []) 0 ps)) (by omega)
    have hl2e := endT_len (addS (spOf []) 0 ps)
    rw [addS_len] at hl2e
    obtain ⟨l2, hl2⟩ : ∃ l2, endT (addS (spOf []) 0 ps) = l2 := ⟨_, rfl⟩
    rw [hl2] at hl2e hcmp
    rw [hl] at hcmp
    rw [show toks 0 (addS (spOf []) 0 ps) ++ [(5, [], 0, (rnd (addS (spOf []) 0 ps)).length)] = l2 from hl2] at hF2
    generalize rnd (addS (spOf []) 0 ps) = T at *
    unfold lexV at LX2
    by_cases hbig : 3000 < T.length
    · have hF3 : lexF T = .error (3, 0) := by unfold lexF; rw [if_pos hbig]
      rw [hF3] at LX2
      dsimp only at LX2
      have hc : (T.length : Int) > 3000 := by omega
      exact wSK1
    · rw [hF2 (by omega)] at LX2
      dsimp only at LX2
      have hnb : ¬ (T.length : Int) > 3000 := by omega
      have hle : (l2.length : Int) = (l.length : Int) := by omega
      repeat (first | refine sq_ ?_ | refine bl_ ?_ | ((first | refine rg_ ?_ | refine go_ ?_); generalize e : goR _ _ _ _ _ _ _ _ = r; simp (disch := omega) [noHeap, List.length_map, sy_ibneT, sy_ibneF, sy_ibeqT, hle] at e; replace e : some _ = _ := e; subst e; (try dsimp only [goW])) | refine ct_ rfl ?_ | refine cf_ rfl ?_ | refine sk_ ?_ | refine ex_ ?_ | (refine LX2 _ ?_ _ fun n4 tyn4 hn4 hun4 => ⟨rfl, ?_⟩; (focus (((refine ⟨?_, ?_⟩; (focus ((repeat (first | refine Under.cons (by (try dsimp only); omega) ?_ | exact Under.nil)); done)); (focus ((repeat (first | refine UnderT.cons (by (try dsimp only); omega) ?_ | exact UnderT.nil | assumption | exact UnderT.le (by assumption) (by (try dsimp only); omega))); done)))); done)); (try dsimp only at hn4)))
      refine cl_loop l l2 ps.length (by omega) hll hl2e hcmp _ _ _ _ _ _ _ _ _ _ _ _ _ _ _ _ _ _ (ps.length + 1) 0 (by omega) (by omega) _ _ _ ?_ ?_
      · (refine ⟨?_, ?_⟩; (focus ((repeat (first | refine Under.cons (by (try dsimp only); omega) ?_ | exact Under.nil)); done)); (focus ((repeat (first | refine UnderT.cons (by (try dsimp only); omega) ?_ | exact UnderT.nil | assumption | exact UnderT.le (by assumption) (by (try dsimp only); omega))); done)))
      · intro n' ty w18 w19 w20 g3 g4
        try dsimp only at g3
        exact wSK2

theorem law_nh  (how : List Int) (hh : ∀ x ∈ how, 0 ≤ x ∧ x < 256) (hhl : how.length ≤ 30) (hne : how ≠ []) : Wc tree.getF 3 [.nils, (.imm .none 1 (how.map (CVal.int .u8)))] noHeap fun v _ => v = .bool true := by
  refine Wc.mkG 3 c3 (by kernel_rfl) rfl ?_
  generalize e : entryC _ _ _ = r
  simp (disch := omega) [noHeap, List.length_map, sy_ibneT, sy_ibneF, sy_ibeqT, c3] at e
  subst e
  repeat (first | refine sq_ ?_ | refine bl_ ?_ | ((first | refine rg_ ?_ | refine go_ ?_); generalize e : goR _ _ _ _ _ _ _ _ = r; simp (disch := omega) [noHeap, List.length_map, sy_ibneT, sy_ibneF, sy_ibeqT, c5] at e; replace e : some _ = _ := e; subst e; (try dsimp only [goW])) | refine ct_ rfl ?_ | refine cf_ rfl ?_ | refine sk_ ?_ | refine ex_ ?_ | (refine wc_start (m := 1000000) (by kernel_rfl) fun n1 ty1 hn1 hut1 => ⟨rfl, ?_⟩) | (refine Wc.mkG 5 c5 (by kernel_rfl) rfl ?_; generalize e : entryC _ _ _ = r; simp (disch := omega) [noHeap, List.length_map, sy_ibneT, sy_ibneF, sy_ibeqT, c5] at e; subst e) | ((first | (refine W.ret ?_; (try simp only [outOf, thenW_ret, roundW]); refine endW.of (.inl rfl) rfl ?_) | refine endW.of (.inr rfl) rfl ?_); generalize e : endsC _ _ _ = r; simp (disch := omega) [noHeap, List.length_map, sy_ibneT, sy_ibneF, sy_ibeqT, c5] at e; subst e; (try dsimp only [goW]); refine ⟨rfl, ?_⟩))
  refine text_P .nils 0 (.inl ⟨rfl, rfl⟩) (by omega) 0 (by omega) _ _ _ ?_ ?_ ?_ _ fun n2 ty2 t j2 hn2 hun2 hB hb hj2 => ⟨rfl, ?_⟩
  · (refine ⟨?_, ?_⟩; (focus ((repeat (first | refine Under.cons (by (try dsimp only); omega) ?_ | exact Under.nil)); done)); (focus ((repeat (first | refine UnderT.cons (by (try dsimp only); omega) ?_ | exact UnderT.nil | assumption | exact UnderT.le (by assumption) (by (try dsimp only); omega))); done)))
  · simp (disch := omega) [getEnt]
  · (try dsimp only); omega
  try dsimp only at hn2
  obtain ⟨ps, hwb, rfl⟩ := hB
  have hw := hwb.wf
  have hcl := cells_le ps hw
  have hF := lexF_cells ps hw hb
  have LX := lex_F (rnd ps) (by omega)
  unfold lexV at LX
  rw [hF] at LX
  dsimp only at LX
  obtain ⟨l, hl⟩ : ∃ l, endT ps = l := ⟨_, rfl⟩
  have hll : l.length = ps.length + 1 := by rw [← hl]; exact endT_len ps
  have hlg : ∀ i, i ≤ ps.length → ∃ k tx n, l[i]? = some (k, tx, n, (rnd (ps.take i)).length) := fun i hi => by
    rw [← hl]; obtain ⟨k, tx, n, h1, _⟩ := endT_get ps i hi; exact ⟨k, tx, n, h1⟩
  rw [show toks 0 ps ++ [(5, [], 0, (rnd ps).length)] = l from hl] at LX
  have hlz : ¬ (l.length : Int) = 0 := by omega
  repeat (first | refine sq_ ?_ | refine bl_ ?_ | ((first | refine rg_ ?_ | refine go_ ?_); generalize e : goR _ _ _ _ _ _ _ _ = r; simp (disch := omega) [noHeap, List.length_map, sy_ibneT, sy_ibneF, sy_ibeqT, hlz] at e; replace e : some _ = _ := e; subst e; (try dsimp only [goW])) | refine ct_ rfl ?_ | refine cf_ rfl ?_ | refine sk_ ?_ | refine ex_ ?_ | (refine LX _ ?_ _ fun n3 tyn3 hn3 hun3 => ⟨rfl, ?_⟩; (focus (((refine ⟨?_, ?_⟩; (focus ((repeat (first | refine Under.cons (by (try dsimp only); omega) ?_ | exact Under.nil)); done)); (focus ((repeat (first | refine UnderT.cons (by (try dsimp only); omega) ?_ | exact UnderT.nil | assumption | exact UnderT.le (by assumption) (by (try dsimp only); omega))); done)))); done)); (try dsimp only at hn3)))
  refine sl_loop_h ps hw hb l hll hlg how hh hhl hne _ _ _ _ _ _ _ _ _ _ _ _ _ _ ps.length 0 (by omega) (by omega) _ _ _ _ ?_ ?_
  · (refine ⟨?_, ?_⟩; (focus ((repeat (first | refine Under.cons (by (try dsimp only); omega) ?_ | exact Under.nil)); done)); (focus ((repeat (first | refine UnderT.cons (by (try dsimp only); omega) ?_ | exact UnderT.nil | assumption | exact UnderT.le (by assumption) (by (try dsimp only); omega))); done)))
  · intro n' ty w8 w9 w10 w12 g1 g2
    try dsimp only at g1
    have hwT := addS_WF (spOf how) (fun i => ⟨(spOf_ok _ i).1, (spOf_ok _ i).2.1⟩) 0 ps hw
    have hTl := addS_bound (spOf how) (fun i => (spOf_ok _ i).2.2) ps 0
    have hcmp := endT_same (spOf how) ps
    have hF2 := lexF_cells (addS (spOf how) 0 ps) hwT
    have LX2 := lex_F (rnd (addS (spOf how) 0 ps)) (by omega)
    have hl2e := endT_len (addS (spOf how) 0 ps)
    rw [addS_len] at hl2e
    obtain ⟨l2, hl2⟩ : ∃ l2, endT (addS (spOf how) 0 ps) = l2 := ⟨_, rfl⟩
    rw [hl2] at hl2e hcmp
    rw [hl] at hcmp
    rw [show toks 0 (addS (spOf how) 0 ps) ++ [(5, [], 0, (rnd (addS (spOf how) 0 ps)).length)] = l2 from hl2] at hF2
    generalize rnd (addS (spOf how) 0 ps) = T at *
    unfold lexV at LX2
    by_cases hbig : 3000 < T.length
    · have hF3 : lexF T = .error (3, 0) := by unfold lexF; rw [if_pos hbig]
      rw [hF3] at LX2
      dsimp only at LX2
      have hc : (T.length : Int) > 3000 := by omega
      exact wSK1
    · rw [hF2 (by omega)] at LX2
      dsimp only at LX2
      have hnb : ¬ (T.length : Int) > 3000 := by omega
      have hle : (l2.length : Int) = (l.length : Int) := by omega
      repeat (first | refine sq_ ?_ | refine bl_ ?_ | ((first | refine rg_ ?_ | refine go_ ?_); generalize e : goR _ _ _ _ _ _ _ _ = r; simp (disch := omega) [noHeap, List.length_map, sy_ibneT, sy_ibneF, sy_ibeqT, hle] at e; replace e : some _ = _ := e; subst e; (try dsimp only [goW])) | refine ct_ rfl ?_ | refine cf_ rfl ?_ | refine sk_ ?_ | refine ex_ ?_ | (refine LX2 _ ?_ _ fun n4 tyn4 hn4 hun4 => ⟨rfl, ?_⟩; (focus (((refine ⟨?_, ?_⟩; (focus ((repeat (first | refine Under.cons (by (try dsimp only); omega) ?_ | exact Under.nil)); done)); (focus ((repeat (first | refine UnderT.cons (by (try dsimp only); omega) ?_ | exact UnderT.nil | assumption | exact UnderT.le (by assumption) (by (try dsimp only); omega))); done)))); done)); (try dsimp only at hn4)))
      refine cl_loop l l2 ps.length (by omega) hll hl2e hcmp _ _ _ _ _ _ _ _ _ _ _ _ _ _ _ _ _ _ (ps.length + 1) 0 (by omega) (by omega) _ _ _ ?_ ?_
      · (refine ⟨?_, ?_⟩; (focus ((repeat (first | refine Under.cons (by (try dsimp only); omega) ?_ | exact Under.nil)); done)); (focus ((repeat (first | refine UnderT.cons (by (try dsimp only); omega) ?_ | exact UnderT.nil | assumption | exact UnderT.le (by assumption) (by (try dsimp only); omega))); done)))
      · intro n' ty w18 w19 w20 g3 g4
        try dsimp only at g3
        exact wSK2

theorem law_ln (xs : List Int) (hxs : ∀ x ∈ xs, 0 ≤ x ∧ x < 256) (hsh : xs.length ≤ 100) : Wc tree.getF 3 [(.imm .none 1 (xs.map (CVal.int .u8))), .nils] noHeap fun v _ => v = .bool true := by
  refine Wc.mkG 3 c3 (by kernel_rfl) rfl ?_
  generalize e : entryC _ _ _ = r
  simp (disch := omega) [noHeap, List.length_map, sy_ibneT, sy_ibneF, sy_ibeqT, c3] at e
  subst e
  repeat (first | refine sq_ ?_ | refine bl_ ?_ | ((first | refine rg_ ?_ | refine go_ ?_); generalize e : goR _ _ _ _ _ _ _ _ = r; simp (disch := omega) [noHeap, List.length_map, sy_ibneT, sy_ibneF, sy_ibeqT, c5] at e; replace e : some _ = _ := e; subst e; (try dsimp only [goW])) | refine ct_ rfl ?_ | refine cf_ rfl ?_ | refine sk_ ?_ | refine ex_ ?_ | (refine wc_start (m := 1000000) (by kernel_rfl) fun n1 ty1 hn1 hut1 => ⟨rfl, ?_⟩) | (refine Wc.mkG 5 c5 (by kernel_rfl) rfl ?_; generalize e : entryC _ _ _ = r; simp (disch := omega) [noHeap, List.length_map, sy_ibneT, sy_ibneF, sy_ibeqT, c5] at e; subst e) | ((first | (refine W.ret ?_; (try simp only [outOf, thenW_ret, roundW]); refine endW.of (.inl rfl) rfl ?_) | refine endW.of (.inr rfl) rfl ?_); generalize e : endsC _ _ _ = r; simp (disch := omega) [noHeap, List.length_map, sy_ibneT, sy_ibneF, sy_ibeqT, c5] at e; subst e; (try dsimp only [goW]); refine ⟨rfl, ?_⟩))
  refine text_P (.imm .none 1 (xs.map (CVal.int .u8))) xs.length (.inr ⟨xs, rfl, rfl, hxs⟩) (by omega) 0 (by omega) _ _ _ ?_ ?_ ?_ _ fun n2 ty2 t j2 hn2 hun2 hB hb hj2 => ⟨rfl, ?_⟩
  · (refine ⟨?_, ?_⟩; (focus ((repeat (first | refine Under.cons (by (try dsimp only); omega) ?_ | exact Under.nil)); done)); (focus ((repeat (first | refine UnderT.cons (by (try dsimp only); omega) ?_ | exact UnderT.nil | assumption | exact UnderT.le (by assumption) (by (try dsimp only); omega))); done)))
  · simp (disch := omega) [getEnt]
  · (try dsimp only); omega
  try dsimp only at hn2
  obtain ⟨ps, hwb, rfl⟩ := hB
  have hw := hwb.wf
  have hcl := cells_le ps hw
  have hF := lexF_cells ps hw hb
  have LX := lex_F (rnd ps) (by omega)
  unfold lexV at LX
  rw [hF] at LX
  dsimp only at LX
  obtain ⟨l, hl⟩ : ∃ l, endT ps = l := ⟨_, rfl⟩
  have hll : l.length = ps.length + 1 := by rw [← hl]; exact endT_len ps
  have hlg : ∀ i, i ≤ ps.length → ∃ k tx n, l[i]? = some (k, tx, n, (rnd (ps.take i)).length) := fun i hi => by
    rw [← hl]; obtain ⟨k, tx, n, h1, _⟩ := endT_get ps i hi; exact ⟨k, tx, n, h1⟩
  rw [show toks 0 ps ++ [(5, [], 0, (rnd ps).length)] = l from hl] at LX
  have hlz : ¬ (l.length : Int) = 0 := by omega
  repeat (first | refine sq_ ?_ | refine bl_ ?_ | ((first | refine rg_ ?_ | refine go_ ?_); generalize e : goR _ _ _ _ _ _ _ _ = r; simp (disch := omega) [noHeap, List.length_map, sy_ibneT, sy_ibneF, sy_ibeqT, hlz] at e; replace e : some _ = _ := e; subst e; (try dsimp only [goW])) | refine ct_ rfl ?_ | refine cf_ rfl ?_ | refine sk_ ?_ | refine ex_ ?_ | (refine LX _ ?_ _ fun n3 tyn3 hn3 hun3 => ⟨rfl, ?_⟩; (focus (((refine ⟨?_, ?_⟩; (focus ((repeat (first | refine Under.cons (by (try dsimp only); omega) ?_ | exact Under.nil)); done)); (focus ((repeat (first | refine UnderT.cons (by (try dsimp only); omega) ?_ | exact UnderT.nil | assumption | exact UnderT.le (by assumption) (by (try dsimp only); omega))); done)))); done)); (try dsimp only at hn3)))
  refine sl_loop_n ps hw hb l hll hlg _ _ _ _ _ _ _ _ _ _ _ _ _ _ ps.length 0 (by omega) (by omega) _ _ _ _ ?_ ?_
  · (refine ⟨?_, ?_⟩; (focus ((repeat (first | refine Under.cons (by (try dsimp only); omega) ?_ | exact Under.nil)); done)); (focus ((repeat (first | refine UnderT.cons (by (try dsimp only); omega) ?_ | exact UnderT.nil | assumption | exact UnderT.le (by assumption) (by (try dsimp only); omega))); done)))
  · intro n' ty w8 w9 w10 w12 g1 g2
    try dsimp only at g1
    have hwT := addS_WF (spOf []) (fun i => ⟨(spOf_ok _ i).1, (spOf_ok _ i).2.1⟩) 0 ps hw
    have hTl := addS_bound (spOf []) (fun i => (spOf_ok _ i).2.2) ps 0
    have hcmp := endT_same (spOf []) ps
    have hF2 := lexF_cells (addS (spOf []) 0 ps) hwT
    have LX2 := lex_F (rnd (addS (spOf []) 0 ps)) (by omega)
    have hl2e := endT_len (addS (spOf []) 0 ps)
    rw [addS_len] at hl2e
    obtain ⟨l2, hl2⟩ : ∃ l2, endT (addS (spOf []) 0 ps) = l2 := ⟨_, rfl⟩
    rw [hl2] at hl2e hcmp
    rw [hl] at hcmp
    rw [show toks 0 (addS (spOf []) 0 ps) ++ [(5, [], 0, (rnd (addS (spOf []) 0 ps)).length)] = l2 from hl2] at hF2
    generalize rnd (addS (spOf []) 0 ps) = T at *
    unfold lexV at LX2
    by_cases hbig : 3000 < T.length
    · have hF3 : lexF T = .error (3, 0) := by unfold lexF; rw [if_pos hbig]
      rw [hF3] at LX2
      dsimp only at LX2
      have hc : (T.length : Int) > 3000 := by omega
      exact wSK1
    · rw [hF2 (by omega)] at LX2
      dsimp only at LX2
      have hnb : ¬ (T.length : Int) > 3000 := by omega
      have hle : (l2.length : Int) = (l.length : Int) := by omega
      repeat (first | refine sq_ ?_ | refine bl_ ?_ | ((first | refine rg_ ?_ | refine go_ ?_); generalize e : goR _ _ _ _ _ _ _ _ = r; simp (disch := omega) [noHeap, List.length_map, sy_ibneT, sy_ibneF, sy_ibeqT, hle] at e; replace e : some _ = _ := e; subst e; (try dsimp only [goW])) | refine ct_ rfl ?_ | refine cf_ rfl ?_ | refine sk_ ?_ | refine ex_ ?_ | (refine LX2 _ ?_ _ fun n4 tyn4 hn4 hun4 => ⟨rfl, ?_⟩; (focus (((refine ⟨?_, ?_⟩; (focus ((repeat (first | refine Under.cons (by (try dsimp only); omega) ?_ | exact Under.nil)); done)); (focus ((repeat (first | refine UnderT.cons (by (try dsimp only); omega) ?_ | exact UnderT.nil | assumption | exact UnderT.le (by assumption) (by (try dsimp only); omega))); done)))); done)); (try dsimp only at hn4)))
      refine cl_loop l l2 ps.length (by omega) hll hl2e hcmp _ _ _ _ _ _ _ _ _ _ _ _ _ _ _ _ _ _ (ps.length + 1) 0 (by omega) (by omega) _ _ _ ?_ ?_
      · (refine ⟨?_, ?_⟩; (focus ((repeat (first | refine Under.cons (by (try dsimp only); omega) ?_ | exact Under.nil)); done)); (focus ((repeat (first | refine UnderT.cons (by (try dsimp only); omega) ?_ | exact UnderT.nil | assumption | exact UnderT.le (by assumption) (by (try dsimp only); omega))); done)))
      · intro n' ty w18 w19 w20 g3 g4
        try dsimp only at g3
        exact wSK2

theorem law_le (xs : List Int) (hxs : ∀ x ∈ xs, 0 ≤ x ∧ x < 256) (hsh : xs.length ≤ 100) : Wc tree.getF 3 [(.imm .none 1 (xs.map (CVal.int .u8))), (.imm .none 1 [])] noHeap fun v _ => v = .bool true := by
  refine Wc.mkG 3 c3 (by kernel_rfl) rfl ?_
  generalize e : entryC _ _ _ = r
  simp (disch := omega) [noHeap, List.length_map, sy_ibneT, sy_ibneF, sy_ibeqT, c3] at e
  subst e
  repeat (first | refine sq_ ?_ | refine bl_ ?_ | ((first | refine rg_ ?_ | refine go_ ?_); generalize e : goR _ _ _ _ _ _ _ _ = r; simp (disch := omega) [noHeap, List.length_map, sy_ibneT, sy_ibneF, sy_ibeqT, c5] at e; replace e : some _ = _ := e; subst e; (try dsimp only [goW])) | refine ct_ rfl ?_ | refine cf_ rfl ?_ | refine sk_ ?_ | refine ex_ ?_ | (refine wc_start (m := 1000000) (by kernel_rfl) fun n1 ty1 hn1 hut1 => ⟨rfl, ?_⟩) | (refine Wc.mkG 5 c5 (by kernel_rfl) rfl ?_; generalize e : entryC _ _ _ = r; simp (disch := omega) [noHeap, List.length_map, sy_ibneT, sy_ibneF, sy_ibeqT, c5] at e; subst e) | ((first | (refine W.ret ?_; (try simp only [outOf, thenW_ret, roundW]); refine endW.of (.inl rfl) rfl ?_) | refine endW.of (.inr rfl) rfl ?_); generalize e : endsC _ _ _ = r; simp (disch := omega) [noHeap, List.length_map, sy_ibneT, sy_ibneF, sy_ibeqT, c5] at e; subst e; (try dsimp only [goW]); refine ⟨rfl, ?_⟩))
  refine text_P (.imm .none 1 (xs.map (CVal.int .u8))) xs.length (.inr ⟨xs, rfl, rfl, hxs⟩) (by omega) 0 (by omega) _ _ _ ?_ ?_ ?_ _ fun n2 ty2 t j2 hn2 hun2 hB hb hj2 => ⟨rfl, ?_⟩
  · (refine ⟨?_, ?_⟩; (focus ((repeat (first | refine Under.cons (by (try dsimp only); omega) ?_ | exact Under.nil)); done)); (focus ((repeat (first | refine UnderT.cons (by (try dsimp only); omega) ?_ | exact UnderT.nil | assumption | exact UnderT.le (by assumption) (by (try dsimp only); omega))); done)))
  · simp (disch := omega) [getEnt]
  · (try dsimp only); omega
  try dsimp only at hn2
  obtain ⟨ps, hwb, rfl⟩ := hB
  have hw := hwb.wf
  have hcl := cells_le ps hw
  have hF := lexF_cells ps hw hb
  have LX := lex_F (rnd ps) (by omega)
  unfold lexV at LX
  rw [hF] at LX
  dsimp only at LX
  obtain ⟨l, hl⟩ : ∃ l, endT ps = l := ⟨_, rfl⟩
  have hll : l.length = ps.length + 1 := by rw [← hl]; exact endT_len ps
  have hlg : ∀ i, i ≤ ps.length → ∃ k tx n, l[i]? = some (k, tx, n, (rnd (ps.take i)).length) := fun i hi => by
    rw [← hl]; obtain ⟨k, tx, n, h1, _⟩ := endT_get ps i hi; exact ⟨k, tx, n, h1⟩
  rw [show toks 0 ps ++ [(5, [], 0, (rnd ps).length)] = l from hl] at LX
  have hlz : ¬ (l.length : Int) = 0 := by omega
  repeat (first | refine sq_ ?_ | refine bl_ ?_ | ((first | refine rg_ ?_ | refine go_ ?_); generalize e : goR _ _ _ _ _ _ _ _ = r; simp (disch := omega) [noHeap, List.length_map, sy_ibneT, sy_ibneF, sy_ibeqT, hlz] at e; replace e : some _ = _ := e; subst e; (try dsimp only [goW])) | refine ct_ rfl ?_ | refine cf_ rfl ?_ | refine sk_ ?_ | refine ex_ ?_ | (refine LX _ ?_ _ fun n3 tyn3 hn3 hun3 => ⟨rfl, ?_⟩; (focus (((refine ⟨?_, ?_⟩; (focus ((repeat (first | refine Under.cons (by (try dsimp only); omega) ?_ | exact Under.nil)); done)); (focus ((repeat (first | refine UnderT.cons (by (try dsimp only); omega) ?_ | exact UnderT.nil | assumption | exact UnderT.le (by assumption) (by (try dsimp only); omega))); done)))); done)); (try dsimp only at hn3)))
  refine sl_loop_e ps hw hb l hll hlg _ _ _ _ _ _ _ _ _ _ _ _ _ _ ps.length 0 (by omega) (by omega) _ _ _ _ ?_ ?_
  · (refine ⟨?_, ?_⟩; (focus ((repeat (first | refine Under.cons (by (try dsimp only); omega) ?_ | exact Under.nil)); done)); (focus ((repeat (first | refine UnderT.cons (by (try dsimp only); omega) ?_ | exact UnderT.nil | assumption | exact UnderT.le (by assumption) (by (try dsimp only); omega))); done)))
  · intro n' ty w8 w9 w10 w12 g1 g2
    try dsimp only at g1
    have hwT := addS_WF (spOf []) (fun i => ⟨(spOf_ok _ i).1, (spOf_ok _ i).2.1⟩) 0 ps hw
    have hTl := addS_bound (spOf []) (fun i => (spOf_ok _ i).2.2) ps 0
    have hcmp := endT_same (spOf []) ps
    have hF2 := lexF_cells (addS (spOf []) 0 ps) hwT
    have LX2 := lex_F (rnd (addS (spOf []) 0 ps)) (by omega)
    have hl2e := endT_len (addS (spOf []) 0 ps)
    rw [addS_len] at hl2e
    obtain ⟨l2, hl2⟩ : ∃ l2, endT (addS (spOf []) 0 ps) = l2 := ⟨_, rfl⟩
    rw [hl2] at hl2e hcmp
    rw [hl] at hcmp
    rw [show toks 0 (addS (spOf []) 0 ps) ++ [(5, [], 0, (rnd (addS (spOf []) 0 ps)).length)] = l2 from hl2] at hF2
    generalize rnd (addS (spOf []) 0 ps) = T at *
    unfold lexV at LX2
    by_cases hbig : 3000 < T.length
    · have hF3 : lexF T = .error (3, 0) := by unfold lexF; rw [if_pos hbig]
      rw [hF3] at LX2
      dsimp only at LX2
      have hc : (T.length : Int) > 3000 := by omega
      exact wSK1
    · rw [hF2 (by omega)] at LX2
      dsimp only at LX2
      have hnb : ¬ (T.length : Int) > 3000 := by omega
      have hle : (l2.length : Int) = (l.length : Int) := by omega
      repeat (first | refine sq_ ?_ | refine bl_ ?_ | ((first | refine rg_ ?_ | refine go_ ?_); generalize e : goR _ _ _ _ _ _ _ _ = r; simp (disch := omega) [noHeap, List.length_map, sy_ibneT, sy_ibneF, sy_ibeqT, hle] at e; replace e : some _ = _ := e; subst e; (try dsimp only [goW])) | refine ct_ rfl ?_ | refine cf_ rfl ?_ | refine sk_ ?_ | refine ex_ ?_ | (refine LX2 _ ?_ _ fun n4 tyn4 hn4 hun4 => ⟨rfl, ?_⟩; (focus (((refine ⟨?_, ?_⟩; (focus ((repeat (first | refine Under.cons (by (try dsimp only); omega) ?_ | exact Under.nil)); done)); (focus ((repeat (first | refine UnderT.cons (by (try dsimp only); omega) ?_ | exact UnderT.nil | assumption | exact UnderT.le (by assumption) (by (try dsimp only); omega))); done)))); done)); (try dsimp only at hn4)))
      refine cl_loop l l2 ps.length (by omega) hll hl2e hcmp _ _ _ _ _ _ _ _ _ _ _ _ _ _ _ _ _ _ (ps.length + 1) 0 (by omega) (by omega) _ _ _ ?_ ?_
      · (refine ⟨?_, ?_⟩; (focus ((repeat (first | refine Under.cons (by (try dsimp only); omega) ?_ | exact Under.nil)); done)); (focus ((repeat (first | refine UnderT.cons (by (try dsimp only); omega) ?_ | exact UnderT.nil | assumption | exact UnderT.le (by assumption) (by (try dsimp only); omega))); done)))
      · intro n' ty w18 w19 w20 g3 g4
        try dsimp only at g3
        exact wSK2

theorem law_lh (xs : List Int) (hxs : ∀ x ∈ xs, 0 ≤ x ∧ x < 256) (hsh : xs.length ≤ 100) (how : List Int) (hh : ∀ x ∈ how, 0 ≤ x ∧ x < 256) (hhl : how.length ≤ 30) (hne : how ≠ []) : Wc tree.getF 3 [(.imm .none 1 (xs.map (CVal.int .u8))), (.imm .none 1 (how.map (CVal.int .u8)))] noHeap fun v _ => v = .bool true := by
  refine Wc.mkG 3 c3 (by kernel_rfl) rfl ?_
  generalize e : entryC _ _ _ = r
  simp (disch := omega) [noHeap, List.length_map, sy_ibneT, sy_ibneF, sy_ibeqT, c3] at e
  subst e
  repeat (first | refine sq_ ?_ | refine bl_ ?_ | ((first | refine rg_ ?_ | refine go_ ?_); generalize e : goR _ _ _ _ _ _ _ _ = r; simp (disch := omega) [noHeap, List.length_map, sy_ibneT, sy_ibneF, sy_ibeqT, c5] at e; replace e : some _ = _ := e; subst e; (try dsimp only [goW])) | refine ct_ rfl ?_ | refine cf_ rfl ?_ | refine sk_ ?_ | refine ex_ ?_ | (refine wc_start (m := 1000000) (by kernel_rfl) fun n1 ty1 hn1 hut1 => ⟨rfl, ?_⟩) | (refine Wc.mkG 5 c5 (by kernel_rfl) rfl ?_; generalize e : entryC _ _ _ = r; simp (disch := omega) [noHeap, List.length_map, sy_ibneT, sy_ibneF, sy_ibeqT, c5] at e; subst e) | ((first | (refine W.ret ?_; (try simp only [outOf, thenW_ret, roundW]); refine endW.of (.inl rfl) rfl ?_) | refine endW.of (.inr rfl) rfl ?_); generalize e : endsC _ _ _ = r; simp (disch := omega) [noHeap, List.length_map, sy_ibneT, sy_ibneF, sy_ibeqT, c5] at e; subst e; (try dsimp only [goW]); refine ⟨rfl, ?_⟩))
  refine text_P (.imm .none 1 (xs.map (CVal.int .u8))) xs.length (.inr ⟨xs, rfl, rfl, hxs⟩) (by omega) 0 (by omega) _ _ _ ?_ ?_ ?_ _ fun n2 ty2 t j2 hn2 hun2 hB hb hj2 => ⟨rfl, ?_⟩
  · (refine ⟨?_, ?_⟩; (focus ((repeat (first | refine Under.cons (by (try dsimp only); omega) ?_ | exact Under.nil)); done)); (focus ((repeat (first | refine UnderT.cons (by (try dsimp only); omega) ?_ | exact UnderT.nil | assumption | exact UnderT.le (by assumption) (by (try dsimp only); omega))); done)))
  · simp (disch := omega) [getEnt]
  · (try dsimp only); omega
  try dsimp only at hn2
  obtain ⟨ps, hwb, rfl⟩ := hB
  have hw := hwb.wf
  have hcl := cells_le ps hw
  have hF := lexF_cells ps hw hb
  have LX := lex_F (rnd ps) (by omega)
  unfold lexV at LX
  rw [hF] at LX
  dsimp only at LX
  obtain ⟨l, hl⟩ : ∃ l, endT ps = l := ⟨_, rfl⟩
  have hll : l.length = ps.length + 1 := by rw [← hl]; exact endT_len ps
  have hlg : ∀ i, i ≤ ps.length → ∃ k tx n, l[i]? = some (k, tx, n, (rnd (ps.take i)).length) := fun i hi => by
    rw [← hl]; obtain ⟨k, tx, n, h1, _⟩ := endT_get ps i hi; exact ⟨k, tx, n, h1⟩
  rw [show toks 0 ps ++ [(5, [], 0, (rnd ps).length)] = l from hl] at LX
  have hlz : ¬ (l.length : Int) = 0 := by omega
  repeat (first | refine sq_ ?_ | refine bl_ ?_ | ((first | refine rg_ ?_ | refine go_ ?_); generalize e : goR _ _ _ _ _ _ _ _ = r; simp (disch := omega) [noHeap, List.length_map, sy_ibneT, sy_ibneF, sy_ibeqT, hlz] at e; replace e : some _ = _ := e; subst e; (try dsimp only [goW])) | refine ct_ rfl ?_ | refine cf_ rfl ?_ | refine sk_ ?_ | refine ex_ ?_ | (refine LX _ ?_ _ fun n3 tyn3 hn3 hun3 => ⟨rfl, ?_⟩; (focus (((refine ⟨?_, ?_⟩; (focus ((repeat (first | refine Under.cons (by (try dsimp only); omega) ?_ | exact Under.nil)); done)); (focus ((repeat (first | refine UnderT.cons (by (try dsimp only); omega) ?_ | exact UnderT.nil | assumption | exact UnderT.le (by assumption) (by (try dsimp only); omega))); done)))); done)); (try dsimp only at hn3)))
  refine sl_loop_h ps hw hb l hll hlg how hh hhl hne _ _ _ _ _ _ _ _ _ _ _ _ _ _ ps.length 0 (by omega) (by omega) _ _ _ _ ?_ ?_
  · (refine ⟨?_, ?_⟩; (focus ((repeat (first | refine Under.cons (by (try dsimp only); omega) ?_ | exact Under.nil)); done)); (focus ((repeat (first | refine UnderT.cons (by (try dsimp only); omega) ?_ | exact UnderT.nil | assumption | exact UnderT.le (by assumption) (by (try dsimp only); omega))); done)))
  · intro n' ty w8 w9 w10 w12 g1 g2
    try dsimp only at g1
    have hwT := addS_WF (spOf how) (fun i => ⟨(spOf_ok _ i).1, (spOf_ok _ i).2.1⟩) 0 ps hw
    have hTl := addS_bound (spOf how) (fun i => (spOf_ok _ i).2.2) ps 0
    have hcmp := endT_same (spOf how) ps
    have hF2 := lexF_cells (addS (spOf how) 0 ps) hwT
    have LX2 := lex_F (rnd (addS (spOf how) 0 ps)) (by omega)
    have hl2e := endT_len (addS (spOf how) 0 ps)
    rw [addS_len] at hl2e
    obtain ⟨l2, hl2⟩ : ∃ l2, endT (addS (spOf how) 0 ps) = l2 := ⟨_, rfl⟩
    rw [hl2] at hl2e hcmp
    rw [hl] at hcmp
    rw [show toks 0 (addS (spOf how) 0 ps) ++ [(5, [], 0, (rnd (addS (spOf how) 0 ps)).length)] = l2 from hl2] at hF2
    generalize rnd (addS (spOf how) 0 ps) = T at *
    unfold lexV at LX2
    by_cases hbig : 3000 < T.length
    · have hF3 : lexF T = .error (3, 0) := by unfold lexF; rw [if_pos hbig]
      rw [hF3] at LX2
      dsimp only at LX2
      have hc : (T.length : Int) > 3000 := by omega
      exact wSK1
    · rw [hF2 (by omega)] at LX2
      dsimp only at LX2
      have hnb : ¬ (T.length : Int) > 3000 := by omega
      have hle : (l2.length : Int) = (l.length : Int) := by omega
      repeat (first | refine sq_ ?_ | refine bl_ ?_ | ((first | refine rg_ ?_ | refine go_ ?_); generalize e : goR _ _ _ _ _ _ _ _ = r; simp (disch := omega) [noHeap, List.length_map, sy_ibneT, sy_ibneF, sy_ibeqT, hle] at e; replace e : some _ = _ := e; subst e; (try dsimp only [goW])) | refine ct_ rfl ?_ | refine cf_ rfl ?_ | refine sk_ ?_ | refine ex_ ?_ | (refine LX2 _ ?_ _ fun n4 tyn4 hn4 hun4 => ⟨rfl, ?_⟩; (focus (((refine ⟨?_, ?_⟩; (focus ((repeat (first | refine Under.cons (by (try dsimp only); omega) ?_ | exact Under.nil)); done)); (focus ((repeat (first | refine UnderT.cons (by (try dsimp only); omega) ?_ | exact UnderT.nil | assumption | exact UnderT.le (by assumption) (by (try dsimp only); omega))); done)))); done)); (try dsimp only at hn4)))
      refine cl_loop l l2 ps.length (by omega) hll hl2e hcmp _ _ _ _ _ _ _ _ _ _ _ _ _ _ _ _ _ _ (ps.length + 1) 0 (by omega) (by omega) _ _ _ ?_ ?_
      · (refine ⟨?_, ?_⟩; (focus ((repeat (first | refine Under.cons (by (try dsimp only); omega) ?_ | exact Under.nil)); done)); (focus ((repeat (first | refine UnderT.cons (by (try dsimp only); omega) ?_ | exact UnderT.nil | assumption | exact UnderT.le (by assumption) (by (try dsimp only); omega))); done)))
      · intro n' ty w18 w19 w20 g3 g4
        try dsimp only at g3
        exact wSK2
theorem wSL1 {P : Prop} (h : P := by refine Wc.mkG 3 c3 (by kernel_rfl) rfl ?_; generalize e : entryC _ _ _ = r; simp (disch := omega) [noHeap, List.length_map, sy_ibneT, sy_ibneF, sy_ibeqT, c3] at e; subst e; repeat (first | refine sq_ ?_ | refine bl_ ?_ | ((first | refine rg_ ?_ | refine go_ ?_); generalize e : goR _ _ _ _ _ _ _ _ = r; simp (disch := omega) [noHeap, List.length_map, sy_ibneT, sy_ibneF, sy_ibeqT, c3] at e; replace e : some _ = _ := e; subst e; (try dsimp only [goW])) | refine ct_ rfl ?_ | refine cf_ rfl ?_ | refine sk_ ?_ | refine ex_ ?_ | (refine wc_start (m := 1000000) (by kernel_rfl) fun n1 ty1 hn1 hut1 => ⟨rfl, ?_⟩) | ((first | (refine W.ret ?_; (try simp only [outOf, thenW_ret, roundW]); refine endW.of (.inl rfl) rfl ?_) | refine endW.of (.inr rfl) rfl ?_); generalize e : endsC _ _ _ = r; simp (disch := omega) [noHeap, List.length_map, sy_ibneT, sy_ibneF, sy_ibeqT, c3] at e; subst e; (try dsimp only [goW]); (all_goals rfl)))) : P := h

theorem law_p (xs ys : List Int) (hl : 100 < xs.length) : Wc tree.getF 3 [(.imm .none 1 (xs.map (CVal.int .u8))), (.imm .none 1 (ys.map (CVal.int .u8)))] noHeap fun v _ => v = .bool true := by
  exact wSL1

theorem law_pn (xs : List Int) (hl : 100 < xs.length) : Wc tree.getF 3 [(.imm .none 1 (xs.map (CVal.int .u8))), .nils] noHeap fun v _ => v = .bool true := by
  exact wSL1

theorem law_q (xs ys : List Int) (hs : xs.length ≤ 100) (hl : 30 < ys.length) : Wc tree.getF 3 [(.imm .none 1 (xs.map (CVal.int .u8))), (.imm .none 1 (ys.map (CVal.int .u8)))] noHeap fun v _ => v = .bool true := by
  exact wSL1

theorem law_qn (ys : List Int) (hl : 30 < ys.length) : Wc tree.getF 3 [.nils, (.imm .none 1 (ys.map (CVal.int .u8)))] noHeap fun v _ => v = .bool true := by
  exact wSL1

theorem law (c : CVal) (xs : List Int) (hc : c = .nils ∧ xs = [] ∨ c = .imm .none 1 (xs.map (CVal.int .u8))) (hw : ∀ x ∈ xs, 0 ≤ x ∧ x < 256) (d : CVal) (ys : List Int) (hd : d = .nils ∧ ys = [] ∨ d = .imm .none 1 (ys.map (CVal.int .u8))) (hy : ∀ x ∈ ys, 0 ≤ x ∧ x < 256) : Wc tree.getF 3 [c, d] noHeap fun v _ => v = .bool true := by
  rcases hc with ⟨rfl, rfl⟩ | rfl
  · rcases hd with ⟨rfl, rfl⟩ | rfl
    · exact law_nn
    · rcases Nat.lt_or_ge 30 ys.length with h | h
      · exact law_qn ys h
      · cases ys with
        | nil => exact law_ne
        | cons a r => exact law_nh (a :: r) hy h (by simp)
  · rcases Nat.lt_or_ge 100 xs.length with h | h
    · rcases hd with ⟨rfl, rfl⟩ | rfl
      · exact law_pn xs h
      · exact law_p xs ys h
    · rcases hd with ⟨rfl, rfl⟩ | rfl
      · exact law_ln xs hw h
      · rcases Nat.lt_or_ge 30 ys.length with h2 | h2
        · exact law_q xs ys h h2
        · cases ys with
          | nil => exact law_le xs hw h
          | cons a r => exact law_lh xs hw h (a :: r) hy h2 (by simp)

end Go.Proofs.YtalphliifcecdaaDoor.IrS
