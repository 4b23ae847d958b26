/- What the functions of the law 'WordPlaces' do: part 6. -/
import Derived.Test.YthblmflngjofjaaDoorLxPD
namespace Go.Proofs.YthblmflngjofjaaDoor.IrP
open Go Go.CI
open Go.LexF hiding spacesB lettersB
set_option maxRecDepth 100000
set_option linter.unusedVariables false
set_option linter.unusedSimpArgs false
attribute [local irreducible] W Wo Wc WoR
attribute [local simp] goR regOut checkOne swapOne sameAt nthOp CVal.beq beqs CVal.block storesTo entryC evalOps evalOper evalE evalP evalL evalOpnd nth setNth COp.cls COp.isStore CVal.isUndef CVal.whole CVal.cells CHeap.put CHeap.get CHeap.set wantedC getEnt setEnt partOf writeBack evalBin evalInt evalStr blockMost initVar descOf List.take List.drop CVal.lenOf CVal.isStr CVal.bare CVal.strip CVal.flat endsC resultsC oneOrTuple finishC cut fillCells setCells szOf szOf_desc elems bytesOf evalAppend fillElems mkElem setElem List.replicate sy_nbeq sy_neqF sy_leT sy_leF sy_setEnt_setEnt dropped sy_wrap64 dropEnts dropCells sizeMost sy_ibeqF sy_ieqF sy_ileT sy_ileF sy_iltT sy_iltF sy_ltT sy_ltF evalSlc optBound eqVal extL extE keyIs findKV nthKV setKV CHeap.ty lookupN CHeap.note CHeap.tyOk dropAll freezeVal freezeAll freezeFlat pCopyCheck pBString pMakeNoZero pIndexByte pClone pIndex hasPair rowOf byteVals idxFrom hasFront idxSub

abbrev rdr (s : List UInt8) (a : Int) (l : CVal) (e to : Int) : CObj := .cells [.str s, .int .i64 a, l, .int .i64 e, .int .i64 to]
theorem idx_line : ∀ (s : List UInt8) (i : Nat), (dropLine s = [] ∧ idxFrom 10 s i = -1) ∨ (idxFrom 10 s i = ((i + (s.length - (dropLine s).length) : Nat) : Int) ∧ (dropLine s).length < s.length + 1 ∧ dropLine s ≠ [])
  | [], i => by simp [dropLine, idxFrom]
  | c :: r, i => by
    have h1 := dropLine_le r
    unfold dropLine idxFrom
    by_cases hc : c = 10
    · subst hc; simp
    · have hb : (c == 10) = false := by simp [hc]
      rw [if_neg hc]
      simp only [hb, Bool.false_eq_true, if_false]
      rcases idx_line r (i + 1) with ⟨h2, h3⟩ | ⟨h2, h3, h4⟩
      · left; exact ⟨h2, by first | exact h3 | simpa [hc] using h3⟩
      · right
        refine ⟨?_, by simp; omega, h4⟩
        have : idxFrom 10 r (i + 1) = ((i + ((c :: r).length - (dropLine r).length) : Nat) : Int) := by rw [h2]; simp; omega
        first | exact this | simpa [hc] using this
theorem drop_line : ∀ (s : List UInt8), s.drop (s.length - (dropLine s).length) = dropLine s
  | [] => rfl
  | c :: r => by
    have h1 := dropLine_le r
    unfold dropLine
    by_cases hc : c = 10
    · rw [if_pos hc]; simp
    · rw [if_neg hc, show (c :: r).length - (dropLine r).length = (r.length - (dropLine r).length) + 1 by simp; omega]
      simp only [List.drop_succ_cons]
      exact drop_line r
theorem idx_cmt : ∀ (s : List UInt8) (i : Nat), match dropCmt s with | none => idxSub [42, 47] s i = -1 | some u => idxSub [42, 47] s i = ((i + (s.length - u.length - 2) : Nat) : Int) ∧ s.drop (s.length - u.length) = u
  | [], i => by simp [dropCmt, idxSub]
  | [c], i => by
    by_cases hc : c = 42
    · subst hc; simp [dropCmt, idxSub, hasFront]
    · have hb : (c == 42) = false := by simp [hc]
      simp [dropCmt, idxSub, hasFront, hc]
  | c :: d :: r, i => by
    have ih := idx_cmt (d :: r) (i + 1)
    by_cases hc : c = 42
    · subst hc
      by_cases hd : d = 47
      · subst hd
        have : dropCmt (42 :: 47 :: r) = some r := by unfold dropCmt; simp
        rw [this]
        refine ⟨?_, ?_⟩
        · have e : idxSub [42, 47] (42 :: 47 :: r) i = (i : Int) := by unfold idxSub; simp [hasFront]
          rw [e]; simp; omega
        · rw [show (42 :: 47 :: r).length - r.length = 2 by simp; omega]; rfl
      · have e1 : dropCmt (42 :: d :: r) = dropCmt (d :: r) := by conv => lhs; unfold dropCmt
                                                                  simp [hd]
        have hb : (d == 47) = false := by simp [hd]
        have e2 : idxSub [42, 47] (42 :: d :: r) i = idxSub [42, 47] (d :: r) (i + 1) := by conv => lhs; unfold idxSub
                                                                                            simp [hasFront, hd, hb]
        rw [e1, e2]
        cases hu : dropCmt (d :: r) with
        | none => rw [hu] at ih; exact ih
        | some u =>
          rw [hu] at ih
          have := dropCmt_lt hu
          refine ⟨?_, ?_⟩
          · rw [ih.1]; simp at this ⊢; omega
          · rw [show (42 :: d :: r).length - u.length = ((d :: r).length - u.length) + 1 by simp at this ⊢; omega, List.drop_succ_cons]; exact ih.2
    · have e1 : dropCmt (c :: d :: r) = dropCmt (d :: r) := by conv => lhs; unfold dropCmt
                                                               simp [hc]
      have hb : (c == 42) = false := by simp [hc]
      have e2 : idxSub [42, 47] (c :: d :: r) i = idxSub [42, 47] (d :: r) (i + 1) := by conv => lhs; unfold idxSub
                                                                                         simp [hasFront, hc, hb]
      rw [e1, e2]
      cases hu : dropCmt (d :: r) with
      | none => rw [hu] at ih; exact ih
      | some u =>
        rw [hu] at ih
        have := dropCmt_lt hu
        refine ⟨?_, ?_⟩
        · rw [ih.1]; simp at this ⊢; omega
        · rw [show (c :: d :: r).length - u.length = ((d :: r).length - u.length) + 1 by simp at this ⊢; omega, List.drop_succ_cons]; exact ih.2
theorem skipF_nil : skipF [] = ([], true) := by rw [skipF.eq_def]
theorem skipF_eq (c : UInt8) (r : List UInt8) : skipF (c :: r) = if Go.LexF.spacesB.contains c then skipF r else if c = 47 then (match r with
    | [] => (c :: r, true)
    | d :: r' => if d = 47 then skipF (dropLine r') else if d = 42 then (match dropCmt r' with
      | none => (c :: r, false)
      | some u => skipF u) else (c :: r, true)) else (c :: r, true) := by
  rw [skipF.eq_def]
  dsimp only
  split
  · rfl
  · split
    · cases r with
      | nil => rfl
      | cons d r' =>
        dsimp only
        split
        · rfl
        · split
          · split
            · rename_i h; rw [h]
            · rename_i h; rw [h]
          · rfl
    · rfl
theorem skipF_sp : ∀ (r : List UInt8), skipF r = skipF (bk Go.LexF.spacesB r)
  | [] => rfl
  | c :: r => by
    by_cases h : Go.LexF.spacesB.contains c = true
    · have e : bk Go.LexF.spacesB (c :: r) = bk Go.LexF.spacesB r := by unfold bk; rw [List.dropWhile_cons, if_pos h]
      rw [e, ← skipF_sp r, skipF_eq, if_pos h]
    · have e : bk Go.LexF.spacesB (c :: r) = c :: r := by unfold bk; rw [List.dropWhile_cons, if_neg h]
      rw [e]
theorem skipF_le : ∀ (m : Nat) (s : List UInt8), s.length ≤ m → (skipF s).1.length ≤ s.length
  | _, [], _ => by rw [skipF_nil]; exact Nat.le_refl _
  | 0, c :: r, h => by simp at h
  | m + 1, c :: r, h => by
    rw [skipF_eq]
    simp only [List.length_cons] at h
    split
    · have := skipF_le m r (by omega); simp; omega
    · split
      · cases r with
        | nil => simp
        | cons d r' =>
          simp only [List.length_cons] at h
          dsimp only
          split
          · have h1 := dropLine_le r'; have := skipF_le m (dropLine r') (by omega); simp; omega
          · split
            · split
              · simp
              · rename_i u hd; have h1 := dropCmt_lt hd; have := skipF_le m u (by omega); simp; omega
            · simp
      · simp
end Go.Proofs.YthblmflngjofjaaDoor.IrP
