/- What the functions of the law 'WordPlaces' do: part 22. -/
import Derived.Test.YthblmflngjofjaaDoorLxPU
namespace Go.Proofs.YthblmflngjofjaaDoor.IrP
open Go Go.CI
open Go.LexF hiding spacesB lettersB
set_option maxRecDepth 100000
set_option linter.unusedVariables false
set_option linter.unusedSimpArgs false
attribute [local irreducible] W Wo Wc WoR
attribute [local simp] goR regOut checkOne swapOne sameAt nthOp CVal.beq beqs CVal.block storesTo entryC evalOps evalOper evalE evalP evalL evalOpnd nth setNth COp.cls COp.isStore CVal.isUndef CVal.whole CVal.cells CHeap.put CHeap.get CHeap.set wantedC getEnt setEnt partOf writeBack evalBin evalInt evalStr blockMost initVar descOf List.take List.drop CVal.lenOf CVal.isStr CVal.bare CVal.strip CVal.flat endsC resultsC oneOrTuple finishC cut fillCells setCells szOf szOf_desc elems bytesOf evalAppend fillElems mkElem setElem List.replicate sy_nbeq sy_neqF sy_leT sy_leF sy_setEnt_setEnt dropped sy_wrap64 dropEnts dropCells sizeMost sy_ibeqF sy_ieqF sy_ileT sy_ileF sy_iltT sy_iltF sy_ltT sy_ltF evalSlc optBound eqVal extL extE keyIs findKV nthKV setKV CHeap.ty lookupN CHeap.note CHeap.tyOk dropAll freezeVal freezeAll freezeFlat pCopyCheck pBString pMakeNoZero pIndexByte pClone pIndex hasPair rowOf byteVals idxFrom hasFront idxSub

def TextOk (s : List UInt8) (k : Nat) (t : List UInt8) (a : Nat) : Prop := (k = 1 ∨ k = 4) → t ≠ [] ∧ a + t.length ≤ s.length ∧ (s.take (a + t.length)).drop a = t
def Good (s : List UInt8) : Nat → List Tok → Prop
  | _, [] => True
  | lb, (k, t, n, a) :: l => lb ≤ a ∧ a < s.length ∧ k ≠ 5 ∧ TextOk s k t a ∧ Good s (a + 1) l
theorem Good.le {s : List UInt8} {b c : Nat} (h : c ≤ b) : ∀ {l : List Tok}, Good s b l → Good s c l
  | [], _ => trivial
  | (k, t, n, a) :: l, g => ⟨Nat.le_trans h g.1, g.2⟩
theorem wordW_kind {c : UInt8} {r : List UInt8} {k n len : Nat} {t : List UInt8} (h : wordW validF (c :: r) = .tok k t n len) : k ≠ 5 ∧ ((k = 1 ∨ k = 4) → t ≠ [] ∧ t.length ≤ (c :: r).length ∧ (c :: r).take t.length = t) := by
  unfold wordW at h
  dsimp only at h
  split at h
  · rename_i hn
    cases h
    have := nameF_le (c :: r)
    refine ⟨by decide, fun _ => ⟨?_, ?_, ?_⟩⟩
    · intro e
      have h2 := congrArg List.length e
      rw [List.length_take] at h2
      simp only [List.length_nil] at h2
      omega
    · rw [List.length_take]; omega
    · rw [List.length_take, Nat.min_eq_left this]
  · split at h
    · have := (numW_tok (by assumption) h).2.2.1
      subst this
      exact ⟨by decide, fun h => by omega⟩
    · split at h
      · cases ht : textF c r [] 0 with
        | none => rw [ht] at h; cases h
        | some x =>
          obtain ⟨tt, kk⟩ := x
          rw [ht] at h
          dsimp only at h
          split at h
          · cases h; exact ⟨by decide, fun h => by omega⟩
          · cases h
      · split at h
        · cases h; exact ⟨by decide, fun _ => ⟨by simp, by simp, by simp⟩⟩
        · cases h
theorem lexW_good (s : List UInt8) : ∀ (m : Nat) (u : List UInt8) (a : Nat) (l : List Tok), s.drop a = u → a + u.length = s.length → lexW s.length m u = .ok l → Good s a l
  | m, [], a, l, hd, hl, h => by cases m <;> (simp only [lexW] at h; cases h; trivial)
  | 0, _ :: _, a, l, hd, hl, h => by simp only [lexW] at h; cases h
  | m + 1, c :: u, a, l, hd, hl, h => by
    simp only [lexW] at h
    split at h
    · cases h
    · rename_i k t n len he
      have hw := wordW_tok he
      have hk := wordW_kind he
      split at h
      · cases h
      · rename_i w hsk
        split at h
        · cases h
        · rename_i l2 e2
          cases h
          have hdl : s.drop (a + len) = (c :: u).drop len := by rw [← hd, List.drop_drop]
          have hll : a + len + ((c :: u).drop len).length = s.length := by rw [List.length_drop]; omega
          have hwd := skip_suffix s (a + len) _ w true hdl hll hsk
          have hsl := skipF_le _ _ (Nat.le_refl ((c :: u).drop len).length)
          rw [hsk] at hsl
          dsimp only at hsl
          have hpos : s.length - (c :: u).length = a := by omega
          have hpl : 0 < (c :: u).length := by simp
          rw [List.length_drop] at hsl hll
          have ih := lexW_good s m w (s.length - w.length) l2 hwd (by omega) e2
          refine ⟨by omega, by omega, hk.1, ?_, ?_⟩
          · intro h14
            obtain ⟨h1, h2, h3⟩ := hk.2 h14
            rw [hpos]
            refine ⟨h1, by omega, ?_⟩
            rw [List.drop_take, show a + t.length - a = t.length by omega, hd, h3]
          · exact ih.le (by omega)
def PlOk (s : List UInt8) (xs : List Tok) : Prop := ∀ i k t n a, xs[i]? = some (k, t, n, a) → a ≤ s.length ∧ (k = 5 ↔ i + 1 = xs.length) ∧ (∀ j k2 t2 n2 a2, i = j + 1 → xs[j]? = some (k2, t2, n2, a2) → a2 < a) ∧ TextOk s k t a
theorem good_all (s : List UInt8) : ∀ (l : List Tok) (lb : Nat), Good s lb l → lb ≤ s.length → (∀ (i k : Nat) (t : List UInt8) (n a : Nat), (l ++ [((5, [], 0, s.length) : Tok)])[i]? = some (k, t, n, a) → lb ≤ a) ∧ PlOk s (l ++ [(5, [], 0, s.length)])
  | [], lb, _, hlb => by
    constructor
    · intro i k t n a h
      cases i with
      | zero => simp at h; omega
      | succ i => simp at h
    · intro i k t n a h
      cases i with
      | zero =>
        simp at h
        obtain ⟨rfl, rfl, rfl, rfl⟩ := h
        exact ⟨Nat.le_refl _, by simp, fun j _ _ _ _ hj => by omega, fun h => by omega⟩
      | succ i => simp at h
  | (k0, t0, n0, a0) :: l, lb, g, hlb => by
    obtain ⟨g1, g2, g3, g4, g5⟩ := g
    obtain ⟨ih1, ih2⟩ := good_all s l (a0 + 1) g5 (by omega)
    constructor
    · intro i k t n a h
      cases i with
      | zero => simp at h; omega
      | succ i => have := ih1 i k t n a (by simpa using h); omega
    · intro i k t n a h
      cases i with
      | zero =>
        simp at h
        obtain ⟨rfl, rfl, rfl, rfl⟩ := h
        refine ⟨by omega, ⟨fun e => absurd e g3, fun e => by simp at e⟩, fun j _ _ _ _ hj => by omega, g4⟩
      | succ i =>
        have h' : (l ++ [((5, [], 0, s.length) : Tok)])[i]? = some (k, t, n, a) := by simpa using h
        obtain ⟨h1, h2, h3, h4⟩ := ih2 i k t n a h'
        refine ⟨h1, by rw [h2]; simp, ?_, h4⟩
        intro j k2 t2 n2 a2 hj hg
        cases j with
        | zero =>
          simp at hg
          have := ih1 i k t n a h'
          omega
        | succ j => exact h3 j k2 t2 n2 a2 (by omega) (by simpa using hg)
theorem lexF_ok {s : List UInt8} {xs : List Tok} (h : lexF s = .ok xs) : PlOk s xs ∧ 0 < xs.length := by
  unfold lexF at h
  split at h
  · cases h
  · split at h
    · cases h
    · rename_i w hsk
      split at h
      · cases h
      · rename_i l e
        cases h
        have hwd := skip_suffix s 0 s w true rfl (by simp) hsk
        have hsl := skipF_le _ s (Nat.le_refl _)
        rw [hsk] at hsl
        dsimp only at hsl
        have g := lexW_good s _ w (s.length - w.length) l hwd (by omega) e
        exact ⟨(good_all s l _ g (by omega)).2, by simp⟩
theorem lexF_len {s : List UInt8} {xs : List Tok} (h : lexF s = .ok xs) : xs.length ≤ s.length + 2 := by
  unfold lexF at h
  split at h
  · cases h
  · split at h
    · cases h
    · split at h
      · cases h
      · rename_i l e
        cases h
        have := lexW_len _ _ _ _ e
        simp; omega
theorem lexW_err : ∀ (m total : Nat) (u : List UInt8) (e k : Nat), lexW total m u = .error (e, k) → (e = 2 ∨ e = 3) ∧ k ≤ total
  | m, _, [], e, k, h => by cases m <;> (simp only [lexW] at h; cases h)
  | 0, _, _ :: _, e, k, h => by simp only [lexW] at h; cases h; exact ⟨.inl rfl, Nat.zero_le _⟩
  | m + 1, total, c :: u, e, k, h => by
    simp only [lexW] at h
    split at h
    · rename_i he; cases h; exact ⟨wordW_err he, Nat.sub_le _ _⟩
    · split at h
      · cases h; exact ⟨.inl rfl, Nat.sub_le _ _⟩
      · split at h
        · rename_i x e2
          cases h
          exact lexW_err m total _ e k e2
        · cases h
theorem lexF_err {s : List UInt8} {e k : Nat} (h : lexF s = .error (e, k)) : (e = 2 ∨ e = 3) ∧ k ≤ s.length := by
  unfold lexF at h
  split at h
  · cases h; exact ⟨.inr rfl, Nat.zero_le _⟩
  · split at h
    · cases h; exact ⟨.inl rfl, Nat.sub_le _ _⟩
    · split at h
      · rename_i x e2; cases h; exact lexW_err _ _ _ e k e2
      · cases h

abbrev plLoop : CCode := (.loop true (.seq (.seq (.region [⟨.mv (.var 7), none⟩, ⟨.mv (.var 5), none⟩, ⟨.len false (.loc 0), none⟩, ⟨.bin .lss (.loc 2) (.loc 0), none⟩] [(8, 3)] [] []) (.cond (.var 8) .skip (.exit 0))) (.seq (.block 1 (.seq (.region [⟨.mv (.var 5), none⟩, ⟨.mv (.var 7), none⟩, ⟨.idxAddr 4 (.loc 1) (.loc 0), none⟩, ⟨.load (some 4) (.loc 0), none⟩, ⟨.lazy 33554436, none⟩, ⟨.init 4 (.loc 0) (.loc 1), none⟩] [(9, 4)] [] []) (.seq (.seq (.region [⟨.fieldAddr 3 (.var 9), none⟩, ⟨.load none (.loc 0), none⟩, ⟨.bin .lss (.loc 0) (.const (.int .i64 0)), none⟩, ⟨.mv (.loc 0), none⟩, ⟨.fieldAddr 3 (.var 9), (some (0, false))⟩, ⟨.load none (.loc 0), (some (1, false))⟩, ⟨.mv (.var 1), (some (2, false))⟩, ⟨.len true (.loc 0), (some (3, false))⟩, ⟨.bin .gtr (.loc 2) (.loc 0), (some (4, false))⟩, ⟨.pick (.loc 5) (.const (.bool true)) (.loc 0), none⟩, ⟨.mv (.loc 0), none⟩, ⟨.mv (.var 7), (some (0, false))⟩, ⟨.bin .gtr (.loc 0) (.const (.int .i64 0)), (some (1, false))⟩, ⟨.mv (.loc 0), (some (2, false))⟩, ⟨.fieldAddr 3 (.var 9), (some (0, true))⟩, ⟨.load none (.loc 0), (some (1, true))⟩, ⟨.mv (.var 5), (some (2, true))⟩, ⟨.mv (.var 7), (some (3, true))⟩, ⟨.bin .sub (.loc 0) (.const (.int .i64 1)), (some (4, true))⟩, ⟨.idxAddr 4 (.loc 2) (.loc 0), (some (5, true))⟩, ⟨.fieldAddr 3 (.loc 0), (some (6, true))⟩, ⟨.load none (.loc 0), (some (7, true))⟩, ⟨.bin .leq (.loc 6) (.loc 0), (some (8, true))⟩, ⟨.pick (.loc 9) (.loc 0) (.const (.bool false)), (some (12, false))⟩, ⟨.pick (.loc 13) (.const (.bool true)) (.loc 0), none⟩, ⟨.mv (.loc 0), none⟩, ⟨.fieldAddr 0 (.var 9), (some (0, false))⟩, ⟨.load none (.loc 0), (some (1, false))⟩, ⟨.bin .eql (.loc 0) (.const (.int .i64 5)), (some (2, false))⟩, ⟨.mv (.var 7), (some (3, false))⟩, ⟨.mv (.var 5), (some (4, false))⟩, ⟨.len false (.loc 0), (some (5, false))⟩, ⟨.bin .sub (.loc 0) (.const (.int .i64 1)), (some (6, false))⟩, ⟨.bin .eql (.loc 3) (.loc 0), (some (7, false))⟩, ⟨.eqv .bool true (.loc 5) (.loc 0), (some (8, false))⟩, ⟨.pick (.loc 9) (.const (.bool true)) (.loc 0), none⟩] [(10, 35)] [] []) (.cond (.var 10) (.seq (.region [⟨.mv (.const (.bool false)), none⟩] [(12, 0)] [] []) .ret) .skip)) (.seq (.region [⟨.fieldAddr 0 (.var 9), none⟩, ⟨.load none (.loc 0), none⟩, ⟨.bin .eql (.loc 0) (.const (.int .i64 1)), none⟩, ⟨.mv (.loc 0), none⟩, ⟨.fieldAddr 0 (.var 9), (some (0, false))⟩, ⟨.load none (.loc 0), (some (1, false))⟩, ⟨.bin .eql (.loc 0) (.const (.int .i64 4)), (some (2, false))⟩, ⟨.pick (.loc 3) (.const (.bool true)) (.loc 0), none⟩, ⟨.mv (.loc 0), none⟩, ⟨.fieldAddr 3 (.var 9), (some (0, true))⟩, ⟨.load none (.loc 0), (some (1, true))⟩, ⟨.fieldAddr 1 (.var 9), (some (2, true))⟩, ⟨.load none (.loc 0), (some (3, true))⟩, ⟨.len true (.loc 0), (some (4, true))⟩, ⟨.bin .add (.loc 3) (.loc 0), (some (5, true))⟩, ⟨.mv (.var 1), (some (6, true))⟩, ⟨.len true (.loc 0), (some (7, true))⟩, ⟨.bin .gtr (.loc 2) (.loc 0), (some (8, true))⟩, ⟨.mv (.loc 0), (some (9, true))⟩, ⟨.mv (.var 1), (some (0, false))⟩, ⟨.fieldAddr 3 (.var 9), (some (1, false))⟩, ⟨.load none (.loc 0), (some (2, false))⟩, ⟨.fieldAddr 3 (.var 9), (some (3, false))⟩, ⟨.load none (.loc 0), (some (4, false))⟩, ⟨.fieldAddr 1 (.var 9), (some (5, false))⟩, ⟨.load none (.loc 0), (some (6, false))⟩, ⟨.len true (.loc 0), (some (7, false))⟩, ⟨.bin .add (.loc 3) (.loc 0), (some (8, false))⟩, ⟨.slc 0 (.loc 8) (some (.loc 6)) (some (.loc 0)), (some (9, false))⟩, ⟨.fieldAddr 1 (.var 9), (some (10, false))⟩, ⟨.load none (.loc 0), (some (11, false))⟩, ⟨.bin .neq (.loc 2) (.loc 0), (some (12, false))⟩, ⟨.pick (.loc 13) (.const (.bool true)) (.loc 0), (some (23, true))⟩, ⟨.mv (.loc 0), (some (24, true))⟩, ⟨.fieldAddr 1 (.var 9), (some (0, false))⟩, ⟨.load none (.loc 0), (some (1, false))⟩, ⟨.bin .eql (.loc 0) (.const (.str [])), (some (2, false))⟩, ⟨.pick (.loc 3) (.const (.bool true)) (.loc 0), (some (28, true))⟩, ⟨.pick (.loc 29) (.loc 0) (.const (.bool false)), none⟩] [(11, 38)] [] []) (.cond (.var 11) (.seq (.region [⟨.mv (.const (.bool false)), none⟩] [(12, 0)] [] []) .ret) .skip))))) (.region [⟨.mv (.var 7), none⟩, ⟨.bin .add (.loc 0) (.const (.int .i64 1)), none⟩, ⟨.mv (.loc 0), none⟩] [(7, 2)] [] []))))
set_option maxHeartbeats 2000000 in
theorem pl_loop (s : List UInt8) (hs : s.length ≤ 200) (xs : List Tok) (hP : PlOk s xs) (hxl : xs.length ≤ 100000) (v0 v2 v3 v4 v6 v12 : CVal) (Q : CExit → CSt → Prop) : ∀ (m i : Nat), xs.length - i ≤ m → i ≤ xs.length → ∀ (h : CHeap) (v8 v9 v10 v11 : CVal), Fit h →
    (∀ n' ty w7 w8 w9 w10 w11, h.next ≤ n' → UnderT ty n' → Q (.exit 0) ⟨[v0, .str s, v2, v3, v4, .imm .none 4 (xs.map tokV), v6, w7, w8, w9, w10, w11, v12], ⟨h.ents, n', ty⟩, []⟩) →
    W tree.getF plLoop ⟨[v0, .str s, v2, v3, v4, .imm .none 4 (xs.map tokV), v6, .int .i64 (i : Int), v8, v9, v10, v11, v12], h, []⟩ Q := by
  intro m
  induction m with
  | zero =>
    intro i hm hi h v8 v9 v10 v11 hf hk
    have hie : xs.length = i := by omega
    obtain ⟨hu, hut⟩ := hf
    have hD : ∀ m, h.next ≤ m → dropEnts h.ents m = h.ents := fun m hm => dropEnts_under (hu.le hm)
    have hC : ∀ m, h.next ≤ m → dropCells h.ents m = h.ents := fun m hm => dropCells_under (hu.le hm)
    have hN : ∀ q, h.next ≤ q → getEnt h.ents q = none := fun q hq => getEnt_under hu hq
    have hT : ∀ q, h.next ≤ q → lookupN h.tys q = none := fun q hq => lookupN_under hut hq

    refine W.loop ?_
    repeat (first
      | refine W.seq ?_
      | refine W.block ?_
      | ((first | refine W.regG ?_ | refine WoR.go ?_); generalize e : goR _ _ _ _ _ _ _ _ = r; simp (disch := omega) [hD, hC, hN, hT, List.length_map, hie] at e; replace e : some _ = _ := e; subst e; (try dsimp only [goW]))
      | refine W.cond_true rfl ?_
      | refine W.cond_false rfl ?_
      | refine W.skip ?_
      | refine W.exit ?_
      | (refine hk _ _ _ _ _ _ _ ?_ ?_; (focus (((try dsimp only); omega); done)); repeat (first | exact hut.le (by (try dsimp only); omega) | refine UnderT.cons (by (try dsimp only); omega) ?_ | exact UnderT.nil | assumption | exact UnderT.le (by assumption) (by (try dsimp only); omega))))
  | succ m ih =>
    intro i hm hi h v8 v9 v10 v11 hf hk
    obtain ⟨hu, hut⟩ := hf
    have hD : ∀ m, h.next ≤ m → dropEnts h.ents m = h.ents := fun m hm => dropEnts_under (hu.le hm)
    have hC : ∀ m, h.next ≤ m → dropCells h.ents m = h.ents := fun m hm => dropCells_under (hu.le hm)
    have hN : ∀ q, h.next ≤ q → getEnt h.ents q = none := fun q hq => getEnt_under hu hq
    have hT : ∀ q, h.next ≤ q → lookupN h.tys q = none := fun q hq => lookupN_under hut hq

    rcases Nat.lt_or_ge i xs.length with hlt | hge
    · obtain ⟨x, hx⟩ : ∃ x, xs[i]? = some x := ⟨_, List.getElem?_eq_getElem hlt⟩
      obtain ⟨k, t, n, a⟩ := x
      obtain ⟨h1, h2, h3, h4⟩ := hP i k t n a hx
      have hn := nth_mapG tokV xs i _ hx
      dsimp only [tokV] at hn
      have hcont : ∀ (h' : CHeap) (w8 w9 w10 w11 : CVal), h'.ents = h.ents → h.next ≤ h'.next → UnderT h'.tys h'.next → W tree.getF plLoop ⟨[v0, .str s, v2, v3, v4, .imm .none 4 (xs.map tokV), v6, .int .i64 ((i : Int) + 1), w8, w9, w10, w11, v12], h', []⟩ Q := by
        intro h' w8 w9 w10 w11 e1 e2 e3
        refine ih (i + 1) (by omega) (by omega) h' _ _ _ _ ⟨by rw [e1]; exact hu.le e2, e3⟩ ?_
        intro n' ty w7 w8 w9 w10 w11 g1 g2
        rw [e1]; exact hk n' ty w7 w8 w9 w10 w11 (by omega) g2
      have hat : ¬ ((s.length : Int) < (a : Int)) := by omega
      cases i with
      | zero =>
        by_cases hk5 : k = 5
        · subst hk5
          have hlast := h2.1 rfl
          have hlast2 : xs.length = 1 := by omega
          refine W.loop ?_
          repeat (first
            | refine W.seq ?_
            | refine W.block ?_
            | ((first | refine W.regG ?_ | refine WoR.go ?_); generalize e : goR _ _ _ _ _ _ _ _ = r; simp (disch := omega) [hD, hC, hN, hT, List.length_map, hn, hat, hlast2] at e; replace e : some _ = _ := e; subst e; (try dsimp only [goW]))
            | refine W.cond_true rfl ?_
            | refine W.cond_false rfl ?_
            | refine W.skip ?_
            | refine W.exit ?_)
          show W tree.getF plLoop (dropped true _ _) Q
          generalize e : dropped _ _ _ = r9
          simp (disch := omega) [hD, hC, hN, hT, List.length_map, hn, hat] at e
          subst e
          refine hcont _ _ _ _ _ ?_ ?_ ?_
          · rfl
          · (try dsimp only); omega
          · repeat (first | exact hut.le (by (try dsimp only); omega) | refine UnderT.cons (by (try dsimp only); omega) ?_ | exact UnderT.nil | assumption | exact UnderT.le (by assumption) (by (try dsimp only); omega))
        · have hnl : ¬ (0 + 1 = xs.length) := fun e => hk5 (h2.2 e)
          have hk5i : ¬ ((k : Int) = 5) := by omega
          have hnl2 : ¬ ((0 : Int) = (xs.length : Int) - 1) := by omega
          by_cases hk14 : k = 1 ∨ k = 4
          · obtain ⟨g1, g2, g3⟩ := h4 hk14
            have hta : ((a : Int) + (t.length : Int)).toNat = a + t.length := by omega
            have hgt : ¬ ((s.length : Int) < (a : Int) + (t.length : Int)) := by omega
            have hte : t.isEmpty = false := by cases t with | nil => exact absurd rfl g1 | cons => rfl
            rcases hk14 with rfl | rfl
            · refine W.loop ?_
              repeat (first
                | refine W.seq ?_
                | refine W.block ?_
                | ((first | refine W.regG ?_ | refine WoR.go ?_); generalize e : goR _ _ _ _ _ _ _ _ = r; simp (disch := omega) [hD, hC, hN, hT, List.length_map, hn, hat, hnl2, hta, hgt, hte, g1, g3] at e; replace e : some _ = _ := e; subst e; (try dsimp only [goW]))
                | refine W.cond_true rfl ?_
                | refine W.cond_false rfl ?_
                | refine W.skip ?_
                | refine W.exit ?_)
              show W tree.getF plLoop (dropped true _ _) Q
              generalize e : dropped _ _ _ = r9
              simp (disch := omega) [hD, hC, hN, hT, List.length_map, hn, hat] at e
              subst e
              refine hcont _ _ _ _ _ ?_ ?_ ?_
              · rfl
              · (try dsimp only); omega
              · repeat (first | exact hut.le (by (try dsimp only); omega) | refine UnderT.cons (by (try dsimp only); omega) ?_ | exact UnderT.nil | assumption | exact UnderT.le (by assumption) (by (try dsimp only); omega))
            · refine W.loop ?_
              repeat (first
                | refine W.seq ?_
                | refine W.block ?_
                | ((first | refine W.regG ?_ | refine WoR.go ?_); generalize e : goR _ _ _ _ _ _ _ _ = r; simp (disch := omega) [hD, hC, hN, hT, List.length_map, hn, hat, hnl2, hta, hgt, hte, g1, g3] at e; replace e : some _ = _ := e; subst e; (try dsimp only [goW]))
                | refine W.cond_true rfl ?_
                | refine W.cond_false rfl ?_
                | refine W.skip ?_
                | refine W.exit ?_)
              show W tree.getF plLoop (dropped true _ _) Q
              generalize e : dropped _ _ _ = r9
              simp (disch := omega) [hD, hC, hN, hT, List.length_map, hn, hat] at e
              subst e
              refine hcont _ _ _ _ _ ?_ ?_ ?_
              · rfl
              · (try dsimp only); omega
              · repeat (first | exact hut.le (by (try dsimp only); omega) | refine UnderT.cons (by (try dsimp only); omega) ?_ | exact UnderT.nil | assumption | exact UnderT.le (by assumption) (by (try dsimp only); omega))
          · have hk1 : ¬ ((k : Int) = 1) := by omega
            have hk4 : ¬ ((k : Int) = 4) := by omega
            refine W.loop ?_
            repeat (first
              | refine W.seq ?_
              | refine W.block ?_
              | ((first | refine W.regG ?_ | refine WoR.go ?_); generalize e : goR _ _ _ _ _ _ _ _ = r; simp (disch := omega) [hD, hC, hN, hT, List.length_map, hn, hat, hk5i, hnl2, hk1, hk4] at e; replace e : some _ = _ := e; subst e; (try dsimp only [goW]))
              | refine W.cond_true rfl ?_
              | refine W.cond_false rfl ?_
              | refine W.skip ?_
              | refine W.exit ?_)
            show W tree.getF plLoop (dropped true _ _) Q
            generalize e : dropped _ _ _ = r9
            simp (disch := omega) [hD, hC, hN, hT, List.length_map, hn, hat] at e
            subst e
            refine hcont _ _ _ _ _ ?_ ?_ ?_
            · rfl
            · (try dsimp only); omega
            · repeat (first | exact hut.le (by (try dsimp only); omega) | refine UnderT.cons (by (try dsimp only); omega) ?_ | exact UnderT.nil | assumption | exact UnderT.le (by assumption) (by (try dsimp only); omega))
      | succ j =>
        obtain ⟨y, hy⟩ : ∃ y, xs[j]? = some y := ⟨_, List.getElem?_eq_getElem (by omega)⟩
        obtain ⟨k2, t2, n2, a2⟩ := y
        have hlt2 := h3 j k2 t2 n2 a2 rfl hy
        have hn2 := nth_mapG tokV xs j _ hy
        dsimp only [tokV] at hn2
        have hto : ((j : Int) + 1).toNat = j + 1 := by omega
        by_cases hk5 : k = 5
        · subst hk5
          have hlast := h2.1 rfl
          have hlast2 : xs.length = j + 2 := by omega
          have hj2 : (j : Int) + 2 - 1 = (j : Int) + 1 := by omega
          refine W.loop ?_
          repeat (first
            | refine W.seq ?_
            | refine W.block ?_
            | ((first | refine W.regG ?_ | refine WoR.go ?_); generalize e : goR _ _ _ _ _ _ _ _ = r; simp (disch := omega) [hD, hC, hN, hT, List.length_map, hn, hat, hn2, hto, hlast2, hj2] at e; replace e : some _ = _ := e; subst e; (try dsimp only [goW]))
            | refine W.cond_true rfl ?_
            | refine W.cond_false rfl ?_
            | refine W.skip ?_
            | refine W.exit ?_)
          show W tree.getF plLoop (dropped true _ _) Q
          generalize e : dropped _ _ _ = r9
          simp (disch := omega) [hD, hC, hN, hT, List.length_map, hn, hat, hn2, hto] at e
          subst e
          refine hcont _ _ _ _ _ ?_ ?_ ?_
          · rfl
          · (try dsimp only); omega
          · repeat (first | exact hut.le (by (try dsimp only); omega) | refine UnderT.cons (by (try dsimp only); omega) ?_ | exact UnderT.nil | assumption | exact UnderT.le (by assumption) (by (try dsimp only); omega))
        · have hnl : ¬ ((j + 1) + 1 = xs.length) := fun e => hk5 (h2.2 e)
          have hk5i : ¬ ((k : Int) = 5) := by omega
          have hnl2 : ¬ ((j : Int) + 1 = (xs.length : Int) - 1) := by omega
          by_cases hk14 : k = 1 ∨ k = 4
          · obtain ⟨g1, g2, g3⟩ := h4 hk14
            have hta : ((a : Int) + (t.length : Int)).toNat = a + t.length := by omega
            have hgt : ¬ ((s.length : Int) < (a : Int) + (t.length : Int)) := by omega
            have hte : t.isEmpty = false := by cases t with | nil => exact absurd rfl g1 | cons => rfl
            rcases hk14 with rfl | rfl
            · refine W.loop ?_
              repeat (first
                | refine W.seq ?_
                | refine W.block ?_
                | ((first | refine W.regG ?_ | refine WoR.go ?_); generalize e : goR _ _ _ _ _ _ _ _ = r; simp (disch := omega) [hD, hC, hN, hT, List.length_map, hn, hat, hn2, hto, hnl2, hta, hgt, hte, g1, g3] at e; replace e : some _ = _ := e; subst e; (try dsimp only [goW]))
                | refine W.cond_true rfl ?_
                | refine W.cond_false rfl ?_
                | refine W.skip ?_
                | refine W.exit ?_)
              show W tree.getF plLoop (dropped true _ _) Q
              generalize e : dropped _ _ _ = r9
              simp (disch := omega) [hD, hC, hN, hT, List.length_map, hn, hat, hn2, hto] at e
              subst e
              refine hcont _ _ _ _ _ ?_ ?_ ?_
              · rfl
              · (try dsimp only); omega
              · repeat (first | exact hut.le (by (try dsimp only); omega) | refine UnderT.cons (by (try dsimp only); omega) ?_ | exact UnderT.nil | assumption | exact UnderT.le (by assumption) (by (try dsimp only); omega))
            · refine W.loop ?_
              repeat (first
                | refine W.seq ?_
                | refine W.block ?_
                | ((first | refine W.regG ?_ | refine WoR.go ?_); generalize e : goR _ _ _ _ _ _ _ _ = r; simp (disch := omega) [hD, hC, hN, hT, List.length_map, hn, hat, hn2, hto, hnl2, hta, hgt, hte, g1, g3] at e; replace e : some _ = _ := e; subst e; (try dsimp only [goW]))
                | refine W.cond_true rfl ?_
                | refine W.cond_false rfl ?_
                | refine W.skip ?_
                | refine W.exit ?_)
              show W tree.getF plLoop (dropped true _ _) Q
              generalize e : dropped _ _ _ = r9
              simp (disch := omega) [hD, hC, hN, hT, List.length_map, hn, hat, hn2, hto] at e
              subst e
              refine hcont _ _ _ _ _ ?_ ?_ ?_
              · rfl
              · (try dsimp only); omega
              · repeat (first | exact hut.le (by (try dsimp only); omega) | refine UnderT.cons (by (try dsimp only); omega) ?_ | exact UnderT.nil | assumption | exact UnderT.le (by assumption) (by (try dsimp only); omega))
          · have hk1 : ¬ ((k : Int) = 1) := by omega
            have hk4 : ¬ ((k : Int) = 4) := by omega
            refine W.loop ?_
            repeat (first
              | refine W.seq ?_
              | refine W.block ?_
              | ((first | refine W.regG ?_ | refine WoR.go ?_); generalize e : goR _ _ _ _ _ _ _ _ = r; simp (disch := omega) [hD, hC, hN, hT, List.length_map, hn, hat, hn2, hto, hk5i, hnl2, hk1, hk4] at e; replace e : some _ = _ := e; subst e; (try dsimp only [goW]))
              | refine W.cond_true rfl ?_
              | refine W.cond_false rfl ?_
              | refine W.skip ?_
              | refine W.exit ?_)
            show W tree.getF plLoop (dropped true _ _) Q
            generalize e : dropped _ _ _ = r9
            simp (disch := omega) [hD, hC, hN, hT, List.length_map, hn, hat, hn2, hto] at e
            subst e
            refine hcont _ _ _ _ _ ?_ ?_ ?_
            · rfl
            · (try dsimp only); omega
            · repeat (first | exact hut.le (by (try dsimp only); omega) | refine UnderT.cons (by (try dsimp only); omega) ?_ | exact UnderT.nil | assumption | exact UnderT.le (by assumption) (by (try dsimp only); omega))
    · have hie : xs.length = i := by omega
      refine W.loop ?_
      repeat (first
        | refine W.seq ?_
        | refine W.block ?_
        | ((first | refine W.regG ?_ | refine WoR.go ?_); generalize e : goR _ _ _ _ _ _ _ _ = r; simp (disch := omega) [hD, hC, hN, hT, List.length_map, hie] at e; replace e : some _ = _ := e; subst e; (try dsimp only [goW]))
        | refine W.cond_true rfl ?_
        | refine W.cond_false rfl ?_
        | refine W.skip ?_
        | refine W.exit ?_
        | (refine hk _ _ _ _ _ _ _ ?_ ?_; (focus (((try dsimp only); omega); done)); repeat (first | exact hut.le (by (try dsimp only); omega) | refine UnderT.cons (by (try dsimp only); omega) ?_ | exact UnderT.nil | assumption | exact UnderT.le (by assumption) (by (try dsimp only); omega))))

theorem law (s : List UInt8) : Wc tree.getF 4 [.str s] noHeap fun v _ => v = .bool true := by
  rcases Nat.lt_or_ge 200 s.length with hlong | hs
  ·
    refine Wc.mkG 4 c4 (by kernel_rfl) rfl ?_
    generalize e : entryC _ _ _ = r
    simp (disch := omega) [noHeap, List.length_map, c4] at e
    subst e
    repeat (first
      | refine W.seq ?_
      | refine W.block ?_
      | ((first | refine W.regG ?_ | refine WoR.go ?_); generalize e : goR _ _ _ _ _ _ _ _ = r; simp (disch := omega) [noHeap, List.length_map, c4] at e; replace e : some _ = _ := e; subst e; (try dsimp only [goW]))
      | refine W.cond_true rfl ?_
      | refine W.cond_false rfl ?_
      | refine W.skip ?_
      | refine W.exit ?_
      | (refine wc_start (m := 1000000) (by kernel_rfl) fun n1 ty1 hn1 hut1 => ⟨rfl, ?_⟩)
      | ((first | (refine W.ret ?_; (try simp only [outOf, thenW_ret, roundW]); refine endW.of (.inl rfl) rfl ?_) | refine endW.of (.inr rfl) rfl ?_); generalize e : endsC _ _ _ = r; simp (disch := omega) [noHeap, List.length_map, c4] at e; subst e; (try dsimp only [goW]); (all_goals rfl)))
  · have LX := lex_F s (by omega)
    unfold lexV at LX
    cases hl : lexF s with
    | error x =>
      obtain ⟨e, k⟩ := x
      rw [hl] at LX
      dsimp only at LX
      have he := lexF_err hl
      have he0 : ¬ ((e : Int) = 0) := by omega
      have he1 : ¬ (e = 0) := by omega
      have hbe : ((e : Int) != 0) = true := by simpa using he1
      have hbe2 : (e != 0) = true := by simpa using he1
      refine Wc.mkG 4 c4 (by kernel_rfl) rfl ?_
      generalize e : entryC _ _ _ = r
      simp (disch := omega) [noHeap, List.length_map, c4] at e
      subst e
      repeat (first
        | refine W.seq ?_
        | refine W.block ?_
        | ((first | refine W.regG ?_ | refine WoR.go ?_); generalize e : goR _ _ _ _ _ _ _ _ = r; simp (disch := omega) [noHeap, List.length_map, he0, he1, hbe, hbe2, c4] at e; replace e : some _ = _ := e; subst e; (try dsimp only [goW]))
        | refine W.cond_true rfl ?_
        | refine W.cond_false rfl ?_
        | refine W.skip ?_
        | refine W.exit ?_
        | (refine wc_start (m := 1000000) (by kernel_rfl) fun n1 ty1 hn1 hut1 => ⟨rfl, ?_⟩)
        | (refine LX _ ?_ _ fun n2 tyn2 hn2 hun2 => ⟨rfl, ?_⟩; (focus (((refine ⟨?_, ?_⟩; (focus ((repeat (first | refine Under.cons (by (try dsimp only); omega) ?_ | exact Under.nil)); done)); (focus ((repeat (first | refine UnderT.cons (by (try dsimp only); omega) ?_ | exact UnderT.nil | assumption | exact UnderT.le (by assumption) (by (try dsimp only); omega))); done)))); done)); (try dsimp only at hn2))
        | ((first | (refine W.ret ?_; (try simp only [outOf, thenW_ret, roundW]); refine endW.of (.inl rfl) rfl ?_) | refine endW.of (.inr rfl) rfl ?_); generalize e : endsC _ _ _ = r; simp (disch := omega) [noHeap, List.length_map, he0, he1, hbe, hbe2, c4] at e; subst e; (try dsimp only [goW]); (all_goals rfl)))
    | ok xs =>
      rw [hl] at LX
      dsimp only at LX
      obtain ⟨hP, hpos⟩ := lexF_ok hl
      have hxl := lexF_len hl
      refine Wc.mkG 4 c4 (by kernel_rfl) rfl ?_
      generalize e : entryC _ _ _ = r
      simp (disch := omega) [noHeap, List.length_map, c4] at e
      subst e
      repeat (first
        | refine W.seq ?_
        | refine W.block ?_
        | ((first | refine W.regG ?_ | refine WoR.go ?_); generalize e : goR _ _ _ _ _ _ _ _ = r; simp (disch := omega) [noHeap, List.length_map, c4] at e; replace e : some _ = _ := e; subst e; (try dsimp only [goW]))
        | refine W.cond_true rfl ?_
        | refine W.cond_false rfl ?_
        | refine W.skip ?_
        | refine W.exit ?_
        | (refine wc_start (m := 1000000) (by kernel_rfl) fun n1 ty1 hn1 hut1 => ⟨rfl, ?_⟩)
        | (refine LX _ ?_ _ fun n2 tyn2 hn2 hun2 => ⟨rfl, ?_⟩; (focus (((refine ⟨?_, ?_⟩; (focus ((repeat (first | refine Under.cons (by (try dsimp only); omega) ?_ | exact Under.nil)); done)); (focus ((repeat (first | refine UnderT.cons (by (try dsimp only); omega) ?_ | exact UnderT.nil | assumption | exact UnderT.le (by assumption) (by (try dsimp only); omega))); done)))); done)); (try dsimp only at hn2)))
      refine pl_loop s hs xs hP (by omega) _ _ _ _ _ _ _ xs.length 0 (by omega) (by omega) _ _ _ _ _ ?_ ?_
      · exact ⟨Under.nil, UnderT.le (by assumption) (by (try dsimp only); omega)⟩
      · intro n' ty w7 w8 w9 w10 w11 g1 g2
        try dsimp only at g1
        repeat (first
          | refine W.seq ?_
          | refine W.block ?_
          | ((first | refine W.regG ?_ | refine WoR.go ?_); generalize e : goR _ _ _ _ _ _ _ _ = r; simp (disch := omega) [noHeap, List.length_map, hpos, c4] at e; replace e : some _ = _ := e; subst e; (try dsimp only [goW]))
          | refine W.cond_true rfl ?_
          | refine W.cond_false rfl ?_
          | refine W.skip ?_
          | refine W.exit ?_
          | ((first | (refine W.ret ?_; (try simp only [outOf, thenW_ret, roundW]); refine endW.of (.inl rfl) rfl ?_) | refine endW.of (.inr rfl) rfl ?_); generalize e : endsC _ _ _ = r; simp (disch := omega) [noHeap, List.length_map, hpos, c4] at e; subst e; (try dsimp only [goW]); (all_goals rfl)))
end Go.Proofs.YthblmflngjofjaaDoor.IrP
