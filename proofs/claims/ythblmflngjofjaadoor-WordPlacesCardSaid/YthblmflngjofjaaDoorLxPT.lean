/- What the functions of the law 'WordPlaces' do: part 20. -/
import Derived.Test.YthblmflngjofjaaDoorLxPS
namespace Go.Proofs.YthblmflngjofjaaDoor.IrP
open Go Go.CI
open Go.LexF hiding spacesB lettersB
set_option maxRecDepth 100000
set_option linter.unusedVariables false
set_option linter.unusedSimpArgs false
attribute [local irreducible] W Wo Wc WoR
attribute [local simp] goR regOut checkOne swapOne sameAt nthOp CVal.beq beqs CVal.block storesTo entryC evalOps evalOper evalE evalP evalL evalOpnd nth setNth COp.cls COp.isStore CVal.isUndef CVal.whole CVal.cells CHeap.put CHeap.get CHeap.set wantedC getEnt setEnt partOf writeBack evalBin evalInt evalStr blockMost initVar descOf List.take List.drop CVal.lenOf CVal.isStr CVal.bare CVal.strip CVal.flat endsC resultsC oneOrTuple finishC cut fillCells setCells szOf szOf_desc elems bytesOf evalAppend fillElems mkElem setElem List.replicate sy_nbeq sy_neqF sy_leT sy_leF sy_setEnt_setEnt dropped sy_wrap64 dropEnts dropCells sizeMost sy_ibeqF sy_ieqF sy_ileT sy_ileF sy_iltT sy_iltF sy_ltT sy_ltF evalSlc optBound eqVal extL extE keyIs findKV nthKV setKV CHeap.ty lookupN CHeap.note CHeap.tyOk dropAll freezeVal freezeAll freezeFlat pCopyCheck pBString pMakeNoZero pIndexByte pClone pIndex hasPair rowOf byteVals idxFrom hasFront idxSub

abbrev Tok : Type := Nat × List UInt8 × Nat × Nat
abbrev tokV (t : Tok) : CVal := tokC t.1 t.2.1 t.2.2.1 t.2.2.2
/-- The words behind here (what stands here is no space): or an error, and where. -/
def lexW (total : Nat) : Nat → List UInt8 → Except (Nat × Nat) (List Tok)
  | _, [] => .ok []
  | 0, _ :: _ => .error (2, 0)
  | m + 1, c :: u => match wordW validF (c :: u) with
    | .err e => .error (e, total - (c :: u).length)
    | .tok k t n len => match skipF ((c :: u).drop len) with
      | (w, false) => .error (2, total - w.length)
      | (w, true) => match lexW total m w with
        | .error x => .error x
        | .ok l => .ok ((k, t, n, total - (c :: u).length) :: l)
def lexF (s : List UInt8) : Except (Nat × Nat) (List Tok) := if 3000 < s.length then .error (3, 0) else match skipF s with
  | (w, false) => .error (2, s.length - w.length)
  | (w, true) => match lexW s.length (s.length + 1) w with
    | .error x => .error x
    | .ok l => .ok (l ++ [(5, [], 0, s.length)])
theorem numF_len {c : UInt8} {r : List UInt8} {B n : Nat} {ds : List UInt8} (hc : D10.contains c = true) (h : numF (c :: r) = (B, n, ds)) : 1 ≤ n + ds.length ∧ n + ds.length ≤ (c :: r).length := by
  unfold numF at h
  split at h
  · rename_i hP
    cases h
    have := fr_len hexesB ((c :: r).drop 2)
    rw [List.length_drop] at this
    have h2 := hP.2
    omega
  · split at h
    · rename_i h48
      cases h
      simp at h48
      have := fr_len D8 (c :: r)
      have h2 : fr D8 (c :: r) = c :: fr D8 r := by unfold fr; rw [List.takeWhile_cons, if_pos (by rw [h48]; decide)]
      rw [h2] at this ⊢
      simp only [List.length_cons] at this ⊢
      omega
    · cases h
      have := fr_len D10 (c :: r)
      have h2 : fr D10 (c :: r) = c :: fr D10 r := by unfold fr; rw [List.takeWhile_cons, if_pos hc]
      rw [h2] at this ⊢
      simp only [List.length_cons] at this ⊢
      omega
theorem numW_tok {c : UInt8} {r : List UInt8} {k n len : Nat} {t : List UInt8} (hc : D10.contains c = true) (h : numW (c :: r) = .tok k t n len) : 1 ≤ len ∧ len ≤ (c :: r).length ∧ k = 2 ∧ t = [] := by
  unfold numW at h
  cases hF : numF (c :: r) with
  | mk B q =>
    obtain ⟨m, ds⟩ := q
    have hl := numF_len hc hF
    rw [hF] at h
    dsimp only at h
    split at h
    · cases h
    · split at h
      · cases h; exact ⟨hl.1, hl.2, rfl, rfl⟩
      · split at h
        · cases h
        · cases h; exact ⟨hl.1, hl.2, rfl, rfl⟩
theorem numW_err {s : List UInt8} {e : Nat} (h : numW s = .err e) : e = 2 ∨ e = 3 := by
  unfold numW at h
  cases hF : numF s with
  | mk B q =>
    obtain ⟨m, ds⟩ := q
    rw [hF] at h
    dsimp only at h
    split at h
    · cases h; exact .inr rfl
    · split at h
      · cases h
      · split at h
        · cases h; exact .inl rfl
        · cases h
theorem textF_len {q : UInt8} : ∀ (m : Nat) (r acc : List UInt8) (k : Nat) (t : List UInt8) (kk : Nat), r.length ≤ m → textF q r acc k = some (t, kk) → kk ≤ k + r.length
  | _, [], acc, k, t, kk, _, h => by simp [textF] at h
  | 0, c :: r, acc, k, t, kk, hm, h => by simp at hm
  | m + 1, c :: r, acc, k, t, kk, hm, h => by
    simp only [List.length_cons] at hm ⊢
    unfold textF at h
    split at h
    · cases h; omega
    · split at h
      · cases h
      · split at h
        · cases r with
          | nil => cases h
          | cons x u =>
            dsimp only at h
            simp only [List.length_cons] at hm ⊢
            split at h
            · cases h
            · have := textF_len m u _ _ _ _ (by omega) h; omega
        · have := textF_len m r _ _ _ _ (by omega) h; omega
theorem wordW_tok {c : UInt8} {r : List UInt8} {k n len : Nat} {t : List UInt8} (h : wordW validF (c :: r) = .tok k t n len) : 1 ≤ len ∧ len ≤ (c :: r).length := by
  unfold wordW at h
  dsimp only at h
  split at h
  · cases h; exact ⟨by omega, nameF_le _⟩
  · split at h
    · have := numW_tok (by assumption) h; exact ⟨this.1, this.2.1⟩
    · split at h
      · cases ht : textF c r [] 0 with
        | none => rw [ht] at h; cases h
        | some x =>
          obtain ⟨tt, kk⟩ := x
          rw [ht] at h
          dsimp only at h
          split at h
          · cases h
            have := textF_len r.length r _ _ _ _ (Nat.le_refl _) ht
            simp only [List.length_cons]; omega
          · cases h
      · split at h
        · cases h; simp
        · cases h
theorem wordW_err {c : UInt8} {r : List UInt8} {e : Nat} (h : wordW validF (c :: r) = .err e) : e = 2 ∨ e = 3 := by
  unfold wordW at h
  dsimp only at h
  split at h
  · cases h
  · split at h
    · exact numW_err h
    · split at h
      · cases ht : textF c r [] 0 with
        | none => rw [ht] at h; cases h; exact .inl rfl
        | some x =>
          obtain ⟨tt, kk⟩ := x
          rw [ht] at h
          dsimp only at h
          split at h
          · cases h
          · cases h; exact .inl rfl
      · split at h
        · cases h
        · cases h; exact .inl rfl
theorem skip_bk : ∀ (m : Nat) (r w : List UInt8) (b : Bool), r.length ≤ m → skipF r = (w, b) → ∃ x, r = x ++ w
  | _, [], w, b, _, h => by rw [skipF_nil] at h; cases h; exact ⟨[], rfl⟩
  | 0, c :: r, w, b, hm, h => by simp at hm
  | m + 1, c :: r, w, b, hm, h => by
    simp only [List.length_cons] at hm
    have back : ∀ (q y : List UInt8), c :: r = y ++ q → q.length ≤ m → skipF q = (w, b) → ∃ x, c :: r = x ++ w := by
      intro q y h1 h2 h4
      obtain ⟨x, hx⟩ := skip_bk m q w b h2 h4
      exact ⟨y ++ x, by rw [h1, hx, List.append_assoc]⟩
    rw [skipF_eq] at h
    split at h
    · exact back r [c] rfl (by omega) h
    · split at h
      · cases r with
        | nil => cases h; exact ⟨[], rfl⟩
        | cons d r' =>
          simp only [List.length_cons] at hm
          dsimp only at h
          split at h
          · have hl := dropLine_le r'
            refine back (dropLine r') (c :: d :: r'.take (r'.length - (dropLine r').length)) ?_ (by omega) h
            have := List.take_append_drop (r'.length - (dropLine r').length) r'
            rw [drop_line] at this
            simp only [List.cons_append, this]
          · split at h
            · cases hd : dropCmt r' with
              | none => rw [hd] at h; cases h; exact ⟨[], rfl⟩
              | some u =>
                rw [hd] at h
                have hl := dropCmt_lt hd
                have hi := idx_cmt r' 0
                rw [hd] at hi
                refine back u (c :: d :: r'.take (r'.length - u.length)) ?_ (by omega) h
                have := List.take_append_drop (r'.length - u.length) r'
                rw [hi.2] at this
                simp only [List.cons_append, this]
            · cases h; exact ⟨[], rfl⟩
      · cases h; exact ⟨[], rfl⟩
theorem skip_suffix (s : List UInt8) (a : Nat) (r w : List UInt8) (b : Bool) (hd : s.drop a = r) (hl : a + r.length = s.length) (h : skipF r = (w, b)) : s.drop (s.length - w.length) = w := by
  obtain ⟨x, hx⟩ := skip_bk _ r w b (Nat.le_refl _) h
  have h1 := List.take_append_drop a s
  rw [hd, hx, ← List.append_assoc] at h1
  have h2 : ∀ t y z : List UInt8, t = y ++ z → t.drop (t.length - z.length) = z := by intro t y z e; subst e; simp
  exact h2 _ _ _ h1.symm
abbrev lexLoop : CCode := (.loop true (.seq (.seq (.region [⟨.mv (.var 2), none⟩, ⟨.nilck (.loc 0), none⟩, ⟨.fieldAddr 3 (.loc 0), none⟩, ⟨.load none (.loc 0), none⟩, ⟨.bin .eql (.loc 0) (.const (.int .i64 0)), none⟩, ⟨.mv (.loc 0), none⟩, ⟨.mv (.var 2), (some (0, true))⟩, ⟨.nilck (.loc 0), (some (1, true))⟩, ⟨.fieldAddr 1 (.loc 0), (some (2, true))⟩, ⟨.load none (.loc 0), (some (3, true))⟩, ⟨.mv (.var 0), (some (4, true))⟩, ⟨.len true (.loc 0), (some (5, true))⟩, ⟨.bin .lss (.loc 2) (.loc 0), (some (6, true))⟩, ⟨.pick (.loc 7) (.loc 0) (.const (.bool false)), none⟩] [(3, 13)] [] []) (.cond (.var 3) .skip (.exit 0))) (.block 1 (.seq (.region [⟨.mv (.var 2), none⟩, ⟨.call false 10 [(.loc 0)], none⟩] [] [] []) (.seq (.region [⟨.mv (.var 2), none⟩, ⟨.nilck (.loc 0), none⟩, ⟨.fieldAddr 3 (.loc 0), none⟩, ⟨.load none (.loc 0), none⟩, ⟨.bin .eql (.loc 0) (.const (.int .i64 0)), none⟩] [(4, 4)] [] []) (.cond (.var 4) (.region [⟨.mv (.var 2), none⟩, ⟨.call false 9 [(.loc 0)], none⟩] [] [] []) .skip))))))

set_option maxHeartbeats 1000000 in
theorem lex_loop {n0 : Nat} {E0 : List (Nat × CObj)} (p d : Nat) (s : List UInt8) (hs : s.length ≤ 3000) (to : Int) (v1 v5 v6 v7 v8 : CVal) (Q : CExit → CSt → Prop) : ∀ (m : Nat) (u : List UInt8) (a : Nat), u.length ≤ m → s.drop a = u → a + u.length = s.length → ∀ (L : CVal) (ts : List CVal) (v3 v4 : CVal) (h : CHeap), ts.length ≤ a → St n0 E0 p s (a : Int) L ts 0 to h →
    (∀ l w3 w4 h' L' (at' : Int), lexW s.length m u = .ok l → St n0 E0 p s at' L' (ts ++ l.map tokV) 0 to h' → h.next ≤ h'.next → Q (.exit 0) ⟨[.str s, v1, .ptr p d 0, w3, w4, v5, v6, v7, v8], h', []⟩) →
    (∀ (e k : Nat) w3 w4 h' L' ts' (at' : Int), lexW s.length m u = .error (e, k) → 0 < e → St n0 E0 p s at' L' ts' (e : Int) (k : Int) h' → h.next ≤ h'.next → Q (.exit 0) ⟨[.str s, v1, .ptr p d 0, w3, w4, v5, v6, v7, v8], h', []⟩) →
    W tree.getF lexLoop ⟨[.str s, v1, .ptr p d 0, v3, v4, v5, v6, v7, v8], h, []⟩ Q := by
  intro m
  induction m with
  | zero =>
    intro u a hm hda hlen L ts v3 v4 h hta S hk1 hk2
    obtain rfl : u = [] := List.length_eq_zero_iff.1 (by omega)
    have hg := S.g
    have hae : s.length = a := by simpa using hlen.symm
    refine W.loop ?_
    repeat (first
      | refine W.seq ?_
      | refine W.block ?_
      | ((first | refine W.regG ?_ | refine WoR.go ?_); generalize e : goR _ _ _ _ _ _ _ _ = r; simp (disch := omega) [hg, hae] at e; replace e : some _ = _ := e; subst e; (try dsimp only [goW]))
      | refine W.cond_true rfl ?_
      | refine W.cond_false rfl ?_
      | refine W.skip ?_
      | refine W.exit ?_
      | (refine hk1 [] _ _ _ L (a : Int) (by simp [lexW]) ?_ ?_; (focus ((rw [List.map_nil, List.append_nil]; exact S.mv (by omega) (UnderT.le S.f.2 (by (try dsimp only); omega))); done)); (try dsimp only); omega))
  | succ m ih =>
    intro u a hm hda hlen L ts v3 v4 h hta S hk1 hk2
    have hg := S.g
    have hf := S.f
    have hp := S.lt
    have hn0 := S.n
    cases u with
    | nil =>
      have hae : s.length = a := by simpa using hlen.symm
      refine W.loop ?_
      repeat (first
        | refine W.seq ?_
        | refine W.block ?_
        | ((first | refine W.regG ?_ | refine WoR.go ?_); generalize e : goR _ _ _ _ _ _ _ _ = r; simp (disch := omega) [hg, hae] at e; replace e : some _ = _ := e; subst e; (try dsimp only [goW]))
        | refine W.cond_true rfl ?_
        | refine W.cond_false rfl ?_
        | refine W.skip ?_
        | refine W.exit ?_
        | (refine hk1 [] _ _ _ L (a : Int) (by simp [lexW]) ?_ ?_; (focus ((rw [List.map_nil, List.append_nil]; exact S.mv (by omega) (UnderT.le S.f.2 (by (try dsimp only); omega))); done)); (try dsimp only); omega))
    | cons c u =>
      have hlt : a < s.length := by simp at hlen; omega
      have hpos : s.length - (c :: u).length = a := by omega
      refine W.loop ?_
      repeat (first
        | refine W.seq ?_
        | refine W.block ?_
        | ((first | refine W.regG ?_ | refine WoR.go ?_); generalize e : goR _ _ _ _ _ _ _ _ = r; simp (disch := omega) [hg, hlt] at e; replace e : some _ = _ := e; subst e; (try dsimp only [goW]))
        | refine W.cond_true rfl ?_
        | refine W.cond_false rfl ?_
        | refine W.skip ?_
        | refine W.exit ?_)
      refine next_F p d s u c a ts (by omega) to (by omega) hda hlen L _ (S.mv ?_ ?_) _ (fun k t n len he h' L' S' g => ⟨rfl, ?_⟩) (fun e he h' at' L' ts' S' g => ⟨rfl, ?_⟩)
      · (try dsimp only); omega
      · exact UnderT.le hf.2 (by (try dsimp only); omega)
      · try dsimp only at g
        have hw := wordW_tok he
        simp only [List.length_cons] at hlen hm hw
        have hg1 := S'.g
        have hdl : s.drop (a + len) = (c :: u).drop len := by rw [← hda, List.drop_drop]
        have hll : a + len + ((c :: u).drop len).length = s.length := by rw [List.length_drop]; simp; omega
        repeat (first
          | refine W.seq ?_
          | refine W.block ?_
          | ((first | refine W.regG ?_ | refine WoR.go ?_); generalize e : goR _ _ _ _ _ _ _ _ = r; simp (disch := omega) [hg1] at e; replace e : some _ = _ := e; subst e; (try dsimp only [goW]))
          | refine W.cond_true rfl ?_
          | refine W.cond_false rfl ?_
          | refine W.skip ?_
          | refine W.exit ?_)
        refine skip_F p d s _ (a + len) L' _ to (by omega) hdl hll _ (S'.mv ?_ ?_) _ (fun h2 hok S2 g2 => ⟨rfl, ?_⟩) (fun h2 hok S2 g2 => ⟨rfl, ?_⟩)
        · (try dsimp only); omega
        · exact UnderT.le S'.f.2 (by (try dsimp only); omega)
        · try dsimp only at g2
          have hsl := skipF_le _ _ (Nat.le_refl ((c :: u).drop len).length)
          cases hsk : skipF ((c :: u).drop len) with
          | mk w b =>
            rw [hsk] at hok S2 hsl
            dsimp only at hok S2 hsl
            subst hok
            repeat (first
              | refine W.seq ?_
              | refine W.block ?_
              | ((first | refine W.regG ?_ | refine WoR.go ?_); generalize e : goR _ _ _ _ _ _ _ _ = r; simp (disch := omega) [hg1] at e; replace e : some _ = _ := e; subst e; (try dsimp only [goW]))
              | refine W.cond_true rfl ?_
              | refine W.cond_false rfl ?_
              | refine W.skip ?_
              | refine W.exit ?_)
            show W tree.getF lexLoop (dropped true _ _) Q
            generalize e : dropped _ _ _ = r9
            simp only [dropped, if_true] at e
            subst e
            have hwd : s.drop (s.length - w.length) = w := skip_suffix s (a + len) _ w true hdl hll hsk
            have hwl : w.length ≤ (c :: u).length - len := by rw [List.length_drop] at hsl; exact hsl
            simp only [List.length_cons] at hwl
            refine ih w (s.length - w.length) (by omega) hwd (by omega) L' _ _ _ _ (by rw [List.length_append]; simp; omega) (S2.drop (by (try dsimp only); omega) (by (try dsimp only); omega)) ?_ ?_
            · intro l w3 w4 h' L2 at' e1 e2 e3
              refine hk1 _ w3 w4 h' L2 at' (by simp only [lexW, he, hsk, e1]; rfl) ?_ (by (try dsimp only at e3); omega)
              rw [hpos]
              simpa [List.append_assoc] using e2
            · intro e k2 w3 w4 h' L2 ts2 at' e1 e2 e3 e4
              exact hk2 e k2 w3 w4 h' L2 ts2 at' (by simp only [lexW, he, hsk, e1]) e2 e3 (by (try dsimp only at e4); omega)
        · try dsimp only at g2
          cases hsk : skipF ((c :: u).drop len) with
          | mk w b =>
            rw [hsk] at hok S2
            dsimp only at hok S2
            subst hok
            have hg2 := S2.g
            repeat (first
              | refine W.seq ?_
              | refine W.block ?_
              | ((first | refine W.regG ?_ | refine WoR.go ?_); generalize e : goR _ _ _ _ _ _ _ _ = r; simp (disch := omega) [hg2] at e; replace e : some _ = _ := e; subst e; (try dsimp only [goW]))
              | refine W.cond_true rfl ?_
              | refine W.cond_false rfl ?_
              | refine W.skip ?_
              | refine W.exit ?_)
            show W tree.getF lexLoop (dropped true _ _) Q
            generalize e9 : dropped _ _ _ = r9
            simp only [dropped, if_true] at e9
            subst e9
            have S9 := S2.drop (n := h.next) (by omega) (by omega)
            have hg9 := S9.g
            refine W.loop ?_
            repeat (first
              | refine W.seq ?_
              | refine W.block ?_
              | ((first | refine W.regG ?_ | refine WoR.go ?_); generalize e : goR _ _ _ _ _ _ _ _ = r; simp (disch := omega) [hg9] at e; replace e : some _ = _ := e; subst e; (try dsimp only [goW]))
              | refine W.cond_true rfl ?_
              | refine W.cond_false rfl ?_
              | refine W.skip ?_
              | refine W.exit ?_
              | (refine hk2 2 (s.length - w.length) _ _ _ L' _ _ (by simp only [lexW, he, hsk]) (by decide) (S9.mv (by (try dsimp only); omega) (UnderT.le S9.f.2 (by (try dsimp only); omega))) ?_; (try dsimp only); omega))
      · try dsimp only at g
        have hw := wordW_err he
        have hg1 := S'.g
        have he0 : ¬ ((e : Int) = 0) := by omega
        repeat (first
          | refine W.seq ?_
          | refine W.block ?_
          | ((first | refine W.regG ?_ | refine WoR.go ?_); generalize e : goR _ _ _ _ _ _ _ _ = r; simp (disch := omega) [hg1, he0] at e; replace e : some _ = _ := e; subst e; (try dsimp only [goW]))
          | refine W.cond_true rfl ?_
          | refine W.cond_false rfl ?_
          | refine W.skip ?_
          | refine W.exit ?_)
        show W tree.getF lexLoop (dropped true _ _) Q
        generalize e9 : dropped _ _ _ = r9
        simp only [dropped, if_true] at e9
        subst e9
        have S9 := S'.drop (n := h.next) (by omega) (by omega)
        have hg9 := S9.g
        refine W.loop ?_
        repeat (first
          | refine W.seq ?_
          | refine W.block ?_
          | ((first | refine W.regG ?_ | refine WoR.go ?_); generalize e : goR _ _ _ _ _ _ _ _ = r; simp (disch := omega) [hg9, he0] at e; replace e : some _ = _ := e; subst e; (try dsimp only [goW]))
          | refine W.cond_true rfl ?_
          | refine W.cond_false rfl ?_
          | refine W.skip ?_
          | refine W.exit ?_
          | (refine hk2 e a _ _ _ L' ts' at' (by simp only [lexW, he, hpos]) (by omega) (S9.mv (by (try dsimp only); omega) (UnderT.le S9.f.2 (by (try dsimp only); omega))) ?_; (try dsimp only); omega))
end Go.Proofs.YthblmflngjofjaaDoor.IrP
