/- What the functions of the law 'WordPlaces' do: part 15. -/
import Derived.Test.YthblmflngjofjaaDoorLxPM
namespace Go.Proofs.YthblmflngjofjaaDoor.IrP
open Go Go.CI
open Go.LexF hiding spacesB lettersB
set_option maxRecDepth 100000
set_option linter.unusedVariables false
set_option linter.unusedSimpArgs false
attribute [local irreducible] W Wo Wc WoR
attribute [local simp] goR regOut checkOne swapOne sameAt nthOp CVal.beq beqs CVal.block storesTo entryC evalOps evalOper evalE evalP evalL evalOpnd nth setNth COp.cls COp.isStore CVal.isUndef CVal.whole CVal.cells CHeap.put CHeap.get CHeap.set wantedC getEnt setEnt partOf writeBack evalBin evalInt evalStr blockMost initVar descOf List.take List.drop CVal.lenOf CVal.isStr CVal.bare CVal.strip CVal.flat endsC resultsC oneOrTuple finishC cut fillCells setCells szOf szOf_desc elems bytesOf evalAppend fillElems mkElem setElem List.replicate sy_nbeq sy_neqF sy_leT sy_leF sy_setEnt_setEnt dropped sy_wrap64 dropEnts dropCells sizeMost sy_ibeqF sy_ieqF sy_ileT sy_ileF sy_iltT sy_iltF sy_ltT sy_ltF evalSlc optBound eqVal extL extE keyIs findKV nthKV setKV CHeap.ty lookupN CHeap.note CHeap.tyOk dropAll freezeVal freezeAll freezeFlat pCopyCheck pBString pMakeNoZero pIndexByte pClone pIndex hasPair rowOf byteVals idxFrom hasFront idxSub

/-- .. and notes no rows. -/
def Pe (f : Nat) (args : List CVal) (v : CVal) : Prop := ∀ (h : CHeap), Fit h → ∀ (K : CVal → CHeap → Prop), (∀ n', h.next ≤ n' → K v ⟨h.ents, n', h.tys⟩) → Wc tree.getF f args h K

theorem indexb_G (s : List UInt8) (c : UInt8) (hl : s.length < 100000) : Pe 15 [.str s, .int .u8 (c.toNat : Int)] (.int .i64 (idxFrom c s 0)) := by
  intro h hf K hk
  obtain ⟨hu, hut⟩ := hf
  have hD : ∀ m, h.next ≤ m → dropEnts h.ents m = h.ents := fun m hm => dropEnts_under (hu.le hm)
  have hC : ∀ m, h.next ≤ m → dropCells h.ents m = h.ents := fun m hm => dropCells_under (hu.le hm)
  have hN : ∀ q, h.next ≤ q → getEnt h.ents q = none := fun q hq => getEnt_under hu hq
  have hT : ∀ q, h.next ≤ q → lookupN h.tys q = none := fun q hq => lookupN_under hut hq
  have hcc : ((c.toNat : Int).toNat).toUInt8 = c := by simp

  refine Wc.mkG 15 c15 (by kernel_rfl) rfl ?_
  generalize e : entryC _ _ _ = r
  simp (disch := omega) [hD, hC, hN, hT, hcc, c15] at e
  subst e
  repeat (first
    | refine W.seq ?_
    | refine W.block ?_
    | ((first | refine W.regG ?_ | refine WoR.go ?_); generalize e : goR _ _ _ _ _ _ _ _ = r; simp (disch := omega) [hD, hC, hN, hT, hcc, c31, c15] at e; replace e : some _ = _ := e; subst e; (try dsimp only [goW]))
    | refine W.cond_true rfl ?_
    | refine W.cond_false rfl ?_
    | refine W.skip ?_
    | refine W.exit ?_
    | (refine W.loop ?_; try (generalize e : dropped _ _ _ = r; simp (disch := omega) [hD, hC, hN, hT, hcc, c31, c15] at e; subst e; try dsimp only))
    | (refine Wc.mkG 31 c31 (by kernel_rfl) rfl ?_; generalize e : entryC _ _ _ = r; simp (disch := omega) [hD, hC, hN, hT, hcc, c31, c15] at e; subst e)
    | (refine Wc.primM (f := 44) (p := pIndexByte) (by kernel_rfl) ?_; generalize e : pIndexByte _ _ = r; simp (disch := omega) [hD, hC, hN, hT, hcc, c31, c15] at e; subst e; (try dsimp only); refine ⟨rfl, ?_⟩)
    | ((first | (refine W.ret ?_; (try simp only [outOf, thenW_ret, roundW]); refine endW.of (.inl rfl) rfl ?_) | refine endW.of (.inr rfl) rfl ?_); generalize e : endsC _ _ _ = r; simp (disch := omega) [hD, hC, hN, hT, hcc, c31, c15] at e; subst e; (try dsimp only [goW]); (first | refine ⟨rfl, ?_⟩ | (refine hk _ ?_; omega))))

theorem setEnt_cons_ne {r p : Nat} {o x : CObj} {l : List (Nat × CObj)} (h : r ≠ p) : setEnt ((r, o) :: l) p x = (r, o) :: setEnt l p x := by simp [setEnt, h]
theorem St.app0c {n0 : Nat} {E0 : List (Nat × CObj)} {p : Nat} {s : List UInt8} {a a' : Int} {e to e' to' : Int} {h : CHeap} {n' i r : Nat} {o : CObj} {ty : List (Nat × Nat)} {x : CVal} {ts : List CVal} (S : St n0 E0 p s a .nils ts e to h) (hr : h.next ≤ r) (hi : r < i) (hn : i < n') (ht : UnderT ty n') :
    St n0 E0 p s a' (.imm (.own i 0) 4 [x]) [x] e' to' ⟨(i, .tok 0) :: (r, o) :: setEnt h.ents p (rdr s a' (.imm (.own i 0) 4 [x]) e' to'), n', ty⟩ := by
  have hlt := S.lt
  have h1 := (S.cons (o := o) hr hi (UnderT.le S.f.2 (by omega))).app0 (a' := a') (e' := e') (to' := to') (x := x) (i := i) (n' := n') (ty := ty) (Nat.le_refl _) hn ht
  rw [setEnt_cons_ne (by omega)] at h1
  exact h1
theorem St.app1c {n0 : Nat} {E0 : List (Nat × CObj)} {p : Nat} {s : List UInt8} {a a' : Int} {e to e' to' : Int} {h : CHeap} {n' i v r : Nat} {o : CObj} {ty : List (Nat × Nat)} {x : CVal} {ts : List CVal} {L : CVal} (S : St n0 E0 p s a L ts e to h) (ht : getEnt h.ents i = some (.tok v)) (hip : i ≠ p) (hi0 : n0 ≤ i) (hin : i < h.next) (hr : h.next ≤ r) (hn : r < n') (hty : UnderT ty n') :
    St n0 E0 p s a' (.imm (.own i (v + 1)) 4 (ts ++ [x])) (ts ++ [x]) e' to' ⟨(r, o) :: setEnt (setEnt h.ents i (.tok (v + 1))) p (rdr s a' (.imm (.own i (v + 1)) 4 (ts ++ [x])) e' to'), n', ty⟩ :=
  (S.app1 ht hip hi0 hin (Nat.le_refl _) S.f.2).cons hr hn hty
theorem St.updc {n0 : Nat} {E0 : List (Nat × CObj)} {p : Nat} {s : List UInt8} {a a' : Int} {L : CVal} {ts : List CVal} {e to e' to' : Int} {h : CHeap} {n' r : Nat} {o : CObj} {ty : List (Nat × Nat)} (S : St n0 E0 p s a L ts e to h) (hr : h.next ≤ r) (hn : r < n') (ht : UnderT ty n') :
    St n0 E0 p s a' L ts e' to' ⟨(r, o) :: setEnt h.ents p (rdr s a' L e' to'), n', ty⟩ := (S.upd (Nat.le_refl _) S.f.2).cons hr hn ht
theorem esc_92 : idxFrom 92 [92, 34, 39, 110] 0 = 0 := rfl
theorem esc_no (x : UInt8) (h : meantF x = none) : idxFrom x [92, 34, 39, 110] 0 = -1 := by
  unfold meantF at h
  have h1 : ¬ x = 92 := fun e => by simp [e] at h
  have h2 : ¬ x = 34 := fun e => by simp [e] at h
  have h3 : ¬ x = 39 := fun e => by simp [e] at h
  have h4 : ¬ x = 110 := fun e => by simp [e] at h
  have g1 : (92 == x) = false := by simp; exact fun e => h1 e.symm
  have g2 : (34 == x) = false := by simp; exact fun e => h2 e.symm
  have g3 : (39 == x) = false := by simp; exact fun e => h3 e.symm
  have g4 : (110 == x) = false := by simp; exact fun e => h4 e.symm
  simp [idxFrom, g1, g2, g3, g4]

theorem W_cast {c : CCode} {st st' : CSt} {Q : CExit → CSt → Prop} (h : W tree.getF c st Q) (e : st' = st) : W tree.getF c st' Q := by rw [e]; exact h

set_option maxHeartbeats 4000000 in
theorem text_loop1 (valid : Bytes → Bool) (hV : ∀ t : Bytes, t.length ≤ 60000 → Pe 35 [.str t] (.bool (valid t))) {n0 : Nat} {E0 : List (Nat × CObj)} (p d : Nat) (s : List UInt8) (q : UInt8) (a : Nat) (L : CVal) (ts : List CVal) (hts : ts.length ≤ 100000) (to : Int) (hs : s.length < 50000) (h : CHeap) (S : St n0 E0 p s (a : Int) L ts 0 to h) (K : CVal → CHeap → Prop) (bq : Nat) (r : Nat) (hb : h.next ≤ bq) (hbr : bq < r) : ∀ (m : Nat) (t acc : List UInt8) (i k v : Nat) (n : Nat) (ty : List (Nat × Nat)) (v3 v4 v6 v8 v9 v10 v11 v12 : CVal), t.length ≤ m → s.drop i = t → i + t.length = s.length → acc ≠ [] → acc.length ≤ i → r < n → UnderT ty n → lookupN ty r = some 5 → i = a + (k + 1) →
    (∀ txt kk, textF q t acc k = some (txt, kk) → valid txt = true → ∀ h' L', St n0 E0 p s ((a + (kk + 1) : Nat) : Int) L' (ts ++ [tokC 3 txt 0 a]) 0 to h' → h.next ≤ h'.next → K (.tup []) h')
    → ((textF q t acc k = none ∨ ∃ txt kk, textF q t acc k = some (txt, kk) ∧ valid txt = false) → ∀ h' at' L' ts', St n0 E0 p s at' L' ts' 2 (a : Int) h' → h.next ≤ h'.next → K (.tup []) h') →
    W tree.getF textLoop ⟨[.ptr p d 0, .int .i64 (a : Int), .int .i64 (i : Int), v3, v4, .int .u8 (q.toNat : Int), v6, .ptr bq 58720258 0, v8, v9, v10, v11, v12], ⟨((r, .row v (acc.map bv)) :: (bq, .cells [.ptr bq 58720258 0, .ref r v 1 0 acc.length]) :: h.ents), n, ty⟩, []⟩ (fun x st' => thenW tree.getF textRest (endW c21 h.next K) (outOf 0 x) st') := by
  intro m
  induction m with
  | zero =>
    intro t acc i k v n ty v3 v4 v6 v8 v9 v10 v11 v12 hm hd hlen hne hal hrn hut2 hty hia hk1 hk2
    have hg := S.g
    have hf := S.f
    have hp := S.lt
    have hql := q.toNat_lt
    have hll : s.length < 4611686018427387904 := by omega
    have hil : i + t.length = s.length := hlen
    have hEb : ∀ x, getEnt (setEnt h.ents p x) bq = none := fun x => getEnt_under hf.1.set hb
    obtain ⟨hu, hut⟩ := hf
    have hD : ∀ m, h.next ≤ m → dropEnts h.ents m = h.ents := fun m hm => dropEnts_under (hu.le hm)
    have hC : ∀ m, h.next ≤ m → dropCells h.ents m = h.ents := fun m hm => dropCells_under (hu.le hm)
    have hN : ∀ q, h.next ≤ q → getEnt h.ents q = none := fun q hq => getEnt_under hu hq
    have hT : ∀ q, h.next ≤ q → lookupN h.tys q = none := fun q hq => lookupN_under hut hq
    have hG : ∀ x, getEnt (setEnt h.ents p x) p = some x := fun x => sy_getEnt_setEnt hg
    have hD2 : ∀ x m, h.next ≤ m → dropEnts (setEnt h.ents p x) m = setEnt h.ents p x := fun x m hm => dropEnts_under (hu.set.le hm)
    have hC2 : ∀ x m, h.next ≤ m → dropCells (setEnt h.ents p x) m = setEnt h.ents p x := fun x m hm => dropCells_under (hu.set.le hm)
    have hN2 : ∀ x q, h.next ≤ q → getEnt (setEnt h.ents p x) q = none := fun x q hq => getEnt_under hu.set hq
    have hTr : lookupN ty r = some 5 := hty
    have hcut : (acc.map bv).take acc.length = acc.map bv := List.take_of_length_le (by simp)
    have hbv := byteVals_map acc
    have hap : 0 < acc.length := by cases acc with | nil => exact absurd rfl hne | cons => simp
    obtain rfl : t = [] := List.length_eq_zero_iff.1 (by omega)
    simp only [List.length_nil, Nat.add_zero] at hil
    have herr : textF q [] acc k = none ∨ ∃ txt kk, textF q [] acc k = some (txt, kk) ∧ valid txt = false := .inl rfl
    refine W.loop ?_
    repeat (first
      | refine W.seq ?_
      | refine W.block ?_
      | ((first | refine W.regG ?_ | refine WoR.go ?_); generalize e : goR _ _ _ _ _ _ _ _ = r; simp (disch := omega) [hD, hC, hN, hT, hg, hG, hD2, hC2, hN2, hql, hEb, hTr, hcut, hbv, hal, hll, hil, c17, c37, c21] at e; replace e : some _ = _ := e; subst e; (try dsimp only [goW]))
      | refine W.cond_true rfl ?_
      | refine W.cond_false rfl ?_
      | refine W.skip ?_
      | refine W.exit ?_
      | (refine Wc.mkG 17 c17 (by kernel_rfl) rfl ?_; generalize e : entryC _ _ _ = r; simp (disch := omega) [hD, hC, hN, hT, hg, hG, hD2, hC2, hN2, hql, hEb, hTr, hcut, hbv, hal, hll, hil, c17, c37, c21] at e; subst e)
      | (refine Wc.mkG 37 c37 (by kernel_rfl) rfl ?_; generalize e : entryC _ _ _ = r; simp (disch := omega) [hD, hC, hN, hT, hg, hG, hD2, hC2, hN2, hql, hEb, hTr, hcut, hbv, hal, hll, hil, c17, c37, c21] at e; subst e)
      | (refine Wc.primM (f := 36) (p := (pBString 5)) (by kernel_rfl) ?_; generalize e : (pBString 5) _ _ = r; simp (disch := omega) [hD, hC, hN, hT, hg, hG, hD2, hC2, hN2, hql, hEb, hTr, hcut, hbv, hal, hll, hil, c17, c37, c21] at e; subst e; (try dsimp only); refine ⟨rfl, ?_⟩)
      | (refine Wc.primM (f := 51) (p := (pCopyCheck [(58720258, 0)])) (by kernel_rfl) ?_; generalize e : (pCopyCheck [(58720258, 0)]) _ _ = r; simp (disch := omega) [hD, hC, hN, hT, hg, hG, hD2, hC2, hN2, hql, hEb, hTr, hcut, hbv, hal, hll, hil, c17, c37, c21] at e; subst e; (try dsimp only); refine ⟨rfl, ?_⟩)
      | ((first | (refine W.ret ?_; (try simp only [outOf, thenW_ret, roundW]); refine endW.of (.inl rfl) rfl ?_) | refine endW.of (.inr rfl) rfl ?_); generalize e : endsC _ _ _ = r; simp (disch := omega) [hD, hC, hN, hT, hg, hG, hD2, hC2, hN2, hql, hEb, hTr, hcut, hbv, hal, hll, hil, c17, c37, c21] at e; subst e; (try dsimp only [goW]); (first | refine ⟨rfl, ?_⟩ | (refine hk2 ?_ _ _ _ _ (S.updc ?_ ?_ ?_) ?_; (focus ((exact herr); done)); (focus (((try dsimp only); omega); done)); (focus (((try dsimp only); omega); done)); (focus ((repeat (first | exact hut.le (by (try dsimp only); omega) | refine UnderT.cons (by (try dsimp only); omega) ?_ | exact UnderT.nil | assumption | exact UnderT.le (by assumption) (by (try dsimp only); omega))); done)); (try dsimp only); omega))))
  | succ m ih =>
    intro t acc i k v n ty v3 v4 v6 v8 v9 v10 v11 v12 hm hd hlen hne hal hrn hut2 hty hia hk1 hk2
    have hg := S.g
    have hf := S.f
    have hp := S.lt
    have hql := q.toNat_lt
    have hll : s.length < 4611686018427387904 := by omega
    have hil : i + t.length = s.length := hlen
    have hEb : ∀ x, getEnt (setEnt h.ents p x) bq = none := fun x => getEnt_under hf.1.set hb
    obtain ⟨hu, hut⟩ := hf
    have hD : ∀ m, h.next ≤ m → dropEnts h.ents m = h.ents := fun m hm => dropEnts_under (hu.le hm)
    have hC : ∀ m, h.next ≤ m → dropCells h.ents m = h.ents := fun m hm => dropCells_under (hu.le hm)
    have hN : ∀ q, h.next ≤ q → getEnt h.ents q = none := fun q hq => getEnt_under hu hq
    have hT : ∀ q, h.next ≤ q → lookupN h.tys q = none := fun q hq => lookupN_under hut hq
    have hG : ∀ x, getEnt (setEnt h.ents p x) p = some x := fun x => sy_getEnt_setEnt hg
    have hD2 : ∀ x m, h.next ≤ m → dropEnts (setEnt h.ents p x) m = setEnt h.ents p x := fun x m hm => dropEnts_under (hu.set.le hm)
    have hC2 : ∀ x m, h.next ≤ m → dropCells (setEnt h.ents p x) m = setEnt h.ents p x := fun x m hm => dropCells_under (hu.set.le hm)
    have hN2 : ∀ x q, h.next ≤ q → getEnt (setEnt h.ents p x) q = none := fun x q hq => getEnt_under hu.set hq
    have hTr : lookupN ty r = some 5 := hty
    have hcut : (acc.map bv).take acc.length = acc.map bv := List.take_of_length_le (by simp)
    have hbv := byteVals_map acc
    have hap : 0 < acc.length := by cases acc with | nil => exact absurd rfl hne | cons => simp
    cases t with
    | nil =>
      simp only [List.length_nil, Nat.add_zero] at hil
      have herr : textF q [] acc k = none ∨ ∃ txt kk, textF q [] acc k = some (txt, kk) ∧ valid txt = false := .inl rfl
      refine W.loop ?_
      repeat (first
        | refine W.seq ?_
        | refine W.block ?_
        | ((first | refine W.regG ?_ | refine WoR.go ?_); generalize e : goR _ _ _ _ _ _ _ _ = r; simp (disch := omega) [hD, hC, hN, hT, hg, hG, hD2, hC2, hN2, hql, hEb, hTr, hcut, hbv, hal, hll, hil, c17, c37, c21] at e; replace e : some _ = _ := e; subst e; (try dsimp only [goW]))
        | refine W.cond_true rfl ?_
        | refine W.cond_false rfl ?_
        | refine W.skip ?_
        | refine W.exit ?_
        | (refine Wc.mkG 17 c17 (by kernel_rfl) rfl ?_; generalize e : entryC _ _ _ = r; simp (disch := omega) [hD, hC, hN, hT, hg, hG, hD2, hC2, hN2, hql, hEb, hTr, hcut, hbv, hal, hll, hil, c17, c37, c21] at e; subst e)
        | (refine Wc.mkG 37 c37 (by kernel_rfl) rfl ?_; generalize e : entryC _ _ _ = r; simp (disch := omega) [hD, hC, hN, hT, hg, hG, hD2, hC2, hN2, hql, hEb, hTr, hcut, hbv, hal, hll, hil, c17, c37, c21] at e; subst e)
        | (refine Wc.primM (f := 36) (p := (pBString 5)) (by kernel_rfl) ?_; generalize e : (pBString 5) _ _ = r; simp (disch := omega) [hD, hC, hN, hT, hg, hG, hD2, hC2, hN2, hql, hEb, hTr, hcut, hbv, hal, hll, hil, c17, c37, c21] at e; subst e; (try dsimp only); refine ⟨rfl, ?_⟩)
        | (refine Wc.primM (f := 51) (p := (pCopyCheck [(58720258, 0)])) (by kernel_rfl) ?_; generalize e : (pCopyCheck [(58720258, 0)]) _ _ = r; simp (disch := omega) [hD, hC, hN, hT, hg, hG, hD2, hC2, hN2, hql, hEb, hTr, hcut, hbv, hal, hll, hil, c17, c37, c21] at e; subst e; (try dsimp only); refine ⟨rfl, ?_⟩)
        | ((first | (refine W.ret ?_; (try simp only [outOf, thenW_ret, roundW]); refine endW.of (.inl rfl) rfl ?_) | refine endW.of (.inr rfl) rfl ?_); generalize e : endsC _ _ _ = r; simp (disch := omega) [hD, hC, hN, hT, hg, hG, hD2, hC2, hN2, hql, hEb, hTr, hcut, hbv, hal, hll, hil, c17, c37, c21] at e; subst e; (try dsimp only [goW]); (first | refine ⟨rfl, ?_⟩ | (refine hk2 ?_ _ _ _ _ (S.updc ?_ ?_ ?_) ?_; (focus ((exact herr); done)); (focus (((try dsimp only); omega); done)); (focus (((try dsimp only); omega); done)); (focus ((repeat (first | exact hut.le (by (try dsimp only); omega) | refine UnderT.cons (by (try dsimp only); omega) ?_ | exact UnderT.nil | assumption | exact UnderT.le (by assumption) (by (try dsimp only); omega))); done)); (try dsimp only); omega))))
    | cons c t1 =>
      obtain ⟨hlt, hget, hd1⟩ := get_of_dropG hd
      have hge : s[i] = c := by rw [List.getElem?_eq_getElem hlt] at hget; exact Option.some.inj hget
      have hacc1 : (acc ++ [c]).map bv = acc.map bv ++ [bv c] := by simp
      simp only [List.length_cons] at hlen hm
      have hcl := c.toNat_lt
      by_cases hq : c = q
      · subst hq
        have htx : textF c (c :: t1) acc k = some (acc, k + 1) := by unfold textF; rw [if_pos rfl]
        have hps : ((a + (k + 1 + 1) : Nat) : Int) = (i : Int) + 1 := by omega
        cases hvt : valid acc with
        | true =>
          replace hk1 := hk1 _ _ htx hvt
          rw [hps] at hk1
          rcases S.l with ⟨rfl, rfl⟩ | ⟨i2, v2', rfl, ht, hip, hi0, hin⟩
          ·
            refine W.loop ?_
            repeat (first
              | refine W.seq ?_
              | refine W.block ?_
              | ((first | refine W.regG ?_ | refine WoR.go ?_); generalize e : goR _ _ _ _ _ _ _ _ = r; simp (disch := omega) [hD, hC, hN, hT, hg, hG, hD2, hC2, hN2, hql, hEb, hTr, hcut, hbv, hal, hll, hge, hget, hvt, c17, c37, c21] at e; replace e : some _ = _ := e; subst e; (try dsimp only [goW]))
              | refine W.cond_true rfl ?_
              | refine W.cond_false rfl ?_
              | refine W.skip ?_
              | refine W.exit ?_
              | (refine hV (acc) (by (try simp) <;> omega) _ ?_ _ fun n7 hn7 => ⟨rfl, ?_⟩; (focus (((refine ⟨?_, ?_⟩; (focus ((repeat (first | exact hu.le (by (try dsimp only); omega) | exact hu.set.le (by (try dsimp only); omega) | exact hu.set.set.le (by (try dsimp only); omega) | refine Under.cons (by (try dsimp only); omega) ?_ | exact Under.nil)); done)); (focus ((repeat (first | exact hut.le (by (try dsimp only); omega) | refine UnderT.cons (by (try dsimp only); omega) ?_ | exact UnderT.nil | assumption | exact UnderT.le (by assumption) (by (try dsimp only); omega))); done)))); done)); (try dsimp only at hn7))
              | (refine Wc.mkG 17 c17 (by kernel_rfl) rfl ?_; generalize e : entryC _ _ _ = r; simp (disch := omega) [hD, hC, hN, hT, hg, hG, hD2, hC2, hN2, hql, hEb, hTr, hcut, hbv, hal, hll, hge, hget, hvt, c17, c37, c21] at e; subst e)
              | (refine Wc.mkG 37 c37 (by kernel_rfl) rfl ?_; generalize e : entryC _ _ _ = r; simp (disch := omega) [hD, hC, hN, hT, hg, hG, hD2, hC2, hN2, hql, hEb, hTr, hcut, hbv, hal, hll, hge, hget, hvt, c17, c37, c21] at e; subst e)
              | (refine Wc.primM (f := 36) (p := (pBString 5)) (by kernel_rfl) ?_; generalize e : (pBString 5) _ _ = r; simp (disch := omega) [hD, hC, hN, hT, hg, hG, hD2, hC2, hN2, hql, hEb, hTr, hcut, hbv, hal, hll, hge, hget, hvt, c17, c37, c21] at e; subst e; (try dsimp only); refine ⟨rfl, ?_⟩)
              | (refine Wc.primM (f := 51) (p := (pCopyCheck [(58720258, 0)])) (by kernel_rfl) ?_; generalize e : (pCopyCheck [(58720258, 0)]) _ _ = r; simp (disch := omega) [hD, hC, hN, hT, hg, hG, hD2, hC2, hN2, hql, hEb, hTr, hcut, hbv, hal, hll, hge, hget, hvt, c17, c37, c21] at e; subst e; (try dsimp only); refine ⟨rfl, ?_⟩)
              | ((first | (refine W.ret ?_; (try simp only [outOf, thenW_ret, roundW]); refine endW.of (.inl rfl) rfl ?_) | refine endW.of (.inr rfl) rfl ?_); generalize e : endsC _ _ _ = r; simp (disch := omega) [hD, hC, hN, hT, hg, hG, hD2, hC2, hN2, hql, hEb, hTr, hcut, hbv, hal, hll, hge, hget, hvt, c17, c37, c21] at e; subst e; (try dsimp only [goW]); (first | refine ⟨rfl, ?_⟩ | (refine hk1 _ _ (S.app0c ?_ ?_ ?_ ?_) ?_; (focus (((try dsimp only); omega); done)); (focus (((try dsimp only); omega); done)); (focus (((try dsimp only); omega); done)); (focus ((repeat (first | exact hut.le (by (try dsimp only); omega) | refine UnderT.cons (by (try dsimp only); omega) ?_ | exact UnderT.nil | assumption | exact UnderT.le (by assumption) (by (try dsimp only); omega))); done)); (try dsimp only); omega))))
          ·
            have htP : ∀ x, getEnt (setEnt h.ents p x) i2 = some (.tok v2') := fun x => (getEnt_setEnt_ne hip).trans ht
            have hPt : ∀ x y, getEnt (setEnt (setEnt h.ents i2 x) p y) p = some y := fun x y => sy_getEnt_setEnt ((getEnt_setEnt_ne (Ne.symm hip)).trans hg)
            have hTT : ∀ x y, getEnt (setEnt (setEnt h.ents i2 x) p y) i2 = some x := fun x y => (getEnt_setEnt_ne hip).trans (sy_getEnt_setEnt ht)
            have hiP : ∀ x, getEnt (setEnt h.ents i2 x) p = _ := fun x => (getEnt_setEnt_ne (Ne.symm hip)).trans hg
            have hcomm : ∀ x y, setEnt (setEnt h.ents p y) i2 x = setEnt (setEnt h.ents i2 x) p y := fun x y => setEnt_comm (Ne.symm hip)
            have hC3 : ∀ x y m, h.next ≤ m → dropCells (setEnt (setEnt h.ents i2 x) p y) m = setEnt (setEnt h.ents i2 x) p y := fun x y m hm => dropCells_under (hu.set.set.le hm)
            have hD3 : ∀ x y m, h.next ≤ m → dropEnts (setEnt (setEnt h.ents i2 x) p y) m = setEnt (setEnt h.ents i2 x) p y := fun x y m hm => dropEnts_under (hu.set.set.le hm)
            refine W.loop ?_
            repeat (first
              | refine W.seq ?_
              | refine W.block ?_
              | ((first | refine W.regG ?_ | refine WoR.go ?_); generalize e : goR _ _ _ _ _ _ _ _ = r; simp (disch := omega) [hD, hC, hN, hT, hg, hG, hD2, hC2, hN2, hql, hEb, hTr, hcut, hbv, hal, hll, ht, htP, hPt, hTT, hiP, hcomm, hC3, hD3, hts, beqs_refl, hge, hget, hvt, c17, c37, c21] at e; replace e : some _ = _ := e; subst e; (try dsimp only [goW]))
              | refine W.cond_true rfl ?_
              | refine W.cond_false rfl ?_
              | refine W.skip ?_
              | refine W.exit ?_
              | (refine hV (acc) (by (try simp) <;> omega) _ ?_ _ fun n7 hn7 => ⟨rfl, ?_⟩; (focus (((refine ⟨?_, ?_⟩; (focus ((repeat (first | exact hu.le (by (try dsimp only); omega) | exact hu.set.le (by (try dsimp only); omega) | exact hu.set.set.le (by (try dsimp only); omega) | refine Under.cons (by (try dsimp only); omega) ?_ | exact Under.nil)); done)); (focus ((repeat (first | exact hut.le (by (try dsimp only); omega) | refine UnderT.cons (by (try dsimp only); omega) ?_ | exact UnderT.nil | assumption | exact UnderT.le (by assumption) (by (try dsimp only); omega))); done)))); done)); (try dsimp only at hn7))
              | (refine Wc.mkG 17 c17 (by kernel_rfl) rfl ?_; generalize e : entryC _ _ _ = r; simp (disch := omega) [hD, hC, hN, hT, hg, hG, hD2, hC2, hN2, hql, hEb, hTr, hcut, hbv, hal, hll, ht, htP, hPt, hTT, hiP, hcomm, hC3, hD3, hts, beqs_refl, hge, hget, hvt, c17, c37, c21] at e; subst e)
              | (refine Wc.mkG 37 c37 (by kernel_rfl) rfl ?_; generalize e : entryC _ _ _ = r; simp (disch := omega) [hD, hC, hN, hT, hg, hG, hD2, hC2, hN2, hql, hEb, hTr, hcut, hbv, hal, hll, ht, htP, hPt, hTT, hiP, hcomm, hC3, hD3, hts, beqs_refl, hge, hget, hvt, c17, c37, c21] at e; subst e)
              | (refine Wc.primM (f := 36) (p := (pBString 5)) (by kernel_rfl) ?_; generalize e : (pBString 5) _ _ = r; simp (disch := omega) [hD, hC, hN, hT, hg, hG, hD2, hC2, hN2, hql, hEb, hTr, hcut, hbv, hal, hll, ht, htP, hPt, hTT, hiP, hcomm, hC3, hD3, hts, beqs_refl, hge, hget, hvt, c17, c37, c21] at e; subst e; (try dsimp only); refine ⟨rfl, ?_⟩)
              | (refine Wc.primM (f := 51) (p := (pCopyCheck [(58720258, 0)])) (by kernel_rfl) ?_; generalize e : (pCopyCheck [(58720258, 0)]) _ _ = r; simp (disch := omega) [hD, hC, hN, hT, hg, hG, hD2, hC2, hN2, hql, hEb, hTr, hcut, hbv, hal, hll, ht, htP, hPt, hTT, hiP, hcomm, hC3, hD3, hts, beqs_refl, hge, hget, hvt, c17, c37, c21] at e; subst e; (try dsimp only); refine ⟨rfl, ?_⟩)
              | ((first | (refine W.ret ?_; (try simp only [outOf, thenW_ret, roundW]); refine endW.of (.inl rfl) rfl ?_) | refine endW.of (.inr rfl) rfl ?_); generalize e : endsC _ _ _ = r; simp (disch := omega) [hD, hC, hN, hT, hg, hG, hD2, hC2, hN2, hql, hEb, hTr, hcut, hbv, hal, hll, ht, htP, hPt, hTT, hiP, hcomm, hC3, hD3, hts, beqs_refl, hge, hget, hvt, c17, c37, c21] at e; subst e; (try dsimp only [goW]); (first | refine ⟨rfl, ?_⟩ | (refine hk1 _ _ (S.app1c ht hip hi0 hin ?_ ?_ ?_) ?_; (focus (((try dsimp only); omega); done)); (focus (((try dsimp only); omega); done)); (focus ((repeat (first | exact hut.le (by (try dsimp only); omega) | refine UnderT.cons (by (try dsimp only); omega) ?_ | exact UnderT.nil | assumption | exact UnderT.le (by assumption) (by (try dsimp only); omega))); done)); (try dsimp only); omega))))
        | false =>
          have herr : textF c (c :: t1) acc k = none ∨ ∃ txt kk, textF c (c :: t1) acc k = some (txt, kk) ∧ valid txt = false := .inr ⟨_, _, htx, hvt⟩
          rcases S.l with ⟨rfl, rfl⟩ | ⟨i2, v2', rfl, ht, hip, hi0, hin⟩
          ·
            refine W.loop ?_
            repeat (first
              | refine W.seq ?_
              | refine W.block ?_
              | ((first | refine W.regG ?_ | refine WoR.go ?_); generalize e : goR _ _ _ _ _ _ _ _ = r; simp (disch := omega) [hD, hC, hN, hT, hg, hG, hD2, hC2, hN2, hql, hEb, hTr, hcut, hbv, hal, hll, hge, hget, hvt, c17, c37, c21] at e; replace e : some _ = _ := e; subst e; (try dsimp only [goW]))
              | refine W.cond_true rfl ?_
              | refine W.cond_false rfl ?_
              | refine W.skip ?_
              | refine W.exit ?_
              | (refine hV (acc) (by (try simp) <;> omega) _ ?_ _ fun n7 hn7 => ⟨rfl, ?_⟩; (focus (((refine ⟨?_, ?_⟩; (focus ((repeat (first | exact hu.le (by (try dsimp only); omega) | exact hu.set.le (by (try dsimp only); omega) | exact hu.set.set.le (by (try dsimp only); omega) | refine Under.cons (by (try dsimp only); omega) ?_ | exact Under.nil)); done)); (focus ((repeat (first | exact hut.le (by (try dsimp only); omega) | refine UnderT.cons (by (try dsimp only); omega) ?_ | exact UnderT.nil | assumption | exact UnderT.le (by assumption) (by (try dsimp only); omega))); done)))); done)); (try dsimp only at hn7))
              | (refine Wc.mkG 17 c17 (by kernel_rfl) rfl ?_; generalize e : entryC _ _ _ = r; simp (disch := omega) [hD, hC, hN, hT, hg, hG, hD2, hC2, hN2, hql, hEb, hTr, hcut, hbv, hal, hll, hge, hget, hvt, c17, c37, c21] at e; subst e)
              | (refine Wc.mkG 37 c37 (by kernel_rfl) rfl ?_; generalize e : entryC _ _ _ = r; simp (disch := omega) [hD, hC, hN, hT, hg, hG, hD2, hC2, hN2, hql, hEb, hTr, hcut, hbv, hal, hll, hge, hget, hvt, c17, c37, c21] at e; subst e)
              | (refine Wc.primM (f := 36) (p := (pBString 5)) (by kernel_rfl) ?_; generalize e : (pBString 5) _ _ = r; simp (disch := omega) [hD, hC, hN, hT, hg, hG, hD2, hC2, hN2, hql, hEb, hTr, hcut, hbv, hal, hll, hge, hget, hvt, c17, c37, c21] at e; subst e; (try dsimp only); refine ⟨rfl, ?_⟩)
              | (refine Wc.primM (f := 51) (p := (pCopyCheck [(58720258, 0)])) (by kernel_rfl) ?_; generalize e : (pCopyCheck [(58720258, 0)]) _ _ = r; simp (disch := omega) [hD, hC, hN, hT, hg, hG, hD2, hC2, hN2, hql, hEb, hTr, hcut, hbv, hal, hll, hge, hget, hvt, c17, c37, c21] at e; subst e; (try dsimp only); refine ⟨rfl, ?_⟩)
              | ((first | (refine W.ret ?_; (try simp only [outOf, thenW_ret, roundW]); refine endW.of (.inl rfl) rfl ?_) | refine endW.of (.inr rfl) rfl ?_); generalize e : endsC _ _ _ = r; simp (disch := omega) [hD, hC, hN, hT, hg, hG, hD2, hC2, hN2, hql, hEb, hTr, hcut, hbv, hal, hll, hge, hget, hvt, c17, c37, c21] at e; subst e; (try dsimp only [goW]); (first | refine ⟨rfl, ?_⟩ | (refine hk2 herr _ _ _ _ (S.app0c ?_ ?_ ?_ ?_) ?_; (focus (((try dsimp only); omega); done)); (focus (((try dsimp only); omega); done)); (focus (((try dsimp only); omega); done)); (focus ((repeat (first | exact hut.le (by (try dsimp only); omega) | refine UnderT.cons (by (try dsimp only); omega) ?_ | exact UnderT.nil | assumption | exact UnderT.le (by assumption) (by (try dsimp only); omega))); done)); (try dsimp only); omega))))
          ·
            have htP : ∀ x, getEnt (setEnt h.ents p x) i2 = some (.tok v2') := fun x => (getEnt_setEnt_ne hip).trans ht
            have hPt : ∀ x y, getEnt (setEnt (setEnt h.ents i2 x) p y) p = some y := fun x y => sy_getEnt_setEnt ((getEnt_setEnt_ne (Ne.symm hip)).trans hg)
            have hTT : ∀ x y, getEnt (setEnt (setEnt h.ents i2 x) p y) i2 = some x := fun x y => (getEnt_setEnt_ne hip).trans (sy_getEnt_setEnt ht)
            have hiP : ∀ x, getEnt (setEnt h.ents i2 x) p = _ := fun x => (getEnt_setEnt_ne (Ne.symm hip)).trans hg
            have hcomm : ∀ x y, setEnt (setEnt h.ents p y) i2 x = setEnt (setEnt h.ents i2 x) p y := fun x y => setEnt_comm (Ne.symm hip)
            have hC3 : ∀ x y m, h.next ≤ m → dropCells (setEnt (setEnt h.ents i2 x) p y) m = setEnt (setEnt h.ents i2 x) p y := fun x y m hm => dropCells_under (hu.set.set.le hm)
            have hD3 : ∀ x y m, h.next ≤ m → dropEnts (setEnt (setEnt h.ents i2 x) p y) m = setEnt (setEnt h.ents i2 x) p y := fun x y m hm => dropEnts_under (hu.set.set.le hm)
            refine W.loop ?_
            repeat (first
              | refine W.seq ?_
              | refine W.block ?_
              | ((first | refine W.regG ?_ | refine WoR.go ?_); generalize e : goR _ _ _ _ _ _ _ _ = r; simp (disch := omega) [hD, hC, hN, hT, hg, hG, hD2, hC2, hN2, hql, hEb, hTr, hcut, hbv, hal, hll, ht, htP, hPt, hTT, hiP, hcomm, hC3, hD3, hts, beqs_refl, hge, hget, hvt, c17, c37, c21] at e; replace e : some _ = _ := e; subst e; (try dsimp only [goW]))
              | refine W.cond_true rfl ?_
              | refine W.cond_false rfl ?_
              | refine W.skip ?_
              | refine W.exit ?_
              | (refine hV (acc) (by (try simp) <;> omega) _ ?_ _ fun n7 hn7 => ⟨rfl, ?_⟩; (focus (((refine ⟨?_, ?_⟩; (focus ((repeat (first | exact hu.le (by (try dsimp only); omega) | exact hu.set.le (by (try dsimp only); omega) | exact hu.set.set.le (by (try dsimp only); omega) | refine Under.cons (by (try dsimp only); omega) ?_ | exact Under.nil)); done)); (focus ((repeat (first | exact hut.le (by (try dsimp only); omega) | refine UnderT.cons (by (try dsimp only); omega) ?_ | exact UnderT.nil | assumption | exact UnderT.le (by assumption) (by (try dsimp only); omega))); done)))); done)); (try dsimp only at hn7))
              | (refine Wc.mkG 17 c17 (by kernel_rfl) rfl ?_; generalize e : entryC _ _ _ = r; simp (disch := omega) [hD, hC, hN, hT, hg, hG, hD2, hC2, hN2, hql, hEb, hTr, hcut, hbv, hal, hll, ht, htP, hPt, hTT, hiP, hcomm, hC3, hD3, hts, beqs_refl, hge, hget, hvt, c17, c37, c21] at e; subst e)
              | (refine Wc.mkG 37 c37 (by kernel_rfl) rfl ?_; generalize e : entryC _ _ _ = r; simp (disch := omega) [hD, hC, hN, hT, hg, hG, hD2, hC2, hN2, hql, hEb, hTr, hcut, hbv, hal, hll, ht, htP, hPt, hTT, hiP, hcomm, hC3, hD3, hts, beqs_refl, hge, hget, hvt, c17, c37, c21] at e; subst e)
              | (refine Wc.primM (f := 36) (p := (pBString 5)) (by kernel_rfl) ?_; generalize e : (pBString 5) _ _ = r; simp (disch := omega) [hD, hC, hN, hT, hg, hG, hD2, hC2, hN2, hql, hEb, hTr, hcut, hbv, hal, hll, ht, htP, hPt, hTT, hiP, hcomm, hC3, hD3, hts, beqs_refl, hge, hget, hvt, c17, c37, c21] at e; subst e; (try dsimp only); refine ⟨rfl, ?_⟩)
              | (refine Wc.primM (f := 51) (p := (pCopyCheck [(58720258, 0)])) (by kernel_rfl) ?_; generalize e : (pCopyCheck [(58720258, 0)]) _ _ = r; simp (disch := omega) [hD, hC, hN, hT, hg, hG, hD2, hC2, hN2, hql, hEb, hTr, hcut, hbv, hal, hll, ht, htP, hPt, hTT, hiP, hcomm, hC3, hD3, hts, beqs_refl, hge, hget, hvt, c17, c37, c21] at e; subst e; (try dsimp only); refine ⟨rfl, ?_⟩)
              | ((first | (refine W.ret ?_; (try simp only [outOf, thenW_ret, roundW]); refine endW.of (.inl rfl) rfl ?_) | refine endW.of (.inr rfl) rfl ?_); generalize e : endsC _ _ _ = r; simp (disch := omega) [hD, hC, hN, hT, hg, hG, hD2, hC2, hN2, hql, hEb, hTr, hcut, hbv, hal, hll, ht, htP, hPt, hTT, hiP, hcomm, hC3, hD3, hts, beqs_refl, hge, hget, hvt, c17, c37, c21] at e; subst e; (try dsimp only [goW]); (first | refine ⟨rfl, ?_⟩ | (refine hk2 herr _ _ _ _ (S.app1c ht hip hi0 hin ?_ ?_ ?_) ?_; (focus (((try dsimp only); omega); done)); (focus (((try dsimp only); omega); done)); (focus ((repeat (first | exact hut.le (by (try dsimp only); omega) | refine UnderT.cons (by (try dsimp only); omega) ?_ | exact UnderT.nil | assumption | exact UnderT.le (by assumption) (by (try dsimp only); omega))); done)); (try dsimp only); omega))))
      · have hqn : ¬ ((c.toNat : Int) = (q.toNat : Int)) := fun e => hq (UInt8.toNat_inj.1 (by omega))
        by_cases h10 : c = 10
        · have hc10 : (c.toNat : Int) = 10 := by rw [h10]; rfl
          have hqn2 : ¬ ((10 : Int) = (q.toNat : Int)) := by omega
          have herr : textF q (c :: t1) acc k = none ∨ ∃ txt kk, textF q (c :: t1) acc k = some (txt, kk) ∧ valid txt = false := .inl (by unfold textF; rw [if_neg hq, if_pos h10])
          refine W.loop ?_
          repeat (first
            | refine W.seq ?_
            | refine W.block ?_
            | ((first | refine W.regG ?_ | refine WoR.go ?_); generalize e : goR _ _ _ _ _ _ _ _ = r; simp (disch := omega) [hD, hC, hN, hT, hg, hG, hD2, hC2, hN2, hql, hEb, hTr, hcut, hbv, hal, hll, hge, hget, hc10, hqn, hqn2, c17, c37, c21] at e; replace e : some _ = _ := e; subst e; (try dsimp only [goW]))
            | refine W.cond_true rfl ?_
            | refine W.cond_false rfl ?_
            | refine W.skip ?_
            | refine W.exit ?_
            | (refine Wc.mkG 17 c17 (by kernel_rfl) rfl ?_; generalize e : entryC _ _ _ = r; simp (disch := omega) [hD, hC, hN, hT, hg, hG, hD2, hC2, hN2, hql, hEb, hTr, hcut, hbv, hal, hll, hge, hget, hc10, hqn, hqn2, c17, c37, c21] at e; subst e)
            | (refine Wc.mkG 37 c37 (by kernel_rfl) rfl ?_; generalize e : entryC _ _ _ = r; simp (disch := omega) [hD, hC, hN, hT, hg, hG, hD2, hC2, hN2, hql, hEb, hTr, hcut, hbv, hal, hll, hge, hget, hc10, hqn, hqn2, c17, c37, c21] at e; subst e)
            | (refine Wc.primM (f := 36) (p := (pBString 5)) (by kernel_rfl) ?_; generalize e : (pBString 5) _ _ = r; simp (disch := omega) [hD, hC, hN, hT, hg, hG, hD2, hC2, hN2, hql, hEb, hTr, hcut, hbv, hal, hll, hge, hget, hc10, hqn, hqn2, c17, c37, c21] at e; subst e; (try dsimp only); refine ⟨rfl, ?_⟩)
            | (refine Wc.primM (f := 51) (p := (pCopyCheck [(58720258, 0)])) (by kernel_rfl) ?_; generalize e : (pCopyCheck [(58720258, 0)]) _ _ = r; simp (disch := omega) [hD, hC, hN, hT, hg, hG, hD2, hC2, hN2, hql, hEb, hTr, hcut, hbv, hal, hll, hge, hget, hc10, hqn, hqn2, c17, c37, c21] at e; subst e; (try dsimp only); refine ⟨rfl, ?_⟩)
            | ((first | (refine W.ret ?_; (try simp only [outOf, thenW_ret, roundW]); refine endW.of (.inl rfl) rfl ?_) | refine endW.of (.inr rfl) rfl ?_); generalize e : endsC _ _ _ = r; simp (disch := omega) [hD, hC, hN, hT, hg, hG, hD2, hC2, hN2, hql, hEb, hTr, hcut, hbv, hal, hll, hge, hget, hc10, hqn, hqn2, c17, c37, c21] at e; subst e; (try dsimp only [goW]); (first | refine ⟨rfl, ?_⟩ | (refine hk2 ?_ _ _ _ _ (S.updc ?_ ?_ ?_) ?_; (focus ((exact herr); done)); (focus (((try dsimp only); omega); done)); (focus (((try dsimp only); omega); done)); (focus ((repeat (first | exact hut.le (by (try dsimp only); omega) | refine UnderT.cons (by (try dsimp only); omega) ?_ | exact UnderT.nil | assumption | exact UnderT.le (by assumption) (by (try dsimp only); omega))); done)); (try dsimp only); omega))))
        · have hn10 : ¬ ((c.toNat : Int) = 10) := fun e => h10 (UInt8.toNat_inj.1 (by
              have h9 : c.toNat = 10 := by omega
              rw [h9]; rfl))
          by_cases h92 : c = 92
          · have hc92 : (c.toNat : Int) = 92 := by rw [h92]; rfl
            have hqn2 : ¬ ((92 : Int) = (q.toNat : Int)) := by omega
            cases t1 with
            | nil =>
              have herr : textF q [c] acc k = none ∨ ∃ txt kk, textF q [c] acc k = some (txt, kk) ∧ valid txt = false := .inl (by unfold textF; rw [if_neg hq, if_neg h10, if_pos h92])
              have hil2 : s.length = i + 1 := by simpa using hlen.symm
              refine W.loop ?_
              repeat (first
                | refine W.seq ?_
                | refine W.block ?_
                | ((first | refine W.regG ?_ | refine WoR.go ?_); generalize e : goR _ _ _ _ _ _ _ _ = r; simp (disch := omega) [hD, hC, hN, hT, hg, hG, hD2, hC2, hN2, hql, hEb, hTr, hcut, hbv, hal, hll, hge, hget, hc92, hqn, hqn2, hil2, c17, c37, c21] at e; replace e : some _ = _ := e; subst e; (try dsimp only [goW]))
                | refine W.cond_true rfl ?_
                | refine W.cond_false rfl ?_
                | refine W.skip ?_
                | refine W.exit ?_
                | (refine Wc.mkG 17 c17 (by kernel_rfl) rfl ?_; generalize e : entryC _ _ _ = r; simp (disch := omega) [hD, hC, hN, hT, hg, hG, hD2, hC2, hN2, hql, hEb, hTr, hcut, hbv, hal, hll, hge, hget, hc92, hqn, hqn2, hil2, c17, c37, c21] at e; subst e)
                | (refine Wc.mkG 37 c37 (by kernel_rfl) rfl ?_; generalize e : entryC _ _ _ = r; simp (disch := omega) [hD, hC, hN, hT, hg, hG, hD2, hC2, hN2, hql, hEb, hTr, hcut, hbv, hal, hll, hge, hget, hc92, hqn, hqn2, hil2, c17, c37, c21] at e; subst e)
                | (refine Wc.primM (f := 36) (p := (pBString 5)) (by kernel_rfl) ?_; generalize e : (pBString 5) _ _ = r; simp (disch := omega) [hD, hC, hN, hT, hg, hG, hD2, hC2, hN2, hql, hEb, hTr, hcut, hbv, hal, hll, hge, hget, hc92, hqn, hqn2, hil2, c17, c37, c21] at e; subst e; (try dsimp only); refine ⟨rfl, ?_⟩)
                | (refine Wc.primM (f := 51) (p := (pCopyCheck [(58720258, 0)])) (by kernel_rfl) ?_; generalize e : (pCopyCheck [(58720258, 0)]) _ _ = r; simp (disch := omega) [hD, hC, hN, hT, hg, hG, hD2, hC2, hN2, hql, hEb, hTr, hcut, hbv, hal, hll, hge, hget, hc92, hqn, hqn2, hil2, c17, c37, c21] at e; subst e; (try dsimp only); refine ⟨rfl, ?_⟩)
                | ((first | (refine W.ret ?_; (try simp only [outOf, thenW_ret, roundW]); refine endW.of (.inl rfl) rfl ?_) | refine endW.of (.inr rfl) rfl ?_); generalize e : endsC _ _ _ = r; simp (disch := omega) [hD, hC, hN, hT, hg, hG, hD2, hC2, hN2, hql, hEb, hTr, hcut, hbv, hal, hll, hge, hget, hc92, hqn, hqn2, hil2, c17, c37, c21] at e; subst e; (try dsimp only [goW]); (first | refine ⟨rfl, ?_⟩ | (refine hk2 ?_ _ _ _ _ (S.updc ?_ ?_ ?_) ?_; (focus ((exact herr); done)); (focus (((try dsimp only); omega); done)); (focus (((try dsimp only); omega); done)); (focus ((repeat (first | exact hut.le (by (try dsimp only); omega) | refine UnderT.cons (by (try dsimp only); omega) ?_ | exact UnderT.nil | assumption | exact UnderT.le (by assumption) (by (try dsimp only); omega))); done)); (try dsimp only); omega))))
            | cons x u =>
              obtain ⟨hlt2, hget2, hd2⟩ := get_of_dropG hd1
              have hge2 : s[i + 1] = x := by rw [List.getElem?_eq_getElem hlt2] at hget2; exact Option.some.inj hget2
              simp only [List.length_cons] at hlen hm
              have I0 := indexb_G [92, 34, 39, 110] x (by decide)
              have hto1 : ((i : Int) + 1).toNat = i + 1 := by omega
              cases hme : meantF x with
              | none =>
                rw [esc_no x hme] at I0
                have herr : textF q (c :: x :: u) acc k = none ∨ ∃ txt kk, textF q (c :: x :: u) acc k = some (txt, kk) ∧ valid txt = false := .inl (by unfold textF; rw [if_neg hq, if_neg h10, if_pos h92]; dsimp only; rw [hme])
                refine W.loop ?_
                repeat (first
                  | refine W.seq ?_
                  | refine W.block ?_
                  | ((first | refine W.regG ?_ | refine WoR.go ?_); generalize e : goR _ _ _ _ _ _ _ _ = r; simp (disch := omega) [hD, hC, hN, hT, hg, hG, hD2, hC2, hN2, hql, hEb, hTr, hcut, hbv, hal, hll, hge, hge2, hget, hget2, hto1, hc92, hqn, hqn2, c17, c37, c21] at e; replace e : some _ = _ := e; subst e; (try dsimp only [goW]))
                  | refine W.cond_true rfl ?_
                  | refine W.cond_false rfl ?_
                  | refine W.skip ?_
                  | refine W.exit ?_
                  | (refine I0 _ ?_ _ fun n5 hn5 => ⟨rfl, ?_⟩; (focus (((refine ⟨?_, ?_⟩; (focus ((repeat (first | exact hu.le (by (try dsimp only); omega) | exact hu.set.le (by (try dsimp only); omega) | exact hu.set.set.le (by (try dsimp only); omega) | refine Under.cons (by (try dsimp only); omega) ?_ | exact Under.nil)); done)); (focus ((repeat (first | exact hut.le (by (try dsimp only); omega) | refine UnderT.cons (by (try dsimp only); omega) ?_ | exact UnderT.nil | assumption | exact UnderT.le (by assumption) (by (try dsimp only); omega))); done)))); done)); (try dsimp only at hn5))
                  | (refine Wc.mkG 17 c17 (by kernel_rfl) rfl ?_; generalize e : entryC _ _ _ = r; simp (disch := omega) [hD, hC, hN, hT, hg, hG, hD2, hC2, hN2, hql, hEb, hTr, hcut, hbv, hal, hll, hge, hge2, hget, hget2, hto1, hc92, hqn, hqn2, c17, c37, c21] at e; subst e)
                  | (refine Wc.mkG 37 c37 (by kernel_rfl) rfl ?_; generalize e : entryC _ _ _ = r; simp (disch := omega) [hD, hC, hN, hT, hg, hG, hD2, hC2, hN2, hql, hEb, hTr, hcut, hbv, hal, hll, hge, hge2, hget, hget2, hto1, hc92, hqn, hqn2, c17, c37, c21] at e; subst e)
                  | (refine Wc.primM (f := 36) (p := (pBString 5)) (by kernel_rfl) ?_; generalize e : (pBString 5) _ _ = r; simp (disch := omega) [hD, hC, hN, hT, hg, hG, hD2, hC2, hN2, hql, hEb, hTr, hcut, hbv, hal, hll, hge, hge2, hget, hget2, hto1, hc92, hqn, hqn2, c17, c37, c21] at e; subst e; (try dsimp only); refine ⟨rfl, ?_⟩)
                  | (refine Wc.primM (f := 51) (p := (pCopyCheck [(58720258, 0)])) (by kernel_rfl) ?_; generalize e : (pCopyCheck [(58720258, 0)]) _ _ = r; simp (disch := omega) [hD, hC, hN, hT, hg, hG, hD2, hC2, hN2, hql, hEb, hTr, hcut, hbv, hal, hll, hge, hge2, hget, hget2, hto1, hc92, hqn, hqn2, c17, c37, c21] at e; subst e; (try dsimp only); refine ⟨rfl, ?_⟩)
                  | ((first | (refine W.ret ?_; (try simp only [outOf, thenW_ret, roundW]); refine endW.of (.inl rfl) rfl ?_) | refine endW.of (.inr rfl) rfl ?_); generalize e : endsC _ _ _ = r; simp (disch := omega) [hD, hC, hN, hT, hg, hG, hD2, hC2, hN2, hql, hEb, hTr, hcut, hbv, hal, hll, hge, hge2, hget, hget2, hto1, hc92, hqn, hqn2, c17, c37, c21] at e; subst e; (try dsimp only [goW]); (first | refine ⟨rfl, ?_⟩ | (refine hk2 ?_ _ _ _ _ (S.updc ?_ ?_ ?_) ?_; (focus ((exact herr); done)); (focus (((try dsimp only); omega); done)); (focus (((try dsimp only); omega); done)); (focus ((repeat (first | exact hut.le (by (try dsimp only); omega) | refine UnderT.cons (by (try dsimp only); omega) ?_ | exact UnderT.nil | assumption | exact UnderT.le (by assumption) (by (try dsimp only); omega))); done)); (try dsimp only); omega))))
              | some m =>
                have htx2 : textF q (c :: x :: u) acc k = textF q u (acc ++ [m]) (k + 2) := by
                  conv => lhs; unfold textF
                  rw [if_neg hq, if_neg h10, if_pos h92]
                  dsimp only
                  rw [hme]
                rw [htx2] at hk1 hk2
                have hxm : (x = 92 ∧ m = 92) ∨ (x = 34 ∧ m = 34) ∨ (x = 39 ∧ m = 39) ∨ (x = 110 ∧ m = 10) := by
                  unfold meantF at hme
                  split at hme
                  · cases hme; exact .inl ⟨by assumption, rfl⟩
                  · split at hme
                    · cases hme; exact .inr (.inl ⟨by assumption, rfl⟩)
                    · split at hme
                      · cases hme; exact .inr (.inr (.inl ⟨by assumption, rfl⟩))
                      · split at hme
                        · cases hme; exact .inr (.inr (.inr ⟨by assumption, rfl⟩))
                        · cases hme
                rcases hxm with ⟨hx, rfl⟩ | ⟨hx, rfl⟩ | ⟨hx, rfl⟩ | ⟨hx, rfl⟩
                · rw [show idxFrom x [92, 34, 39, 110] 0 = 0 by rw [hx]; rfl] at I0
                  refine W.loop ?_
                  repeat (first
                    | refine W.seq ?_
                    | refine W.block ?_
                    | ((first | refine W.regG ?_ | refine WoR.go ?_); generalize e : goR _ _ _ _ _ _ _ _ = r; simp (disch := omega) [hD, hC, hN, hT, hg, hG, hD2, hC2, hN2, hql, hEb, hTr, hcut, hbv, hal, hll, hge, hge2, hget, hget2, hto1, hc92, hqn, hqn2, c17, c37, c21] at e; replace e : some _ = _ := e; subst e; (try dsimp only [goW]))
                    | refine W.cond_true rfl ?_
                    | refine W.cond_false rfl ?_
                    | refine W.skip ?_
                    | refine W.exit ?_
                    | (refine I0 _ ?_ _ fun n5 hn5 => ⟨rfl, ?_⟩; (focus (((refine ⟨?_, ?_⟩; (focus ((repeat (first | exact hu.le (by (try dsimp only); omega) | exact hu.set.le (by (try dsimp only); omega) | exact hu.set.set.le (by (try dsimp only); omega) | refine Under.cons (by (try dsimp only); omega) ?_ | exact Under.nil)); done)); (focus ((repeat (first | exact hut.le (by (try dsimp only); omega) | refine UnderT.cons (by (try dsimp only); omega) ?_ | exact UnderT.nil | assumption | exact UnderT.le (by assumption) (by (try dsimp only); omega))); done)))); done)); (try dsimp only at hn5))
                    | (refine Wc.mkG 17 c17 (by kernel_rfl) rfl ?_; generalize e : entryC _ _ _ = r; simp (disch := omega) [hD, hC, hN, hT, hg, hG, hD2, hC2, hN2, hql, hEb, hTr, hcut, hbv, hal, hll, hge, hge2, hget, hget2, hto1, hc92, hqn, hqn2, c17, c37, c21] at e; subst e)
                    | (refine Wc.mkG 37 c37 (by kernel_rfl) rfl ?_; generalize e : entryC _ _ _ = r; simp (disch := omega) [hD, hC, hN, hT, hg, hG, hD2, hC2, hN2, hql, hEb, hTr, hcut, hbv, hal, hll, hge, hge2, hget, hget2, hto1, hc92, hqn, hqn2, c17, c37, c21] at e; subst e)
                    | (refine Wc.primM (f := 36) (p := (pBString 5)) (by kernel_rfl) ?_; generalize e : (pBString 5) _ _ = r; simp (disch := omega) [hD, hC, hN, hT, hg, hG, hD2, hC2, hN2, hql, hEb, hTr, hcut, hbv, hal, hll, hge, hge2, hget, hget2, hto1, hc92, hqn, hqn2, c17, c37, c21] at e; subst e; (try dsimp only); refine ⟨rfl, ?_⟩)
                    | (refine Wc.primM (f := 51) (p := (pCopyCheck [(58720258, 0)])) (by kernel_rfl) ?_; generalize e : (pCopyCheck [(58720258, 0)]) _ _ = r; simp (disch := omega) [hD, hC, hN, hT, hg, hG, hD2, hC2, hN2, hql, hEb, hTr, hcut, hbv, hal, hll, hge, hge2, hget, hget2, hto1, hc92, hqn, hqn2, c17, c37, c21] at e; subst e; (try dsimp only); refine ⟨rfl, ?_⟩)
                    | ((first | (refine W.ret ?_; (try simp only [outOf, thenW_ret, roundW]); refine endW.of (.inl rfl) rfl ?_) | refine endW.of (.inr rfl) rfl ?_); generalize e : endsC _ _ _ = r; simp (disch := omega) [hD, hC, hN, hT, hg, hG, hD2, hC2, hN2, hql, hEb, hTr, hcut, hbv, hal, hll, hge, hge2, hget, hget2, hto1, hc92, hqn, hqn2, c17, c37, c21] at e; subst e; (try dsimp only [goW]); refine ⟨rfl, ?_⟩))
                  show W tree.getF textLoop (dropped true _ _) _
                  generalize e : dropped _ _ _ = r9
                  simp (disch := omega) [hD, hC, hN, hT, hg, hG, hD2, hC2, hN2, hql, hEb, hTr, hcut, hbv, hal, hll] at e
                  subst e
                  rw [show acc.map bv ++ [CVal.int .u8 92] = (acc ++ [(92 : UInt8)]).map bv by rw [List.map_append]; rfl, show acc.length + 1 = (acc ++ [(92 : UInt8)]).length by simp]
                  refine ih u (acc ++ [(92 : UInt8)]) (i + 2) (k + 2) (v + 1) _ _ _ _ _ _ _ _ _ _ (by omega) (by simpa using hd2) (by omega) (by simp) (by simp; omega) ?_ ?_ ?_ (by omega) hk1 hk2
                  · ((try dsimp only); omega)
                  · repeat (first | exact hut.le (by (try dsimp only); omega) | refine UnderT.cons (by (try dsimp only); omega) ?_ | exact UnderT.nil | assumption | exact UnderT.le (by assumption) (by (try dsimp only); omega))
                  · exact hty
                · rw [show idxFrom x [92, 34, 39, 110] 0 = 1 by rw [hx]; rfl] at I0
                  refine W.loop ?_
                  repeat (first
                    | refine W.seq ?_
                    | refine W.block ?_
                    | ((first | refine W.regG ?_ | refine WoR.go ?_); generalize e : goR _ _ _ _ _ _ _ _ = r; simp (disch := omega) [hD, hC, hN, hT, hg, hG, hD2, hC2, hN2, hql, hEb, hTr, hcut, hbv, hal, hll, hge, hge2, hget, hget2, hto1, hc92, hqn, hqn2, c17, c37, c21] at e; replace e : some _ = _ := e; subst e; (try dsimp only [goW]))
                    | refine W.cond_true rfl ?_
                    | refine W.cond_false rfl ?_
                    | refine W.skip ?_
                    | refine W.exit ?_
                    | (refine I0 _ ?_ _ fun n5 hn5 => ⟨rfl, ?_⟩; (focus (((refine ⟨?_, ?_⟩; (focus ((repeat (first | exact hu.le (by (try dsimp only); omega) | exact hu.set.le (by (try dsimp only); omega) | exact hu.set.set.le (by (try dsimp only); omega) | refine Under.cons (by (try dsimp only); omega) ?_ | exact Under.nil)); done)); (focus ((repeat (first | exact hut.le (by (try dsimp only); omega) | refine UnderT.cons (by (try dsimp only); omega) ?_ | exact UnderT.nil | assumption | exact UnderT.le (by assumption) (by (try dsimp only); omega))); done)))); done)); (try dsimp only at hn5))
                    | (refine Wc.mkG 17 c17 (by kernel_rfl) rfl ?_; generalize e : entryC _ _ _ = r; simp (disch := omega) [hD, hC, hN, hT, hg, hG, hD2, hC2, hN2, hql, hEb, hTr, hcut, hbv, hal, hll, hge, hge2, hget, hget2, hto1, hc92, hqn, hqn2, c17, c37, c21] at e; subst e)
                    | (refine Wc.mkG 37 c37 (by kernel_rfl) rfl ?_; generalize e : entryC _ _ _ = r; simp (disch := omega) [hD, hC, hN, hT, hg, hG, hD2, hC2, hN2, hql, hEb, hTr, hcut, hbv, hal, hll, hge, hge2, hget, hget2, hto1, hc92, hqn, hqn2, c17, c37, c21] at e; subst e)
                    | (refine Wc.primM (f := 36) (p := (pBString 5)) (by kernel_rfl) ?_; generalize e : (pBString 5) _ _ = r; simp (disch := omega) [hD, hC, hN, hT, hg, hG, hD2, hC2, hN2, hql, hEb, hTr, hcut, hbv, hal, hll, hge, hge2, hget, hget2, hto1, hc92, hqn, hqn2, c17, c37, c21] at e; subst e; (try dsimp only); refine ⟨rfl, ?_⟩)
                    | (refine Wc.primM (f := 51) (p := (pCopyCheck [(58720258, 0)])) (by kernel_rfl) ?_; generalize e : (pCopyCheck [(58720258, 0)]) _ _ = r; simp (disch := omega) [hD, hC, hN, hT, hg, hG, hD2, hC2, hN2, hql, hEb, hTr, hcut, hbv, hal, hll, hge, hge2, hget, hget2, hto1, hc92, hqn, hqn2, c17, c37, c21] at e; subst e; (try dsimp only); refine ⟨rfl, ?_⟩)
                    | ((first | (refine W.ret ?_; (try simp only [outOf, thenW_ret, roundW]); refine endW.of (.inl rfl) rfl ?_) | refine endW.of (.inr rfl) rfl ?_); generalize e : endsC _ _ _ = r; simp (disch := omega) [hD, hC, hN, hT, hg, hG, hD2, hC2, hN2, hql, hEb, hTr, hcut, hbv, hal, hll, hge, hge2, hget, hget2, hto1, hc92, hqn, hqn2, c17, c37, c21] at e; subst e; (try dsimp only [goW]); refine ⟨rfl, ?_⟩))
                  show W tree.getF textLoop (dropped true _ _) _
                  generalize e : dropped _ _ _ = r9
                  simp (disch := omega) [hD, hC, hN, hT, hg, hG, hD2, hC2, hN2, hql, hEb, hTr, hcut, hbv, hal, hll] at e
                  subst e
                  rw [show acc.map bv ++ [CVal.int .u8 34] = (acc ++ [(34 : UInt8)]).map bv by rw [List.map_append]; rfl, show acc.length + 1 = (acc ++ [(34 : UInt8)]).length by simp]
                  refine ih u (acc ++ [(34 : UInt8)]) (i + 2) (k + 2) (v + 1) _ _ _ _ _ _ _ _ _ _ (by omega) (by simpa using hd2) (by omega) (by simp) (by simp; omega) ?_ ?_ ?_ (by omega) hk1 hk2
                  · ((try dsimp only); omega)
                  · repeat (first | exact hut.le (by (try dsimp only); omega) | refine UnderT.cons (by (try dsimp only); omega) ?_ | exact UnderT.nil | assumption | exact UnderT.le (by assumption) (by (try dsimp only); omega))
                  · exact hty
                · rw [show idxFrom x [92, 34, 39, 110] 0 = 2 by rw [hx]; rfl] at I0
                  refine W.loop ?_
                  repeat (first
                    | refine W.seq ?_
                    | refine W.block ?_
                    | ((first | refine W.regG ?_ | refine WoR.go ?_); generalize e : goR _ _ _ _ _ _ _ _ = r; simp (disch := omega) [hD, hC, hN, hT, hg, hG, hD2, hC2, hN2, hql, hEb, hTr, hcut, hbv, hal, hll, hge, hge2, hget, hget2, hto1, hc92, hqn, hqn2, c17, c37, c21] at e; replace e : some _ = _ := e; subst e; (try dsimp only [goW]))
                    | refine W.cond_true rfl ?_
                    | refine W.cond_false rfl ?_
                    | refine W.skip ?_
                    | refine W.exit ?_
                    | (refine I0 _ ?_ _ fun n5 hn5 => ⟨rfl, ?_⟩; (focus (((refine ⟨?_, ?_⟩; (focus ((repeat (first | exact hu.le (by (try dsimp only); omega) | exact hu.set.le (by (try dsimp only); omega) | exact hu.set.set.le (by (try dsimp only); omega) | refine Under.cons (by (try dsimp only); omega) ?_ | exact Under.nil)); done)); (focus ((repeat (first | exact hut.le (by (try dsimp only); omega) | refine UnderT.cons (by (try dsimp only); omega) ?_ | exact UnderT.nil | assumption | exact UnderT.le (by assumption) (by (try dsimp only); omega))); done)))); done)); (try dsimp only at hn5))
                    | (refine Wc.mkG 17 c17 (by kernel_rfl) rfl ?_; generalize e : entryC _ _ _ = r; simp (disch := omega) [hD, hC, hN, hT, hg, hG, hD2, hC2, hN2, hql, hEb, hTr, hcut, hbv, hal, hll, hge, hge2, hget, hget2, hto1, hc92, hqn, hqn2, c17, c37, c21] at e; subst e)
                    | (refine Wc.mkG 37 c37 (by kernel_rfl) rfl ?_; generalize e : entryC _ _ _ = r; simp (disch := omega) [hD, hC, hN, hT, hg, hG, hD2, hC2, hN2, hql, hEb, hTr, hcut, hbv, hal, hll, hge, hge2, hget, hget2, hto1, hc92, hqn, hqn2, c17, c37, c21] at e; subst e)
                    | (refine Wc.primM (f := 36) (p := (pBString 5)) (by kernel_rfl) ?_; generalize e : (pBString 5) _ _ = r; simp (disch := omega) [hD, hC, hN, hT, hg, hG, hD2, hC2, hN2, hql, hEb, hTr, hcut, hbv, hal, hll, hge, hge2, hget, hget2, hto1, hc92, hqn, hqn2, c17, c37, c21] at e; subst e; (try dsimp only); refine ⟨rfl, ?_⟩)
                    | (refine Wc.primM (f := 51) (p := (pCopyCheck [(58720258, 0)])) (by kernel_rfl) ?_; generalize e : (pCopyCheck [(58720258, 0)]) _ _ = r; simp (disch := omega) [hD, hC, hN, hT, hg, hG, hD2, hC2, hN2, hql, hEb, hTr, hcut, hbv, hal, hll, hge, hge2, hget, hget2, hto1, hc92, hqn, hqn2, c17, c37, c21] at e; subst e; (try dsimp only); refine ⟨rfl, ?_⟩)
                    | ((first | (refine W.ret ?_; (try simp only [outOf, thenW_ret, roundW]); refine endW.of (.inl rfl) rfl ?_) | refine endW.of (.inr rfl) rfl ?_); generalize e : endsC _ _ _ = r; simp (disch := omega) [hD, hC, hN, hT, hg, hG, hD2, hC2, hN2, hql, hEb, hTr, hcut, hbv, hal, hll, hge, hge2, hget, hget2, hto1, hc92, hqn, hqn2, c17, c37, c21] at e; subst e; (try dsimp only [goW]); refine ⟨rfl, ?_⟩))
                  show W tree.getF textLoop (dropped true _ _) _
                  generalize e : dropped _ _ _ = r9
                  simp (disch := omega) [hD, hC, hN, hT, hg, hG, hD2, hC2, hN2, hql, hEb, hTr, hcut, hbv, hal, hll] at e
                  subst e
                  rw [show acc.map bv ++ [CVal.int .u8 39] = (acc ++ [(39 : UInt8)]).map bv by rw [List.map_append]; rfl, show acc.length + 1 = (acc ++ [(39 : UInt8)]).length by simp]
                  refine ih u (acc ++ [(39 : UInt8)]) (i + 2) (k + 2) (v + 1) _ _ _ _ _ _ _ _ _ _ (by omega) (by simpa using hd2) (by omega) (by simp) (by simp; omega) ?_ ?_ ?_ (by omega) hk1 hk2
                  · ((try dsimp only); omega)
                  · repeat (first | exact hut.le (by (try dsimp only); omega) | refine UnderT.cons (by (try dsimp only); omega) ?_ | exact UnderT.nil | assumption | exact UnderT.le (by assumption) (by (try dsimp only); omega))
                  · exact hty
                · rw [show idxFrom x [92, 34, 39, 110] 0 = 3 by rw [hx]; rfl] at I0
                  refine W.loop ?_
                  repeat (first
                    | refine W.seq ?_
                    | refine W.block ?_
                    | ((first | refine W.regG ?_ | refine WoR.go ?_); generalize e : goR _ _ _ _ _ _ _ _ = r; simp (disch := omega) [hD, hC, hN, hT, hg, hG, hD2, hC2, hN2, hql, hEb, hTr, hcut, hbv, hal, hll, hge, hge2, hget, hget2, hto1, hc92, hqn, hqn2, c17, c37, c21] at e; replace e : some _ = _ := e; subst e; (try dsimp only [goW]))
                    | refine W.cond_true rfl ?_
                    | refine W.cond_false rfl ?_
                    | refine W.skip ?_
                    | refine W.exit ?_
                    | (refine I0 _ ?_ _ fun n5 hn5 => ⟨rfl, ?_⟩; (focus (((refine ⟨?_, ?_⟩; (focus ((repeat (first | exact hu.le (by (try dsimp only); omega) | exact hu.set.le (by (try dsimp only); omega) | exact hu.set.set.le (by (try dsimp only); omega) | refine Under.cons (by (try dsimp only); omega) ?_ | exact Under.nil)); done)); (focus ((repeat (first | exact hut.le (by (try dsimp only); omega) | refine UnderT.cons (by (try dsimp only); omega) ?_ | exact UnderT.nil | assumption | exact UnderT.le (by assumption) (by (try dsimp only); omega))); done)))); done)); (try dsimp only at hn5))
                    | (refine Wc.mkG 17 c17 (by kernel_rfl) rfl ?_; generalize e : entryC _ _ _ = r; simp (disch := omega) [hD, hC, hN, hT, hg, hG, hD2, hC2, hN2, hql, hEb, hTr, hcut, hbv, hal, hll, hge, hge2, hget, hget2, hto1, hc92, hqn, hqn2, c17, c37, c21] at e; subst e)
                    | (refine Wc.mkG 37 c37 (by kernel_rfl) rfl ?_; generalize e : entryC _ _ _ = r; simp (disch := omega) [hD, hC, hN, hT, hg, hG, hD2, hC2, hN2, hql, hEb, hTr, hcut, hbv, hal, hll, hge, hge2, hget, hget2, hto1, hc92, hqn, hqn2, c17, c37, c21] at e; subst e)
                    | (refine Wc.primM (f := 36) (p := (pBString 5)) (by kernel_rfl) ?_; generalize e : (pBString 5) _ _ = r; simp (disch := omega) [hD, hC, hN, hT, hg, hG, hD2, hC2, hN2, hql, hEb, hTr, hcut, hbv, hal, hll, hge, hge2, hget, hget2, hto1, hc92, hqn, hqn2, c17, c37, c21] at e; subst e; (try dsimp only); refine ⟨rfl, ?_⟩)
                    | (refine Wc.primM (f := 51) (p := (pCopyCheck [(58720258, 0)])) (by kernel_rfl) ?_; generalize e : (pCopyCheck [(58720258, 0)]) _ _ = r; simp (disch := omega) [hD, hC, hN, hT, hg, hG, hD2, hC2, hN2, hql, hEb, hTr, hcut, hbv, hal, hll, hge, hge2, hget, hget2, hto1, hc92, hqn, hqn2, c17, c37, c21] at e; subst e; (try dsimp only); refine ⟨rfl, ?_⟩)
                    | ((first | (refine W.ret ?_; (try simp only [outOf, thenW_ret, roundW]); refine endW.of (.inl rfl) rfl ?_) | refine endW.of (.inr rfl) rfl ?_); generalize e : endsC _ _ _ = r; simp (disch := omega) [hD, hC, hN, hT, hg, hG, hD2, hC2, hN2, hql, hEb, hTr, hcut, hbv, hal, hll, hge, hge2, hget, hget2, hto1, hc92, hqn, hqn2, c17, c37, c21] at e; subst e; (try dsimp only [goW]); refine ⟨rfl, ?_⟩))
                  show W tree.getF textLoop (dropped true _ _) _
                  generalize e : dropped _ _ _ = r9
                  simp (disch := omega) [hD, hC, hN, hT, hg, hG, hD2, hC2, hN2, hql, hEb, hTr, hcut, hbv, hal, hll] at e
                  subst e
                  rw [show acc.map bv ++ [CVal.int .u8 10] = (acc ++ [(10 : UInt8)]).map bv by rw [List.map_append]; rfl, show acc.length + 1 = (acc ++ [(10 : UInt8)]).length by simp]
                  refine ih u (acc ++ [(10 : UInt8)]) (i + 2) (k + 2) (v + 1) _ _ _ _ _ _ _ _ _ _ (by omega) (by simpa using hd2) (by omega) (by simp) (by simp; omega) ?_ ?_ ?_ (by omega) hk1 hk2
                  · ((try dsimp only); omega)
                  · repeat (first | exact hut.le (by (try dsimp only); omega) | refine UnderT.cons (by (try dsimp only); omega) ?_ | exact UnderT.nil | assumption | exact UnderT.le (by assumption) (by (try dsimp only); omega))
                  · exact hty
          · have hn92 : ¬ ((c.toNat : Int) = 92) := fun e => h92 (UInt8.toNat_inj.1 (by
              have h9 : c.toNat = 92 := by omega
              rw [h9]; rfl))
            have htx2 : textF q (c :: t1) acc k = textF q t1 (acc ++ [c]) (k + 1) := by
              conv => lhs; unfold textF
              rw [if_neg hq, if_neg h10, if_neg h92]
            rw [htx2] at hk1 hk2
            refine W.loop ?_
            repeat (first
              | refine W.seq ?_
              | refine W.block ?_
              | ((first | refine W.regG ?_ | refine WoR.go ?_); generalize e : goR _ _ _ _ _ _ _ _ = r; simp (disch := omega) [hD, hC, hN, hT, hg, hG, hD2, hC2, hN2, hql, hEb, hTr, hcut, hbv, hal, hll, hge, hget, hqn, hn10, hn92, c17, c37, c21] at e; replace e : some _ = _ := e; subst e; (try dsimp only [goW]))
              | refine W.cond_true rfl ?_
              | refine W.cond_false rfl ?_
              | refine W.skip ?_
              | refine W.exit ?_
              | (refine Wc.mkG 17 c17 (by kernel_rfl) rfl ?_; generalize e : entryC _ _ _ = r; simp (disch := omega) [hD, hC, hN, hT, hg, hG, hD2, hC2, hN2, hql, hEb, hTr, hcut, hbv, hal, hll, hge, hget, hqn, hn10, hn92, c17, c37, c21] at e; subst e)
              | (refine Wc.mkG 37 c37 (by kernel_rfl) rfl ?_; generalize e : entryC _ _ _ = r; simp (disch := omega) [hD, hC, hN, hT, hg, hG, hD2, hC2, hN2, hql, hEb, hTr, hcut, hbv, hal, hll, hge, hget, hqn, hn10, hn92, c17, c37, c21] at e; subst e)
              | (refine Wc.primM (f := 36) (p := (pBString 5)) (by kernel_rfl) ?_; generalize e : (pBString 5) _ _ = r; simp (disch := omega) [hD, hC, hN, hT, hg, hG, hD2, hC2, hN2, hql, hEb, hTr, hcut, hbv, hal, hll, hge, hget, hqn, hn10, hn92, c17, c37, c21] at e; subst e; (try dsimp only); refine ⟨rfl, ?_⟩)
              | (refine Wc.primM (f := 51) (p := (pCopyCheck [(58720258, 0)])) (by kernel_rfl) ?_; generalize e : (pCopyCheck [(58720258, 0)]) _ _ = r; simp (disch := omega) [hD, hC, hN, hT, hg, hG, hD2, hC2, hN2, hql, hEb, hTr, hcut, hbv, hal, hll, hge, hget, hqn, hn10, hn92, c17, c37, c21] at e; subst e; (try dsimp only); refine ⟨rfl, ?_⟩)
              | ((first | (refine W.ret ?_; (try simp only [outOf, thenW_ret, roundW]); refine endW.of (.inl rfl) rfl ?_) | refine endW.of (.inr rfl) rfl ?_); generalize e : endsC _ _ _ = r; simp (disch := omega) [hD, hC, hN, hT, hg, hG, hD2, hC2, hN2, hql, hEb, hTr, hcut, hbv, hal, hll, hge, hget, hqn, hn10, hn92, c17, c37, c21] at e; subst e; (try dsimp only [goW]); refine ⟨rfl, ?_⟩))
            show W tree.getF textLoop (dropped true _ _) _
            generalize e : dropped _ _ _ = r9
            simp (disch := omega) [hD, hC, hN, hT, hg, hG, hD2, hC2, hN2, hql, hEb, hTr, hcut, hbv, hal, hll] at e
            subst e
            rw [show acc.map bv ++ [CVal.int .u8 (c.toNat : Int)] = (acc ++ [c]).map bv by rw [List.map_append]; rfl, show acc.length + 1 = (acc ++ [c]).length by simp]
            refine ih t1 (acc ++ [c]) (i + 1) (k + 1) (v + 1) _ _ _ _ _ _ _ _ _ _ (by omega) (by simpa using hd1) (by omega) (by simp) (by simp; omega) ?_ ?_ ?_ (by omega) hk1 hk2
            · ((try dsimp only); omega)
            · repeat (first | exact hut.le (by (try dsimp only); omega) | refine UnderT.cons (by (try dsimp only); omega) ?_ | exact UnderT.nil | assumption | exact UnderT.le (by assumption) (by (try dsimp only); omega))
            · exact hty
end Go.Proofs.YthblmflngjofjaaDoor.IrP
