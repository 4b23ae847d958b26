/- What the functions of the law 'WordPlaces' do: part 10. -/
import Derived.Test.YthblmflngjofjaaDoorLxPH
namespace Go.Proofs.YthblmflngjofjaaDoor.IrP
open Go Go.CI
open Go.LexF hiding spacesB lettersB
set_option maxRecDepth 100000
set_option linter.unusedVariables false
set_option linter.unusedSimpArgs false
attribute [local irreducible] W Wo Wc WoR
attribute [local simp] goR regOut checkOne swapOne sameAt nthOp CVal.beq beqs CVal.block storesTo entryC evalOps evalOper evalE evalP evalL evalOpnd nth setNth COp.cls COp.isStore CVal.isUndef CVal.whole CVal.cells CHeap.put CHeap.get CHeap.set wantedC getEnt setEnt partOf writeBack evalBin evalInt evalStr blockMost initVar descOf List.take List.drop CVal.lenOf CVal.isStr CVal.bare CVal.strip CVal.flat endsC resultsC oneOrTuple finishC cut fillCells setCells szOf szOf_desc elems bytesOf evalAppend fillElems mkElem setElem List.replicate sy_nbeq sy_neqF sy_leT sy_leF sy_setEnt_setEnt dropped sy_wrap64 dropEnts dropCells sizeMost sy_ibeqF sy_ieqF sy_ileT sy_ileF sy_iltT sy_iltF sy_ltT sy_ltF evalSlc optBound eqVal extL extE keyIs findKV nthKV setKV CHeap.ty lookupN CHeap.note CHeap.tyOk dropAll freezeVal freezeAll freezeFlat pCopyCheck pBString pMakeNoZero pIndexByte pClone pIndex hasPair rowOf byteVals idxFrom hasFront idxSub

theorem setEnt_none : ∀ {l : List (Nat × CObj)} {p : Nat} {x : CObj}, getEnt l p = none → setEnt l p x = l
  | [], _, _, _ => rfl
  | (i, o) :: r, p, x, h => by
    by_cases hi : i = p
    · subst hi; simp [getEnt] at h
    · simp [getEnt, hi] at h; simp [setEnt, hi, setEnt_none h]
/-- What lies ahead of some entries. -/
def Over (n0 : Nat) (E0 l : List (Nat × CObj)) : Prop := ∃ pre, l = pre ++ E0 ∧ (∀ x ∈ pre, n0 ≤ x.1) ∧ Under E0 n0
theorem Over.cons {n0 : Nat} {E0 l : List (Nat × CObj)} {i : Nat} {o : CObj} (h : Over n0 E0 l) (hi : n0 ≤ i) : Over n0 E0 ((i, o) :: l) := by
  obtain ⟨pre, rfl, h1, h2⟩ := h
  exact ⟨(i, o) :: pre, rfl, fun x hx => by rcases List.mem_cons.1 hx with rfl | hx; exact hi; exact h1 x hx, h2⟩
theorem Over.drop {n0 : Nat} {E0 l : List (Nat × CObj)} (h : Over n0 E0 l) : dropEnts l n0 = E0 := by
  obtain ⟨pre, rfl, h1, h2⟩ := h
  induction pre with
  | nil => exact dropEnts_under h2
  | cons a pre ih =>
    have := h1 a (by simp)
    show (if n0 ≤ a.1 then dropEnts (pre ++ E0) n0 else _) = _
    rw [if_pos this]
    exact ih fun x hx => h1 x (by simp [hx])
theorem set_ids : ∀ {l : List (Nat × CObj)} {p n0 : Nat} {x : CObj}, (∀ y ∈ l, n0 ≤ y.1) → ∀ y ∈ setEnt l p x, n0 ≤ y.1
  | [], _, _, _, _, y, hy => by cases hy
  | (i, o) :: r, p, n0, x, h, y, hy => by
    have h1 := h (i, o) (by simp)
    unfold setEnt at hy
    split at hy
    · rcases List.mem_cons.1 hy with rfl | hy
      · exact h1
      · exact h y (by simp [hy])
    · rcases List.mem_cons.1 hy with rfl | hy
      · exact h1
      · exact set_ids (fun z hz => h z (by simp [hz])) y hy
theorem set_append : ∀ {pre E0 : List (Nat × CObj)} {p : Nat} {x : CObj}, getEnt E0 p = none → setEnt (pre ++ E0) p x = setEnt pre p x ++ E0
  | [], _, _, _, h => setEnt_none h
  | (i, o) :: r, E0, p, x, h => by
    have := set_append (pre := r) (x := x) h
    simp only [List.cons_append, setEnt]
    split
    · rfl
    · rw [this]; rfl
theorem Over.set {n0 : Nat} {E0 l : List (Nat × CObj)} {p : Nat} {x : CObj} (h : Over n0 E0 l) (hp : n0 ≤ p) : Over n0 E0 (setEnt l p x) := by
  obtain ⟨pre, rfl, h1, h2⟩ := h
  exact ⟨setEnt pre p x, set_append (getEnt_under h2 hp), set_ids h1, h2⟩
/-- Where a reader stands. -/
structure St (n0 : Nat) (E0 : List (Nat × CObj)) (p : Nat) (s : List UInt8) (a : Int) (L : CVal) (ts : List CVal) (e to : Int) (h : CHeap) : Prop where
  g : getEnt h.ents p = some (rdr s a L e to)
  l : L = .nils ∧ ts = [] ∨ ∃ i v, L = .imm (.own i v) 4 ts ∧ getEnt h.ents i = some (.tok v) ∧ i ≠ p ∧ n0 ≤ i ∧ i < h.next
  d : Over n0 E0 h.ents
  n : n0 ≤ p
  lt : p < h.next
  f : Fit h
theorem St.whole {n0 : Nat} {E0 : List (Nat × CObj)} {p : Nat} {s : List UInt8} {a : Int} {L : CVal} {ts : List CVal} {e to : Int} {h : CHeap} (S : St n0 E0 p s a L ts e to h) : L.whole = true ∧ L.cells.length = 1 := by
  rcases S.l with ⟨rfl, _⟩ | ⟨i, v, rfl, _⟩ <;> exact ⟨rfl, rfl⟩
theorem St.upd {n0 : Nat} {E0 : List (Nat × CObj)} {p : Nat} {s : List UInt8} {a a' : Int} {L : CVal} {ts : List CVal} {e to e' to' : Int} {h : CHeap} {n' : Nat} {ty : List (Nat × Nat)} (S : St n0 E0 p s a L ts e to h) (hn : h.next ≤ n') (ht : UnderT ty n') :
    St n0 E0 p s a' L ts e' to' ⟨setEnt h.ents p (rdr s a' L e' to'), n', ty⟩ where
  g := sy_getEnt_setEnt S.g
  l := by
    rcases S.l with h1 | ⟨i, v, h1, h2, h3, h4, h5⟩
    · exact .inl h1
    · exact .inr ⟨i, v, h1, (getEnt_setEnt_ne h3).trans h2, h3, h4, by (try dsimp only); omega⟩
  d := S.d.set S.n
  n := S.n
  lt := by have := S.lt; (try dsimp only); omega
  f := ⟨S.f.1.set.le hn, ht⟩
theorem St.app0 {n0 : Nat} {E0 : List (Nat × CObj)} {p : Nat} {s : List UInt8} {a a' : Int} {e to e' to' : Int} {h : CHeap} {n' i : Nat} {ty : List (Nat × Nat)} {x : CVal} {ts : List CVal} (S : St n0 E0 p s a .nils ts e to h) (hi : h.next ≤ i) (hn : i < n') (ht : UnderT ty n') :
    St n0 E0 p s a' (.imm (.own i 0) 4 [x]) [x] e' to' ⟨(i, .tok 0) :: setEnt h.ents p (rdr s a' (.imm (.own i 0) 4 [x]) e' to'), n', ty⟩ := by
  have hlt := S.lt
  have hn0 := S.n
  have hip : (i == p) = false := by simp; omega
  exact {
    g := by simp only [getEnt, hip, Bool.false_eq_true, if_false]; exact sy_getEnt_setEnt S.g
    l := .inr ⟨i, 0, rfl, by simp [getEnt], by omega, by omega, hn⟩
    d := (S.d.set hn0).cons (by omega)
    n := hn0
    lt := by (try dsimp only); omega
    f := ⟨Under.cons hn (S.f.1.set.le (by (try dsimp only); omega)), ht⟩ }
theorem St.app1 {n0 : Nat} {E0 : List (Nat × CObj)} {p : Nat} {s : List UInt8} {a a' : Int} {e to e' to' : Int} {h : CHeap} {n' i v : Nat} {ty : List (Nat × Nat)} {x : CVal} {ts : List CVal} {L : CVal} (S : St n0 E0 p s a L ts e to h) (ht : getEnt h.ents i = some (.tok v)) (hip : i ≠ p) (hi0 : n0 ≤ i) (hin : i < h.next) (hn : h.next ≤ n') (hty : UnderT ty n') :
    St n0 E0 p s a' (.imm (.own i (v + 1)) 4 (ts ++ [x])) (ts ++ [x]) e' to' ⟨setEnt (setEnt h.ents i (.tok (v + 1))) p (rdr s a' (.imm (.own i (v + 1)) 4 (ts ++ [x])) e' to'), n', ty⟩ := by
  have hlt := S.lt
  have hn0 := S.n
  have hg : getEnt (setEnt h.ents i (.tok (v + 1))) p = some (rdr s a L e to) := (getEnt_setEnt_ne (Ne.symm hip)).trans S.g
  exact {
    g := sy_getEnt_setEnt hg
    l := .inr ⟨i, v + 1, rfl, (getEnt_setEnt_ne hip).trans (sy_getEnt_setEnt ht), hip, hi0, by (try dsimp only); omega⟩
    d := (S.d.set hi0).set hn0
    n := hn0
    lt := by (try dsimp only); omega
    f := ⟨S.f.1.set.set.le hn, hty⟩ }

theorem skip_F {n0 : Nat} {E0 : List (Nat × CObj)} (p d : Nat) (s r : List UInt8) (a : Nat) (L : CVal) (ts : List CVal) (to : Int) (hs : s.length < 60000) (hda : s.drop a = r) (hlen : a + r.length = s.length) (h : CHeap) (S : St n0 E0 p s a L ts 0 to h) (K : CVal → CHeap → Prop)
    (hk1 : ∀ h', (skipF r).2 = true → St n0 E0 p s ((s.length - (skipF r).1.length : Nat) : Int) L ts 0 to h' → h.next ≤ h'.next → K (.tup []) h')
    (hk2 : ∀ h', (skipF r).2 = false → St n0 E0 p s (((s.length - (skipF r).1.length : Nat) : Int) + 3) L ts 2 ((s.length - (skipF r).1.length : Nat) : Int) h' → h.next ≤ h'.next → K (.tup []) h') : Wc tree.getF 9 [.ptr p d 0] h K := by
  have hg := S.g
  have hf := S.f
  have hp := S.lt
  have hL := S.whole
  obtain ⟨hu, hut⟩ := hf
  have hD : ∀ m, h.next ≤ m → dropEnts h.ents m = h.ents := fun m hm => dropEnts_under (hu.le hm)
  have hC : ∀ m, h.next ≤ m → dropCells h.ents m = h.ents := fun m hm => dropCells_under (hu.le hm)
  have hN : ∀ q, h.next ≤ q → getEnt h.ents q = none := fun q hq => getEnt_under hu hq
  have hT : ∀ q, h.next ≤ q → lookupN h.tys q = none := fun q hq => lookupN_under hut hq
  have hG : ∀ x, getEnt (setEnt h.ents p x) p = some x := fun x => sy_getEnt_setEnt hg
  have hD2 : ∀ x m, h.next ≤ m → dropEnts (setEnt h.ents p x) m = setEnt h.ents p x := fun x m hm => dropEnts_under (hu.set.le hm)
  have hC2 : ∀ x m, h.next ≤ m → dropCells (setEnt h.ents p x) m = setEnt h.ents p x := fun x m hm => dropCells_under (hu.set.le hm)
  have hN2 : ∀ x q, h.next ≤ q → getEnt (setEnt h.ents p x) q = none := fun x q hq => getEnt_under hu.set hq
  refine Wc.mkG 9 c9 (by kernel_rfl) rfl ?_
  generalize e : entryC _ _ _ = r
  simp (disch := omega) [hD, hC, hN, hT, hg, hG, hD2, hC2, hN2, c9] at e
  subst e
  repeat (first
    | refine W.seq ?_
    | refine W.block ?_
    | ((first | refine W.regG ?_ | refine WoR.go ?_); generalize e : goR _ _ _ _ _ _ _ _ = r; simp (disch := omega) [hD, hC, hN, hT, hg, hG, hD2, hC2, hN2, c9] at e; replace e : some _ = _ := e; subst e; (try dsimp only [goW]))
    | refine W.cond_true rfl ?_
    | refine W.cond_false rfl ?_
    | refine W.skip ?_
    | refine W.exit ?_)
  refine skip_loop s hs p d L hL.1 hL.2 to _ r.length r a (Nat.le_refl _) hda hlen _ _ _ _ _ _ _ _ hg ⟨hu, hut⟩ hp ?_ ?_
  · intro n' ty v1 v2 v3 v4 v5 v6 v7 g1 g2 g3
    try simp only [outOf, thenW_ret, roundW]
    refine endW.of (.inl rfl) rfl ?_
    generalize e : endsC _ _ _ = r
    simp (disch := omega) [hD, hC, hN, hT, hg, hG, hD2, hC2, hN2, c9] at e
    subst e
    (try dsimp only)
    exact hk1 _ g3 (S.upd g1 g2) g1
  · intro n' ty v1 v2 v3 v4 v5 v6 v7 g1 g2 g3
    try simp only [outOf, thenW_ret, roundW]
    refine endW.of (.inr rfl) rfl ?_
    generalize e : endsC _ _ _ = r
    simp (disch := omega) [hD, hC, hN, hT, hg, hG, hD2, hC2, hN2, c9] at e
    subst e
    (try dsimp only)
    exact hk2 _ g3 (S.upd g1 g2) g1
end Go.Proofs.YthblmflngjofjaaDoor.IrP
