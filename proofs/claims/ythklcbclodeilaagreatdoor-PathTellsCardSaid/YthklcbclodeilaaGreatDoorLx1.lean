/- What the functions of the law 'PathTells' do: part 1 of 4. -/
import Derived.Test.YthklcbclodeilaaGreatDoorIrT
namespace Go.Proofs.YthklcbclodeilaaGreatDoor.IrT
open Go Go.CI
set_option maxRecDepth 100000
set_option maxHeartbeats 4000000
set_option linter.unusedVariables false
set_option linter.unusedSimpArgs false
attribute [local irreducible] W Wo Wc WoR
attribute [simp] goR regOut checkOne swapOne sameAt nthOp CVal.beq beqs CVal.block storesTo entryC evalOps evalOper evalE evalP evalL evalOpnd nth setNth COp.cls COp.isStore CVal.isUndef CVal.whole CVal.cells CHeap.put CHeap.get CHeap.set wantedC getEnt setEnt partOf writeBack evalBin evalInt evalStr blockMost initVar descOf List.take List.drop CVal.lenOf CVal.isStr CVal.bare CVal.strip CVal.flat endsC resultsC oneOrTuple finishC cut fillCells setCells szOf szOf_desc elems bytesOf evalAppend fillElems mkElem setElem List.replicate sy_nbeq sy_neqF sy_leT sy_leF sy_setEnt_setEnt dropped sy_wrap64 dropEnts dropCells sizeMost sy_ibeqF sy_ieqF sy_ileT sy_ileF sy_iltT sy_iltF sy_ltT sy_ltF evalSlc optBound eqVal extL extE keyIs findKV nthKV setKV CHeap.ty lookupN CHeap.note CHeap.tyOk dropAll freezeVal freezeAll freezeFlat cellsEq cellEq pCopyCheck pBString pMakeNoZero pIndexByte pClone pIndex hasPair rowOf byteVals idxFrom hasFront idxSub

theorem fx4 {h : CHeap} (hf : Fit h) : Under h.ents h.next ∧ UnderT h.tys h.next ∧ (∀ m, h.next ≤ m → dropEnts h.ents m = h.ents) ∧ (∀ m, h.next ≤ m → dropCells h.ents m = h.ents) ∧ (∀ q, h.next ≤ q → getEnt h.ents q = none) ∧ (∀ q, h.next ≤ q → lookupN h.tys q = none) := by
  obtain ⟨hu, hut⟩ := hf
  exact ⟨hu, hut, fun m hm => dropEnts_under (hu.le hm), fun m hm => dropCells_under (hu.le hm), fun q hq => getEnt_under hu hq, fun q hq => lookupN_under hut hq⟩
theorem fx5 {h : CHeap} {p : Nat} {o : CObj} (hf : Fit h) (hg : getEnt h.ents p = some o) : (∀ x, getEnt (setEnt h.ents p x) p = some x) ∧ (∀ x m, h.next ≤ m → dropEnts (setEnt h.ents p x) m = setEnt h.ents p x) ∧ (∀ x m, h.next ≤ m → dropCells (setEnt h.ents p x) m = setEnt h.ents p x) ∧ (∀ x q, h.next ≤ q → getEnt (setEnt h.ents p x) q = none) :=
  have hu := hf.1
  ⟨fun x => sy_getEnt_setEnt hg, fun x m hm => dropEnts_under (hu.set.le hm), fun x m hm => dropCells_under (hu.set.le hm), fun x q hq => getEnt_under hu.set hq⟩
theorem un_ {l : List (Nat × CObj)} {n : Nat} (h : Under l n := by repeat (first | exact hu.le (by (try dsimp only); omega) | exact hu.set.le (by (try dsimp only); omega) | exact hu.set.set.le (by (try dsimp only); omega) | refine Under.cons (by (try dsimp only); omega) ?_ | exact Under.nil)) : Under l n := h
theorem ut_ {l : List (Nat × Nat)} {n : Nat} (h : UnderT l n := by repeat (first | exact hut.le (by (try dsimp only); omega) | refine UnderT.cons (by (try dsimp only); omega) ?_ | exact UnderT.nil | assumption | exact UnderT.le (by assumption) (by (try dsimp only); omega))) : UnderT l n := h
theorem fit_ {h : CHeap} (hf : Fit h := by (refine ⟨?_, ?_⟩; (focus ((repeat (first | exact hu.le (by (try dsimp only); omega) | exact hu.set.le (by (try dsimp only); omega) | exact hu.set.set.le (by (try dsimp only); omega) | refine Under.cons (by (try dsimp only); omega) ?_ | exact Under.nil)); done)); (focus ((repeat (first | exact hut.le (by (try dsimp only); omega) | refine UnderT.cons (by (try dsimp only); omega) ?_ | exact UnderT.nil | assumption | exact UnderT.le (by assumption) (by (try dsimp only); omega))); done)))) : Fit h := hf
theorem ge_ {l : List (Nat × CObj)} {p : Nat} {o : CObj} (h : getEnt l p = some o := by first | exact hg | exact hG _ | exact hY.1 _ | ((try dsimp only); exact hY.1 _) | ((try dsimp only); exact hg) | ((try dsimp only); exact hG _) | (simp (disch := omega) [getEnt, setEnt, sy_nbeq, sy_neqF, sy_setEnt_setEnt, hg, hG]) | (simp (disch := omega) [getEnt, setEnt, sy_nbeq, sy_neqF, sy_setEnt_setEnt, hg, hY])) : getEnt l p = some o := h
abbrev ct_ := @W.cond_true
abbrev cf_ := @W.cond_false
abbrev sk_ := @W.skip
abbrev ex_ := @W.exit
abbrev bl_ := @W.block
abbrev sq_ := @W.seq
abbrev rg_ := @W.regG
abbrev go_ := @WoR.go
def stN (T : Nat → Option CFn) (c : CCode) (st : CSt) (Q : CExit → CSt → Prop) : Option Prop := match c with
  | .seq a b => some (W T a st (thenW T b Q))
  | .block id c => some (W T c st fun x st' => Q (outOf id x) st')
  | .cond c a b => match evalOpnd st.tm [] c with
    | .bool true => some (W T a st Q)
    | .bool false => some (W T b st Q)
    | _ => none
  | .skip => some (Q .normal st)
  | .exit i => some (Q (.exit i) st)
  | _ => none
theorem st_ {T : Nat → Option CFn} {c : CCode} {st : CSt} {Q : CExit → CSt → Prop} {P : Prop} (h : stN T c st Q = some P) (hp : P) : W T c st Q := by
  unfold stN at h
  split at h
  · cases h; exact W.seq hp
  · cases h; exact W.block hp
  · split at h
    · rename_i e; cases h; exact W.cond_true e hp
    · rename_i e; cases h; exact W.cond_false e hp
    · cases h
  · cases h; exact W.skip hp
  · cases h; exact W.exit hp
  · cases h
abbrev gwP (T : Nat → Option CFn) (tm : List CVal) (ops0 : List COper) (wb : List (Nat × Nat)) (chk : List (Nat × Nat × Nat)) (sw : List (Nat × Nat)) (Q : CExit → CSt → Prop) : GoR → Prop
  | .done st => Q .normal st
  | .call id f args r s => Wc T f args s.h fun v h' => v.isUndef = false ∧ WoR T tm ops0 wb chk sw Q (id + 1) r { s with vals := v :: s.vals, h := h', hs := s.h :: s.hs }
theorem gw_ {T : Nat → Option CFn} {tm : List CVal} {ops0 : List COper} {wb : List (Nat × Nat)} {chk : List (Nat × Nat × Nat)} {sw : List (Nat × Nat)} {Q : CExit → CSt → Prop} {x : Option GoR} {r : GoR} (e : x = some r) (h : gwP T tm ops0 wb chk sw Q r) : goW T tm ops0 wb chk sw Q x := by
  rw [e]
  cases r <;> exact h
theorem getEnt_setEnt_ne {l : List (Nat × CObj)} {m n : Nat} {x : CObj} (h : n ≠ m) : getEnt (setEnt l m x) n = getEnt l n := by
  induction l with
  | nil => rfl
  | cons a r ih =>
    obtain ⟨i, o⟩ := a
    by_cases hi : i = m
    · subst hi
      have : (i == n) = false := by simp; omega
      simp [setEnt, getEnt, Ne.symm h]
    · by_cases hn : i = n
      · subst hn; simp [setEnt, getEnt, hi]
      · simp [setEnt, getEnt, hi, hn, ih]
theorem setEnt_same : ∀ {l : List (Nat × CObj)} {m : Nat} {x : CObj}, getEnt l m = some x → setEnt l m x = l
  | [], _, _, h => by cases h
  | (i, o) :: r, m, x, h => by
    by_cases hi : i = m
    · subst hi; simp [getEnt] at h; subst h; simp [setEnt]
    · simp [getEnt, hi] at h; simp [setEnt, hi, setEnt_same h]
def Pe (f : Nat) (ar : List CVal) (v : CVal) : Prop := ∀ (h : CHeap), Fit h → ∀ (K : CVal → CHeap → Prop), (∀ n', h.next ≤ n' → K v ⟨h.ents, n', h.tys⟩) → Wc tree.getF f ar h K
theorem fx6 {h : CHeap} {p : Nat} {oP : CObj} (hf : Fit h) (hg : getEnt h.ents p = some oP) : (getEnt h.ents p = some oP) ∧ (∀ x, getEnt (setEnt h.ents p x) p = some x) ∧ (∀ x m, h.next ≤ m → dropEnts (setEnt h.ents p x) m = setEnt h.ents p x) ∧ (∀ x m, h.next ≤ m → dropCells (setEnt h.ents p x) m = setEnt h.ents p x) ∧ (∀ x q, h.next ≤ q → getEnt (setEnt h.ents p x) q = none) := ⟨hg, fx5 hf hg⟩
theorem un2_ {l : List (Nat × CObj)} {n : Nat} (h : Under l n := by repeat (first | exact hu.le (by (try dsimp only); omega) | exact hu.set.le (by (try dsimp only); omega) | exact hu.set.set.le (by (try dsimp only); omega) | exact hu.set.set.set.le (by (try dsimp only); omega) | refine Under.cons (by (try dsimp only); omega) ?_ | exact Under.nil)) : Under l n := h
theorem ft_ {h : CHeap} (hf : Fit h := by exact ⟨un2_, ut_⟩) : Fit h := hf
theorem ge2_ {P : Prop} (h : P := by first | exact hg | exact hZ.2.1 _ | ((try dsimp only); exact hg) | ((try dsimp only); exact hZ.2.1 _) | (simp (disch := omega) [getEnt, setEnt, sy_nbeq, sy_neqF, sy_setEnt_setEnt, getEnt_setEnt_ne, hZ]; done) | (simp (disch := omega) [getEnt, setEnt, sy_nbeq, sy_neqF, sy_setEnt_setEnt, getEnt_setEnt_ne, hZ]; omega)) : P := h
theorem lt_ {a b : Nat} (h : a < b := by (try dsimp only); omega) : a < b := h
theorem pu_ {f : Nat} {ar : List CVal} {v : CVal} (H : Pu tree.getF f ar v) {h : CHeap} {K : CVal → CHeap → Prop} (hk : ∀ n2 ty, h.next ≤ n2 → UnderT ty n2 → K v ⟨h.ents, n2, ty⟩) (hf : Fit h := by exact ft_) : Wc tree.getF f ar h K := H h hf K hk
theorem pe_ {f : Nat} {ar : List CVal} {v : CVal} (H : Pe f ar v) {h : CHeap} {K : CVal → CHeap → Prop} (hk : ∀ n2, h.next ≤ n2 → K v ⟨h.ents, n2, h.tys⟩) (hf : Fit h := by exact ft_) : Wc tree.getF f ar h K := H h hf K hk
theorem sy_ibneT {a b : Int} (h : a ≠ b) : (a != b) = true := by simp [h]
theorem sy_ibneF {a b : Int} (h : a = b) : (a != b) = false := by simp [h]
theorem sy_ibeqT {a b : Int} (h : a = b) : (a == b) = true := by simp [h]

theorem dropAll_under : ∀ {l : List (Nat × CObj)} {n : Nat}, Under l n → dropAll l n = l
  | [], _, _ => rfl
  | (i, o) :: r, n, h => by
    have h1 : ¬ n ≤ i := by have := h (i, o) (by simp); simp at this; omega
    simp only [dropAll, if_neg h1, dropAll_under (l := r) (n := n) fun x hx => h x (by simp [hx])]
attribute [simp] freezeCell freezeCells
attribute [simp] sy_ibneT sy_ibneF sy_ibeqT
theorem st_i {k : IntKind} {n : Int} : (CVal.int k n).strip = .int k n := rfl
theorem st_s {s : List UInt8} : (CVal.str s).strip = .str s := rfl
theorem st_p {q d o : Nat} : (CVal.ptr q d o).strip = .ptr q d o := rfl
theorem st_n : CVal.nils.strip = .nils := rfl
theorem st_o {i v k : Nat} {es : List CVal} : (CVal.imm (.own i v) k es).strip = .imm .none k es := rfl
theorem st_0 {k : Nat} {es : List CVal} : (CVal.imm .none k es).strip = .imm .none k es := rfl
theorem iu_i {k : IntKind} {n : Int} : (CVal.int k n).isUndef = false := rfl
theorem iu_s {s : List UInt8} : (CVal.str s).isUndef = false := rfl
theorem iu_b {b : Bool} : (CVal.bool b).isUndef = false := rfl
theorem iu_p {q d o : Nat} : (CVal.ptr q d o).isUndef = false := rfl
theorem iu_n : CVal.nils.isUndef = false := rfl
theorem iu_m {t : Tag} {k : Nat} {es : List CVal} : (CVal.imm t k es).isUndef = false := rfl
theorem iu_a {es : List CVal} : (CVal.agg es).isUndef = false := rfl
theorem ba_i {k : IntKind} {n : Int} : (CVal.int k n).bare = .int k n := rfl
theorem ba_s {s : List UInt8} : (CVal.str s).bare = .str s := rfl
theorem ba_b {b : Bool} : (CVal.bool b).bare = .bool b := rfl
theorem ba_p {q d o : Nat} : (CVal.ptr q d o).bare = .ptr q d o := rfl
end Go.Proofs.YthklcbclodeilaaGreatDoor.IrT
namespace Go.Proofs.YthklcbclodeilaaGreatDoor.IrT
open Go Go.CI
set_option maxRecDepth 100000
set_option maxHeartbeats 4000000
set_option linter.unusedVariables false
set_option linter.unusedSimpArgs false
attribute [local irreducible] W Wo Wc WoR

def splitF (c : UInt8) : List UInt8 → List (List UInt8)
  | [] => [[]]
  | b :: r => if b = c then [] :: splitF c r else match splitF c r with
    | [] => [[b]]
    | x :: xs => (b :: x) :: xs

theorem ix1_n (s : List UInt8) (c : UInt8) (hl : s.length < 100000) (hs : s ≠ [c]) (hs2 : ([c] == s) = false) (hs3 : (s == [c]) = false) : Pe 49 [.str s, .str [c]] (.int .i64 (idxFrom c s 0)) := by
  intro h hf K hk
  obtain ⟨hu, hut, hX⟩ := fx4 hf
  refine Wc.mkG 49 c49 (by kernel_rfl) rfl ?_
  generalize e : entryC .. = r
  simp (disch := omega) [c49] at e
  subst e
  repeat (first
    | refine st_ rfl ?_
    | ((first | refine W.regG ?_ | refine WoR.go ?_); generalize e : goR .. = r; simp (disch := omega) [hX, UInt8.ofNat_toNat, hs, hs2, hs3, c49, c79, c107] at e; replace e : some _ = _ := e; subst e; (try dsimp only [goW]))
    | (refine Wc.mkG 79 c79 (by kernel_rfl) rfl ?_; generalize e : entryC .. = r; simp (disch := omega) [c79] at e; subst e)
    | (refine Wc.mkG 107 c107 (by kernel_rfl) rfl ?_; generalize e : entryC .. = r; simp (disch := omega) [c107] at e; subst e)
    | (refine Wc.primM (f := 126) (p := pIndexByte) (by kernel_rfl) ?_; generalize e : pIndexByte _ _ = r; simp (disch := omega) [hX, UInt8.ofNat_toNat, hs, hs2, hs3, c49, c79, c107] at e; subst e; (try dsimp only); refine ⟨rfl, ?_⟩)
    | ((first | (refine W.ret ?_; (try simp only [outOf, thenW_ret, thenW_exit, roundW, reduceIte]); refine endW.of (.inl rfl) rfl ?_) | refine endW.of (.inl rfl) rfl ?_ | refine endW.of (.inr rfl) rfl ?_); generalize e : endsC .. = r; simp (disch := omega) [hX, UInt8.ofNat_toNat, hs, hs2, hs3, c49, c79, c107] at e; subst e; (first | refine ⟨rfl, ?_⟩ | (refine hk _ ?_; omega))))

theorem ix1_y (c : UInt8) : Pe 49 [.str [c], .str [c]] (.int .i64 0) := by
  intro h hf K hk
  obtain ⟨hu, hut, hX⟩ := fx4 hf
  refine Wc.mkG 49 c49 (by kernel_rfl) rfl ?_
  generalize e : entryC .. = r
  simp (disch := omega) [c49] at e
  subst e
  repeat (first
    | refine st_ rfl ?_
    | ((first | refine W.regG ?_ | refine WoR.go ?_); generalize e : goR .. = r; simp (disch := omega) [hX, UInt8.ofNat_toNat, c49, c79, c107] at e; replace e : some _ = _ := e; subst e; (try dsimp only [goW]))
    | (refine Wc.mkG 79 c79 (by kernel_rfl) rfl ?_; generalize e : entryC .. = r; simp (disch := omega) [c79] at e; subst e)
    | (refine Wc.mkG 107 c107 (by kernel_rfl) rfl ?_; generalize e : entryC .. = r; simp (disch := omega) [c107] at e; subst e)
    | (refine Wc.primM (f := 126) (p := pIndexByte) (by kernel_rfl) ?_; generalize e : pIndexByte _ _ = r; simp (disch := omega) [hX, UInt8.ofNat_toNat, c49, c79, c107] at e; subst e; (try dsimp only); refine ⟨rfl, ?_⟩)
    | ((first | (refine W.ret ?_; (try simp only [outOf, thenW_ret, thenW_exit, roundW, reduceIte]); refine endW.of (.inl rfl) rfl ?_) | refine endW.of (.inl rfl) rfl ?_ | refine endW.of (.inr rfl) rfl ?_); generalize e : endsC .. = r; simp (disch := omega) [hX, UInt8.ofNat_toNat, c49, c79, c107] at e; subst e; (first | refine ⟨rfl, ?_⟩ | (refine hk _ ?_; omega))))

theorem ix1_F (s : List UInt8) (c : UInt8) (hl : s.length < 100000) : Pe 49 [.str s, .str [c]] (.int .i64 (idxFrom c s 0)) := by
  by_cases hs : s = [c]
  · subst hs
    have : idxFrom c [c] 0 = 0 := by simp [idxFrom]
    rw [this]; exact ix1_y c
  · exact ix1_n s c hl hs (by simp; exact fun e => hs e.symm) (by simpa using hs)

theorem ct1_F (s : List UInt8) (c : UInt8) (hl : s.length < 100000) : Pe 48 [.str s, .str [c]] (.int .i64 (cntOf c s)) := by
  intro h hf K hk
  obtain ⟨hu, hut, hX⟩ := fx4 hf
  refine Wc.mkG 48 c48 (by kernel_rfl) rfl ?_
  generalize e : entryC .. = r
  simp (disch := omega) [c48] at e
  subst e
  repeat (first
    | refine st_ rfl ?_
    | ((first | refine W.regG ?_ | refine WoR.go ?_); generalize e : goR .. = r; simp (disch := omega) [hX, UInt8.ofNat_toNat, c48] at e; replace e : some _ = _ := e; subst e; (try dsimp only [goW]))
    | (refine Wc.primM (f := 78) (p := pCount) (by kernel_rfl) ?_; generalize e : pCount _ _ = r; simp (disch := omega) [hX, UInt8.ofNat_toNat, c48] at e; subst e; (try dsimp only); refine ⟨rfl, ?_⟩)
    | ((first | (refine W.ret ?_; (try simp only [outOf, thenW_ret, thenW_exit, roundW, reduceIte]); refine endW.of (.inl rfl) rfl ?_) | refine endW.of (.inl rfl) rfl ?_ | refine endW.of (.inr rfl) rfl ?_); generalize e : endsC .. = r; simp (disch := omega) [hX, UInt8.ofNat_toNat, c48] at e; subst e; refine hk _ ?_; omega))

abbrev gsLoop : CCode := (.loop true (.seq (.seq (.region [.v 6, .v 0, .h .lss 1 0] [(7, 2)] [] []) (.cond (.var 7) .skip (.exit 0))) (.block 1 (.seq (.region [.v 4, .v 2, .g (.call false 49 [(.loc 1), (.loc 0)]), .m (.loc 0)] [(8, 3)] [] []) (.seq (.seq (.region [.v 8, .x .lss 0 (.k 0)] [(9, 1)] [] []) (.cond (.var 9) (.exit 0) .skip)) (.seq (.region [.v 10, .v 6, .v 4, .v 8, .v 11, .h .add 1 0, .g (.slc 0 (.loc 3) none (some (.loc 0))), .g (.idxAddr 1 (.loc 6) (.loc 5)), .g (.store 1 (.loc 0) (.loc 1))] [] [] []) (.seq (.region [.v 4, .v 8, .v 2, .g (.len true (.loc 0)), .h .add 2 0, .g (.slc 0 (.loc 4) (some (.loc 0)) none), .m (.loc 0)] [(4, 6)] [] []) (.region [.v 6, .x .add 0 (.k 1), .m (.loc 0)] [(6, 2)] [] []))))))))
theorem gs_go (c : UInt8) (p r : List UInt8) (hi : idxFrom c (p ++ c :: r) 0 = (p.length : Int)) (hl : (p ++ c :: r).length < 20000) {b n i : Nat} (hin : i + 1 < n) (hn : n < 30000) (es : List CVal) (hes : es.length = n) (hei : nth es i = .str []) {h : CHeap} {nx : Nat} (hf : Fit h) (hb : h.next ≤ b) (hbn : b < nx) (v1 v3 v5 v7 v8 v9 : CVal) {Q : CExit → CSt → Prop}
    (hk : ∀ (v1 v3 v5 v7 v8 v9 : CVal) n', nx ≤ n' → W tree.getF gsLoop ⟨[.int .i64 ((n : Int) - 1), v1, .str [c], v3, .str r, v5, .int .i64 ((i : Int) + 1), v7, v8, v9, .ref b 0 1 0 n, .int .i64 0, .nils], ⟨(b, .row 0 (setNth es i (.str p))) :: h.ents, n', h.tys⟩, []⟩ Q) : W tree.getF gsLoop ⟨[.int .i64 ((n : Int) - 1), v1, .str [c], v3, .str (p ++ c :: r), v5, .int .i64 (i : Int), v7, v8, v9, .ref b 0 1 0 n, .int .i64 0, .nils], ⟨(b, .row 0 es) :: h.ents, nx, h.tys⟩, []⟩ Q := by
  obtain ⟨hu, hut⟩ := id hf
  have hn9 : h.next ≤ nx := by omega
  obtain ⟨_, _, hX⟩ := fx4 (h := ⟨h.ents, nx, h.tys⟩) ⟨hu.le hn9, hut.le hn9⟩
  have I1 := ix1_F (p ++ c :: r) c (by omega)
  rw [hi] at I1
  have hl2 : p.length + r.length + 1 < 20000 := by rw [List.length_append, List.length_cons] at hl; omega
  have hi2 : (i : Int).toNat = i := by omega
  have hdr : List.drop (p.length + 1) (List.take (p.length + (r.length + 1)) (p ++ c :: r)) = r := by
    rw [List.take_of_length_le (by rw [List.length_append, List.length_cons]; omega), ← List.drop_drop, List.drop_left]; rfl
  refine W.loop ?_
  repeat (first
    | refine st_ rfl ?_
    | ((first | refine W.regG ?_ | refine WoR.go ?_); generalize e : goR .. = r; simp (disch := omega) [hX, hes, hi2, hl2, hei] at e; replace e : some _ = _ := e; subst e; (try dsimp only [goW]))
    | (refine pe_ (I1) fun _ g => ⟨rfl, ?_⟩; (try dsimp only at g)))
  show W tree.getF gsLoop (dropped true _ _) Q
  generalize e : dropped _ _ _ = r
  simp (disch := omega) [hX, hb, hbn] at e
  subst e
  rw [hdr]
  refine hk _ _ _ _ _ _ _ ?_; omega
end Go.Proofs.YthklcbclodeilaaGreatDoor.IrT
namespace Go.Proofs.YthklcbclodeilaaGreatDoor.IrT
open Go Go.CI
set_option maxRecDepth 100000
set_option maxHeartbeats 4000000
set_option linter.unusedVariables false
set_option linter.unusedSimpArgs false
attribute [local irreducible] W Wo Wc WoR

theorem split_cases (c : UInt8) : ∀ (s : List UInt8) (k : Nat), (idxFrom c s k = -1 ∧ splitF c s = [s] ∧ cntOf c s = 0) ∨ ∃ p r, s = p ++ c :: r ∧ idxFrom c s k = ((k + p.length : Nat) : Int) ∧ splitF c s = p :: splitF c r ∧ cntOf c s = cntOf c r + 1
  | [], k => .inl ⟨rfl, rfl, rfl⟩
  | b :: r, k => by
    by_cases hb : b = c
    · subst hb
      exact .inr ⟨[], r, rfl, by simp [idxFrom], by simp [splitF], by simp [cntOf]⟩
    · have hb2 : (b == c) = false := by simpa using hb
      rcases split_cases c r (k + 1) with ⟨h1, h2, h3⟩ | ⟨p, q, h1, h2, h3, h4⟩
      · exact .inl ⟨by simp only [idxFrom, hb2]; exact h1, by simp [splitF, hb, h2], by simp [cntOf, hb2, hb, h3]⟩
      · refine .inr ⟨b :: p, q, by rw [h1]; rfl, ?_, by simp [splitF, hb, h3], by simp [cntOf, hb2, hb, h4]⟩
        simp only [idxFrom, hb2]
        rw [if_neg Bool.false_ne_true, h2, List.length_cons]
        congr 1; omega
theorem cnt_len (c : UInt8) : ∀ (m : Nat) (s : List UInt8), s.length < m → cntOf c s + 1 = ((splitF c s).length : Int) := by
  intro m
  induction m with
  | zero => intro s h; omega
  | succ m ih =>
    intro s h
    rcases split_cases c s 0 with ⟨_, h2, h3⟩ | ⟨p, r, h1, _, h3, h4⟩
    · rw [h2, h3]; rfl
    · have := ih r (by rw [h1, List.length_append, List.length_cons] at h; omega)
      rw [h3, h4, List.length_cons]; omega
theorem split_pos (c : UInt8) (s : List UInt8) : 1 ≤ (splitF c s).length := by
  rcases split_cases c s 0 with ⟨_, h2, _⟩ | ⟨p, r, _, _, h3, _⟩
  · rw [h2]; exact Nat.le_refl _
  · rw [h3, List.length_cons]; omega
theorem setNth_mid (a b : List CVal) (x y : CVal) : setNth (a ++ x :: b) a.length y = a ++ y :: b := by
  induction a with
  | nil => rfl
  | cons z a ih => simp only [List.cons_append, List.length_cons, setNth]; rw [ih]
theorem nth_mid (a b : List CVal) (x : CVal) : nth (a ++ x :: b) a.length = x := by
  induction a with
  | nil => rfl
  | cons z a ih => simp only [List.cons_append, List.length_cons, nth]; exact ih
theorem gs_end (c : UInt8) (s : List UInt8) {b n i : Nat} (hin : n ≤ i + 1) (hn : n < 30000) (es : List CVal) {h : CHeap} {nx : Nat} (hf : Fit h) (hb : h.next ≤ b) (hbn : b < nx) (v1 v3 v5 v7 v8 v9 : CVal) {Q : CExit → CSt → Prop}
    (hk : ∀ (v1 v3 v5 v7 v8 v9 : CVal) n', nx ≤ n' → Q (.exit 0) ⟨[.int .i64 ((n : Int) - 1), v1, .str [c], v3, .str s, v5, .int .i64 (i : Int), v7, v8, v9, .ref b 0 1 0 n, .int .i64 0, .nils], ⟨(b, .row 0 es) :: h.ents, n', h.tys⟩, []⟩) : W tree.getF gsLoop ⟨[.int .i64 ((n : Int) - 1), v1, .str [c], v3, .str s, v5, .int .i64 (i : Int), v7, v8, v9, .ref b 0 1 0 n, .int .i64 0, .nils], ⟨(b, .row 0 es) :: h.ents, nx, h.tys⟩, []⟩ Q := by
  obtain ⟨hu, hut⟩ := id hf
  have hn9 : h.next ≤ nx := by omega
  obtain ⟨_, _, hX⟩ := fx4 (h := ⟨h.ents, nx, h.tys⟩) ⟨hu.le hn9, hut.le hn9⟩
  refine W.loop ?_
  repeat (first
    | refine st_ rfl ?_
    | ((first | refine W.regG ?_ | refine WoR.go ?_); generalize e : goR .. = r; simp (disch := omega) [hX] at e; replace e : some _ = _ := e; subst e; (try dsimp only [goW])))
  all_goals (refine hk _ _ _ _ _ _ _ ?_; ((try dsimp only); omega))
theorem gs_loop (c : UInt8) {b n n0 : Nat} (hn : n < 20000) {h : CHeap} (hf : Fit h) (hb : h.next ≤ b) {Q : CExit → CSt → Prop} :
    ∀ (m : Nat) (s : List UInt8) (done : List (List UInt8)) (v1 v3 v5 v7 v8 v9 : CVal) (nx : Nat), s.length < m → s.length < 20000 → n = done.length + (splitF c s).length → b < nx → n0 ≤ nx →
    (∀ q ps (v1 v3 v5 v7 v8 v9 : CVal) n', splitF c s = ps ++ [q] → n0 ≤ n' → Q (.exit 0) ⟨[.int .i64 ((n : Int) - 1), v1, .str [c], v3, .str q, v5, .int .i64 ((done.length + ps.length : Nat) : Int), v7, v8, v9, .ref b 0 1 0 n, .int .i64 0, .nils], ⟨(b, .row 0 ((done ++ ps).map .str ++ [.str []])) :: h.ents, n', h.tys⟩, []⟩) →
    W tree.getF gsLoop ⟨[.int .i64 ((n : Int) - 1), v1, .str [c], v3, .str s, v5, .int .i64 ((done.length : Nat) : Int), v7, v8, v9, .ref b 0 1 0 n, .int .i64 0, .nils], ⟨(b, .row 0 (done.map .str ++ List.replicate (splitF c s).length (.str []))) :: h.ents, nx, h.tys⟩, []⟩ Q := by
  intro m
  induction m with
  | zero => intro s done v1 v3 v5 v7 v8 v9 nx h1; omega
  | succ m ih =>
    intro s done v1 v3 v5 v7 v8 v9 nx h1 h2 hnn hbn hn0 hk
    rcases split_cases c s 0 with ⟨_, g2, _⟩ | ⟨p, r, g1, g2, g3, _⟩
    · rw [g2] at hnn ⊢
      simp only [List.length_cons, List.length_nil] at hnn
      refine gs_end c s (by omega) (by omega) _ hf hb hbn v1 v3 v5 v7 v8 v9 fun v1 v3 v5 v7 v8 v9 n' a1 => ?_
      have := hk s [] v1 v3 v5 v7 v8 v9 n' (by rw [g2]; rfl) (by omega)
      rw [List.append_nil] at this
      exact this
    · have hlr : r.length < m := by rw [g1, List.length_append, List.length_cons] at h1; omega
      have hlr2 : r.length < 20000 := by rw [g1, List.length_append, List.length_cons] at h2; omega
      have hsp := split_pos c r
      rw [g3, List.length_cons] at hnn
      rw [Nat.zero_add] at g2
      have hes : done.map CVal.str ++ List.replicate (splitF c s).length (CVal.str []) = done.map CVal.str ++ CVal.str [] :: List.replicate (splitF c r).length (.str []) := by rw [g3]; rfl
      rw [hes]
      subst g1
      refine gs_go c p r g2 h2 (by omega) (by omega) _ (by simp; omega) (by have := nth_mid (done.map CVal.str) (List.replicate (splitF c r).length (.str [])) (.str []); rwa [List.length_map] at this) hf hb hbn v1 v3 v5 v7 v8 v9 fun v1 v3 v5 v7 v8 v9 n' a1 => ?_
      have hsn := setNth_mid (done.map CVal.str) (List.replicate (splitF c r).length (.str [])) (.str []) (.str p)
      rw [List.length_map] at hsn
      rw [hsn]
      have := ih r (done ++ [p]) v1 v3 v5 v7 v8 v9 n' hlr hlr2 (by rw [List.length_append, List.length_singleton]; omega) (by omega) (by omega) (fun q ps v1 v3 v5 v7 v8 v9 n' e1 e2 => by
        have := hk q (p :: ps) v1 v3 v5 v7 v8 v9 n' (by rw [g3, e1]; rfl) e2
        rw [List.append_assoc, List.length_append, List.length_singleton]
        rw [List.length_cons] at this
        rw [show done.length + 1 + ps.length = done.length + (ps.length + 1) by omega]
        exact this)
      rw [List.map_append, List.append_assoc, List.length_append, List.length_singleton] at this
      rw [show ((done.length + 1 : Nat) : Int) = (done.length : Int) + 1 by omega] at this
      exact this
end Go.Proofs.YthklcbclodeilaaGreatDoor.IrT
namespace Go.Proofs.YthklcbclodeilaaGreatDoor.IrT
open Go Go.CI
set_option maxRecDepth 100000
set_option maxHeartbeats 4000000
set_option linter.unusedVariables false
set_option linter.unusedSimpArgs false
attribute [local irreducible] W Wo Wc WoR

theorem cnt_le (c : UInt8) : ∀ s : List UInt8, cntOf c s ≤ s.length
  | [] => Nat.le_refl _
  | b :: r => by
    have := cnt_le c r
    unfold cntOf; rw [List.length_cons]; split <;> omega
theorem gs_F (s : List UInt8) (c : UInt8) (hl : s.length < 15000) : Pe 26 [.str s, .str [c], .int .i64 0, .int .i64 (-1)] (.imm .none 1 ((splitF c s).map .str)) := by
  intro h hf K hk
  obtain ⟨hu, hut, hX⟩ := fx4 hf
  have C1 := ct1_F s c (by omega)
  have hc1 := cnt_le c s
  have hc2 := cnt_len c (s.length + 1) s (by omega)
  have hc3 := split_pos c s
  obtain ⟨n, hn⟩ : ∃ n, (splitF c s).length = n := ⟨_, rfl⟩
  rw [hn] at hc2 hc3
  have hc4 : (cntOf c s : Int) + 1 ≤ (s.length : Int) + 1 := by omega
  have hc5 : (cntOf c s : Int) = (n : Int) - 1 := by omega
  have hc6 : n < 20000 := by omega
  refine Wc.mkG 26 c26 (by kernel_rfl) rfl ?_
  generalize e : entryC .. = r
  simp (disch := omega) [c26] at e
  subst e
  repeat (first
    | refine st_ rfl ?_
    | ((first | refine W.regG ?_ | refine WoR.go ?_); generalize e : goR .. = r; simp (disch := omega) [hX, hc4, hc5, hc6, hc3, c26] at e; replace e : some _ = _ := e; subst e; (try dsimp only [goW]))
    | (refine pe_ (C1) fun _ g => ⟨rfl, ?_⟩; (try dsimp only at g)))
  rw [show List.replicate n (CVal.str []) = ([] : List (List UInt8)).map CVal.str ++ List.replicate (splitF c s).length (.str []) by rw [hn]; rfl]
  refine gs_loop c (b := _) (n := n) (n0 := h.next) hc6 hf ?_ (s.length + 1) s [] _ _ _ _ _ _ _ (by omega) (by omega) (by rw [hn]; simp) ?_ (by (try dsimp only); omega) (fun q ps v1 v3 v5 v7 v8 v9 n2 e1 g1 => ?_)
  · (try dsimp only); omega
  · (try dsimp only); omega
  have hpl : ps.length + 1 = n := by rw [← hn, e1, List.length_append, List.length_singleton]
  have hsn := setNth_mid (ps.map CVal.str) [] (.str []) (.str q)
  have hnm := nth_mid (ps.map CVal.str) [] (.str [])
  rw [List.length_map] at hsn hnm
  have hml : (ps.map CVal.str).length = ps.length := List.length_map ..
  have hcast : (((0 + ps.length : Nat)) : Int) = (ps.length : Int) := by omega
  have htk : List.take (ps.length + 1) (List.map CVal.str ps ++ [CVal.str q]) = List.map CVal.str ps ++ [CVal.str q] := List.take_of_length_le (by simp)
  have htk2 : List.take n (List.map CVal.str ps ++ [CVal.str q]) = List.map CVal.str ps ++ [CVal.str q] := List.take_of_length_le (by simp; omega)
  have hDA : dropAll h.ents h.next = h.ents := dropAll_under hu
  have hres : (splitF c s).map CVal.str = ps.map CVal.str ++ [.str q] := by rw [e1]; simp
  rw [hres] at hk
  simp only [List.length_nil, List.nil_append, hcast]
  (try simp only [outOf, thenW_ret, thenW_exit, roundW, reduceIte])
  repeat (first
    | refine st_ rfl ?_
    | ((first | refine W.regG ?_ | refine WoR.go ?_); generalize e : goR .. = r; simp (disch := omega) [hX, hc6, hpl, hsn, hnm, hml, htk, htk2, hDA, c26] at e; replace e : some _ = _ := e; subst e; (try dsimp only [goW]))
    | ((first | (refine W.ret ?_; (try simp only [outOf, thenW_ret, thenW_exit, roundW, reduceIte]); refine endW.of (.inl rfl) rfl ?_) | refine endW.of (.inl rfl) rfl ?_ | refine endW.of (.inr rfl) rfl ?_); generalize e : endsC .. = r; simp (disch := omega) [hX, hc6, hpl, hsn, hnm, hml, htk, htk2, hDA, c26] at e; subst e; refine hk _ ?_; omega))
theorem sp_F (s : List UInt8) (c : UInt8) (hl : s.length < 15000) : Pe 12 [.str s, .str [c]] (.imm .none 1 ((splitF c s).map .str)) := by
  intro h hf K hk
  obtain ⟨hu, hut, hX⟩ := fx4 hf
  have G1 := gs_F s c hl
  refine Wc.mkG 12 c12 (by kernel_rfl) rfl ?_
  generalize e : entryC .. = r
  simp (disch := omega) [c12] at e
  subst e
  repeat (first
    | refine st_ rfl ?_
    | ((first | refine W.regG ?_ | refine WoR.go ?_); generalize e : goR .. = r; simp (disch := omega) [hX, c12] at e; replace e : some _ = _ := e; subst e; (try dsimp only [goW]))
    | (refine pe_ (G1) fun _ g => ⟨rfl, ?_⟩; (try dsimp only at g))
    | ((first | (refine W.ret ?_; (try simp only [outOf, thenW_ret, thenW_exit, roundW, reduceIte]); refine endW.of (.inl rfl) rfl ?_) | refine endW.of (.inl rfl) rfl ?_ | refine endW.of (.inr rfl) rfl ?_); generalize e : endsC .. = r; simp (disch := omega) [hX, c12] at e; subst e; refine hk _ ?_; omega))
end Go.Proofs.YthklcbclodeilaaGreatDoor.IrT
namespace Go.Proofs.YthklcbclodeilaaGreatDoor.IrT
open Go Go.CI
set_option maxRecDepth 100000
set_option maxHeartbeats 4000000
set_option linter.unusedVariables false
set_option linter.unusedSimpArgs false
attribute [local irreducible] W Wo Wc WoR
def inSet (bs : List CVal) (c : UInt8) (v : Bool) : Prop := nth bs c.toNat = .bool v

theorem contains_spec (p d : Nat) (bs : List CVal) (c : UInt8) (v : Bool) (hv : inSet bs c v) (hl : bs.length = 256) (h : CHeap) (hg : getEnt h.ents p = some (.cells bs)) (hu : Under h.ents h.next) (K : CVal → CHeap → Prop) (hk : ∀ n', h.next ≤ n' → K (.bool v) { h with next := n' }) : Wc tree.getF 111 [.ptr p d 0, .int .u8 (c.toNat : Int)] h K := by
  have hD := dropEnts_under hu
  have hc : c.toNat < 256 := c.toNat_lt
  have hv2 : nth bs c.toNat = .bool v := hv
  refine Wc.mk' (fn := c111) (by kernel_rfl) rfl ?_
  repeat (first | refine st_ rfl ?_ | ((first | refine rg_ ?_ | refine go_ ?_); generalize e : goR _ _ _ _ _ _ _ _ = r; simp (disch := omega) [c111, hD, hg, hl, hv2] at e; replace e : some _ = _ := e; subst e; (try dsimp only [goW])))
  refine W.ret ?_
  try simp only [outOf, thenW_ret]
  refine endW.intro rfl ?_
  generalize e : endsC _ _ _ = r
  simp (disch := omega) [c111, hD, hg, hl, hv2] at e
  subst e
  try dsimp only
  refine hk _ ?_; omega

/-- The set of some bytes. -/
def marks : List CVal → List UInt8 → List CVal
  | bs, [] => bs
  | bs, c :: r => marks (setCells bs c.toNat [.bool true]) r
theorem setCells_len (bs : List CVal) (c : Nat) (hc : c < bs.length) (x : CVal) : (setCells bs c [x]).length = bs.length := by
  simp [setCells]; omega
abbrev setLoop : CCode := (.loop true (.seq (.seq (.region [.v 0, .v 1, .g (.len true (.loc 0)), .h .lss 2 0] [(2, 3)] [] []) (.cond (.var 2) .skip (.exit 0))) (.seq (.block 1 (.seq (.region [.v 1, .v 0, .g (.idxStr (.loc 1) (.loc 0)), .m (.loc 0)] [(3, 3)] [] []) (.seq (.seq (.region [.v 3, .x .geq 0 (.u 128)] [(4, 1)] [] []) (.cond (.var 4) (.seq (.region [.g (.load (some 256) (.var 5)), .g (.store 256 (.var 5) (.loc 0)), .m (.b false)] [(6, 2)] [] []) .ret) .skip)) (.region [.v 3, .g (.arrAddr 256 1 (.var 5) (.loc 0)), .g (.store 1 (.loc 0) (.b true))] [] [] [])))) (.region [.v 0, .x .add 0 (.k 1), .m (.loc 0)] [(0, 2)] [] []))))
theorem set_loop (s : List UInt8) (p d : Nat) (hs : s.length < 1073741824) (Q : CExit → CSt → Prop) : ∀ (r : List UInt8) (i : Nat), s.drop i = r → (∀ c ∈ r, c.toNat < 128) → ∀ (bs : List CVal), bs.length = 256 → ∀ (h : CHeap) (b2 b3 b4 b6 : CVal), getEnt h.ents p = some (.cells bs) → Under h.ents h.next →
    (∀ n' c0 c2 c3 c4, h.next ≤ n' → Q (.exit 0) ⟨[c0, .str s, c2, c3, c4, .ptr p d 0, b6], { h with ents := setEnt h.ents p (.cells (marks bs r)), next := n' }, []⟩) →
    W tree.getF setLoop ⟨[.int .i64 i, .str s, b2, b3, b4, .ptr p d 0, b6], h, []⟩ Q := by
  intro r
  induction r with
  | nil =>
    intro i hi _ bs hbl h b2 b3 b4 b6 hg hu hq
    have hle : s.length ≤ i := List.drop_eq_nil_iff.1 hi
    refine W.loop ?_
    repeat (first | refine st_ rfl ?_ | ((first | refine rg_ ?_ | refine go_ ?_); generalize e : goR _ _ _ _ _ _ _ _ = r; simp (disch := omega) [hg] at e; replace e : some _ = _ := e; subst e; (try dsimp only [goW])))
    have := hq (h.next + 4) (.int .i64 i) (.bool false) b3 b4 (by omega)
    rw [show marks bs [] = bs from rfl, setEnt_same hg] at this
    exact this
  | cons c r ih =>
    intro i hi hr bs hbl h b2 b3 b4 b6 hg hu hq
    have hc : c.toNat < 128 := hr c (List.mem_cons_self ..)
    have hlt : i < s.length := by
      rcases Nat.lt_or_ge i s.length with h1 | h1
      · exact h1
      · rw [List.drop_eq_nil_of_le h1] at hi; cases hi
    have hget : s[i] = c := by
      have h1 := List.drop_eq_getElem_cons hlt
      rw [hi] at h1
      exact (List.cons.inj h1).1.symm
    have hi2 : s.drop (i + 1) = r := by
      have h1 := List.drop_eq_getElem_cons hlt
      rw [hi] at h1
      exact (List.cons.inj h1).2.symm
    have hget2 : s[i]? = some c := by rw [List.getElem?_eq_getElem hlt, hget]
    have hC : ∀ x, dropCells (setEnt h.ents p x) h.next = setEnt h.ents p x := fun x => dropCells_under hu.set
    have hG : ∀ x, getEnt (setEnt h.ents p x) p = some x := fun x => sy_getEnt_setEnt hg
    have hcl : c.toNat < bs.length := by omega
    refine W.loop ?_
    repeat (first | refine st_ rfl ?_ | ((first | refine rg_ ?_ | refine go_ ?_); generalize e : goR _ _ _ _ _ _ _ _ = r; simp (disch := omega) [hg, hC, hG, hget2, hbl, hget] at e; replace e : some _ = _ := e; subst e; (try dsimp only [goW])))
    show W tree.getF setLoop (dropped true _ _) Q
    generalize e : dropped _ _ _ = r
    simp (disch := omega) [hg, hC] at e
    subst e
    try dsimp only
    refine ih (i + 1) hi2 (fun c hc => hr c (List.mem_cons_of_mem _ hc)) (setCells bs c.toNat [.bool true]) (by rw [setCells_len _ _ hcl]; exact hbl) _ _ _ _ _ (by exact hG _) (hu.set.le (by (try dsimp only); omega)) (fun n' c0 c2 c3 c4 hn => ?_)
    have := hq n' c0 c2 c3 c4 (by dsimp only at hn; omega)
    rw [sy_setEnt_setEnt]
    exact this

def marks0 : List CVal := List.replicate 256 (.bool false)
theorem marks_len : ∀ (r : List UInt8) (bs : List CVal), bs.length = 256 → (marks bs r).length = 256
  | [], _, h => h
  | c :: r, bs, h => marks_len r _ (by rw [setCells_len _ _ (by have := c.toNat_lt; omega)]; exact h)
theorem marks_strip : ∀ (r : List UInt8) (bs : List CVal), bs.map CVal.strip = bs → (marks bs r).map CVal.strip = marks bs r
  | [], _, h => h
  | c :: r, bs, h => marks_strip r _ (by simp only [setCells, List.map_append, List.map_take, List.map_drop, h]; rfl)
theorem makeSet_spec (s : List UInt8) (hs : s.length < 1073741824) (hr : ∀ c ∈ s, c.toNat < 128) (h : CHeap) (hu : Under h.ents h.next) (K : CVal → CHeap → Prop)
    (hk : ∀ n', h.next ≤ n' → K (.tup [.agg (marks marks0 s), .bool true]) { h with next := n' }) : Wc tree.getF 82 [.str s] h K := by
  have hD := dropEnts_under hu
  have hml := marks_len s marks0 rfl
  have hst := marks_strip s marks0 rfl
  have htk : List.take 256 (marks marks0 s) = marks marks0 s := by rw [← hml, List.take_length]
  refine Wc.mk' (fn := c82) (by kernel_rfl) rfl ?_
  refine W.seq ?_
  refine W.reg ?_
  generalize e : stepR _ _ _ = r
  simp (disch := omega) at e
  subst e
  try dsimp only
  rw [show ([.bool false, .bool false, .bool false, .bool false, .bool false, .bool false, .bool false, .bool false, .bool false, .bool false, .bool false, .bool false, .bool false, .bool false, .bool false, .bool false, .bool false, .bool false, .bool false, .bool false, .bool false, .bool false, .bool false, .bool false, .bool false, .bool false, .bool false, .bool false, .bool false, .bool false, .bool false, .bool false, .bool false, .bool false, .bool false, .bool false, .bool false, .bool false, .bool false, .bool false, .bool false, .bool false, .bool false, .bool false, .bool false, .bool false, .bool false, .bool false, .bool false, .bool false, .bool false, .bool false, .bool false, .bool false, .bool false, .bool false, .bool false, .bool false, .bool false, .bool false, .bool false, .bool false, .bool false, .bool false, .bool false, .bool false, .bool false, .bool false, .bool false, .bool false, .bool false, .bool false, .bool false, .bool false, .bool false, .bool false, .bool false, .bool false, .bool false, .bool false, .bool false, .bool false, .bool false, .bool false, .bool false, .bool false, .bool false, .bool false, .bool false, .bool false, .bool false, .bool false, .bool false, .bool false, .bool false, .bool false, .bool false, .bool false, .bool false, .bool false, .bool false, .bool false, .bool false, .bool false, .bool false, .bool false, .bool false, .bool false, .bool false, .bool false, .bool false, .bool false, .bool false, .bool false, .bool false, .bool false, .bool false, .bool false, .bool false, .bool false, .bool false, .bool false, .bool false, .bool false, .bool false, .bool false, .bool false, .bool false, .bool false, .bool false, .bool false, .bool false, .bool false, .bool false, .bool false, .bool false, .bool false, .bool false, .bool false, .bool false, .bool false, .bool false, .bool false, .bool false, .bool false, .bool false, .bool false, .bool false, .bool false, .bool false, .bool false, .bool false, .bool false, .bool false, .bool false, .bool false, .bool false, .bool false, .bool false, .bool false, .bool false, .bool false, .bool false, .bool false, .bool false, .bool false, .bool false, .bool false, .bool false, .bool false, .bool false, .bool false, .bool false, .bool false, .bool false, .bool false, .bool false, .bool false, .bool false, .bool false, .bool false, .bool false, .bool false, .bool false, .bool false, .bool false, .bool false, .bool false, .bool false, .bool false, .bool false, .bool false, .bool false, .bool false, .bool false, .bool false, .bool false, .bool false, .bool false, .bool false, .bool false, .bool false, .bool false, .bool false, .bool false, .bool false, .bool false, .bool false, .bool false, .bool false, .bool false, .bool false, .bool false, .bool false, .bool false, .bool false, .bool false, .bool false, .bool false, .bool false, .bool false, .bool false, .bool false, .bool false, .bool false, .bool false, .bool false, .bool false, .bool false, .bool false, .bool false, .bool false, .bool false, .bool false, .bool false, .bool false, .bool false, .bool false, .bool false, .bool false, .bool false, .bool false, .bool false, .bool false, .bool false, .bool false, .bool false, .bool false, .bool false, .bool false, .bool false, .bool false, .bool false, .bool false, .bool false, .bool false] : List CVal) = marks0 from rfl]
  repeat (first | refine st_ rfl ?_ | ((first | refine rg_ ?_ | refine go_ ?_); generalize e : goR _ _ _ _ _ _ _ _ = r; simp (disch := omega) [hD, hml, htk, hst, c82] at e; replace e : some _ = _ := e; subst e; (try dsimp only [goW])))
  refine set_loop s h.next _ hs _ s 0 rfl hr marks0 rfl _ _ _ _ _ (by simp [getEnt]) un_ fun n1 c0 c2 c3 c4 hn1 => ?_
  try dsimp only at hn1
  repeat (first | refine st_ rfl ?_ | ((first | refine rg_ ?_ | refine go_ ?_); generalize e : goR _ _ _ _ _ _ _ _ = r; simp (disch := omega) [hD, hml, htk, hst] at e; replace e : some _ = _ := e; subst e; (try dsimp only [goW])))
  refine W.ret ?_
  try simp only [outOf, thenW_ret]
  refine endW.intro rfl ?_
  generalize e : endsC _ _ _ = r
  simp (disch := omega) [c82, hD, hml, htk, hst] at e
  subst e
  try dsimp only
  refine hk _ ?_; omega

end Go.Proofs.YthklcbclodeilaaGreatDoor.IrT
namespace Go.Proofs.YthklcbclodeilaaGreatDoor.IrT
open Go Go.CI
set_option maxRecDepth 100000
set_option maxHeartbeats 4000000
set_option linter.unusedVariables false
set_option linter.unusedSimpArgs false
attribute [local irreducible] W Wo Wc WoR

abbrev csP : List UInt8 := [65, 66, 67, 68, 69, 70, 71, 72, 73, 74, 75, 76, 77, 78, 79, 80, 81, 82, 83, 84, 85, 86, 87, 88, 89, 90, 97, 98, 99, 100, 101, 102, 103, 104, 105, 106, 107, 108, 109, 110, 111, 112, 113, 114, 115, 116, 117, 118, 119, 120, 121, 122, 95, 48, 49, 50, 51, 52, 53, 54, 55, 56, 57]
abbrev ltP : List UInt8 := [65, 66, 67, 68, 69, 70, 71, 72, 73, 74, 75, 76, 77, 78, 79, 80, 81, 82, 83, 84, 85, 86, 87, 88, 89, 90, 97, 98, 99, 100, 101, 102, 103, 104, 105, 106, 107, 108, 109, 110, 111, 112, 113, 114, 115, 116, 117, 118, 119, 120, 121, 122, 95]
abbrev trLoop : CCode := (.loop true (.seq (.seq (.region [.v 0, .g (.len true (.loc 0)), .x .gtr 0 (.k 0)] [(1, 2)] [] []) (.cond (.var 1) .skip (.exit 0))) (.block 1 (.seq (.seq (.region [.v 2, .v 0, .v 0, .g (.len true (.loc 0)), .x .sub 0 (.k 1), .g (.idxStr (.loc 3) (.loc 0)), .g (.call false 111 [(.loc 5), (.loc 0)]), .g (.not (.loc 0))] [(3, 7)] [] []) (.cond (.var 3) (.exit 0) .skip)) (.region [.v 0, .v 0, .g (.len true (.loc 0)), .x .sub 0 (.k 1), .g (.slc 0 (.loc 3) none (some (.loc 0))), .m (.loc 0)] [(0, 5)] [] [])))))
theorem tr_go {p d : Nat} {bs : List CVal} (hbl : bs.length = 256) (r : List UInt8) (c : UInt8) (hin : inSet bs c true) (hl : r.length < 10000) {h : CHeap} (hf : Fit h) (hg : getEnt h.ents p = some (.cells bs)) (hp : p < h.next) (v1 v3 : CVal) {Q : CExit → CSt → Prop}
    (hk : ∀ v1 v3 n', h.next ≤ n' → W tree.getF trLoop ⟨[.str r, v1, .ptr p d 0, v3, .str []], ⟨h.ents, n', h.tys⟩, []⟩ Q) : W tree.getF trLoop ⟨[.str (r ++ [c]), v1, .ptr p d 0, v3, .str []], h, []⟩ Q := by
  obtain ⟨hu, hut, hX⟩ := fx4 hf
  have hZ := fx6 hf hg
  have h1 : (r ++ [c])[r.length]? = some c := by rw [List.getElem?_append_right (Nat.le_refl _), Nat.sub_self]; rfl
  have h2 : ∀ hh : r.length < (r ++ [c]).length, (r ++ [c])[r.length]'hh = c := fun hh => by have := h1; rw [List.getElem?_eq_getElem hh] at this; exact Option.some.inj this
  refine W.loop ?_
  repeat (first
    | refine st_ rfl ?_
    | ((first | refine W.regG ?_ | refine WoR.go ?_); generalize e : goR .. = r; simp (disch := omega) [hX, hZ, hl, h1, h2] at e; replace e : some _ = _ := e; subst e; (try dsimp only [goW]))
    | (refine contains_spec _ _ bs c true hin hbl _ ge2_ un2_ _ fun _ g => ⟨rfl, ?_⟩; (try dsimp only at g)))
  show W tree.getF trLoop (dropped true _ _) Q
  generalize e : dropped _ _ _ = r
  simp (disch := omega) [hX] at e
  subst e
  refine hk _ _ _ ?_; omega
theorem tr_end {p d : Nat} {h : CHeap} (hf : Fit h) (v1 v3 : CVal) {Q : CExit → CSt → Prop}
    (hk : ∀ v1 v3 n', h.next ≤ n' → Q (.exit 0) ⟨[.str [], v1, .ptr p d 0, v3, .str []], ⟨h.ents, n', h.tys⟩, []⟩) : W tree.getF trLoop ⟨[.str [], v1, .ptr p d 0, v3, .str []], h, []⟩ Q := by
  obtain ⟨hu, hut, hX⟩ := fx4 hf
  refine W.loop ?_
  repeat (first
    | refine st_ rfl ?_
    | ((first | refine W.regG ?_ | refine WoR.go ?_); generalize e : goR .. = r; simp (disch := omega) [hX] at e; replace e : some _ = _ := e; subst e; (try dsimp only [goW])))
  all_goals (refine hk _ _ _ ?_; ((try dsimp only); omega))
theorem tr_loop {p d : Nat} {bs : List CVal} (hbl : bs.length = 256) {h0 : CHeap} (hf0 : Fit h0) (hg0 : getEnt h0.ents p = some (.cells bs)) (hp0 : p < h0.next) {Q : CExit → CSt → Prop}
    (hk : ∀ v1 v3 n', h0.next ≤ n' → Q (.exit 0) ⟨[.str [], v1, .ptr p d 0, v3, .str []], ⟨h0.ents, n', h0.tys⟩, []⟩) :
    ∀ (m : Nat) (s : List UInt8) (v1 v3 : CVal) (n : Nat), s.length ≤ m → s.length < 10000 → (∀ c ∈ s, inSet bs c true) → h0.next ≤ n → W tree.getF trLoop ⟨[.str s, v1, .ptr p d 0, v3, .str []], ⟨h0.ents, n, h0.tys⟩, []⟩ Q := by
  intro m
  induction m with
  | zero =>
    intro s v1 v3 n hm hs hin hn
    have : s = [] := List.eq_nil_of_length_eq_zero (by omega)
    subst this
    exact tr_end (h := ⟨h0.ents, n, h0.tys⟩) ⟨hf0.1.le hn, hf0.2.le hn⟩ v1 v3 fun v1 v3 n' g1 => hk v1 v3 n' (Nat.le_trans hn g1)
  | succ m ih =>
    intro s v1 v3 n hm hs hin hn
    rcases List.eq_nil_or_concat s with h | ⟨r, c, h⟩
    · subst h
      exact tr_end (h := ⟨h0.ents, n, h0.tys⟩) ⟨hf0.1.le hn, hf0.2.le hn⟩ v1 v3 fun v1 v3 n' g1 => hk v1 v3 n' (Nat.le_trans hn g1)
    · rw [List.concat_eq_append] at h
      subst h
      have hlen : (r ++ [c]).length = r.length + 1 := by simp
      rw [hlen] at hm hs
      refine tr_go (h := ⟨h0.ents, n, h0.tys⟩) hbl r c (hin c (by simp)) (by omega) ⟨hf0.1.le hn, hf0.2.le hn⟩ hg0 (Nat.lt_of_lt_of_le hp0 hn) v1 v3 fun v1 v3 n' g1 => ?_
      exact ih r v1 v3 n' (by omega) (by omega) (fun x hx => hin x (by simp [hx])) (Nat.le_trans hn g1)
theorem tra_F {p d : Nat} {bs : List CVal} (hbl : bs.length = 256) (s : List UInt8) (hs : s.length < 10000) (hin : ∀ c ∈ s, inSet bs c true) {h : CHeap} {K : CVal → CHeap → Prop} (hk : ∀ n', h.next ≤ n' → K (.str []) ⟨h.ents, n', h.tys⟩) (hf : Fit h := by exact ft_) (hg : getEnt h.ents p = some (.cells bs) := by exact ge2_) (hp : p < h.next := by exact lt_) : Wc tree.getF 84 [.str s, .ptr p d 0] h K := by
  obtain ⟨hu, hut, hX⟩ := fx4 hf
  refine Wc.mkG 84 c84 (by kernel_rfl) rfl ?_
  generalize e : entryC .. = r
  simp (disch := omega) [c84] at e
  subst e
  repeat (first
    | refine st_ rfl ?_
    | ((first | refine W.regG ?_ | refine WoR.go ?_); generalize e : goR .. = r; simp (disch := omega) [hX, c84] at e; replace e : some _ = _ := e; subst e; (try dsimp only [goW])))
  refine tr_loop hbl hf hg hp (fun v1 v3 n' g1 => ?_) s.length s _ _ _ (Nat.le_refl _) hs hin (by (try dsimp only); omega)
  (try simp only [outOf, thenW_ret, thenW_exit, roundW, reduceIte])
  repeat (first
    | refine st_ rfl ?_
    | ((first | refine W.regG ?_ | refine WoR.go ?_); generalize e : goR .. = r; simp (disch := omega) [hX, c84] at e; replace e : some _ = _ := e; subst e; (try dsimp only [goW]))
    | ((first | (refine W.ret ?_; (try simp only [outOf, thenW_ret, thenW_exit, roundW, reduceIte]); refine endW.of (.inl rfl) rfl ?_) | refine endW.of (.inl rfl) rfl ?_ | refine endW.of (.inr rfl) rfl ?_); generalize e : endsC .. = r; simp (disch := omega) [hX, c84] at e; subst e; refine hk _ ?_; omega))
theorem tla_F {p d : Nat} {bs : List CVal} {h : CHeap} {K : CVal → CHeap → Prop} (hk : ∀ n', h.next ≤ n' → K (.str []) ⟨h.ents, n', h.tys⟩) (hf : Fit h := by exact ft_) : Wc tree.getF 83 [.str [], .ptr p d 0] h K := by
  obtain ⟨hu, hut, hX⟩ := fx4 hf
  refine Wc.mkG 83 c83 (by kernel_rfl) rfl ?_
  generalize e : entryC .. = r
  simp (disch := omega) [c83] at e
  subst e
  repeat (first
    | refine st_ rfl ?_
    | ((first | refine W.regG ?_ | refine WoR.go ?_); generalize e : goR .. = r; simp (disch := omega) [hX, c83] at e; replace e : some _ = _ := e; subst e; (try dsimp only [goW]))
    | (refine W.loop ?_; try (generalize e : dropped .. = r; simp (disch := omega) [hX, c83] at e; subst e; try dsimp only))
    | ((first | (refine W.ret ?_; (try simp only [outOf, thenW_ret, thenW_exit, roundW, reduceIte]); refine endW.of (.inl rfl) rfl ?_) | refine endW.of (.inl rfl) rfl ?_ | refine endW.of (.inr rfl) rfl ?_); generalize e : endsC .. = r; simp (disch := omega) [hX, c83] at e; subst e; refine hk _ ?_; omega))

theorem tm_F (s : List UInt8) (hs : s ≠ []) (hs2 : s.length < 10000) (hin : ∀ c ∈ s, inSet (marks marks0 csP) c true) : Pe 50 [.str s, .str csP] (.str []) := by
  intro h hf K hk
  obtain ⟨hu, hut, hX⟩ := fx4 hf
  have hs3 : (s == ([] : List UInt8)) = false := by simpa using hs
  have hcs : (csP == ([] : List UInt8)) = false := rfl
  have hcl : csP.length = 63 := rfl
  have hc0 : csP[0]? = some 65 := rfl
  have hml := marks_len csP marks0 rfl
  have hst := marks_strip csP marks0 rfl
  have hZ : True := trivial
  refine Wc.mkG 50 c50 (by kernel_rfl) rfl ?_
  generalize e : entryC .. = r
  simp (disch := omega) [c50] at e
  subst e
  repeat (first
    | refine st_ rfl ?_
    | ((first | refine W.regG ?_ | refine WoR.go ?_); generalize e : goR .. = r; simp (disch := omega) [hX, hs, hs3, hcs, hcl, hc0, hml, hst, c50] at e; replace e : some _ = _ := e; subst e; (try dsimp only [goW]))
    | (refine makeSet_spec csP (by decide) (by decide) _ un2_ _ fun _ g => ⟨rfl, ?_⟩; (try dsimp only at g))
    | (refine tra_F (bs := marks marks0 csP) hml s hs2 hin (fun _ g => ⟨rfl, ?_⟩) ft_ ge2_ lt_; (try dsimp only at g))
    | (refine tla_F (bs := marks marks0 csP) (fun _ g => ⟨rfl, ?_⟩) ft_; (try dsimp only at g))
    | ((first | (refine W.ret ?_; (try simp only [outOf, thenW_ret, thenW_exit, roundW, reduceIte]); refine endW.of (.inl rfl) rfl ?_) | refine endW.of (.inl rfl) rfl ?_ | refine endW.of (.inr rfl) rfl ?_); generalize e : endsC .. = r; simp (disch := omega) [hX, hs, hs3, hcs, hcl, hc0, hml, hst, c50] at e; subst e; refine hk _ ?_; omega))
end Go.Proofs.YthklcbclodeilaaGreatDoor.IrT
namespace Go.Proofs.YthklcbclodeilaaGreatDoor.IrT
open Go Go.CI
set_option maxRecDepth 100000
set_option maxHeartbeats 4000000
set_option linter.unusedVariables false
set_option linter.unusedSimpArgs false
attribute [local irreducible] W Wo Wc WoR

/-- A part of a name. -/
structure PV (s : List UInt8) : Prop where
  ne : s ≠ []
  l : s.length < 1000
  i : ∀ c ∈ s, inSet (marks marks0 csP) c true
  f : ∀ c, s[0]? = some c → 0 ≤ idxFrom c ltP 0
  d : ∀ c ∈ s, c ≠ 46 ∧ c ≠ 44

theorem pt_c (c : UInt8) (t : List UInt8) (P : PV (c :: t)) : Pe 27 [.str (c :: t)] (.bool true) := by
  intro h hf K hk
  obtain ⟨hu, hut, hX⟩ := fx4 hf
  have TM := tm_F (c :: t) P.ne (by have := P.l; omega) P.i
  have IX := ix1_F ltP c (by decide)
  have hf0 := P.f c rfl
  obtain ⟨v, hv⟩ : ∃ v, idxFrom c ltP 0 = v := ⟨_, rfl⟩
  rw [hv] at IX hf0
  have hl0 : t.length + 1 < 1000 := P.l
  refine Wc.mkG 27 c27 (by kernel_rfl) rfl ?_
  generalize e : entryC .. = r
  simp (disch := omega) [c27] at e
  subst e
  repeat (first
    | refine st_ rfl ?_
    | ((first | refine W.regG ?_ | refine WoR.go ?_); generalize e : goR .. = r; simp (disch := omega) [hX, hf0, hl0, c27, c51] at e; replace e : some _ = _ := e; subst e; (try dsimp only [goW]))
    | (refine pe_ (TM) fun _ g => ⟨rfl, ?_⟩; (try dsimp only at g))
    | (refine pe_ (IX) fun _ g => ⟨rfl, ?_⟩; (try dsimp only at g))
    | (refine Wc.mkG 51 c51 (by kernel_rfl) rfl ?_; generalize e : entryC .. = r; simp (disch := omega) [c51] at e; subst e)
    | ((first | (refine W.ret ?_; (try simp only [outOf, thenW_ret, thenW_exit, roundW, reduceIte]); refine endW.of (.inl rfl) rfl ?_) | refine endW.of (.inl rfl) rfl ?_ | refine endW.of (.inr rfl) rfl ?_); generalize e : endsC .. = r; simp (disch := omega) [hX, hf0, hl0, c27, c51] at e; subst e; (first | refine ⟨rfl, ?_⟩ | (refine hk _ ?_; omega))))

theorem pt_F (s : List UInt8) (P : PV s) : Pe 27 [.str s] (.bool true) := by
  cases s with
  | nil => exact absurd rfl P.ne
  | cons c t => exact pt_c c t P
abbrev nmLoop : CCode := (.loop true (.seq (.region [.g (.bin .lss (.var 2) (.var 3))] [(4, 0)] [] []) (.seq (.cond (.var 4) .skip (.exit 0)) (.seq (.block 1 (.seq (.region [.v 2, .g (.idxAddr 1 (.var 5) (.var 2)), .l 0, .m (.loc 2), .m (.loc 1)] [(6, 3), (8, 4)] [] []) (.seq (.seq (.region [.v 6, .x .geq 0 (.k 20)] [(7, 1)] [] []) (.cond (.var 7) (.seq (.region [.m (.const .nils), .m (.k 3)] [(10, 0), (11, 1)] [] []) .ret) .skip)) (.seq (.region [.v 8, .g (.call false 27 [(.loc 0)]), .g (.not (.loc 0))] [(9, 2)] [] []) (.cond (.var 9) (.seq (.region [.m (.const .nils), .m (.k 9)] [(10, 0), (11, 1)] [] []) .ret) .skip))))) (.region [.g (.bin .add (.var 2) (.k 1)), .m (.loc 0)] [(2, 1)] [] [])))))

theorem nm_go (ps : List (List UInt8)) (hl : ps.length ≤ 20) (i : Nat) {s : List UInt8} (hx : ps[i]? = some s) (P : PV s) {h : CHeap} (hf : Fit h) (v0 : CVal) (v4 v6 v7 v8 v9 : CVal) {Q : CExit → CSt → Prop}
    (hk : ∀ (v4 v6 v7 v8 v9 : CVal) n', h.next ≤ n' → W tree.getF nmLoop ⟨[v0, .imm .none 1 (ps.map .str), .int .i64 ((i : Int) + 1), .int .i64 (ps.length : Int), v4, .imm .none 1 (ps.map .str), v6, v7, v8, v9, .nils, .int .i64 0], ⟨h.ents, n', h.tys⟩, []⟩ Q) : W tree.getF nmLoop ⟨[v0, .imm .none 1 (ps.map .str), .int .i64 (i : Int), .int .i64 (ps.length : Int), v4, .imm .none 1 (ps.map .str), v6, v7, v8, v9, .nils, .int .i64 0], h, []⟩ Q := by
  obtain ⟨hu, hut, hX⟩ := fx4 hf
  have PT := pt_F s P
  obtain ⟨hi, hx2⟩ := List.getElem?_eq_some_iff.1 hx
  have hx3 : nth (ps.map CVal.str) i = .str s := nth_mapG CVal.str ps i _ hx
  have hdl : (i : Int) < (ps.length : Int) := by omega
  have hdl2 : (i : Int) < 20 := by omega
  have hi2 : (i : Int).toNat = i := by omega
  refine W.loop ?_
  repeat (first
    | refine st_ rfl ?_
    | ((first | refine W.regG ?_ | refine WoR.go ?_); generalize e : goR .. = r; simp (disch := omega) [hX, hx, hx2, hx3, hi2, hdl, hdl2, hi, hl] at e; replace e : some _ = _ := e; subst e; (try dsimp only [goW]))
    | (refine pe_ (PT) fun _ g => ⟨rfl, ?_⟩; (try dsimp only at g)))
  show W tree.getF nmLoop (dropped true _ _) Q
  generalize e : dropped _ _ _ = r
  simp (disch := omega) [hX] at e
  subst e
  refine hk _ _ _ _ _ _ ?_; omega
theorem nm_end (ps : List (List UInt8)) (i : Nat) (hi : ps.length ≤ i) {h : CHeap} (hf : Fit h) (v0 : CVal) (v4 v6 v7 v8 v9 : CVal) {Q : CExit → CSt → Prop}
    (hk : ∀ (v4 v6 v7 v8 v9 : CVal) n', h.next ≤ n' → Q (.exit 0) ⟨[v0, .imm .none 1 (ps.map .str), .int .i64 (i : Int), .int .i64 (ps.length : Int), v4, .imm .none 1 (ps.map .str), v6, v7, v8, v9, .nils, .int .i64 0], ⟨h.ents, n', h.tys⟩, []⟩) : W tree.getF nmLoop ⟨[v0, .imm .none 1 (ps.map .str), .int .i64 (i : Int), .int .i64 (ps.length : Int), v4, .imm .none 1 (ps.map .str), v6, v7, v8, v9, .nils, .int .i64 0], h, []⟩ Q := by
  obtain ⟨hu, hut, hX⟩ := fx4 hf
  have hdl : (ps.length : Int) ≤ (i : Int) := by omega
  refine W.loop ?_
  repeat (first
    | refine st_ rfl ?_
    | ((first | refine W.regG ?_ | refine WoR.go ?_); generalize e : goR .. = r; simp (disch := omega) [hX, hdl] at e; replace e : some _ = _ := e; subst e; (try dsimp only [goW])))
  all_goals (refine hk _ _ _ _ _ _ ?_; ((try dsimp only); omega))
theorem nm_loop (ps : List (List UInt8)) (hl : ps.length ≤ 20) (hP : ∀ s ∈ ps, PV s) {h0 : CHeap} (hf : Fit h0) (v0 : CVal) {Q : CExit → CSt → Prop}
    (hk : ∀ (i : Nat) (v4 v6 v7 v8 v9 : CVal) n', h0.next ≤ n' → Q (.exit 0) ⟨[v0, .imm .none 1 (ps.map .str), .int .i64 (i : Int), .int .i64 (ps.length : Int), v4, .imm .none 1 (ps.map .str), v6, v7, v8, v9, .nils, .int .i64 0], ⟨h0.ents, n', h0.tys⟩, []⟩) :
    ∀ (m i n : Nat) (v4 v6 v7 v8 v9 : CVal), ps.length ≤ i + m → h0.next ≤ n → W tree.getF nmLoop ⟨[v0, .imm .none 1 (ps.map .str), .int .i64 (i : Int), .int .i64 (ps.length : Int), v4, .imm .none 1 (ps.map .str), v6, v7, v8, v9, .nils, .int .i64 0], ⟨h0.ents, n, h0.tys⟩, []⟩ Q := by
  intro m
  induction m with
  | zero => intro i n v4 v6 v7 v8 v9 hi hn; exact nm_end ps i (by omega) (h := ⟨h0.ents, n, h0.tys⟩) ⟨hf.1.le hn, hf.2.le hn⟩ v0 v4 v6 v7 v8 v9 fun v4 v6 v7 v8 v9 n' g1 => hk i v4 v6 v7 v8 v9 n' (Nat.le_trans hn g1)
  | succ m ih =>
    intro i n v4 v6 v7 v8 v9 hi hn
    rcases Nat.lt_or_ge i ps.length with g | g
    · have hx : ps[i]? = some ps[i] := List.getElem?_eq_getElem g
      refine nm_go ps hl i hx (hP _ (List.getElem_mem g)) (h := ⟨h0.ents, n, h0.tys⟩) ⟨hf.1.le hn, hf.2.le hn⟩ v0 v4 v6 v7 v8 v9 fun v4 v6 v7 v8 v9 n' g1 => ?_
      have := ih (i + 1) n' v4 v6 v7 v8 v9 (by omega) (Nat.le_trans hn g1)
      rwa [show ((i + 1 : Nat) : Int) = (i : Int) + 1 by omega] at this
    · exact nm_end ps i g (h := ⟨h0.ents, n, h0.tys⟩) ⟨hf.1.le hn, hf.2.le hn⟩ v0 v4 v6 v7 v8 v9 fun v4 v6 v7 v8 v9 n' g1 => hk i v4 v6 v7 v8 v9 n' (Nat.le_trans hn g1)
/-- A path's names, whole. -/
theorem nm_F (s : List UInt8) (hs : s.length < 10000) (hl : (splitF 46 s).length ≤ 20) (hP : ∀ x ∈ splitF 46 s, PV x) : Pe 13 [.str s] (.tup [.imm .none 1 ((splitF 46 s).map .str), .int .i64 0]) := by
  intro h hf K hk
  obtain ⟨ps, hps⟩ : ∃ ps, splitF 46 s = ps := ⟨_, rfl⟩
  have SP := sp_F s 46 (by omega)
  rw [hps] at hl hP hk SP
  obtain ⟨hu, hut, hX⟩ := fx4 hf
  refine Wc.mkG 13 c13 (by kernel_rfl) rfl ?_
  generalize e : entryC .. = r
  simp (disch := omega) [c13] at e
  subst e
  repeat (first
    | refine st_ rfl ?_
    | ((first | refine W.regG ?_ | refine WoR.go ?_); generalize e : goR .. = r; simp (disch := omega) [hX, c13] at e; replace e : some _ = _ := e; subst e; (try dsimp only [goW]))
    | (refine pe_ (SP) fun _ g => ⟨rfl, ?_⟩; (try dsimp only at g)))
  refine nm_loop ps hl hP hf _ (fun i v4 v6 v7 v8 v9 n' g1 => ?_) ps.length 0 _ _ _ _ _ _ (by omega) (by (try dsimp only); omega)
  (try simp only [outOf, thenW_ret, thenW_exit, roundW, reduceIte])
  repeat (first
    | refine st_ rfl ?_
    | ((first | refine W.regG ?_ | refine WoR.go ?_); generalize e : goR .. = r; simp (disch := omega) [hX, c13] at e; replace e : some _ = _ := e; subst e; (try dsimp only [goW]))
    | ((first | (refine W.ret ?_; (try simp only [outOf, thenW_ret, thenW_exit, roundW, reduceIte]); refine endW.of (.inl rfl) rfl ?_) | refine endW.of (.inl rfl) rfl ?_ | refine endW.of (.inr rfl) rfl ?_); generalize e : endsC .. = r; simp (disch := omega) [hX, c13] at e; subst e; refine hk _ ?_; omega))
end Go.Proofs.YthklcbclodeilaaGreatDoor.IrT
namespace Go.Proofs.YthklcbclodeilaaGreatDoor.IrT
open Go Go.CI
set_option maxRecDepth 100000
set_option maxHeartbeats 4000000
set_option linter.unusedVariables false
set_option linter.unusedSimpArgs false
attribute [local irreducible] W Wo Wc WoR

theorem ls_F (x y : List UInt8) : Pe 52 [.str x, .str y] (.bool (bytesLt x y)) := by
  intro h hf K hk
  obtain ⟨hu, hut, hX⟩ := fx4 hf
  refine Wc.mkG 52 c52 (by kernel_rfl) rfl ?_
  generalize e : entryC .. = r
  simp (disch := omega) [c52] at e
  subst e
  repeat (first
    | refine st_ rfl ?_
    | ((first | refine W.regG ?_ | refine WoR.go ?_); generalize e : goR .. = r; simp (disch := omega) [hX, bne_self_eq_false, c52, c87] at e; replace e : some _ = _ := e; subst e; (try dsimp only [goW]))
    | (refine Wc.mkG 87 c87 (by kernel_rfl) rfl ?_; generalize e : entryC .. = r; simp (disch := omega) [c87] at e; subst e)
    | ((first | (refine W.ret ?_; (try simp only [outOf, thenW_ret, thenW_exit, roundW, reduceIte]); refine endW.of (.inl rfl) rfl ?_) | refine endW.of (.inl rfl) rfl ?_ | refine endW.of (.inr rfl) rfl ?_); generalize e : endsC .. = r; simp (disch := omega) [hX, bne_self_eq_false, c52, c87] at e; subst e; (first | refine ⟨rfl, ?_⟩ | (refine hk _ ?_; omega))))

abbrev bsLoop : CCode := (.loop true (.seq (.seq (.region [.v 2, .v 3, .h .lss 1 0] [(4, 2)] [] []) (.cond (.var 4) .skip (.exit 0))) (.block 1 (.seq (.region [.v 2, .v 3, .h .add 1 0, .g (.conv .u64 (.loc 0)), .g (.bin .shr (.loc 0) (.const (.int .u64 1))), .g (.conv .i64 (.loc 0)), .m (.loc 0)] [(5, 6)] [] []) (.seq (.region [.v 0, .v 5, .g (.idxAddr 1 (.loc 1) (.loc 0)), .l 0, .v 6, .g (.call false 52 [(.loc 1), (.loc 0)])] [(7, 5)] [] []) (.cond (.var 7) (.region [.v 5, .x .add 0 (.k 1), .m (.loc 0)] [(2, 2)] [] []) (.region [.v 5, .m (.loc 0)] [(3, 1)] [] [])))))))
theorem bs_go {a va : Nat} {l : List (List UInt8)} {t : List UInt8} (hnl : l.length < 10000) {pos : Nat} (hpos : ∀ k x, l[k]? = some x → bytesLt x t = decide (k < pos)) {h : CHeap} (hf : Fit h) (hg : getEnt h.ents a = some (.row va (l.map .str))) (ha : a < h.next) (i j : Nat) (hij : i < j) (hj : j ≤ l.length) (v4 v5 v7 : CVal) {Q : CExit → CSt → Prop} (b : Bool) (hb : decide ((i + j) / 2 < pos) = b)
    (hk : ∀ (v4 v5 v7 : CVal) n', h.next ≤ n' → W tree.getF bsLoop ⟨[.ref a va 1 0 l.length, .int .i64 (l.length : Int), .int .i64 ((if b then (i + j) / 2 + 1 else i : Nat) : Int), .int .i64 ((if b then j else (i + j) / 2 : Nat) : Int), v4, v5, .str t, v7, .int .i64 0, .bool false], ⟨h.ents, n', h.tys⟩, []⟩ Q) : W tree.getF bsLoop ⟨[.ref a va 1 0 l.length, .int .i64 (l.length : Int), .int .i64 (i : Int), .int .i64 (j : Int), v4, v5, .str t, v7, .int .i64 0, .bool false], h, []⟩ Q := by
  obtain ⟨hu, hut, hX⟩ := fx4 hf
  have hm : (i + j) / 2 < l.length := by omega
  obtain ⟨m, hmm⟩ : ∃ m, (i + j) / 2 = m := ⟨_, rfl⟩
  rw [hmm] at hm hb hk
  obtain ⟨x, hx⟩ : ∃ x, l[m]? = some x := ⟨_, List.getElem?_eq_getElem hm⟩
  have hx3 : nth (l.map CVal.str) m = .str x := nth_mapG CVal.str l m _ hx
  have hx4 : ∀ hh : m < l.length, l[m]'hh = x := fun hh => by rw [List.getElem?_eq_getElem hh] at hx; exact Option.some.inj hx
  have LS := ls_F x t
  rw [hpos m x hx, hb] at LS
  have hdl : (i : Int) < (j : Int) := by omega
  have hs1 : ((i : Int) + (j : Int)) / 2 = (m : Int) := by omega
  have hs2 : ((i : Int) + (j : Int)).fdiv (2 ^ min 1 IntKind.u64.bits) = (m : Int) := by rw [show (2 : Int) ^ min 1 IntKind.u64.bits = 2 from rfl, Int.fdiv_eq_ediv_of_nonneg _ (by omega)]; exact hs1
  have hml : (m : Int) < (l.length : Int) := by omega
  have hij0 : 0 ≤ (i : Int) + (j : Int) ∧ (i : Int) + (j : Int) < 20000 := by omega
  have hm2 : (m : Int).toNat = m := by omega
  refine W.loop ?_
  cases b
  all_goals
    repeat (first
      | refine st_ rfl ?_
      | ((first | refine W.regG ?_ | refine WoR.go ?_); generalize e : goR .. = r; simp (disch := omega) [hX, hg, ha, hnl, hx, hx3, hx4, hdl, hs1, hs2, hml, hm, hij0, hm2, sy_wrapu64] at e; replace e : some _ = _ := e; subst e; (try dsimp only [goW]))
      | (refine pe_ (LS) fun _ g => ⟨rfl, ?_⟩; (try dsimp only at g)))
    (show W tree.getF bsLoop (dropped true _ _) Q; generalize e : dropped _ _ _ = r; simp (disch := omega) [hX, hg, ha] at e; subst e)
    (try simp only [if_true, if_false, Bool.false_eq_true, reduceIte] at hk)
  · exact hk _ _ _ _ (by (try dsimp only); omega)
  · have hc : ((m + 1 : Nat) : Int) = (m : Int) + 1 := by omega
    rw [hc] at hk
    exact hk _ _ _ _ (by (try dsimp only); omega)
theorem bs_stop {a va : Nat} {l : List (List UInt8)} {t : List UInt8} (hnl : l.length < 10000) {pos : Nat} (hpos : ∀ k x, l[k]? = some x → bytesLt x t = decide (k < pos)) {h : CHeap} (hf : Fit h) (hg : getEnt h.ents a = some (.row va (l.map .str))) (ha : a < h.next) (i : Nat) (v4 v5 v7 : CVal) {Q : CExit → CSt → Prop}
    (hk : ∀ (v4 v5 v7 : CVal) n', h.next ≤ n' → Q (.exit 0) ⟨[.ref a va 1 0 l.length, .int .i64 (l.length : Int), .int .i64 (i : Int), .int .i64 (i : Int), v4, v5, .str t, v7, .int .i64 0, .bool false], ⟨h.ents, n', h.tys⟩, []⟩) : W tree.getF bsLoop ⟨[.ref a va 1 0 l.length, .int .i64 (l.length : Int), .int .i64 (i : Int), .int .i64 (i : Int), v4, v5, .str t, v7, .int .i64 0, .bool false], h, []⟩ Q := by
  obtain ⟨hu, hut, hX⟩ := fx4 hf
  refine W.loop ?_
  repeat (first
    | refine st_ rfl ?_
    | ((first | refine W.regG ?_ | refine WoR.go ?_); generalize e : goR .. = r; simp (disch := omega) [hX] at e; replace e : some _ = _ := e; subst e; (try dsimp only [goW])))
  all_goals (refine hk _ _ _ _ ?_; ((try dsimp only); omega))
theorem bs_loop {a va : Nat} {l : List (List UInt8)} {t : List UInt8} (hnl : l.length < 10000) {pos : Nat} (hpos : ∀ k x, l[k]? = some x → bytesLt x t = decide (k < pos)) {h0 : CHeap} (hf : Fit h0) (hg : getEnt h0.ents a = some (.row va (l.map .str))) (ha : a < h0.next) {Q : CExit → CSt → Prop}
    (hk : ∀ (v4 v5 v7 : CVal) n', h0.next ≤ n' → Q (.exit 0) ⟨[.ref a va 1 0 l.length, .int .i64 (l.length : Int), .int .i64 (pos : Int), .int .i64 (pos : Int), v4, v5, .str t, v7, .int .i64 0, .bool false], ⟨h0.ents, n', h0.tys⟩, []⟩) :
    ∀ (k i j nx : Nat) (v4 v5 v7 : CVal), j - i ≤ k → i ≤ pos → pos ≤ j → j ≤ l.length → h0.next ≤ nx → W tree.getF bsLoop ⟨[.ref a va 1 0 l.length, .int .i64 (l.length : Int), .int .i64 (i : Int), .int .i64 (j : Int), v4, v5, .str t, v7, .int .i64 0, .bool false], ⟨h0.ents, nx, h0.tys⟩, []⟩ Q := by
  intro k
  induction k with
  | zero =>
    intro i j nx v4 v5 v7 h1 h2 h3 h4 hn
    have e1 : i = pos := by omega
    have e2 : j = pos := by omega
    rw [e1, e2]
    exact bs_stop (h := ⟨h0.ents, nx, h0.tys⟩) hnl hpos ⟨hf.1.le hn, hf.2.le hn⟩ hg (Nat.lt_of_lt_of_le ha hn) pos v4 v5 v7 fun v4 v5 v7 n' g1 => hk v4 v5 v7 n' (Nat.le_trans hn g1)
  | succ k ih =>
    intro i j nx v4 v5 v7 h1 h2 h3 h4 hn
    rcases Nat.lt_or_ge i j with g | g
    · refine bs_go (h := ⟨h0.ents, nx, h0.tys⟩) hnl hpos ⟨hf.1.le hn, hf.2.le hn⟩ hg (Nat.lt_of_lt_of_le ha hn) i j g h4 v4 v5 v7 _ rfl fun v4 v5 v7 n' g1 => ?_
      cases hd : decide ((i + j) / 2 < pos) with
      | true =>
        have := of_decide_eq_true hd
        exact ih ((i + j) / 2 + 1) j n' v4 v5 v7 (by omega) (by omega) h3 h4 (Nat.le_trans hn g1)
      | false =>
        have := of_decide_eq_false hd
        exact ih i ((i + j) / 2) n' v4 v5 v7 (by omega) h2 (by omega) (by omega) (Nat.le_trans hn g1)
    · have e1 : i = pos := by omega
      have e2 : j = pos := by omega
      rw [e1, e2]
      exact bs_stop (h := ⟨h0.ents, nx, h0.tys⟩) hnl hpos ⟨hf.1.le hn, hf.2.le hn⟩ hg (Nat.lt_of_lt_of_le ha hn) pos v4 v5 v7 fun v4 v5 v7 n' g1 => hk v4 v5 v7 n' (Nat.le_trans hn g1)

theorem bs_in {a va : Nat} {l : List (List UInt8)} {t : List UInt8} (hnl : l.length < 10000) {pos : Nat} (hpos : ∀ k x, l[k]? = some x → bytesLt x t = decide (k < pos)) {h : CHeap} (hf : Fit h) (hg : getEnt h.ents a = some (.row va (l.map .str))) (ha : a < h.next) (hple : pos ≤ l.length) (hx : l[pos]? = some t) {K : CVal → CHeap → Prop} (hk : ∀ n', h.next ≤ n' → K (.tup [.int .i64 (pos : Int), .bool true]) ⟨h.ents, n', h.tys⟩) : Wc tree.getF 28 [.ref a va 1 0 l.length, .str t] h K := by
  obtain ⟨hu, hut, hX⟩ := fx4 hf
  obtain ⟨hpl, _⟩ := List.getElem?_eq_some_iff.1 hx
  have hx3 : nth (l.map CVal.str) pos = .str t := nth_mapG CVal.str l pos _ hx
  have hx4 : ∀ hh : pos < l.length, l[pos]'hh = t := fun hh => by rw [List.getElem?_eq_getElem hh] at hx; exact Option.some.inj hx
  have hpl2 : (pos : Int) < (l.length : Int) := by omega
  have hp2 : (pos : Int).toNat = pos := by omega
  have hple : pos ≤ l.length := by omega
  refine Wc.mkG 28 c28 (by kernel_rfl) rfl ?_
  generalize e : entryC .. = r
  simp (disch := omega) [c28] at e
  subst e
  repeat (first
    | refine st_ rfl ?_
    | ((first | refine W.regG ?_ | refine WoR.go ?_); generalize e : goR .. = r; simp (disch := omega) [hX, hg, ha, c28] at e; replace e : some _ = _ := e; subst e; (try dsimp only [goW])))
  refine bs_loop hnl hpos hf hg ha (fun v4 v5 v7 n' g1 => ?_) l.length 0 l.length _ _ _ _ (by omega) (Nat.zero_le _) hple (Nat.le_refl _) (by (try dsimp only); omega)
  (try simp only [outOf, thenW_ret, thenW_exit, roundW, reduceIte])
  repeat (first
    | refine st_ rfl ?_
    | ((first | refine W.regG ?_ | refine WoR.go ?_); generalize e : goR .. = r; simp (disch := omega) [hX, hg, ha, hnl, hx, hx3, hx4, hpl, hpl2, hp2, bne_self_eq_false, c28, c53] at e; replace e : some _ = _ := e; subst e; (try dsimp only [goW]))
    | (refine Wc.mkG 53 c53 (by kernel_rfl) rfl ?_; generalize e : entryC .. = r; simp (disch := omega) [c53] at e; subst e)
    | ((first | (refine W.ret ?_; (try simp only [outOf, thenW_ret, thenW_exit, roundW, reduceIte]); refine endW.of (.inl rfl) rfl ?_) | refine endW.of (.inl rfl) rfl ?_ | refine endW.of (.inr rfl) rfl ?_); generalize e : endsC .. = r; simp (disch := omega) [hX, hg, ha, hnl, hx, hx3, hx4, hpl, hpl2, hp2, bne_self_eq_false, c28, c53] at e; subst e; (first | refine ⟨rfl, ?_⟩ | (refine hk _ ?_; omega))))

theorem bs_out {a va : Nat} {l : List (List UInt8)} {t : List UInt8} (hnl : l.length < 10000) {pos : Nat} (hpos : ∀ k x, l[k]? = some x → bytesLt x t = decide (k < pos)) {h : CHeap} (hf : Fit h) (hg : getEnt h.ents a = some (.row va (l.map .str))) (ha : a < h.next) (hple : pos ≤ l.length) {x : List UInt8} (hx : l[pos]? = some x) (hxt : (x == t) = false) {K : CVal → CHeap → Prop} (hk : ∀ n', h.next ≤ n' → K (.tup [.int .i64 (pos : Int), .bool false]) ⟨h.ents, n', h.tys⟩) : Wc tree.getF 28 [.ref a va 1 0 l.length, .str t] h K := by
  obtain ⟨hu, hut, hX⟩ := fx4 hf
  obtain ⟨hpl, _⟩ := List.getElem?_eq_some_iff.1 hx
  have hx3 : nth (l.map CVal.str) pos = .str x := nth_mapG CVal.str l pos _ hx
  have hx4 : ∀ hh : pos < l.length, l[pos]'hh = x := fun hh => by rw [List.getElem?_eq_getElem hh] at hx; exact Option.some.inj hx
  have hpl2 : (pos : Int) < (l.length : Int) := by omega
  have hp2 : (pos : Int).toNat = pos := by omega
  have hple : pos ≤ l.length := by omega
  refine Wc.mkG 28 c28 (by kernel_rfl) rfl ?_
  generalize e : entryC .. = r
  simp (disch := omega) [c28] at e
  subst e
  repeat (first
    | refine st_ rfl ?_
    | ((first | refine W.regG ?_ | refine WoR.go ?_); generalize e : goR .. = r; simp (disch := omega) [hX, hg, ha, c28] at e; replace e : some _ = _ := e; subst e; (try dsimp only [goW])))
  refine bs_loop hnl hpos hf hg ha (fun v4 v5 v7 n' g1 => ?_) l.length 0 l.length _ _ _ _ (by omega) (Nat.zero_le _) hple (Nat.le_refl _) (by (try dsimp only); omega)
  (try simp only [outOf, thenW_ret, thenW_exit, roundW, reduceIte])
  repeat (first
    | refine st_ rfl ?_
    | ((first | refine W.regG ?_ | refine WoR.go ?_); generalize e : goR .. = r; simp (disch := omega) [hX, hg, ha, hnl, hx, hx3, hx4, hpl, hpl2, hp2, hxt, bne_self_eq_false, c28, c53] at e; replace e : some _ = _ := e; subst e; (try dsimp only [goW]))
    | (refine Wc.mkG 53 c53 (by kernel_rfl) rfl ?_; generalize e : entryC .. = r; simp (disch := omega) [c53] at e; subst e)
    | ((first | (refine W.ret ?_; (try simp only [outOf, thenW_ret, thenW_exit, roundW, reduceIte]); refine endW.of (.inl rfl) rfl ?_) | refine endW.of (.inl rfl) rfl ?_ | refine endW.of (.inr rfl) rfl ?_); generalize e : endsC .. = r; simp (disch := omega) [hX, hg, ha, hnl, hx, hx3, hx4, hpl, hpl2, hp2, hxt, bne_self_eq_false, c28, c53] at e; subst e; (first | refine ⟨rfl, ?_⟩ | (refine hk _ ?_; omega))))

theorem bs_end {a va : Nat} {l : List (List UInt8)} {t : List UInt8} (hnl : l.length < 10000) {pos : Nat} (hpos : ∀ k x, l[k]? = some x → bytesLt x t = decide (k < pos)) {h : CHeap} (hf : Fit h) (hg : getEnt h.ents a = some (.row va (l.map .str))) (ha : a < h.next) (hple : pos ≤ l.length) (hx : l.length ≤ pos) {K : CVal → CHeap → Prop} (hk : ∀ n', h.next ≤ n' → K (.tup [.int .i64 (pos : Int), .bool false]) ⟨h.ents, n', h.tys⟩) : Wc tree.getF 28 [.ref a va 1 0 l.length, .str t] h K := by
  obtain ⟨hu, hut, hX⟩ := fx4 hf
  have hpl : (l.length : Int) ≤ (pos : Int) := by omega
  refine Wc.mkG 28 c28 (by kernel_rfl) rfl ?_
  generalize e : entryC .. = r
  simp (disch := omega) [c28] at e
  subst e
  repeat (first
    | refine st_ rfl ?_
    | ((first | refine W.regG ?_ | refine WoR.go ?_); generalize e : goR .. = r; simp (disch := omega) [hX, hg, ha, c28] at e; replace e : some _ = _ := e; subst e; (try dsimp only [goW])))
  refine bs_loop hnl hpos hf hg ha (fun v4 v5 v7 n' g1 => ?_) l.length 0 l.length _ _ _ _ (by omega) (Nat.zero_le _) hple (Nat.le_refl _) (by (try dsimp only); omega)
  (try simp only [outOf, thenW_ret, thenW_exit, roundW, reduceIte])
  repeat (first
    | refine st_ rfl ?_
    | ((first | refine W.regG ?_ | refine WoR.go ?_); generalize e : goR .. = r; simp (disch := omega) [hX, hg, ha, hnl, hpl, bne_self_eq_false, c28, c53] at e; replace e : some _ = _ := e; subst e; (try dsimp only [goW]))
    | (refine Wc.mkG 53 c53 (by kernel_rfl) rfl ?_; generalize e : entryC .. = r; simp (disch := omega) [c53] at e; subst e)
    | ((first | (refine W.ret ?_; (try simp only [outOf, thenW_ret, thenW_exit, roundW, reduceIte]); refine endW.of (.inl rfl) rfl ?_) | refine endW.of (.inl rfl) rfl ?_ | refine endW.of (.inr rfl) rfl ?_); generalize e : endsC .. = r; simp (disch := omega) [hX, hg, ha, hnl, hpl, bne_self_eq_false, c28, c53] at e; subst e; (first | refine ⟨rfl, ?_⟩ | (refine hk _ ?_; omega))))
end Go.Proofs.YthklcbclodeilaaGreatDoor.IrT
namespace Go.Proofs.YthklcbclodeilaaGreatDoor.IrT
open Go Go.CI
set_option maxRecDepth 100000
set_option maxHeartbeats 4000000
set_option linter.unusedVariables false
set_option linter.unusedSimpArgs false
attribute [local irreducible] W Wo Wc WoR

variable {h : CHeap} {K : CVal → CHeap → Prop}

theorem in38_nil (x : CVal) (t : Tag) (hb : x.bare = x) (hf : Fit h) (hk : ∀ n', h.next < n' → K (.ref h.next 0 1 0 1) ⟨(h.next, .row 0 [x]) :: h.ents, n', h.tys⟩) : Wc tree.getF 29 [.nils, .int .i64 0, .imm t 1 [x]] h K := by
  have hN := getEnt_under hf.1 (Nat.le_refl _)
  have hN2 := lookupN_under hf.2 (Nat.le_refl _)
  refine Wc.primM (f := 29) (p := pInsert 1) (by kernel_rfl) ?_
  generalize e : pInsert 1 _ _ = r
  simp (disch := omega) [pInsert, hN, hN2, hb, -CVal.bare] at e
  subst e
  exact hk _ (by (try dsimp only); omega)
theorem in38_ref {a va : Nat} {es : List CVal} (i : Nat) (hi : i ≤ es.length) (hel : es.length < 100000) (x : CVal) (t : Tag) (hb : x.bare = x) (hf : Fit h) (hg : getEnt h.ents a = some (.row va es)) (hty : lookupN h.tys a = none) (hk : ∀ n', h.next ≤ n' → K (.ref a (va + 1) 1 0 (es.length + 1)) ⟨setEnt h.ents a (.row (va + 1) (es.take i ++ x :: es.drop i)), n', h.tys⟩) : Wc tree.getF 29 [.ref a va 1 0 es.length, .int .i64 (i : Int), .imm t 1 [x]] h K := by
  have hi2 : (i : Int).toNat = i := by omega
  refine Wc.primM (f := 29) (p := pInsert 1) (by kernel_rfl) ?_
  generalize e : pInsert 1 _ _ = r
  rcases Nat.lt_or_ge i es.length with g | g
  · have g2 : i ≠ es.length := by omega
    have htk : List.take es.length es = es := List.take_length
    simp (disch := omega) [pInsert, hg, hty, hi2, g, g2, htk, hb, -CVal.bare] at e
    subst e
    exact hk _ (by (try dsimp only); omega)
  · have g2 : i = es.length := by omega
    subst g2
    have htk : List.take es.length es = es := List.take_length
    simp (disch := omega) [pInsert, hg, hty, hi2, htk, hb, -CVal.bare] at e
    subst e
    have := hk (h.next + 1) (by omega)
    rw [List.take_length, List.drop_length] at this
    exact this

theorem in39_nil (x : CVal) (t : Tag) (hb : x.bare = x) (hf : Fit h) (hk : ∀ n', h.next < n' → K (.ref h.next 0 1 0 1) ⟨(h.next, .row 0 [x]) :: h.ents, n', h.tys⟩) : Wc tree.getF 30 [.nils, .int .i64 0, .imm t 1 [x]] h K := by
  have hN := getEnt_under hf.1 (Nat.le_refl _)
  have hN2 := lookupN_under hf.2 (Nat.le_refl _)
  refine Wc.primM (f := 30) (p := pInsert 1) (by kernel_rfl) ?_
  generalize e : pInsert 1 _ _ = r
  simp (disch := omega) [pInsert, hN, hN2, hb, -CVal.bare] at e
  subst e
  exact hk _ (by (try dsimp only); omega)
theorem in39_ref {a va : Nat} {es : List CVal} (i : Nat) (hi : i ≤ es.length) (hel : es.length < 100000) (x : CVal) (t : Tag) (hb : x.bare = x) (hf : Fit h) (hg : getEnt h.ents a = some (.row va es)) (hty : lookupN h.tys a = none) (hk : ∀ n', h.next ≤ n' → K (.ref a (va + 1) 1 0 (es.length + 1)) ⟨setEnt h.ents a (.row (va + 1) (es.take i ++ x :: es.drop i)), n', h.tys⟩) : Wc tree.getF 30 [.ref a va 1 0 es.length, .int .i64 (i : Int), .imm t 1 [x]] h K := by
  have hi2 : (i : Int).toNat = i := by omega
  refine Wc.primM (f := 30) (p := pInsert 1) (by kernel_rfl) ?_
  generalize e : pInsert 1 _ _ = r
  rcases Nat.lt_or_ge i es.length with g | g
  · have g2 : i ≠ es.length := by omega
    have htk : List.take es.length es = es := List.take_length
    simp (disch := omega) [pInsert, hg, hty, hi2, g, g2, htk, hb, -CVal.bare] at e
    subst e
    exact hk _ (by (try dsimp only); omega)
  · have g2 : i = es.length := by omega
    subst g2
    have htk : List.take es.length es = es := List.take_length
    simp (disch := omega) [pInsert, hg, hty, hi2, htk, hb, -CVal.bare] at e
    subst e
    have := hk (h.next + 1) (by omega)
    rw [List.take_length, List.drop_length] at this
    exact this

theorem in40_nil (x : CVal) (t : Tag) (hb : x.bare = x) (hf : Fit h) (hk : ∀ n', h.next < n' → K (.ref h.next 0 3 0 1) ⟨(h.next, .row 0 [x]) :: h.ents, n', h.tys⟩) : Wc tree.getF 31 [.nils, .int .i64 0, .imm t 3 [x]] h K := by
  have hN := getEnt_under hf.1 (Nat.le_refl _)
  have hN2 := lookupN_under hf.2 (Nat.le_refl _)
  refine Wc.primM (f := 31) (p := pInsert 3) (by kernel_rfl) ?_
  generalize e : pInsert 3 _ _ = r
  simp (disch := omega) [pInsert, hN, hN2, hb, -CVal.bare] at e
  subst e
  exact hk _ (by (try dsimp only); omega)
theorem in40_ref {a va : Nat} {es : List CVal} (i : Nat) (hi : i ≤ es.length) (hel : es.length < 100000) (x : CVal) (t : Tag) (hb : x.bare = x) (hf : Fit h) (hg : getEnt h.ents a = some (.row va es)) (hty : lookupN h.tys a = none) (hk : ∀ n', h.next ≤ n' → K (.ref a (va + 1) 3 0 (es.length + 1)) ⟨setEnt h.ents a (.row (va + 1) (es.take i ++ x :: es.drop i)), n', h.tys⟩) : Wc tree.getF 31 [.ref a va 3 0 es.length, .int .i64 (i : Int), .imm t 3 [x]] h K := by
  have hi2 : (i : Int).toNat = i := by omega
  refine Wc.primM (f := 31) (p := pInsert 3) (by kernel_rfl) ?_
  generalize e : pInsert 3 _ _ = r
  rcases Nat.lt_or_ge i es.length with g | g
  · have g2 : i ≠ es.length := by omega
    have htk : List.take es.length es = es := List.take_length
    simp (disch := omega) [pInsert, hg, hty, hi2, g, g2, htk, hb, -CVal.bare] at e
    subst e
    exact hk _ (by (try dsimp only); omega)
  · have g2 : i = es.length := by omega
    subst g2
    have htk : List.take es.length es = es := List.take_length
    simp (disch := omega) [pInsert, hg, hty, hi2, htk, hb, -CVal.bare] at e
    subst e
    have := hk (h.next + 1) (by omega)
    rw [List.take_length, List.drop_length] at this
    exact this
end Go.Proofs.YthklcbclodeilaaGreatDoor.IrT
namespace Go.Proofs.YthklcbclodeilaaGreatDoor.IrT
open Go Go.CI
set_option maxRecDepth 100000
set_option maxHeartbeats 4000000
set_option linter.unusedVariables false
set_option linter.unusedSimpArgs false
attribute [local irreducible] W Wo Wc WoR

abbrev insC : CCode := (.seq (.region [.g (.fieldAddr 0 (.var 1)), .l 0, .v 5, .v 2, .g (.idxAddr 1 (.loc 0) (.k 0)), .l 0, .g (.lit .imm false [(.str [])] 1 [(0, (.loc 0))]), .g (.call false 29 [(.loc 5), (.loc 4), (.loc 0)]), .g (.fieldAddr 0 (.var 1)), .g (.store 1 (.loc 0) (.loc 1))] [] [] []) (.seq (.region [.g (.fieldAddr 1 (.var 1)), .l 0, .v 5, .g (.lit .imm false [(.bool false)] 1 [(0, (.b false))]), .g (.call false 30 [(.loc 2), (.loc 1), (.loc 0)]), .g (.fieldAddr 1 (.var 1)), .g (.store 1 (.loc 0) (.loc 1))] [] [] []) (.region [.g (.fieldAddr 2 (.var 1)), .l 0, .v 5, .g (.build [.nils, .nils, .nils] []), .g (.lit .imm true [.nils, .nils, .nils] 1 [(0, (.loc 0))]), .g (.call false 31 [(.loc 3), (.loc 2), (.loc 0)]), .g (.fieldAddr 2 (.var 1)), .g (.store 1 (.loc 0) (.loc 1))] [] [] [])))
abbrev swC : CCode := (.block 0 (.seq (.region [.g (.fieldAddr 1 (.var 1)), .l 0, .v 5, .g (.idxAddr 1 (.loc 1) (.loc 0)), .l 0, .m (.loc 0)] [(6, 5)] [] []) (.cond (.var 6) .skip (.seq (.region [.v 2, .g (.len false (.loc 0)), .x .eql 0 (.k 1), .m (.loc 0)] [(7, 3)] [] []) (.cond (.var 7) (.region [.g (.fieldAddr 1 (.var 1)), .l 0, .v 5, .g (.fieldAddr 2 (.var 1)), .l 0, .v 5, .g (.build [.nils, .nils, .nils] []), .g (.idxAddr 1 (.loc 5) (.loc 4)), .g (.store 1 (.loc 0) (.b true)), .g (.idxAddr 3 (.loc 4) (.loc 3)), .g (.store 3 (.loc 0) (.loc 3))] [] [(4, 0, 1)] []) (.region [.g (.fieldAddr 2 (.var 1)), .l 0, .v 5, .g (.fieldAddr 2 (.var 1)), .l 0, .v 5, .g (.idxAddr 3 (.loc 1) (.loc 0)), .g (.load (some 3) (.loc 0)), .v 2, .g (.slc 1 (.loc 0) (some (.k 1)) none), .g (.call false 14 [(.loc 2), (.loc 0)]), .g (.idxAddr 3 (.loc 9) (.loc 8)), .g (.store 3 (.loc 0) (.loc 1))] [] [(1, 0, 1)] []))))))
theorem ins_ref {a va b vb c vc bx bo : Nat} {ns ws ss : List CVal} {x : List UInt8} {ps : List (List UInt8)} {p : Nat} (hp : p ≤ ns.length) (hnl : ns.length < 10000) (hw : ws.length = ns.length) (hs : ss.length = ns.length) {h : CHeap} (hf : Fit h)
    (hga : getEnt h.ents a = some (.row va ns)) (hgb : getEnt h.ents b = some (.row vb ws)) (hgc : getEnt h.ents c = some (.row vc ss)) (hgx : getEnt h.ents bx = some (.cells [.ref a va 1 0 ns.length, .ref b vb 1 0 ws.length, .ref c vc 3 0 ss.length]))
    (hab : a ≠ b) (hac : a ≠ c) (hbc : b ≠ c) (hax : a ≠ bx) (hbx : b ≠ bx) (hcx : c ≠ bx) (hta : lookupN h.tys a = none) (htb : lookupN h.tys b = none) (htc : lookupN h.tys c = none) (v0 v3 v4 v6 v7 : CVal) {Q : CExit → CSt → Prop}
    (hk : ∀ n', h.next ≤ n' → Q .normal ⟨[v0, .ptr bx 31457283 0, .imm .none 1 ((x :: ps).map .str), v3, v4, .int .i64 (p : Int), v6, v7, .ptr bo 31457283 0], ⟨setEnt (setEnt (setEnt (setEnt (setEnt (setEnt h.ents a (.row (va + 1) (ns.take p ++ .str x :: ns.drop p))) bx (.cells [.ref a (va + 1) 1 0 (ns.length + 1), .ref b vb 1 0 ws.length, .ref c vc 3 0 ss.length])) b (.row (vb + 1) (ws.take p ++ .bool false :: ws.drop p))) bx (.cells [.ref a (va + 1) 1 0 (ns.length + 1), .ref b (vb + 1) 1 0 (ws.length + 1), .ref c vc 3 0 ss.length])) c (.row (vc + 1) (ss.take p ++ .agg [.nils, .nils, .nils] :: ss.drop p))) bx (.cells [.ref a (va + 1) 1 0 (ns.length + 1), .ref b (vb + 1) 1 0 (ws.length + 1), .ref c (vc + 1) 3 0 (ss.length + 1)]), n', h.tys⟩, []⟩) : W tree.getF insC ⟨[v0, .ptr bx 31457283 0, .imm .none 1 ((x :: ps).map .str), v3, v4, .int .i64 (p : Int), v6, v7, .ptr bo 31457283 0], h, []⟩ Q := by
  obtain ⟨hu, hut, hX⟩ := fx4 hf
  have N1 := fun (y : CObj) => (getEnt_setEnt_ne (x := y) (l := h.ents) (m := a) (n := bx) (by omega)).trans hgx
  have N2 := fun (y z : CObj) => sy_getEnt_setEnt (x := z) (N1 y)
  have N3 := fun (y z w u : CObj) => sy_getEnt_setEnt (x := u) ((getEnt_setEnt_ne (x := w) (m := b) (n := bx) (by omega)).trans (N2 y z))
  repeat (first
    | refine st_ rfl ?_
    | ((first | refine W.regG ?_ | refine WoR.go ?_); generalize e : goR .. = r; simp (disch := omega) [hX, hga, hgb, hgc, hgx, N1, N2, N3, getEnt_setEnt_ne, sy_getEnt_setEnt, hta, htb, htc] at e; replace e : some _ = _ := e; subst e; (try dsimp only [goW]))
    | (refine in38_ref (es := ns) p (by omega) (by omega) (.str x) _ rfl ⟨by (repeat (refine Under.set ?_)); exact hu.le (by (try dsimp only); omega), ut_⟩ ?_ hta fun _ g => ⟨rfl, ?_⟩; (focus (simp (disch := omega) [getEnt_setEnt_ne, hga, hgb, hgc])); (try dsimp only at g))
    | (refine in39_ref (es := ws) p (by omega) (by omega) (.bool false) _ rfl ⟨by (repeat (refine Under.set ?_)); exact hu.le (by (try dsimp only); omega), ut_⟩ ?_ htb fun _ g => ⟨rfl, ?_⟩; (focus (simp (disch := omega) [getEnt_setEnt_ne, hga, hgb, hgc])); (try dsimp only at g))
    | (refine in40_ref (es := ss) p (by omega) (by omega) (.agg [.nils, .nils, .nils]) _ rfl ⟨by (repeat (refine Under.set ?_)); exact hu.le (by (try dsimp only); omega), ut_⟩ ?_ htc fun _ g => ⟨rfl, ?_⟩; (focus (simp (disch := omega) [getEnt_setEnt_ne, hga, hgb, hgc])); (try dsimp only at g)))
  all_goals (refine hk _ ?_; ((try dsimp only); omega))
end Go.Proofs.YthklcbclodeilaaGreatDoor.IrT
namespace Go.Proofs.YthklcbclodeilaaGreatDoor.IrT
open Go Go.CI
set_option maxRecDepth 100000
set_option maxHeartbeats 4000000
set_option linter.unusedVariables false
set_option linter.unusedSimpArgs false
attribute [local irreducible] W Wo Wc WoR

def NR (v : CVal) : Prop := v = .nils ∨ ∃ i va k n, v = .ref i va k 0 n
theorem NR.strip {v : CVal} (h : NR v) : v.strip = v := by rcases h with rfl | ⟨_, _, _, _, rfl⟩ <;> rfl
theorem sw_whole {a va b vb c vc bx bo : Nat} {ns ws ss : List CVal} {x : List UInt8} {ps : List (List UInt8)} {p : Nat} (hp : p < ns.length) (hnl : ns.length < 10000) (hw : ws.length = ns.length) (hs : ss.length = ns.length) {h : CHeap} (hf : Fit h)
    (hga : getEnt h.ents a = some (.row va ns)) (hgb : getEnt h.ents b = some (.row vb ws)) (hgc : getEnt h.ents c = some (.row vc ss)) (hgx : getEnt h.ents bx = some (.cells [.ref a va 1 0 ns.length, .ref b vb 1 0 ws.length, .ref c vc 3 0 ss.length]))
    (hab : a ≠ b) (hac : a ≠ c) (hbc : b ≠ c) (hax : a ≠ bx) (hbx : b ≠ bx) (hcx : c ≠ bx) (v0 v3 v4 v6 v7 : CVal) {Q : CExit → CSt → Prop} (hwp : nth ws p = .bool true)
    (hk : ∀ v6 v7 n', h.next ≤ n' → Q .normal ⟨[v0, .ptr bx 31457283 0, .imm .none 1 ((x :: ps).map .str), v3, v4, .int .i64 (p : Int), v6, v7, .ptr bo 31457283 0], ⟨h.ents, n', h.tys⟩, []⟩) : W tree.getF swC ⟨[v0, .ptr bx 31457283 0, .imm .none 1 ((x :: ps).map .str), v3, v4, .int .i64 (p : Int), v6, v7, .ptr bo 31457283 0], h, []⟩ Q := by
  obtain ⟨hu, hut, hX⟩ := fx4 hf
  have hpw : p < ws.length := by omega
  have hps : p < ss.length := by omega
  have hp2 : (p : Int).toNat = p := by omega
  have hp3 : (p : Int) < (ns.length : Int) := by omega
  repeat (first
    | refine st_ rfl ?_
    | ((first | refine W.regG ?_ | refine WoR.go ?_); generalize e : goR .. = r; simp (disch := omega) [hX, hga, hgb, hgc, hgx, hab, hac, hbc, hax, hbx, hcx, hw, hs, hp, hpw, hps, hp2, hp3, hwp, getEnt_setEnt_ne, setEnt_same hgx, sy_getEnt_setEnt hgb, sy_getEnt_setEnt hgc] at e; replace e : some _ = _ := e; subst e; (try dsimp only [goW])))
  all_goals ((try simp only [outOf, thenW_ret, thenW_exit, roundW, reduceIte]); refine hk _ _ _ ?_; ((try dsimp only); omega))
theorem sw_one {a va b vb c vc bx bo : Nat} {ns ws ss : List CVal} {x : List UInt8} {ps : List (List UInt8)} {p : Nat} (hp : p < ns.length) (hnl : ns.length < 10000) (hw : ws.length = ns.length) (hs : ss.length = ns.length) {h : CHeap} (hf : Fit h)
    (hga : getEnt h.ents a = some (.row va ns)) (hgb : getEnt h.ents b = some (.row vb ws)) (hgc : getEnt h.ents c = some (.row vc ss)) (hgx : getEnt h.ents bx = some (.cells [.ref a va 1 0 ns.length, .ref b vb 1 0 ws.length, .ref c vc 3 0 ss.length]))
    (hab : a ≠ b) (hac : a ≠ c) (hbc : b ≠ c) (hax : a ≠ bx) (hbx : b ≠ bx) (hcx : c ≠ bx) (v0 v3 v4 v6 v7 : CVal) {Q : CExit → CSt → Prop} (hwp : nth ws p = .bool false) {u0 u1 u2 : CVal} (hsp : nth ss p = .agg [u0, u1, u2]) (hq : ps = [])
    (hk : ∀ v6 v7 n', h.next ≤ n' → Q .normal ⟨[v0, .ptr bx 31457283 0, .imm .none 1 ((x :: ps).map .str), v3, v4, .int .i64 (p : Int), v6, v7, .ptr bo 31457283 0], ⟨setEnt (setEnt h.ents b (.row vb (setNth ws p (.bool true)))) c (.row vc (setNth ss p (.agg [.nils, .nils, .nils]))), n', h.tys⟩, []⟩) : W tree.getF swC ⟨[v0, .ptr bx 31457283 0, .imm .none 1 ((x :: ps).map .str), v3, v4, .int .i64 (p : Int), v6, v7, .ptr bo 31457283 0], h, []⟩ Q := by
  subst hq
  obtain ⟨hu, hut, hX⟩ := fx4 hf
  have hpw : p < ws.length := by omega
  have hps : p < ss.length := by omega
  have hp2 : (p : Int).toNat = p := by omega
  have hp3 : (p : Int) < (ns.length : Int) := by omega
  repeat (first
    | refine st_ rfl ?_
    | ((first | refine W.regG ?_ | refine WoR.go ?_); generalize e : goR .. = r; simp (disch := omega) [hX, hga, hgb, hgc, hgx, hab, hac, hbc, hax, hbx, hcx, hw, hs, hp, hpw, hps, hp2, hp3, hwp, getEnt_setEnt_ne, setEnt_same hgx, sy_getEnt_setEnt hgb, sy_getEnt_setEnt hgc, hsp] at e; replace e : some _ = _ := e; subst e; (try dsimp only [goW])))
  all_goals ((try simp only [outOf, thenW_ret, thenW_exit, roundW, reduceIte]); refine hk _ _ _ ?_; ((try dsimp only); omega))
theorem sw_rec {a va b vb c vc bx bo : Nat} {ns ws ss : List CVal} {x : List UInt8} {ps : List (List UInt8)} {p : Nat} (hp : p < ns.length) (hnl : ns.length < 10000) (hw : ws.length = ns.length) (hs : ss.length = ns.length) {h : CHeap} (hf : Fit h)
    (hga : getEnt h.ents a = some (.row va ns)) (hgb : getEnt h.ents b = some (.row vb ws)) (hgc : getEnt h.ents c = some (.row vc ss)) (hgx : getEnt h.ents bx = some (.cells [.ref a va 1 0 ns.length, .ref b vb 1 0 ws.length, .ref c vc 3 0 ss.length]))
    (hab : a ≠ b) (hac : a ≠ c) (hbc : b ≠ c) (hax : a ≠ bx) (hbx : b ≠ bx) (hcx : c ≠ bx) (v0 v3 v4 v6 v7 : CVal) {Q : CExit → CSt → Prop} (hwp : nth ws p = .bool false) {u0 u1 u2 : CVal} (hsp : nth ss p = .agg [u0, u1, u2]) (hu0 : NR u0) (hu1 : NR u1) (hu2 : NR u2) (hq : ps ≠ []) (hpl : ps.length < 100) {P : CVal → CHeap → Prop}
    (hr : ∀ n1 K', h.next ≤ n1 → (∀ w0 w1 w2 h', Fit h' → n1 ≤ h'.next → getEnt h'.ents c = some (.row vc ss) → getEnt h'.ents bx = some (.cells [.ref a va 1 0 ns.length, .ref b vb 1 0 ws.length, .ref c vc 3 0 ss.length]) → NR w0 → NR w1 → NR w2 → P (.agg [w0, w1, w2]) h' → K' (.agg [w0, w1, w2]) h') → Wc tree.getF 14 [.agg [u0, u1, u2], .imm .none 1 (ps.map .str)] ⟨h.ents, n1, h.tys⟩ K')
    (hk : ∀ v6 v7 v' h' n', Fit h' → h'.next ≤ n' → P v' h' → Q .normal ⟨[v0, .ptr bx 31457283 0, .imm .none 1 ((x :: ps).map .str), v3, v4, .int .i64 (p : Int), v6, v7, .ptr bo 31457283 0], ⟨setEnt h'.ents c (.row vc (setNth ss p v')), n', h'.tys⟩, []⟩) : W tree.getF swC ⟨[v0, .ptr bx 31457283 0, .imm .none 1 ((x :: ps).map .str), v3, v4, .int .i64 (p : Int), v6, v7, .ptr bo 31457283 0], h, []⟩ Q := by
  obtain ⟨hu, hut, hX⟩ := fx4 hf
  have hpw : p < ws.length := by omega
  have hps : p < ss.length := by omega
  have hp2 : (p : Int).toNat = p := by omega
  have hp3 : (p : Int) < (ns.length : Int) := by omega
  have hp7 : ((ps.length : Int) + 1 == 1) = false := by cases ps with
    | nil => exact absurd rfl hq
    | cons _ _ => simp; omega
  have htk : List.take ps.length (ps.map CVal.str) = ps.map .str := List.take_of_length_le (by simp)
  rcases hu0 with rfl | ⟨i0, va0, k0, n0, rfl⟩ <;> rcases hu1 with rfl | ⟨i1, va1, k1, n1, rfl⟩ <;> rcases hu2 with rfl | ⟨i2, va2, k2, n2, rfl⟩
  all_goals (
   repeat (first
     | refine st_ rfl ?_
     | ((first | refine W.regG ?_ | refine WoR.go ?_); generalize e : goR .. = r; simp (disch := omega) [hX, hga, hgb, hgc, hgx, hab, hac, hbc, hax, hbx, hcx, hw, hs, hp, hpw, hps, hp2, hp3, hwp, getEnt_setEnt_ne, setEnt_same hgx, sy_getEnt_setEnt hgb, sy_getEnt_setEnt hgc, hsp, hp7, hpl, htk] at e; replace e : some _ = _ := e; subst e; (try dsimp only [goW])))
   refine hr _ _ ?_ fun w0 w1 w2 h' hf' g' gc' gx' hn0 hn1 hn2 hP => ?_
   focus ((try dsimp only); omega)
   try dsimp only at g'
   have e0 := hn0.strip
   have e1 := hn1.strip
   have e2 := hn2.strip
   simp only [CVal.strip] at e0 e1 e2
   obtain ⟨hu', hut', hX'⟩ := fx4 hf'
   refine ⟨rfl, ?_⟩
   repeat (first
     | refine st_ rfl ?_
     | ((first | refine W.regG ?_ | refine WoR.go ?_); generalize e : goR .. = r; simp (disch := omega) [e0, e1, e2, hX', gc', gx', hgc, hgx, hcx, hw, hs, hps, hp2, hp3, hsp, getEnt_setEnt_ne, setEnt_same gx', sy_getEnt_setEnt gc'] at e; replace e : some _ = _ := e; subst e; (try dsimp only [goW])))
   (try simp only [outOf, thenW_ret, thenW_exit, roundW, reduceIte])
   refine hk _ _ _ _ _ hf' ?_ hP; ((try dsimp only); omega))
end Go.Proofs.YthklcbclodeilaaGreatDoor.IrT
namespace Go.Proofs.YthklcbclodeilaaGreatDoor.IrT
open Go Go.CI
set_option maxRecDepth 100000
set_option maxHeartbeats 4000000
set_option linter.unusedVariables false
set_option linter.unusedSimpArgs false
attribute [local irreducible] W Wo Wc WoR

abbrev adT : CCode := (.seq (.region [.g (.load (some 3) (.var 1)), .g (.store 3 (.var 8) (.loc 0))] [] [] []) .ret)
theorem ad_end {bx bo n0 : Nat} {r0 r1 r2 v0 v2 v3 v4 v5 v6 v7 : CVal} {hh : CHeap} (hf : Fit hh) (h0 : NR r0) (h1 : NR r1) (h2 : NR r2) (hgx : getEnt hh.ents bx = some (.cells [r0, r1, r2])) (hgo : getEnt hh.ents bo = some (.cells [.nils, .nils, .nils])) (hob : bo ≠ bx) (hun : UnderT hh.tys n0) (hn0 : n0 ≤ hh.next) {K : CVal → CHeap → Prop}
    (hk : ∀ n', hh.next ≤ n' → K (.agg [r0, r1, r2]) ⟨dropCells (setEnt hh.ents bo (.cells [r0, r1, r2])) n0, n', hh.tys⟩) : thenW tree.getF adT (endW c14 n0 K) .normal ⟨[v0, .ptr bx 31457283 0, v2, v3, v4, v5, v6, v7, .ptr bo 31457283 0], hh, []⟩ := by
  obtain ⟨hu, hut, hX⟩ := fx4 hf
  have e0 := h0.strip
  have e1 := h1.strip
  have e2 := h2.strip
  simp only [CVal.strip] at e0 e1 e2
  show W tree.getF adT _ _
  repeat (first
    | refine st_ rfl ?_
    | ((first | refine W.regG ?_ | refine WoR.go ?_); generalize e : goR .. = r; simp (disch := omega) [hX, hgx, hgo, hob, hob.symm, e0, e1, e2, sy_getEnt_setEnt hgo, getEnt_setEnt_ne, c14] at e; replace e : some _ = _ := e; subst e; (try dsimp only [goW])))
  (first | (refine W.ret ?_; (try simp only [outOf, thenW_ret, thenW_exit, roundW, reduceIte]); refine endW.of (.inl rfl) rfl ?_) | refine endW.of (.inl rfl) rfl ?_ | refine endW.of (.inr rfl) rfl ?_); generalize e : endsC .. = r; simp (disch := omega) [hX, hgx, hgo, e0, e1, e2, sy_getEnt_setEnt hgo, c14] at e
  subst e
  refine hk _ ?_; (try dsimp only); omega
theorem dc_lt : ∀ {l : List (Nat × CObj)} {m q : Nat}, q < m → getEnt (dropCells l m) q = getEnt l q
  | [], _, _, _ => rfl
  | (i, o) :: r, m, q, h => by
    simp only [dropCells]
    split
    · rename_i hi
      have h1 : (i == q) = false := by simp; omega
      cases o <;> simp [getEnt, h1, dc_lt h] <;> (intro h9; omega)
    · rfl
theorem dc_row : ∀ {l : List (Nat × CObj)} {m q va : Nat} {es : List CVal}, getEnt l q = some (.row va es) → getEnt (dropCells l m) q = some (.row va es)
  | [], _, _, _, _, h => by cases h
  | (i, o) :: r, m, q, va, es, h => by
    simp only [dropCells]
    split
    · rename_i hi
      by_cases hq : i = q
      · subst hq
        simp [getEnt] at h
        subst h
        simp [getEnt]
      · have h1 : (i == q) = false := by simp [hq]
        have h2 : getEnt r q = some (.row va es) := by simpa [getEnt, h1, hq] using h
        cases o <;> simp [getEnt, h1, hq, dc_row h2]
    · exact h
theorem dc_under : ∀ {l : List (Nat × CObj)} {m n : Nat}, Under l n → Under (dropCells l m) n
  | [], _, _, h => h
  | (i, o) :: r, m, n, h => by
    have hr : Under r n := fun x hx => h x (List.mem_cons_of_mem _ hx)
    have h0 : i < n := h (i, o) (by simp)
    simp only [dropCells]
    split
    · cases o <;> first | exact dc_under hr | exact Under.cons h0 (dc_under hr)
    · exact h
theorem in_under : ∀ {l : List (Nat × CObj)} {n q : Nat} {o : CObj}, Under l n → getEnt l q = some o → q < n := by
  intro l n q o h hg
  rcases Nat.lt_or_ge q n with g | g
  · exact g
  · rw [getEnt_under h g] at hg; cases hg
/-- What a call of add leaves: rows by their numbers. -/
structure RWS (n0 : Nat) (l l' : List (Nat × CObj)) : Prop where
  lt : ∀ q, q < n0 → getEnt l' q = getEnt l q
  row : ∀ q va es, getEnt l q = some (.row va es) → getEnt l' q = some (.row va es)
theorem RWS.end {n0 bo : Nat} {l : List (Nat × CObj)} {x : CObj} (hb : n0 ≤ bo) (hr : ∀ va es, getEnt l bo ≠ some (.row va es)) : RWS n0 l (dropCells (setEnt l bo x) n0) :=
  ⟨fun q h => by rw [dc_lt h, getEnt_setEnt_ne (by omega)], fun q va es h => by
    have hq : q ≠ bo := fun e => hr va es (by rw [← e]; exact h)
    exact dc_row (by rw [getEnt_setEnt_ne hq]; exact h)⟩
end Go.Proofs.YthklcbclodeilaaGreatDoor.IrT
namespace Go.Proofs.YthklcbclodeilaaGreatDoor.IrT
open Go Go.CI
set_option maxRecDepth 100000
set_option maxHeartbeats 4000000
set_option linter.unusedVariables false
set_option linter.unusedSimpArgs false
attribute [local irreducible] W Wo Wc WoR

theorem adS_whole {a va b vb c vc bx bo : Nat} {ns ws ss : List CVal} {x : List UInt8} {ps : List (List UInt8)} {p : Nat} (hp : p < ns.length) (hnl : ns.length < 10000) (hw : ws.length = ns.length) (hs : ss.length = ns.length) {h : CHeap} (hf : Fit h)
    (hga : getEnt h.ents a = some (.row va ns)) (hgb : getEnt h.ents b = some (.row vb ws)) (hgc : getEnt h.ents c = some (.row vc ss)) (hgx : getEnt h.ents bx = some (.cells [.ref a va 1 0 ns.length, .ref b vb 1 0 ws.length, .ref c vc 3 0 ss.length]))
    (hab : a ≠ b) (hac : a ≠ c) (hbc : b ≠ c) (hax : a ≠ bx) (hbx : b ≠ bx) (hcx : c ≠ bx) {v0 v3 v4 v6 v7 : CVal} (hgo : getEnt h.ents bo = some (.cells [.nils, .nils, .nils])) (hob : bo ≠ bx) {n0 : Nat} (hob0 : n0 ≤ bo) (hun : UnderT h.tys n0) (hn0 : n0 ≤ h.next) {K : CVal → CHeap → Prop} (hwp : nth ws p = .bool true)
    (hk : ∀ l' n', h.next ≤ n' → Under l' n' → RWS n0 (h.ents) l' → K (.agg [.ref a va 1 0 ns.length, .ref b vb 1 0 ws.length, .ref c vc 3 0 ss.length]) ⟨l', n', h.tys⟩) : W tree.getF swC ⟨[v0, .ptr bx 31457283 0, .imm .none 1 ((x :: ps).map .str), v3, v4, .int .i64 (p : Int), v6, v7, .ptr bo 31457283 0], h, []⟩ (fun x st' => thenW tree.getF adT (endW c14 n0 K) x st') := by
  refine sw_whole hp hnl hw hs hf hga hgb hgc hgx hab hac hbc hax hbx hcx v0 v3 v4 v6 v7 hwp fun v6 v7 n' g => ?_
  have hu1 : Under (h.ents) n' := hf.1.le g
  have hba : bo ≠ a := fun e => by rw [e, hga] at hgo; cases hgo
  have hbb : bo ≠ b := fun e => by rw [e, hgb] at hgo; cases hgo
  have hbc2 : bo ≠ c := fun e => by rw [e, hgc] at hgo; cases hgo
  have hgo2 : getEnt (h.ents) bo = some (.cells [.nils, .nils, .nils]) := by exact hgo
  have hgx2 : getEnt (h.ents) bx = some (.cells [.ref a va 1 0 ns.length, .ref b vb 1 0 ws.length, .ref c vc 3 0 ss.length]) := by exact hgx
  refine ad_end (hh := ⟨h.ents, n', h.tys⟩) ⟨hu1, hf.2.le g⟩ (.inr ⟨_, _, _, _, rfl⟩) (.inr ⟨_, _, _, _, rfl⟩) (.inr ⟨_, _, _, _, rfl⟩) hgx2 hgo2 hob hun (Nat.le_trans hn0 g) fun n'' g2 => ?_
  exact hk _ _ (Nat.le_trans g g2) (dc_under (hu1.le g2).set) (RWS.end hob0 fun va es h9 => by rw [hgo2] at h9; cases h9)

theorem adS_one {a va b vb c vc bx bo : Nat} {ns ws ss : List CVal} {x : List UInt8} {ps : List (List UInt8)} {p : Nat} (hp : p < ns.length) (hnl : ns.length < 10000) (hw : ws.length = ns.length) (hs : ss.length = ns.length) {h : CHeap} (hf : Fit h)
    (hga : getEnt h.ents a = some (.row va ns)) (hgb : getEnt h.ents b = some (.row vb ws)) (hgc : getEnt h.ents c = some (.row vc ss)) (hgx : getEnt h.ents bx = some (.cells [.ref a va 1 0 ns.length, .ref b vb 1 0 ws.length, .ref c vc 3 0 ss.length]))
    (hab : a ≠ b) (hac : a ≠ c) (hbc : b ≠ c) (hax : a ≠ bx) (hbx : b ≠ bx) (hcx : c ≠ bx) {v0 v3 v4 v6 v7 : CVal} (hgo : getEnt h.ents bo = some (.cells [.nils, .nils, .nils])) (hob : bo ≠ bx) {n0 : Nat} (hob0 : n0 ≤ bo) (hun : UnderT h.tys n0) (hn0 : n0 ≤ h.next) {K : CVal → CHeap → Prop} (hwp : nth ws p = .bool false) {u0 u1 u2 : CVal} (hsp : nth ss p = .agg [u0, u1, u2]) (hq : ps = [])
    (hk : ∀ l' n', h.next ≤ n' → Under l' n' → RWS n0 (setEnt (setEnt h.ents b (.row vb (setNth ws p (.bool true)))) c (.row vc (setNth ss p (.agg [.nils, .nils, .nils])))) l' → K (.agg [.ref a va 1 0 ns.length, .ref b vb 1 0 ws.length, .ref c vc 3 0 ss.length]) ⟨l', n', h.tys⟩) : W tree.getF swC ⟨[v0, .ptr bx 31457283 0, .imm .none 1 ((x :: ps).map .str), v3, v4, .int .i64 (p : Int), v6, v7, .ptr bo 31457283 0], h, []⟩ (fun x st' => thenW tree.getF adT (endW c14 n0 K) x st') := by
  refine sw_one hp hnl hw hs hf hga hgb hgc hgx hab hac hbc hax hbx hcx v0 v3 v4 v6 v7 hwp hsp hq fun v6 v7 n' g => ?_
  have hu1 : Under (setEnt (setEnt h.ents b (.row vb (setNth ws p (.bool true)))) c (.row vc (setNth ss p (.agg [.nils, .nils, .nils])))) n' := (hf.1.set.set).le g
  have hba : bo ≠ a := fun e => by rw [e, hga] at hgo; cases hgo
  have hbb : bo ≠ b := fun e => by rw [e, hgb] at hgo; cases hgo
  have hbc2 : bo ≠ c := fun e => by rw [e, hgc] at hgo; cases hgo
  have hgo2 : getEnt (setEnt (setEnt h.ents b (.row vb (setNth ws p (.bool true)))) c (.row vc (setNth ss p (.agg [.nils, .nils, .nils])))) bo = some (.cells [.nils, .nils, .nils]) := by rw [getEnt_setEnt_ne hbc2, getEnt_setEnt_ne hbb]; exact hgo
  have hgx2 : getEnt (setEnt (setEnt h.ents b (.row vb (setNth ws p (.bool true)))) c (.row vc (setNth ss p (.agg [.nils, .nils, .nils])))) bx = some (.cells [.ref a va 1 0 ns.length, .ref b vb 1 0 ws.length, .ref c vc 3 0 ss.length]) := by rw [getEnt_setEnt_ne (fun e => hcx e.symm), getEnt_setEnt_ne (fun e => hbx e.symm)]; exact hgx
  refine ad_end (hh := ⟨setEnt (setEnt h.ents b (.row vb (setNth ws p (.bool true)))) c (.row vc (setNth ss p (.agg [.nils, .nils, .nils]))), n', h.tys⟩) ⟨hu1, hf.2.le g⟩ (.inr ⟨_, _, _, _, rfl⟩) (.inr ⟨_, _, _, _, rfl⟩) (.inr ⟨_, _, _, _, rfl⟩) hgx2 hgo2 hob hun (Nat.le_trans hn0 g) fun n'' g2 => ?_
  exact hk _ _ (Nat.le_trans g g2) (dc_under (hu1.le g2).set) (RWS.end hob0 fun va es h9 => by rw [hgo2] at h9; cases h9)
end Go.Proofs.YthklcbclodeilaaGreatDoor.IrT
namespace Go.Proofs.YthklcbclodeilaaGreatDoor.IrT
open Go Go.CI
set_option maxRecDepth 100000
set_option maxHeartbeats 4000000
set_option linter.unusedVariables false
set_option linter.unusedSimpArgs false
attribute [local irreducible] W Wo Wc WoR

/-- Masks of depth at most n, as lists of a name and what is under it (none = whole). -/
def MT : Nat → Type
  | 0 => Unit
  | n + 1 => List (List UInt8 × Option (MT n))
def empT : (n : Nat) → MT n
  | 0 => ()
  | _ + 1 => []
abbrev nil3 : CVal := .agg [.nils, .nils, .nils]
structure Zr (M : Type) where
  nm : List UInt8
  o : Option M
  v : CVal
  ids : List Nat
def Zr.wh {M : Type} (z : Zr M) : CVal := .bool z.o.isNone
def zids {M : Type} (zs : List (Zr M)) : List Nat := zs.flatMap (·.ids)
/-- How a mask lies in memory: three rows, and those of the masks under it. -/
def MR : (n : Nat) → MT n → CVal → List (Nat × CObj) → List Nat → Prop
  | 0, _, v, _, ids => v = nil3 ∧ ids = []
  | n + 1, m, v, e, ids => (m = [] ∧ v = nil3 ∧ ids = []) ∨ ∃ (a va b vb c vc : Nat) (zs : List (Zr (MT n))), m = zs.map (fun z => (z.nm, z.o)) ∧ v = .agg [.ref a va 1 0 zs.length, .ref b vb 1 0 zs.length, .ref c vc 3 0 zs.length] ∧
      getEnt e a = some (.row va (zs.map fun z => .str z.nm)) ∧ getEnt e b = some (.row vb (zs.map Zr.wh)) ∧ getEnt e c = some (.row vc (zs.map (·.v))) ∧ ids = a :: b :: c :: zids zs ∧
      ∀ z ∈ zs, match z.o with | none => z.v = nil3 ∧ z.ids = [] | some t => MR n t z.v e z.ids
def ZR (n : Nat) (e : List (Nat × CObj)) (z : Zr (MT n)) : Prop := match z.o with | none => z.v = nil3 ∧ z.ids = [] | some t => MR n t z.v e z.ids
theorem MR.rows : ∀ {n : Nat} {m : MT n} {v : CVal} {e e' : List (Nat × CObj)} {ids : List Nat}, MR n m v e ids → (∀ q ∈ ids, ∀ va es, getEnt e q = some (.row va es) → getEnt e' q = some (.row va es)) → MR n m v e' ids
  | 0, _, _, _, _, _, h, _ => h
  | n + 1, m, v, e, e', ids, h, hr => by
    rcases h with h | ⟨a, va, b, vb, c, vc, zs, h1, h2, h3, h4, h5, h6, h7⟩
    · exact .inl h
    · subst h6
      refine .inr ⟨a, va, b, vb, c, vc, zs, h1, h2, hr _ (by simp) _ _ h3, hr _ (by simp) _ _ h4, hr _ (by simp) _ _ h5, rfl, fun z hz => ?_⟩
      have h8 := h7 z hz
      cases ho : z.o with
      | none => simp only [ho] at h8 ⊢; exact h8
      | some t =>
        simp only [ho] at h8 ⊢
        exact MR.rows h8 fun q hq => hr q (by simp only [List.mem_cons, zids, List.mem_flatMap]; exact .inr (.inr (.inr ⟨z, hz, hq⟩)))
theorem ZR.rows {n : Nat} {e e' : List (Nat × CObj)} {z : Zr (MT n)} (h : ZR n e z) (hr : ∀ q ∈ z.ids, ∀ va es, getEnt e q = some (.row va es) → getEnt e' q = some (.row va es)) : ZR n e' z := by
  unfold ZR at h ⊢
  cases ho : z.o with
  | none => simp only [ho] at h ⊢; exact h
  | some t => simp only [ho] at h ⊢; exact h.rows hr
/-- The numbers are of rows. -/
theorem MR.row : ∀ {n : Nat} {m : MT n} {v : CVal} {e : List (Nat × CObj)} {ids : List Nat}, MR n m v e ids → ∀ q ∈ ids, ∃ va es, getEnt e q = some (.row va es)
  | 0, _, _, _, _, h, q, hq => by rw [h.2] at hq; cases hq
  | n + 1, m, v, e, ids, h, q, hq => by
    rcases h with h | ⟨a, va, b, vb, c, vc, zs, h1, h2, h3, h4, h5, h6, h7⟩
    · rw [h.2.2] at hq; cases hq
    · subst h6
      simp only [List.mem_cons, zids, List.mem_flatMap] at hq
      rcases hq with rfl | rfl | rfl | ⟨z, hz, hq⟩
      · exact ⟨_, _, h3⟩
      · exact ⟨_, _, h4⟩
      · exact ⟨_, _, h5⟩
      · have h8 := h7 z hz
        cases ho : z.o with
        | none => simp only [ho] at h8; rw [h8.2] at hq; cases hq
        | some t => simp only [ho] at h8; exact MR.row h8 q hq
theorem MR.nr : ∀ {n : Nat} {m : MT n} {v : CVal} {e : List (Nat × CObj)} {ids : List Nat}, MR n m v e ids → ∃ r0 r1 r2, v = .agg [r0, r1, r2] ∧ NR r0 ∧ NR r1 ∧ NR r2
  | 0, _, _, _, _, h => ⟨_, _, _, h.1, .inl rfl, .inl rfl, .inl rfl⟩
  | n + 1, m, v, e, ids, h => by
    rcases h with h | ⟨a, va, b, vb, c, vc, zs, h1, h2, h3, h4, h5, h6, h7⟩
    · exact ⟨_, _, _, h.2.1, .inl rfl, .inl rfl, .inl rfl⟩
    · exact ⟨_, _, _, h2, .inr ⟨_, _, _, _, rfl⟩, .inr ⟨_, _, _, _, rfl⟩, .inr ⟨_, _, _, _, rfl⟩⟩
theorem MR.emp (n : Nat) (e : List (Nat × CObj)) : MR n (empT n) nil3 e [] := by
  cases n with
  | zero => exact ⟨rfl, rfl⟩
  | succ n => exact .inl ⟨rfl, rfl, rfl⟩
/-- Of add: what lies at the name, and what comes there. -/
def addT : (n : Nat) → MT n → List (List UInt8) → MT n
  | 0, m, _ => m
  | _ + 1, m, [] => m
  | n + 1, m, x :: ps =>
    let A := List.takeWhile (fun e => bytesLt e.1 x) m
    let up := fun t => if ps.isEmpty then none else some (addT n t ps)
    match List.dropWhile (fun e => bytesLt e.1 x) m with
    | [] => (A ++ [(x, up (empT n))] : List (List UInt8 × Option (MT n)))
    | (y, o) :: B => if y == x then (match o with | none => m | some t => (A ++ (x, up t) :: B : List (List UInt8 × Option (MT n)))) else (A ++ (x, up (empT n)) :: (y, o) :: B : List (List UInt8 × Option (MT n)))
/-- That add's walk holds: sorted where it looks, and no deeper than n. -/
def okT : (n : Nat) → MT n → List (List UInt8) → Bool
  | 0, _, _ => false
  | _ + 1, _, [] => false
  | n + 1, m, x :: ps =>
    let sub := fun t => ps.isEmpty || okT n t ps
    decide (List.length m < 1000) && decide (ps.length < 50) && (List.dropWhile (fun e => bytesLt e.1 x) m).all (fun e => !bytesLt e.1 x) &&
    match List.dropWhile (fun e => bytesLt e.1 x) m with
    | [] => sub (empT n)
    | (y, o) :: _ => if y == x then (match o with | none => true | some t => sub t) else sub (empT n)
/-- What add leaves, of the memory before it. -/
structure AR (n : Nat) (m : MT n) (h : CHeap) (ids : List Nat) (v : CVal) (h' : CHeap) : Prop where
  fit : Fit h'
  nx : h.next ≤ h'.next
  ty : h'.tys = h.tys
  mr : ∃ ids', MR n m v h'.ents ids' ∧ ids'.Nodup ∧ ∀ q ∈ ids', q ∈ ids ∨ h.next ≤ q
  fr : ∀ q, q < h.next → q ∉ ids → getEnt h'.ents q = getEnt h.ents q
def AC (n : Nat) : Prop := ∀ (m : MT n) (v : CVal) (h : CHeap) (ids : List Nat) (ps : List (List UInt8)), okT n m ps = true → Fit h → MR n m v h.ents ids → ids.Nodup → (∀ q ∈ ids, lookupN h.tys q = none) →
    ∀ K : CVal → CHeap → Prop, (∀ v' h', AR n (addT n m ps) h ids v' h' → K v' h') → Wc tree.getF 14 [v, .imm .none 1 (ps.map .str)] h K
end Go.Proofs.YthklcbclodeilaaGreatDoor.IrT
