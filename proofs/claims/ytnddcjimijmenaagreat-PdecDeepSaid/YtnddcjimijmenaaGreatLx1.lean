/- What the functions of the law 'PdecDeep' do: part 1 of 3. -/
import Derived.Test.YtnddcjimijmenaaGreatIrU
namespace Go.Proofs.YtnddcjimijmenaaGreat.IrU
open Go Go.CI
set_option maxRecDepth 100000
set_option maxHeartbeats 4000000
set_option linter.unusedVariables false
set_option linter.unusedSimpArgs false
attribute [local irreducible] W Wo Wc WoR
attribute [simp] goR regOut checkOne swapOne sameAt nthOp CVal.beq beqs CVal.block storesTo entryC evalOps evalOper evalE evalP evalL evalOpnd nth setNth COp.cls COp.isStore CVal.isUndef CVal.whole CVal.cells CHeap.put CHeap.get CHeap.set wantedC getEnt setEnt partOf writeBack evalBin evalInt evalStr blockMost initVar descOf List.take List.drop CVal.lenOf CVal.isStr CVal.bare CVal.strip CVal.flat endsC resultsC oneOrTuple finishC cut fillCells setCells szOf szOf_desc elems bytesOf evalAppend fillElems mkElem setElem List.replicate sy_nbeq sy_neqF sy_leT sy_leF sy_setEnt_setEnt dropped sy_wrap64 dropEnts dropCells sizeMost sy_ibeqF sy_ieqF sy_ileT sy_ileF sy_iltT sy_iltF sy_ltT sy_ltF evalSlc optBound eqVal extL extE keyIs findKV nthKV setKV CHeap.ty lookupN CHeap.note CHeap.tyOk dropAll freezeVal freezeAll freezeFlat cellsEq cellEq pCopyCheck pBString pMakeNoZero pIndexByte pClone pIndex hasPair rowOf byteVals idxFrom hasFront idxSub

theorem fx4 {h : CHeap} (hf : Fit h) : Under h.ents h.next ∧ UnderT h.tys h.next ∧ (∀ m, h.next ≤ m → dropEnts h.ents m = h.ents) ∧ (∀ m, h.next ≤ m → dropCells h.ents m = h.ents) ∧ (∀ q, h.next ≤ q → getEnt h.ents q = none) ∧ (∀ q, h.next ≤ q → lookupN h.tys q = none) := by
  obtain ⟨hu, hut⟩ := hf
  exact ⟨hu, hut, fun m hm => dropEnts_under (hu.le hm), fun m hm => dropCells_under (hu.le hm), fun q hq => getEnt_under hu hq, fun q hq => lookupN_under hut hq⟩
theorem fx5 {h : CHeap} {p : Nat} {o : CObj} (hf : Fit h) (hg : getEnt h.ents p = some o) : (∀ x, getEnt (setEnt h.ents p x) p = some x) ∧ (∀ x m, h.next ≤ m → dropEnts (setEnt h.ents p x) m = setEnt h.ents p x) ∧ (∀ x m, h.next ≤ m → dropCells (setEnt h.ents p x) m = setEnt h.ents p x) ∧ (∀ x q, h.next ≤ q → getEnt (setEnt h.ents p x) q = none) :=
  have hu := hf.1
  ⟨fun x => sy_getEnt_setEnt hg, fun x m hm => dropEnts_under (hu.set.le hm), fun x m hm => dropCells_under (hu.set.le hm), fun x q hq => getEnt_under hu.set hq⟩
theorem ut_ {l : List (Nat × Nat)} {n : Nat} (h : UnderT l n := by repeat (first | exact hut.le (by (try dsimp only); omega) | refine UnderT.cons (by (try dsimp only); omega) ?_ | exact UnderT.nil | assumption | exact UnderT.le (by assumption) (by (try dsimp only); omega))) : UnderT l n := h
theorem fit_ {h : CHeap} (hf : Fit h := by (refine ⟨?_, ?_⟩; (focus ((repeat (first | exact hu.le (by (try dsimp only); omega) | exact hu.set.le (by (try dsimp only); omega) | exact hu.set.set.le (by (try dsimp only); omega) | refine Under.cons (by (try dsimp only); omega) ?_ | exact Under.nil)); done)); (focus ((repeat (first | exact hut.le (by (try dsimp only); omega) | refine UnderT.cons (by (try dsimp only); omega) ?_ | exact UnderT.nil | assumption | exact UnderT.le (by assumption) (by (try dsimp only); omega))); done)))) : Fit h := hf
theorem ge_ {l : List (Nat × CObj)} {p : Nat} {o : CObj} (h : getEnt l p = some o := by first | exact hg | exact hG _ | exact hY.1 _ | ((try dsimp only); exact hY.1 _) | ((try dsimp only); exact hg) | ((try dsimp only); exact hG _) | (simp (disch := omega) [getEnt, setEnt, sy_nbeq, sy_neqF, sy_setEnt_setEnt, hg, hG]) | (simp (disch := omega) [getEnt, setEnt, sy_nbeq, sy_neqF, sy_setEnt_setEnt, hg, hY])) : getEnt l p = some o := h
abbrev bl_ := @W.block
abbrev rg_ := @W.regG
abbrev go_ := @WoR.go
def stN (T : Nat → Option CFn) (c : CCode) (st : CSt) (Q : CExit → CSt → Prop) : Option Prop := match c with
  | .seq a b => some (W T a st (thenW T b Q))
  | .block id c => some (W T c st fun x st' => Q (outOf id x) st')
  | .cond c a b => match evalOpnd st.tm [] c with
    | .bool true => some (W T a st Q)
    | .bool false => some (W T b st Q)
    | _ => none
  | .skip => some (Q .normal st)
  | .exit i => some (Q (.exit i) st)
  | _ => none
theorem st_ {T : Nat → Option CFn} {c : CCode} {st : CSt} {Q : CExit → CSt → Prop} {P : Prop} (h : stN T c st Q = some P) (hp : P) : W T c st Q := by
  unfold stN at h
  split at h
  · cases h; exact W.seq hp
  · cases h; exact W.block hp
  · split at h
    · rename_i e; cases h; exact W.cond_true e hp
    · rename_i e; cases h; exact W.cond_false e hp
    · cases h
  · cases h; exact W.skip hp
  · cases h; exact W.exit hp
  · cases h
abbrev gwP (T : Nat → Option CFn) (tm : List CVal) (ops0 : List COper) (wb : List (Nat × Nat)) (chk : List (Nat × Nat × Nat)) (sw : List (Nat × Nat)) (Q : CExit → CSt → Prop) : GoR → Prop
  | .done st => Q .normal st
  | .call id f args r s => Wc T f args s.h fun v h' => v.isUndef = false ∧ WoR T tm ops0 wb chk sw Q (id + 1) r { s with vals := v :: s.vals, h := h', hs := s.h :: s.hs }
theorem gw_ {T : Nat → Option CFn} {tm : List CVal} {ops0 : List COper} {wb : List (Nat × Nat)} {chk : List (Nat × Nat × Nat)} {sw : List (Nat × Nat)} {Q : CExit → CSt → Prop} {x : Option GoR} {r : GoR} (e : x = some r) (h : gwP T tm ops0 wb chk sw Q r) : goW T tm ops0 wb chk sw Q x := by
  rw [e]
  cases r <;> exact h
end Go.Proofs.YtnddcjimijmenaaGreat.IrU
namespace Go.Proofs.YtnddcjimijmenaaGreat.IrU
open Go Go.CI
set_option maxRecDepth 100000
set_option maxHeartbeats 4000000
set_option linter.unusedVariables false
set_option linter.unusedSimpArgs false
attribute [local irreducible] W Wo Wc WoR
attribute [simp] c4 c6 c8 c9 c10 c14 c15 c16 c17 c18 c19 c20 c21 c22 c23 c24 c25 c26 c27 c28 c29 c30 c31 c32 c33 c34 c35 c36 c39 c40 c41 c42 c43 c44 c45 c46 c47 c48 c49 c50 c51 c52 c53 c54 c55 c57 c58 c59 c60 c61 c62 c65 c66 c67 c68 c69 c70 c71 c72 c73 c74 c75 c76 c77 c78 c79 c81 c82 c84 c85 c86 c90 c91 c92 c93 c94 c95 c96 c97 c98 c99 c100 c101 c102 c103 c104 c105 c108 c109 c121 c122 c123 c124 c125 c126 c127 c128 c129 c130 c131 c132 c133 c135 c142 c143 c145 c147 c149 Int.lt_irrefl
theorem w0_ {P R : Prop} (r : R) (g : R → P := by (intro hR_; (first | refine st_ rfl ?_ | ((first | refine W.regG ?_ | refine WoR.go ?_); generalize e : goR .. = r; simp (disch := omega) at e; replace e : some _ = _ := e; subst e; (try dsimp only [goW]))); (repeat (first | refine st_ rfl ?_ | ((first | refine W.regG ?_ | refine WoR.go ?_); generalize e : goR .. = r; simp (disch := omega) at e; replace e : some _ = _ := e; subst e; (try dsimp only [goW])))); exact hR_)) : P := g r
theorem v0_ {P R : Prop} (r : R) (g : R → P := by (intro hR_; (first | refine st_ rfl ?_ | ((first | refine W.regG ?_ | refine WoR.go ?_); generalize e : goR .. = r; simp (disch := omega) at e; replace e : some _ = _ := e; subst e; (try dsimp only [goW])) | (simp only [outOf, thenW_ret, thenW_exit, thenW_normal, roundW, reduceIte])); (repeat (first | refine st_ rfl ?_ | ((first | refine W.regG ?_ | refine WoR.go ?_); generalize e : goR .. = r; simp (disch := omega) at e; replace e : some _ = _ := e; subst e; (try dsimp only [goW])) | (simp only [outOf, thenW_ret, thenW_exit, thenW_normal, roundW, reduceIte]))); exact hR_)) : P := g r
theorem r0_ {P R : Prop} (r : R) (g : R → P := by (intro hR_; (first | (refine W.ret ?_; (try simp only [outOf, thenW_ret, thenW_exit, roundW, reduceIte]); refine endW.of (.inl rfl) rfl ?_) | refine endW.of (.inl rfl) rfl ?_ | refine endW.of (.inr rfl) rfl ?_); generalize e : endsC .. = r; simp (disch := omega) at e; subst e; exact hR_)) : P := g r
theorem d0_ {P R : Prop} (r : R) (g : R → P := by (intro hR_; show W tree.getF _ (dropped true _ _) _; generalize e : dropped _ _ _ = r; simp (disch := omega) at e; subst e; exact hR_)) : P := g r
theorem wx_ {P R : Prop} (r : R) (g : R → P := by (intro hR_; (first | refine st_ rfl ?_ | ((first | refine W.regG ?_ | refine WoR.go ?_); generalize e : goR .. = r; simp (disch := omega) [hX] at e; replace e : some _ = _ := e; subst e; (try dsimp only [goW]))); (repeat (first | refine st_ rfl ?_ | ((first | refine W.regG ?_ | refine WoR.go ?_); generalize e : goR .. = r; simp (disch := omega) [hX] at e; replace e : some _ = _ := e; subst e; (try dsimp only [goW])))); exact hR_)) : P := g r
theorem vx_ {P R : Prop} (r : R) (g : R → P := by (intro hR_; (first | refine st_ rfl ?_ | ((first | refine W.regG ?_ | refine WoR.go ?_); generalize e : goR .. = r; simp (disch := omega) [hX] at e; replace e : some _ = _ := e; subst e; (try dsimp only [goW])) | (simp only [outOf, thenW_ret, thenW_exit, thenW_normal, roundW, reduceIte])); (repeat (first | refine st_ rfl ?_ | ((first | refine W.regG ?_ | refine WoR.go ?_); generalize e : goR .. = r; simp (disch := omega) [hX] at e; replace e : some _ = _ := e; subst e; (try dsimp only [goW])) | (simp only [outOf, thenW_ret, thenW_exit, thenW_normal, roundW, reduceIte]))); exact hR_)) : P := g r
theorem rx_ {P R : Prop} (r : R) (g : R → P := by (intro hR_; (first | (refine W.ret ?_; (try simp only [outOf, thenW_ret, thenW_exit, roundW, reduceIte]); refine endW.of (.inl rfl) rfl ?_) | refine endW.of (.inl rfl) rfl ?_ | refine endW.of (.inr rfl) rfl ?_); generalize e : endsC .. = r; simp (disch := omega) [hX] at e; subst e; exact hR_)) : P := g r
theorem dx_ {P R : Prop} (r : R) (g : R → P := by (intro hR_; show W tree.getF _ (dropped true _ _) _; generalize e : dropped _ _ _ = r; simp (disch := omega) [hX] at e; subst e; exact hR_)) : P := g r
theorem wk_ {P R : Prop} (r : R) (g : R → P := by (intro hR_; (first | refine st_ rfl ?_ | ((first | refine W.regG ?_ | refine WoR.go ?_); generalize e : goR .. = r; simp (disch := omega) [hZ] at e; replace e : some _ = _ := e; subst e; (try dsimp only [goW]))); (repeat (first | refine st_ rfl ?_ | ((first | refine W.regG ?_ | refine WoR.go ?_); generalize e : goR .. = r; simp (disch := omega) [hZ] at e; replace e : some _ = _ := e; subst e; (try dsimp only [goW])))); exact hR_)) : P := g r
theorem vk_ {P R : Prop} (r : R) (g : R → P := by (intro hR_; (first | refine st_ rfl ?_ | ((first | refine W.regG ?_ | refine WoR.go ?_); generalize e : goR .. = r; simp (disch := omega) [hZ] at e; replace e : some _ = _ := e; subst e; (try dsimp only [goW])) | (simp only [outOf, thenW_ret, thenW_exit, thenW_normal, roundW, reduceIte])); (repeat (first | refine st_ rfl ?_ | ((first | refine W.regG ?_ | refine WoR.go ?_); generalize e : goR .. = r; simp (disch := omega) [hZ] at e; replace e : some _ = _ := e; subst e; (try dsimp only [goW])) | (simp only [outOf, thenW_ret, thenW_exit, thenW_normal, roundW, reduceIte]))); exact hR_)) : P := g r
theorem rk_ {P R : Prop} (r : R) (g : R → P := by (intro hR_; (first | (refine W.ret ?_; (try simp only [outOf, thenW_ret, thenW_exit, roundW, reduceIte]); refine endW.of (.inl rfl) rfl ?_) | refine endW.of (.inl rfl) rfl ?_ | refine endW.of (.inr rfl) rfl ?_); generalize e : endsC .. = r; simp (disch := omega) [hZ] at e; subst e; exact hR_)) : P := g r
theorem dk_ {P R : Prop} (r : R) (g : R → P := by (intro hR_; show W tree.getF _ (dropped true _ _) _; generalize e : dropped _ _ _ = r; simp (disch := omega) [hZ] at e; subst e; exact hR_)) : P := g r
theorem wn_ {P R : Prop} (r : R) (g : R → P := by (intro hR_; (first | refine st_ rfl ?_ | ((first | refine W.regG ?_ | refine WoR.go ?_); generalize e : goR .. = r; simp (disch := omega) [hZ, getEnt_setEnt_ne] at e; replace e : some _ = _ := e; subst e; (try dsimp only [goW]))); (repeat (first | refine st_ rfl ?_ | ((first | refine W.regG ?_ | refine WoR.go ?_); generalize e : goR .. = r; simp (disch := omega) [hZ, getEnt_setEnt_ne] at e; replace e : some _ = _ := e; subst e; (try dsimp only [goW])))); exact hR_)) : P := g r
theorem vn_ {P R : Prop} (r : R) (g : R → P := by (intro hR_; (first | refine st_ rfl ?_ | ((first | refine W.regG ?_ | refine WoR.go ?_); generalize e : goR .. = r; simp (disch := omega) [hZ, getEnt_setEnt_ne] at e; replace e : some _ = _ := e; subst e; (try dsimp only [goW])) | (simp only [outOf, thenW_ret, thenW_exit, thenW_normal, roundW, reduceIte])); (repeat (first | refine st_ rfl ?_ | ((first | refine W.regG ?_ | refine WoR.go ?_); generalize e : goR .. = r; simp (disch := omega) [hZ, getEnt_setEnt_ne] at e; replace e : some _ = _ := e; subst e; (try dsimp only [goW])) | (simp only [outOf, thenW_ret, thenW_exit, thenW_normal, roundW, reduceIte]))); exact hR_)) : P := g r
theorem rn_ {P R : Prop} (r : R) (g : R → P := by (intro hR_; (first | (refine W.ret ?_; (try simp only [outOf, thenW_ret, thenW_exit, roundW, reduceIte]); refine endW.of (.inl rfl) rfl ?_) | refine endW.of (.inl rfl) rfl ?_ | refine endW.of (.inr rfl) rfl ?_); generalize e : endsC .. = r; simp (disch := omega) [hZ, getEnt_setEnt_ne] at e; subst e; exact hR_)) : P := g r
theorem dn_ {P R : Prop} (r : R) (g : R → P := by (intro hR_; show W tree.getF _ (dropped true _ _) _; generalize e : dropped _ _ _ = r; simp (disch := omega) [hZ, getEnt_setEnt_ne] at e; subst e; exact hR_)) : P := g r
theorem mk_ {T : Nat → Option CFn} (f : Nat) (c : CFunc) {a : List CVal} {h : CHeap} {K : CVal → CHeap → Prop} (hb : W T c.body (entryC c a h) (endW c h.next K)) (hf : T f = some (.ir c) := by kernel_rfl) (hn : a.length = c.nargs := by rfl) : Wc T f a h K := Wc.mkG f c hf hn hb
theorem om_ {P : Prop} (h : P := by (try dsimp only); omega) : P := h
theorem s_ {P R : Prop} (r : R) (g : R → P := by (intro hR_; generalize e : entryC .. = r; simp (disch := omega) at e; subst e; exact hR_)) : P := g r
theorem sx_ {P R : Prop} (r : R) (g : R → P := by (intro hR_; generalize e : entryC .. = r; simp (disch := omega) [hX] at e; subst e; exact hR_)) : P := g r
theorem sd_ {P : Prop} (h : P := by simp (disch := omega) [getEnt, setEnt, hZ] <;> fail) : P := h
theorem sn_ {P : Prop} (h : P := by simp (disch := omega) [getEnt, setEnt, hZ, getEnt_setEnt_ne] <;> fail) : P := h
theorem s0_ {P : Prop} (h : P := by simp (disch := omega) [getEnt, setEnt] <;> fail) : P := h
theorem j2_ {A0 A1 : Prop} (x0 : A0) (x1 : A1) : A0 ∧ A1 := ⟨x0, x1⟩
theorem j3_ {A0 A1 A2 : Prop} (x0 : A0) (x1 : A1) (x2 : A2) : A0 ∧ A1 ∧ A2 := ⟨x0, x1, x2⟩
theorem j4_ {A0 A1 A2 A3 : Prop} (x0 : A0) (x1 : A1) (x2 : A2) (x3 : A3) : A0 ∧ A1 ∧ A2 ∧ A3 := ⟨x0, x1, x2, x3⟩
theorem j5_ {A0 A1 A2 A3 A4 : Prop} (x0 : A0) (x1 : A1) (x2 : A2) (x3 : A3) (x4 : A4) : A0 ∧ A1 ∧ A2 ∧ A3 ∧ A4 := ⟨x0, x1, x2, x3, x4⟩
theorem j6_ {A0 A1 A2 A3 A4 A5 : Prop} (x0 : A0) (x1 : A1) (x2 : A2) (x3 : A3) (x4 : A4) (x5 : A5) : A0 ∧ A1 ∧ A2 ∧ A3 ∧ A4 ∧ A5 := ⟨x0, x1, x2, x3, x4, x5⟩
theorem j7_ {A0 A1 A2 A3 A4 A5 A6 : Prop} (x0 : A0) (x1 : A1) (x2 : A2) (x3 : A3) (x4 : A4) (x5 : A5) (x6 : A6) : A0 ∧ A1 ∧ A2 ∧ A3 ∧ A4 ∧ A5 ∧ A6 := ⟨x0, x1, x2, x3, x4, x5, x6⟩
theorem j8_ {A0 A1 A2 A3 A4 A5 A6 A7 : Prop} (x0 : A0) (x1 : A1) (x2 : A2) (x3 : A3) (x4 : A4) (x5 : A5) (x6 : A6) (x7 : A7) : A0 ∧ A1 ∧ A2 ∧ A3 ∧ A4 ∧ A5 ∧ A6 ∧ A7 := ⟨x0, x1, x2, x3, x4, x5, x6, x7⟩
theorem j9_ {A0 A1 A2 A3 A4 A5 A6 A7 A8 : Prop} (x0 : A0) (x1 : A1) (x2 : A2) (x3 : A3) (x4 : A4) (x5 : A5) (x6 : A6) (x7 : A7) (x8 : A8) : A0 ∧ A1 ∧ A2 ∧ A3 ∧ A4 ∧ A5 ∧ A6 ∧ A7 ∧ A8 := ⟨x0, x1, x2, x3, x4, x5, x6, x7, x8⟩
theorem j10_ {A0 A1 A2 A3 A4 A5 A6 A7 A8 A9 : Prop} (x0 : A0) (x1 : A1) (x2 : A2) (x3 : A3) (x4 : A4) (x5 : A5) (x6 : A6) (x7 : A7) (x8 : A8) (x9 : A9) : A0 ∧ A1 ∧ A2 ∧ A3 ∧ A4 ∧ A5 ∧ A6 ∧ A7 ∧ A8 ∧ A9 := ⟨x0, x1, x2, x3, x4, x5, x6, x7, x8, x9⟩
theorem j11_ {A0 A1 A2 A3 A4 A5 A6 A7 A8 A9 A10 : Prop} (x0 : A0) (x1 : A1) (x2 : A2) (x3 : A3) (x4 : A4) (x5 : A5) (x6 : A6) (x7 : A7) (x8 : A8) (x9 : A9) (x10 : A10) : A0 ∧ A1 ∧ A2 ∧ A3 ∧ A4 ∧ A5 ∧ A6 ∧ A7 ∧ A8 ∧ A9 ∧ A10 := ⟨x0, x1, x2, x3, x4, x5, x6, x7, x8, x9, x10⟩
theorem j12_ {A0 A1 A2 A3 A4 A5 A6 A7 A8 A9 A10 A11 : Prop} (x0 : A0) (x1 : A1) (x2 : A2) (x3 : A3) (x4 : A4) (x5 : A5) (x6 : A6) (x7 : A7) (x8 : A8) (x9 : A9) (x10 : A10) (x11 : A11) : A0 ∧ A1 ∧ A2 ∧ A3 ∧ A4 ∧ A5 ∧ A6 ∧ A7 ∧ A8 ∧ A9 ∧ A10 ∧ A11 := ⟨x0, x1, x2, x3, x4, x5, x6, x7, x8, x9, x10, x11⟩
theorem j13_ {A0 A1 A2 A3 A4 A5 A6 A7 A8 A9 A10 A11 A12 : Prop} (x0 : A0) (x1 : A1) (x2 : A2) (x3 : A3) (x4 : A4) (x5 : A5) (x6 : A6) (x7 : A7) (x8 : A8) (x9 : A9) (x10 : A10) (x11 : A11) (x12 : A12) : A0 ∧ A1 ∧ A2 ∧ A3 ∧ A4 ∧ A5 ∧ A6 ∧ A7 ∧ A8 ∧ A9 ∧ A10 ∧ A11 ∧ A12 := ⟨x0, x1, x2, x3, x4, x5, x6, x7, x8, x9, x10, x11, x12⟩
theorem j14_ {A0 A1 A2 A3 A4 A5 A6 A7 A8 A9 A10 A11 A12 A13 : Prop} (x0 : A0) (x1 : A1) (x2 : A2) (x3 : A3) (x4 : A4) (x5 : A5) (x6 : A6) (x7 : A7) (x8 : A8) (x9 : A9) (x10 : A10) (x11 : A11) (x12 : A12) (x13 : A13) : A0 ∧ A1 ∧ A2 ∧ A3 ∧ A4 ∧ A5 ∧ A6 ∧ A7 ∧ A8 ∧ A9 ∧ A10 ∧ A11 ∧ A12 ∧ A13 := ⟨x0, x1, x2, x3, x4, x5, x6, x7, x8, x9, x10, x11, x12, x13⟩
theorem j15_ {A0 A1 A2 A3 A4 A5 A6 A7 A8 A9 A10 A11 A12 A13 A14 : Prop} (x0 : A0) (x1 : A1) (x2 : A2) (x3 : A3) (x4 : A4) (x5 : A5) (x6 : A6) (x7 : A7) (x8 : A8) (x9 : A9) (x10 : A10) (x11 : A11) (x12 : A12) (x13 : A13) (x14 : A14) : A0 ∧ A1 ∧ A2 ∧ A3 ∧ A4 ∧ A5 ∧ A6 ∧ A7 ∧ A8 ∧ A9 ∧ A10 ∧ A11 ∧ A12 ∧ A13 ∧ A14 := ⟨x0, x1, x2, x3, x4, x5, x6, x7, x8, x9, x10, x11, x12, x13, x14⟩
theorem j16_ {A0 A1 A2 A3 A4 A5 A6 A7 A8 A9 A10 A11 A12 A13 A14 A15 : Prop} (x0 : A0) (x1 : A1) (x2 : A2) (x3 : A3) (x4 : A4) (x5 : A5) (x6 : A6) (x7 : A7) (x8 : A8) (x9 : A9) (x10 : A10) (x11 : A11) (x12 : A12) (x13 : A13) (x14 : A14) (x15 : A15) : A0 ∧ A1 ∧ A2 ∧ A3 ∧ A4 ∧ A5 ∧ A6 ∧ A7 ∧ A8 ∧ A9 ∧ A10 ∧ A11 ∧ A12 ∧ A13 ∧ A14 ∧ A15 := ⟨x0, x1, x2, x3, x4, x5, x6, x7, x8, x9, x10, x11, x12, x13, x14, x15⟩
theorem j17_ {A0 A1 A2 A3 A4 A5 A6 A7 A8 A9 A10 A11 A12 A13 A14 A15 A16 : Prop} (x0 : A0) (x1 : A1) (x2 : A2) (x3 : A3) (x4 : A4) (x5 : A5) (x6 : A6) (x7 : A7) (x8 : A8) (x9 : A9) (x10 : A10) (x11 : A11) (x12 : A12) (x13 : A13) (x14 : A14) (x15 : A15) (x16 : A16) : A0 ∧ A1 ∧ A2 ∧ A3 ∧ A4 ∧ A5 ∧ A6 ∧ A7 ∧ A8 ∧ A9 ∧ A10 ∧ A11 ∧ A12 ∧ A13 ∧ A14 ∧ A15 ∧ A16 := ⟨x0, x1, x2, x3, x4, x5, x6, x7, x8, x9, x10, x11, x12, x13, x14, x15, x16⟩
theorem j18_ {A0 A1 A2 A3 A4 A5 A6 A7 A8 A9 A10 A11 A12 A13 A14 A15 A16 A17 : Prop} (x0 : A0) (x1 : A1) (x2 : A2) (x3 : A3) (x4 : A4) (x5 : A5) (x6 : A6) (x7 : A7) (x8 : A8) (x9 : A9) (x10 : A10) (x11 : A11) (x12 : A12) (x13 : A13) (x14 : A14) (x15 : A15) (x16 : A16) (x17 : A17) : A0 ∧ A1 ∧ A2 ∧ A3 ∧ A4 ∧ A5 ∧ A6 ∧ A7 ∧ A8 ∧ A9 ∧ A10 ∧ A11 ∧ A12 ∧ A13 ∧ A14 ∧ A15 ∧ A16 ∧ A17 := ⟨x0, x1, x2, x3, x4, x5, x6, x7, x8, x9, x10, x11, x12, x13, x14, x15, x16, x17⟩
theorem j19_ {A0 A1 A2 A3 A4 A5 A6 A7 A8 A9 A10 A11 A12 A13 A14 A15 A16 A17 A18 : Prop} (x0 : A0) (x1 : A1) (x2 : A2) (x3 : A3) (x4 : A4) (x5 : A5) (x6 : A6) (x7 : A7) (x8 : A8) (x9 : A9) (x10 : A10) (x11 : A11) (x12 : A12) (x13 : A13) (x14 : A14) (x15 : A15) (x16 : A16) (x17 : A17) (x18 : A18) : A0 ∧ A1 ∧ A2 ∧ A3 ∧ A4 ∧ A5 ∧ A6 ∧ A7 ∧ A8 ∧ A9 ∧ A10 ∧ A11 ∧ A12 ∧ A13 ∧ A14 ∧ A15 ∧ A16 ∧ A17 ∧ A18 := ⟨x0, x1, x2, x3, x4, x5, x6, x7, x8, x9, x10, x11, x12, x13, x14, x15, x16, x17, x18⟩
theorem j20_ {A0 A1 A2 A3 A4 A5 A6 A7 A8 A9 A10 A11 A12 A13 A14 A15 A16 A17 A18 A19 : Prop} (x0 : A0) (x1 : A1) (x2 : A2) (x3 : A3) (x4 : A4) (x5 : A5) (x6 : A6) (x7 : A7) (x8 : A8) (x9 : A9) (x10 : A10) (x11 : A11) (x12 : A12) (x13 : A13) (x14 : A14) (x15 : A15) (x16 : A16) (x17 : A17) (x18 : A18) (x19 : A19) : A0 ∧ A1 ∧ A2 ∧ A3 ∧ A4 ∧ A5 ∧ A6 ∧ A7 ∧ A8 ∧ A9 ∧ A10 ∧ A11 ∧ A12 ∧ A13 ∧ A14 ∧ A15 ∧ A16 ∧ A17 ∧ A18 ∧ A19 := ⟨x0, x1, x2, x3, x4, x5, x6, x7, x8, x9, x10, x11, x12, x13, x14, x15, x16, x17, x18, x19⟩
theorem j21_ {A0 A1 A2 A3 A4 A5 A6 A7 A8 A9 A10 A11 A12 A13 A14 A15 A16 A17 A18 A19 A20 : Prop} (x0 : A0) (x1 : A1) (x2 : A2) (x3 : A3) (x4 : A4) (x5 : A5) (x6 : A6) (x7 : A7) (x8 : A8) (x9 : A9) (x10 : A10) (x11 : A11) (x12 : A12) (x13 : A13) (x14 : A14) (x15 : A15) (x16 : A16) (x17 : A17) (x18 : A18) (x19 : A19) (x20 : A20) : A0 ∧ A1 ∧ A2 ∧ A3 ∧ A4 ∧ A5 ∧ A6 ∧ A7 ∧ A8 ∧ A9 ∧ A10 ∧ A11 ∧ A12 ∧ A13 ∧ A14 ∧ A15 ∧ A16 ∧ A17 ∧ A18 ∧ A19 ∧ A20 := ⟨x0, x1, x2, x3, x4, x5, x6, x7, x8, x9, x10, x11, x12, x13, x14, x15, x16, x17, x18, x19, x20⟩
theorem j22_ {A0 A1 A2 A3 A4 A5 A6 A7 A8 A9 A10 A11 A12 A13 A14 A15 A16 A17 A18 A19 A20 A21 : Prop} (x0 : A0) (x1 : A1) (x2 : A2) (x3 : A3) (x4 : A4) (x5 : A5) (x6 : A6) (x7 : A7) (x8 : A8) (x9 : A9) (x10 : A10) (x11 : A11) (x12 : A12) (x13 : A13) (x14 : A14) (x15 : A15) (x16 : A16) (x17 : A17) (x18 : A18) (x19 : A19) (x20 : A20) (x21 : A21) : A0 ∧ A1 ∧ A2 ∧ A3 ∧ A4 ∧ A5 ∧ A6 ∧ A7 ∧ A8 ∧ A9 ∧ A10 ∧ A11 ∧ A12 ∧ A13 ∧ A14 ∧ A15 ∧ A16 ∧ A17 ∧ A18 ∧ A19 ∧ A20 ∧ A21 := ⟨x0, x1, x2, x3, x4, x5, x6, x7, x8, x9, x10, x11, x12, x13, x14, x15, x16, x17, x18, x19, x20, x21⟩
theorem j23_ {A0 A1 A2 A3 A4 A5 A6 A7 A8 A9 A10 A11 A12 A13 A14 A15 A16 A17 A18 A19 A20 A21 A22 : Prop} (x0 : A0) (x1 : A1) (x2 : A2) (x3 : A3) (x4 : A4) (x5 : A5) (x6 : A6) (x7 : A7) (x8 : A8) (x9 : A9) (x10 : A10) (x11 : A11) (x12 : A12) (x13 : A13) (x14 : A14) (x15 : A15) (x16 : A16) (x17 : A17) (x18 : A18) (x19 : A19) (x20 : A20) (x21 : A21) (x22 : A22) : A0 ∧ A1 ∧ A2 ∧ A3 ∧ A4 ∧ A5 ∧ A6 ∧ A7 ∧ A8 ∧ A9 ∧ A10 ∧ A11 ∧ A12 ∧ A13 ∧ A14 ∧ A15 ∧ A16 ∧ A17 ∧ A18 ∧ A19 ∧ A20 ∧ A21 ∧ A22 := ⟨x0, x1, x2, x3, x4, x5, x6, x7, x8, x9, x10, x11, x12, x13, x14, x15, x16, x17, x18, x19, x20, x21, x22⟩
theorem j24_ {A0 A1 A2 A3 A4 A5 A6 A7 A8 A9 A10 A11 A12 A13 A14 A15 A16 A17 A18 A19 A20 A21 A22 A23 : Prop} (x0 : A0) (x1 : A1) (x2 : A2) (x3 : A3) (x4 : A4) (x5 : A5) (x6 : A6) (x7 : A7) (x8 : A8) (x9 : A9) (x10 : A10) (x11 : A11) (x12 : A12) (x13 : A13) (x14 : A14) (x15 : A15) (x16 : A16) (x17 : A17) (x18 : A18) (x19 : A19) (x20 : A20) (x21 : A21) (x22 : A22) (x23 : A23) : A0 ∧ A1 ∧ A2 ∧ A3 ∧ A4 ∧ A5 ∧ A6 ∧ A7 ∧ A8 ∧ A9 ∧ A10 ∧ A11 ∧ A12 ∧ A13 ∧ A14 ∧ A15 ∧ A16 ∧ A17 ∧ A18 ∧ A19 ∧ A20 ∧ A21 ∧ A22 ∧ A23 := ⟨x0, x1, x2, x3, x4, x5, x6, x7, x8, x9, x10, x11, x12, x13, x14, x15, x16, x17, x18, x19, x20, x21, x22, x23⟩
theorem j25_ {A0 A1 A2 A3 A4 A5 A6 A7 A8 A9 A10 A11 A12 A13 A14 A15 A16 A17 A18 A19 A20 A21 A22 A23 A24 : Prop} (x0 : A0) (x1 : A1) (x2 : A2) (x3 : A3) (x4 : A4) (x5 : A5) (x6 : A6) (x7 : A7) (x8 : A8) (x9 : A9) (x10 : A10) (x11 : A11) (x12 : A12) (x13 : A13) (x14 : A14) (x15 : A15) (x16 : A16) (x17 : A17) (x18 : A18) (x19 : A19) (x20 : A20) (x21 : A21) (x22 : A22) (x23 : A23) (x24 : A24) : A0 ∧ A1 ∧ A2 ∧ A3 ∧ A4 ∧ A5 ∧ A6 ∧ A7 ∧ A8 ∧ A9 ∧ A10 ∧ A11 ∧ A12 ∧ A13 ∧ A14 ∧ A15 ∧ A16 ∧ A17 ∧ A18 ∧ A19 ∧ A20 ∧ A21 ∧ A22 ∧ A23 ∧ A24 := ⟨x0, x1, x2, x3, x4, x5, x6, x7, x8, x9, x10, x11, x12, x13, x14, x15, x16, x17, x18, x19, x20, x21, x22, x23, x24⟩
theorem j26_ {A0 A1 A2 A3 A4 A5 A6 A7 A8 A9 A10 A11 A12 A13 A14 A15 A16 A17 A18 A19 A20 A21 A22 A23 A24 A25 : Prop} (x0 : A0) (x1 : A1) (x2 : A2) (x3 : A3) (x4 : A4) (x5 : A5) (x6 : A6) (x7 : A7) (x8 : A8) (x9 : A9) (x10 : A10) (x11 : A11) (x12 : A12) (x13 : A13) (x14 : A14) (x15 : A15) (x16 : A16) (x17 : A17) (x18 : A18) (x19 : A19) (x20 : A20) (x21 : A21) (x22 : A22) (x23 : A23) (x24 : A24) (x25 : A25) : A0 ∧ A1 ∧ A2 ∧ A3 ∧ A4 ∧ A5 ∧ A6 ∧ A7 ∧ A8 ∧ A9 ∧ A10 ∧ A11 ∧ A12 ∧ A13 ∧ A14 ∧ A15 ∧ A16 ∧ A17 ∧ A18 ∧ A19 ∧ A20 ∧ A21 ∧ A22 ∧ A23 ∧ A24 ∧ A25 := ⟨x0, x1, x2, x3, x4, x5, x6, x7, x8, x9, x10, x11, x12, x13, x14, x15, x16, x17, x18, x19, x20, x21, x22, x23, x24, x25⟩
theorem j27_ {A0 A1 A2 A3 A4 A5 A6 A7 A8 A9 A10 A11 A12 A13 A14 A15 A16 A17 A18 A19 A20 A21 A22 A23 A24 A25 A26 : Prop} (x0 : A0) (x1 : A1) (x2 : A2) (x3 : A3) (x4 : A4) (x5 : A5) (x6 : A6) (x7 : A7) (x8 : A8) (x9 : A9) (x10 : A10) (x11 : A11) (x12 : A12) (x13 : A13) (x14 : A14) (x15 : A15) (x16 : A16) (x17 : A17) (x18 : A18) (x19 : A19) (x20 : A20) (x21 : A21) (x22 : A22) (x23 : A23) (x24 : A24) (x25 : A25) (x26 : A26) : A0 ∧ A1 ∧ A2 ∧ A3 ∧ A4 ∧ A5 ∧ A6 ∧ A7 ∧ A8 ∧ A9 ∧ A10 ∧ A11 ∧ A12 ∧ A13 ∧ A14 ∧ A15 ∧ A16 ∧ A17 ∧ A18 ∧ A19 ∧ A20 ∧ A21 ∧ A22 ∧ A23 ∧ A24 ∧ A25 ∧ A26 := ⟨x0, x1, x2, x3, x4, x5, x6, x7, x8, x9, x10, x11, x12, x13, x14, x15, x16, x17, x18, x19, x20, x21, x22, x23, x24, x25, x26⟩
theorem j28_ {A0 A1 A2 A3 A4 A5 A6 A7 A8 A9 A10 A11 A12 A13 A14 A15 A16 A17 A18 A19 A20 A21 A22 A23 A24 A25 A26 A27 : Prop} (x0 : A0) (x1 : A1) (x2 : A2) (x3 : A3) (x4 : A4) (x5 : A5) (x6 : A6) (x7 : A7) (x8 : A8) (x9 : A9) (x10 : A10) (x11 : A11) (x12 : A12) (x13 : A13) (x14 : A14) (x15 : A15) (x16 : A16) (x17 : A17) (x18 : A18) (x19 : A19) (x20 : A20) (x21 : A21) (x22 : A22) (x23 : A23) (x24 : A24) (x25 : A25) (x26 : A26) (x27 : A27) : A0 ∧ A1 ∧ A2 ∧ A3 ∧ A4 ∧ A5 ∧ A6 ∧ A7 ∧ A8 ∧ A9 ∧ A10 ∧ A11 ∧ A12 ∧ A13 ∧ A14 ∧ A15 ∧ A16 ∧ A17 ∧ A18 ∧ A19 ∧ A20 ∧ A21 ∧ A22 ∧ A23 ∧ A24 ∧ A25 ∧ A26 ∧ A27 := ⟨x0, x1, x2, x3, x4, x5, x6, x7, x8, x9, x10, x11, x12, x13, x14, x15, x16, x17, x18, x19, x20, x21, x22, x23, x24, x25, x26, x27⟩
theorem j29_ {A0 A1 A2 A3 A4 A5 A6 A7 A8 A9 A10 A11 A12 A13 A14 A15 A16 A17 A18 A19 A20 A21 A22 A23 A24 A25 A26 A27 A28 : Prop} (x0 : A0) (x1 : A1) (x2 : A2) (x3 : A3) (x4 : A4) (x5 : A5) (x6 : A6) (x7 : A7) (x8 : A8) (x9 : A9) (x10 : A10) (x11 : A11) (x12 : A12) (x13 : A13) (x14 : A14) (x15 : A15) (x16 : A16) (x17 : A17) (x18 : A18) (x19 : A19) (x20 : A20) (x21 : A21) (x22 : A22) (x23 : A23) (x24 : A24) (x25 : A25) (x26 : A26) (x27 : A27) (x28 : A28) : A0 ∧ A1 ∧ A2 ∧ A3 ∧ A4 ∧ A5 ∧ A6 ∧ A7 ∧ A8 ∧ A9 ∧ A10 ∧ A11 ∧ A12 ∧ A13 ∧ A14 ∧ A15 ∧ A16 ∧ A17 ∧ A18 ∧ A19 ∧ A20 ∧ A21 ∧ A22 ∧ A23 ∧ A24 ∧ A25 ∧ A26 ∧ A27 ∧ A28 := ⟨x0, x1, x2, x3, x4, x5, x6, x7, x8, x9, x10, x11, x12, x13, x14, x15, x16, x17, x18, x19, x20, x21, x22, x23, x24, x25, x26, x27, x28⟩
theorem j30_ {A0 A1 A2 A3 A4 A5 A6 A7 A8 A9 A10 A11 A12 A13 A14 A15 A16 A17 A18 A19 A20 A21 A22 A23 A24 A25 A26 A27 A28 A29 : Prop} (x0 : A0) (x1 : A1) (x2 : A2) (x3 : A3) (x4 : A4) (x5 : A5) (x6 : A6) (x7 : A7) (x8 : A8) (x9 : A9) (x10 : A10) (x11 : A11) (x12 : A12) (x13 : A13) (x14 : A14) (x15 : A15) (x16 : A16) (x17 : A17) (x18 : A18) (x19 : A19) (x20 : A20) (x21 : A21) (x22 : A22) (x23 : A23) (x24 : A24) (x25 : A25) (x26 : A26) (x27 : A27) (x28 : A28) (x29 : A29) : A0 ∧ A1 ∧ A2 ∧ A3 ∧ A4 ∧ A5 ∧ A6 ∧ A7 ∧ A8 ∧ A9 ∧ A10 ∧ A11 ∧ A12 ∧ A13 ∧ A14 ∧ A15 ∧ A16 ∧ A17 ∧ A18 ∧ A19 ∧ A20 ∧ A21 ∧ A22 ∧ A23 ∧ A24 ∧ A25 ∧ A26 ∧ A27 ∧ A28 ∧ A29 := ⟨x0, x1, x2, x3, x4, x5, x6, x7, x8, x9, x10, x11, x12, x13, x14, x15, x16, x17, x18, x19, x20, x21, x22, x23, x24, x25, x26, x27, x28, x29⟩
end Go.Proofs.YtnddcjimijmenaaGreat.IrU
namespace Go.Proofs.YtnddcjimijmenaaGreat.IrU
open Go Go.CI
set_option maxRecDepth 100000
set_option linter.unusedVariables false
set_option linter.unusedSimpArgs false

/-- A number at a text's front, and how many bytes it has. -/
def varG : Nat → Nat → List UInt8 → Option (Nat × Nat)
  | _, _, [] => none
  | i, v, c :: r => if 9 < i then none else if i = 9 ∧ 1 < c.toNat then none else if c.toNat < 128 then some (v + c.toNat % 128 * 2 ^ (7 * i), i + 1) else varG (i + 1) (v + c.toNat % 128 * 2 ^ (7 * i)) r
def varF (s : List UInt8) : Option (Nat × Nat) := varG 0 0 s
def leF : List UInt8 → Nat
  | [] => 0
  | c :: r => leF r * 256 + c.toNat
structure Rc where
  num : Nat
  wire : Nat
  n : Nat
  s : List UInt8
  raw : List UInt8
def oneF (s : List UInt8) : Option Rc := match varF s with
  | none => none
  | some (t, n) => if t / 8 < 1 ∨ 536870911 < t / 8 then none else
    if t % 8 = 0 then (match varF (s.drop n) with | none => none | some (v, k) => some ⟨t / 8, 0, v, [], s.take (n + k)⟩)
    else if t % 8 = 2 then (match varF (s.drop n) with | none => none | some (v, k) => if (s.drop (n + k)).length < v then none else some ⟨t / 8, 2, 0, (s.drop (n + k)).take v, s.take (n + k + v)⟩)
    else if t % 8 = 1 then (if (s.drop n).length < 8 then none else some ⟨t / 8, 1, leF ((s.drop n).take 8), [], s.take (n + 8)⟩)
    else if t % 8 = 5 then (if (s.drop n).length < 4 then none else some ⟨t / 8, 5, leF ((s.drop n).take 4), [], s.take (n + 4)⟩)
    else none
def splitG : Nat → List UInt8 → Option (List Rc)
  | 0, s => if s = [] then some [] else none
  | f + 1, s => if s = [] then some [] else match oneF s with
    | none => none
    | some r => match splitG f (s.drop r.raw.length) with
      | none => none
      | some l => some (r :: l)
def splitF (s : List UInt8) : Option (List Rc) := splitG s.length s

theorem varG_le : ∀ (l : List UInt8) (i v x k : Nat), varG i v l = some (x, k) → i < k ∧ k ≤ i + l.length ∧ k ≤ 10
  | [], i, v, x, k, h => by cases h
  | c :: r, i, v, x, k, h => by
    unfold varG at h
    split at h
    · cases h
    split at h
    · cases h
    split at h
    · cases h; simp; omega
    · have := varG_le r _ _ _ _ h; simp; omega
theorem varG_lt : ∀ (l : List UInt8) (i v x k : Nat), i ≤ 9 → v < 2 ^ (7 * i) → varG i v l = some (x, k) → x < 2 ^ 64
  | [], i, v, x, k, _, _, h => by cases h
  | c :: r, i, v, x, k, hi, hv, h => by
    have hp : 2 ^ (7 * (i + 1)) = 128 * 2 ^ (7 * i) := by rw [show 7 * (i + 1) = 7 * i + 7 by omega, Nat.pow_add]; omega
    have hm : c.toNat % 128 * 2 ^ (7 * i) ≤ 127 * 2 ^ (7 * i) := Nat.mul_le_mul_right _ (by omega)
    unfold varG at h
    split at h
    · cases h
    rename_i h0
    split at h
    · cases h
    rename_i h1
    split at h
    · cases h
      rcases Nat.lt_or_ge i 9 with h9 | h9
      · have : 2 ^ (7 * (i + 1)) ≤ 2 ^ 63 := Nat.pow_le_pow_right (by omega) (by omega)
        omega
      · have h9 : i = 9 := by omega
        subst h9
        have hc : c.toNat ≤ 1 := by omega
        have : c.toNat % 128 * 2 ^ (7 * 9) ≤ 1 * 2 ^ (7 * 9) := Nat.mul_le_mul_right _ (by omega)
        omega
    · rename_i h2
      rcases Nat.lt_or_ge i 9 with h9 | h9
      · exact varG_lt r (i + 1) _ x k (by omega) (by omega) h
      · have : c.toNat < 256 := c.toNat_lt
        omega
theorem varG_app : ∀ (l m : List UInt8) (i v : Nat) (p : Nat × Nat), varG i v l = some p → varG i v (l ++ m) = some p
  | [], m, i, v, p, h => by cases h
  | c :: r, m, i, v, p, h => by
    unfold varG at h
    simp only [List.cons_append]
    unfold varG
    split
    · rw [if_pos (by assumption)] at h; cases h
    rw [if_neg (by assumption)] at h
    split
    · rw [if_pos (by assumption)] at h; cases h
    rw [if_neg (by assumption)] at h
    split
    · rw [if_pos (by assumption)] at h; exact h
    rw [if_neg (by assumption)] at h
    exact varG_app r m _ _ p h
theorem varF_le {s : List UInt8} {x k : Nat} (h : varF s = some (x, k)) : 0 < k ∧ k ≤ s.length := by have := varG_le s 0 0 x k h; omega
theorem varF_lt {s : List UInt8} {x k : Nat} (h : varF s = some (x, k)) : x < 2 ^ 64 := varG_lt s 0 0 x k (by omega) (by omega) h
theorem varF_app {s m : List UInt8} {p : Nat × Nat} (h : varF s = some p) : varF (s ++ m) = some p := varG_app s m 0 0 p h

theorem oneF_raw {s : List UInt8} {r : Rc} (h : oneF s = some r) : 0 < r.raw.length ∧ r.raw = s.take r.raw.length ∧ r.raw.length ≤ s.length ∧ r.s.length < s.length := by
  unfold oneF at h
  split at h
  · cases h
  rename_i t n e
  have h1 := varF_le e
  split at h
  · cases h
  split at h
  · split at h
    · cases h
    · rename_i v k e2
      have h2 := varF_le e2
      rw [List.length_drop] at h2
      cases h
      have : (s.take (n + k)).length = n + k := by rw [List.length_take]; omega
      rw [this]; refine ⟨by omega, rfl, by omega, ?_⟩; show 0 < s.length; omega
  split at h
  · split at h
    · cases h
    · rename_i v k e2
      have h2 := varF_le e2
      rw [List.length_drop] at h2
      split at h
      · cases h
      · rename_i h3
        rw [List.length_drop] at h3
        cases h
        have : (s.take (n + k + v)).length = n + k + v := by rw [List.length_take]; omega
        rw [this]; refine ⟨by omega, rfl, by omega, ?_⟩; show ((s.drop (n + k)).take v).length < s.length; rw [List.length_take, List.length_drop]; omega
  split at h
  · split at h
    · cases h
    · rename_i h3
      rw [List.length_drop] at h3
      cases h
      have : (s.take (n + 8)).length = n + 8 := by rw [List.length_take]; omega
      rw [this]; refine ⟨by omega, rfl, by omega, ?_⟩; show 0 < s.length; omega
  split at h
  · split at h
    · cases h
    · rename_i h3
      rw [List.length_drop] at h3
      cases h
      have : (s.take (n + 4)).length = n + 4 := by rw [List.length_take]; omega
      rw [this]; refine ⟨by omega, rfl, by omega, ?_⟩; show 0 < s.length; omega
  · cases h

theorem take_app {a b : List UInt8} {n : Nat} (h : n ≤ a.length) : (a ++ b).take n = a.take n := by rw [List.take_append_of_le_length h]
theorem drop_app {a b : List UInt8} {n : Nat} (h : n ≤ a.length) : (a ++ b).drop n = a.drop n ++ b := by rw [List.drop_append_of_le_length h]
theorem oneF_app {s m : List UInt8} {r : Rc} (h : oneF s = some r) : oneF (s ++ m) = some r := by
  unfold oneF at h ⊢
  cases e : varF s with
  | none => rw [e] at h; cases h
  | some p =>
    obtain ⟨t, n⟩ := p
    rw [e] at h
    rw [varF_app e]
    dsimp only at h ⊢
    have h1 := varF_le e
    have hd : (s ++ m).drop n = s.drop n ++ m := drop_app (by omega)
    rw [hd]
    split
    · rw [if_pos (by assumption)] at h; cases h
    rw [if_neg (by assumption)] at h
    split
    · rw [if_pos (by assumption)] at h
      cases e2 : varF (s.drop n) with
      | none => rw [e2] at h; cases h
      | some p =>
        obtain ⟨v, k⟩ := p
        have h2 := varF_le e2
        rw [List.length_drop] at h2
        rw [e2] at h; rw [varF_app e2]
        dsimp only at h ⊢
        rw [take_app (by omega)]; exact h
    rw [if_neg (by assumption)] at h
    split
    · rw [if_pos (by assumption)] at h
      cases e2 : varF (s.drop n) with
      | none => rw [e2] at h; cases h
      | some p =>
        obtain ⟨v, k⟩ := p
        have h2 := varF_le e2
        rw [List.length_drop] at h2
        rw [e2] at h; rw [varF_app e2]
        dsimp only at h ⊢
        have hd2 : (s ++ m).drop (n + k) = s.drop (n + k) ++ m := drop_app (by omega)
        rw [hd2]
        split at h
        · cases h
        · rename_i h3
          rw [if_neg (by rw [List.length_append]; omega)]
          have h4 : v ≤ (s.drop (n + k)).length := by omega
          rw [take_app h4]
          rw [List.length_drop] at h4
          rw [take_app (by omega)]; exact h
    rw [if_neg (by assumption)] at h
    split
    · rw [if_pos (by assumption)] at h
      split at h
      · cases h
      · rename_i h3
        rw [if_neg (by rw [List.length_append]; omega)]
        have h4 : 8 ≤ (s.drop n).length := by omega
        rw [take_app h4]
        rw [List.length_drop] at h4
        rw [take_app (by omega)]; exact h
    rw [if_neg (by assumption)] at h
    split
    · rw [if_pos (by assumption)] at h
      split at h
      · cases h
      · rename_i h3
        rw [if_neg (by rw [List.length_append]; omega)]
        have h4 : 4 ≤ (s.drop n).length := by omega
        rw [take_app h4]
        rw [List.length_drop] at h4
        rw [take_app (by omega)]; exact h
    · rw [if_neg (by assumption)] at h; cases h

theorem splitG_enough : ∀ (f g : Nat) (s : List UInt8), s.length ≤ f → s.length ≤ g → splitG f s = splitG g s
  | f, g, [], _, _ => by cases f <;> cases g <;> simp [splitG]
  | 0, g, c :: s, h, _ => by simp at h
  | f + 1, 0, c :: s, _, h => by simp at h
  | f + 1, g + 1, c :: s, hf, hg => by
    unfold splitG
    rw [if_neg (by simp), if_neg (by simp)]
    cases e : oneF (c :: s) with
    | none => rfl
    | some r =>
      have h1 := oneF_raw e
      dsimp only
      have h2 : ((c :: s).drop r.raw.length).length < (c :: s).length := by rw [List.length_drop]; omega
      rw [splitG_enough f g _ (by omega) (by omega)]
theorem splitF_nil : splitF [] = some [] := rfl
theorem splitF_cons {s : List UInt8} {r : Rc} (hs : s ≠ []) (h : oneF s = some r) : splitF s = match splitF (s.drop r.raw.length) with | none => none | some l => some (r :: l) := by
  have h1 := oneF_raw h
  have h2 : (s.drop r.raw.length).length < s.length := by rw [List.length_drop]; omega
  unfold splitF
  rw [splitG_enough s.length (s.length + 1) s (by omega) (by omega)]
  conv => lhs; unfold splitG
  rw [if_neg hs, h]
  dsimp only
  rw [splitG_enough s.length (s.drop r.raw.length).length _ (by omega) (by omega)]
theorem splitF_bad {s : List UInt8} (hs : s ≠ []) (h : oneF s = none) : splitF s = none := by
  unfold splitF
  rw [splitG_enough s.length (s.length + 1) s (by omega) (by omega)]
  unfold splitG
  rw [if_neg hs, h]
theorem splitF_app : ∀ (n : Nat) (a b : List UInt8) (l m : List Rc), a.length ≤ n → splitF a = some l → splitF b = some m → splitF (a ++ b) = some (l ++ m)
  | n, [], b, l, m, _, ha, hb => by rw [splitF_nil] at ha; cases ha; exact hb
  | 0, c :: a, b, l, m, hn, _, _ => by simp at hn
  | n + 1, c :: a, b, l, m, hn, ha, hb => by
    cases e : oneF (c :: a) with
    | none => rw [splitF_bad (by simp) e] at ha; cases ha
    | some r =>
      have h1 := oneF_raw e
      rw [splitF_cons (by simp) e] at ha
      cases e2 : splitF ((c :: a).drop r.raw.length) with
      | none => rw [e2] at ha; cases ha
      | some l' =>
        rw [e2] at ha; cases ha
        rw [splitF_cons (s := c :: a ++ b) (by simp) (oneF_app e), drop_app h1.2.2.1]
        rw [splitF_app n _ b l' m (by rw [List.length_drop]; omega) e2 hb]
        rfl
/-- All that the records bear is the text. -/
theorem splitF_raw : ∀ (n : Nat) (a : List UInt8) (l : List Rc), a.length ≤ n → splitF a = some l → l.flatMap Rc.raw = a
  | n, [], l, _, h => by rw [splitF_nil] at h; cases h; rfl
  | 0, c :: a, l, hn, _ => by simp at hn
  | n + 1, c :: a, l, hn, h => by
    cases e : oneF (c :: a) with
    | none => rw [splitF_bad (by simp) e] at h; cases h
    | some r =>
      have h1 := oneF_raw e
      rw [splitF_cons (by simp) e] at h
      cases e2 : splitF ((c :: a).drop r.raw.length) with
      | none => rw [e2] at h; cases h
      | some l' =>
        rw [e2] at h; cases h
        have := splitF_raw n _ l' (by rw [List.length_drop]; omega) e2
        rw [List.flatMap_cons, this]
        have h3 := List.take_append_drop r.raw.length (c :: a)
        rw [← h1.2.1] at h3
        exact h3

/-- Numbers and texts of records. -/
def recV (r : Rc) : CVal := .agg [.int .i64 r.num, .int .i64 r.wire, .int .u64 r.n, .str r.s, .str r.raw]
def recsV (l : List Rc) : CVal := match l with | [] => .nils | _ :: _ => .imm .none 5 (l.map recV)
def splitV (s : List UInt8) : CVal := if 5000 < s.length then .tup [.nils, .int .i64 3] else match splitF s with
  | none => .tup [.nils, .int .i64 2]
  | some l => .tup [recsV l, .int .i64 0]
end Go.Proofs.YtnddcjimijmenaaGreat.IrU
namespace Go.Proofs.YtnddcjimijmenaaGreat.IrU
open Go Go.CI
set_option maxRecDepth 100000
set_option linter.unusedVariables false
set_option linter.unusedSimpArgs false

/-- What is read: of each message, one within the other, what is not known; how many values; the first error. -/
abbrev DS := List (List UInt8) × Nat × Nat
def subC (c : List (List UInt8)) : List (List UInt8) := match c with | _ :: x :: t => x :: t | _ => [[]]
def recsC (F : List UInt8 → DS → DS) : List Rc → DS → DS
  | [], x => x
  | r :: l, (c, n, e) => if e ≠ 0 then (c, n, e) else
    if r.num = 1 ∧ r.wire = 2 then
      let y := F r.s (subC c, n + 1, if 2000 < n + 1 then 3 else 0)
      recsC F l (c.headD [] :: y.1, y.2)
    else recsC F l ((c.headD [] ++ r.raw) :: c.tail, n, 0)
def feedC : Nat → List UInt8 → DS → DS
  | 0, b, (c, n, e) => (c, n, if e = 0 then 3 else e)
  | D + 1, b, (c, n, e) => if e ≠ 0 then (c, n, e) else if 5000 < b.length then (c, n, 3) else match splitF b with
    | none => (c, n, 2)
    | some l => recsC (feedC D) l (c, n, 0)

/-- What is told of it. -/
def mV : List (List UInt8) → List CVal
  | [] => [.nils, .str []]
  | r :: t => [if t = [] then .nils else .imm .none 2 [.agg [.int .i64 1, .imm .none 4 [.agg (.int .u64 0 :: .str [] :: mV t)]]], .str r]

def putC (b : List UInt8) : List UInt8 := 10 :: (vb b.length ++ b)
def bytC (rest : List UInt8) : Nat → List UInt8
  | 0 => rest
  | k + 1 => rest ++ (putC (bytC rest k) ++ rest)
def chC (rest : List UInt8) : Nat → List (List UInt8)
  | 0 => [rest]
  | k + 1 => (rest ++ rest) :: chC rest k

theorem chC_ne (rest : List UInt8) (k : Nat) : ∃ x t, chC rest k = x :: t := by cases k <;> exact ⟨_, _, rfl⟩

theorem varF_vb {n : Nat} (hn : n < 16384) (m : List UInt8) : varF (vb n ++ m) = some (n, (vb n).length) := by
  by_cases h : n < 128
  · rw [vb_small h]
    have : (UInt8.ofNat n).toNat = n := by rw [UInt8.toNat_ofNat']; omega
    show varG 0 0 (UInt8.ofNat n :: m) = _
    unfold varG
    rw [this, if_neg (by omega), if_neg (by omega), if_pos h, Nat.mod_eq_of_lt h]
    simp
  · rw [vb_great h, vb_small (by omega)]
    have e1 : (UInt8.ofNat (n % 128 + 128)).toNat = n % 128 + 128 := by rw [UInt8.toNat_ofNat']; omega
    have e2 : (UInt8.ofNat (n / 128)).toNat = n / 128 := by rw [UInt8.toNat_ofNat']; omega
    show varG 0 0 (UInt8.ofNat (n % 128 + 128) :: (UInt8.ofNat (n / 128) :: m)) = _
    unfold varG
    rw [e1, if_neg (by omega), if_neg (by omega), if_neg (by omega)]
    unfold varG
    rw [e2, if_neg (by omega), if_neg (by omega), if_pos (by omega)]
    simp; omega
theorem putC_len (b : List UInt8) (h : b.length < 16384) : (putC b).length ≤ b.length + 3 := by
  have := vb_len 1 b.length (by omega)
  simp [putC]; omega
theorem oneF_put (b m : List UInt8) (h : b.length < 16384) : oneF (putC b ++ m) = some ⟨1, 2, 0, b, putC b⟩ := by
  have e1 : varF (putC b ++ m) = some (10, 1) := by
    show varG 0 0 (10 :: _) = _
    unfold varG; rfl
  have e2 : (putC b ++ m).drop 1 = vb b.length ++ (b ++ m) := by simp [putC]
  unfold oneF
  rw [e1]
  dsimp only
  rw [if_neg (by omega), if_neg (by omega), if_pos (by omega), e2, varF_vb h]
  dsimp only
  have e3 : (putC b ++ m).drop (1 + (vb b.length).length) = b ++ m := by
    rw [← List.drop_drop, e2]; simp
  have e4 : (putC b ++ m).take (1 + (vb b.length).length + b.length) = putC b := by
    have : (putC b).length = 1 + (vb b.length).length + b.length := by simp [putC]; omega
    rw [← this]; simp
  rw [e3, e4, if_neg (by simp)]
  simp
theorem splitF_put (b : List UInt8) (h : b.length < 16384) : splitF (putC b) = some [⟨1, 2, 0, b, putC b⟩] := by
  have e := oneF_put b [] h
  rw [List.append_nil] at e
  rw [splitF_cons (by simp [putC]) e]
  simp [splitF_nil]
theorem recsC_cons (F : List UInt8 → DS → DS) (r : Rc) (l : List Rc) (c : List (List UInt8)) (n e : Nat) : recsC F (r :: l) (c, n, e) = if e ≠ 0 then (c, n, e) else
    if r.num = 1 ∧ r.wire = 2 then recsC F l (c.headD [] :: (F r.s (subC c, n + 1, if 2000 < n + 1 then 3 else 0)).1, (F r.s (subC c, n + 1, if 2000 < n + 1 then 3 else 0)).2)
    else recsC F l ((c.headD [] ++ r.raw) :: c.tail, n, 0) := rfl
theorem recsC_stop (F : List UInt8 → DS → DS) (m : List Rc) (c : List (List UInt8)) (n e : Nat) (he : e ≠ 0) : recsC F m (c, n, e) = (c, n, e) := by
  cases m with
  | nil => rfl
  | cons a m => rw [recsC_cons, if_pos he]
theorem recsC_app (F : List UInt8 → DS → DS) : ∀ (l m : List Rc) (x : DS), recsC F (l ++ m) x = recsC F m (recsC F l x)
  | [], m, x => rfl
  | r :: l, m, (c, n, e) => by
    simp only [List.cons_append]
    rw [recsC_cons, recsC_cons]
    by_cases he : e ≠ 0
    · rw [if_pos he, if_pos he, recsC_stop F m c n e he]
    · rw [if_neg he, if_neg he]
      split
      · exact recsC_app F l m _
      · exact recsC_app F l m _
theorem recsC_rest (F : List UInt8 → DS → DS) : ∀ (l : List Rc) (a : List UInt8) (t : List (List UInt8)) (n : Nat), (∀ r ∈ l, r.num ≠ 1) → recsC F l (a :: t, n, 0) = ((a ++ l.flatMap Rc.raw) :: t, n, 0)
  | [], a, t, n, _ => by simp [recsC]
  | r :: l, a, t, n, h => by
    unfold recsC
    rw [if_neg (by simp), if_neg (fun e => h r (by simp) e.1)]
    show recsC F l ((a ++ r.raw) :: t, n, 0) = _
    rw [recsC_rest F l _ t n fun q hq => h q (by simp [hq])]
    simp
theorem bytC_len (rest : List UInt8) (h : rest.length ≤ 60) : ∀ k, k ≤ 14 → (bytC rest k).length ≤ 60 + 123 * k
  | 0, _ => by simpa [bytC] using h
  | k + 1, hk => by
    have h1 := bytC_len rest h k (by omega)
    have h2 := putC_len (bytC rest k) (by omega)
    simp only [bytC, List.length_append]; omega
theorem feedC_byt (rest : List UInt8) (h : rest.length ≤ 60) (l : List Rc) (hl : splitF rest = some l) (hn : ∀ r ∈ l, r.num ≠ 1) : ∀ (k D n : Nat), k < D → k ≤ 14 → n + k < 2000 → feedC D (bytC rest k) ([[]], n, 0) = (chC rest k, n + k, 0)
  | k, 0, n, hk, _, _ => by omega
  | 0, D + 1, n, _, _, _ => by
    unfold feedC
    rw [if_neg (by simp), if_neg (by simp only [bytC]; omega)]
    simp only [bytC, hl, chC]
    rw [recsC_rest _ l [] [] n hn, splitF_raw _ rest l (Nat.le_refl _) hl]; rfl
  | k + 1, D + 1, n, hk, hk2, hn2 => by
    have hb := bytC_len rest h k (by omega)
    have hb1 := bytC_len rest h (k + 1) hk2
    have hp := splitF_put (bytC rest k) (by omega)
    have hs : splitF (bytC rest (k + 1)) = some (l ++ ([⟨1, 2, 0, bytC rest k, putC (bytC rest k)⟩] ++ l)) :=
      splitF_app _ _ _ _ _ (Nat.le_refl _) hl (splitF_app _ _ _ _ _ (Nat.le_refl _) hp hl)
    have hr := splitF_raw _ rest l (Nat.le_refl _) hl
    unfold feedC
    rw [if_neg (by simp), if_neg (by omega), hs]
    dsimp only
    rw [recsC_app, recsC_rest _ l [] [] n hn, recsC_app, hr]
    have hf := feedC_byt rest h l hl hn k D (n + 1) (by omega) (by omega) (by omega)
    have e1 : recsC (feedC D) [⟨1, 2, 0, bytC rest k, putC (bytC rest k)⟩] ([] ++ rest :: [], n, 0) = (rest :: chC rest k, n + 1 + k, 0) := by
      show recsC (feedC D) [⟨1, 2, 0, bytC rest k, putC (bytC rest k)⟩] (rest :: [], n, 0) = _
      unfold recsC
      rw [if_neg (by simp), if_pos ⟨rfl, rfl⟩]
      dsimp only [subC, List.headD]
      rw [if_neg (by omega), hf]
      rfl
    have e1 : recsC (feedC D) [⟨1, 2, 0, bytC rest k, putC (bytC rest k)⟩] ([([] : List UInt8) ++ rest], n, 0) = (rest :: chC rest k, n + 1 + k, 0) := e1
    rw [e1, recsC_rest _ l rest _ _ hn, hr]
    simp [chC]; omega
theorem recsC_inv (F : List UInt8 → DS → DS) (hF : ∀ b x, x.2.1 ≤ 2001 → (x.2.2 = 0 → x.2.1 ≤ 2000) → x.2.2 ≤ 3 → x.1 ≠ [] → (F b x).2.1 ≤ 2001 ∧ ((F b x).2.2 = 0 → (F b x).2.1 ≤ 2000) ∧ (F b x).2.2 ≤ 3 ∧ (F b x).1 ≠ []) : ∀ (l : List Rc) (x : DS), x.2.1 ≤ 2001 → (x.2.2 = 0 → x.2.1 ≤ 2000) → x.2.2 ≤ 3 → x.1 ≠ [] → (recsC F l x).2.1 ≤ 2001 ∧ ((recsC F l x).2.2 = 0 → (recsC F l x).2.1 ≤ 2000) ∧ (recsC F l x).2.2 ≤ 3 ∧ (recsC F l x).1 ≠ []
  | [], x, h1, h2, h3, h4 => ⟨h1, h2, h3, h4⟩
  | r :: l, (c, n, e), h1, h2, h3, h4 => by
    dsimp only at h1 h2 h3 h4
    unfold recsC
    split
    · exact ⟨h1, h2, h3, h4⟩
    · rename_i he
      have h2 := h2 (by simpa using he)
      split
      · have := hF r.s (subC c, n + 1, if 2000 < n + 1 then 3 else 0) (by dsimp only; omega) (by dsimp only; split <;> omega) (by dsimp only; split <;> omega) (by dsimp only; unfold subC; split <;> simp)
        exact recsC_inv F hF l _ this.1 this.2.1 this.2.2.1 (by simp)
      · exact recsC_inv F hF l _ (by dsimp only; omega) (fun _ => h2) (by dsimp only; omega) (by simp)
theorem feedC_inv : ∀ (D : Nat) (b : List UInt8) (x : DS), x.2.1 ≤ 2001 → (x.2.2 = 0 → x.2.1 ≤ 2000) → x.2.2 ≤ 3 → x.1 ≠ [] → (feedC D b x).2.1 ≤ 2001 ∧ ((feedC D b x).2.2 = 0 → (feedC D b x).2.1 ≤ 2000) ∧ (feedC D b x).2.2 ≤ 3 ∧ (feedC D b x).1 ≠ []
  | 0, b, (c, n, e), h1, h2, h3, h4 => by
    dsimp only at h1 h2 h3 h4
    unfold feedC
    dsimp only
    refine ⟨h1, ?_, ?_, h4⟩
    · split <;> omega
    · split <;> omega
  | D + 1, b, (c, n, e), h1, h2, h3, h4 => by
    dsimp only at h1 h2 h3 h4
    unfold feedC
    split
    · exact ⟨h1, h2, h3, h4⟩
    rename_i he
    have h2 := h2 (by simpa using he)
    split
    · exact ⟨h1, by simp, by simp, h4⟩
    split
    · exact ⟨h1, by simp, by simp, h4⟩
    · exact recsC_inv _ (fun b x => feedC_inv D b x) _ _ h1 (fun _ => h2) (by simp) h4
end Go.Proofs.YtnddcjimijmenaaGreat.IrU
namespace Go.Proofs.YtnddcjimijmenaaGreat.IrU
open Go Go.CI
set_option maxRecDepth 100000
set_option maxHeartbeats 4000000
set_option linter.unusedVariables false
set_option linter.unusedSimpArgs false
attribute [local irreducible] W Wo Wc WoR

theorem or64 {c s v w : Nat} (m : Int) (hm : m = ((c * 2 ^ s : Nat) : Int)) (hv : v < 2 ^ s) (hw : c * 2 ^ s + v = w) (hl : w < 2 ^ 64) : evalBits .or .u64 m (v : Int) = some (.int .u64 (w : Int)) := by
  subst hm
  have e1 : (BitVec.ofInt 64 (v : Int)).toNat = v := by rw [BitVec.ofInt_natCast, BitVec.toNat_ofNat]; exact Nat.mod_eq_of_lt (by omega)
  have e2 : (BitVec.ofInt 64 ((c * 2 ^ s : Nat) : Int)).toNat = c * 2 ^ s := by rw [BitVec.ofInt_natCast, BitVec.toNat_ofNat]; exact Nat.mod_eq_of_lt (by omega)
  have e3 : (BitVec.ofInt 64 ((c * 2 ^ s : Nat) : Int) ||| BitVec.ofInt 64 (v : Int)).toNat = w := by
    rw [BitVec.toNat_or, e1, e2, Nat.or_comm, or_low hv, Nat.add_comm, hw]
  show some (CVal.int .u64 (IntKind.u64.wrap ((BitVec.ofInt 64 ((c * 2 ^ s : Nat) : Int) ||| BitVec.ofInt 64 (v : Int)).toNat))) = _
  rw [e3, sy_wrapu64 (by omega) (by omega)]
/-- What a call gives that turns no memory, and no types. -/
def Pe (f : Nat) (args : List CVal) (v : CVal) : Prop := ∀ h : CHeap, Fit h → ∀ K : CVal → CHeap → Prop, (∀ n', h.next ≤ n' → K v ⟨h.ents, n', h.tys⟩) → Wc tree.getF f args h K
theorem pe_ {f : Nat} {args : List CVal} {v : CVal} (H : Pe f args v) {h : CHeap} {K : CVal → CHeap → Prop} (k : ∀ n', h.next ≤ n' → K v ⟨h.ents, n', h.tys⟩) (hf : Fit h := by exact fit_) : Wc tree.getF f args h K := H h hf K k
theorem nth_str {s : List UInt8} {i : Nat} {c : UInt8} {r : List UInt8} (h : s.drop i = c :: r) : s[i]? = some c ∧ i < s.length ∧ s.drop (i + 1) = r := by
  have h1 := get_of_dropG h; exact ⟨h1.2.1, h1.1, h1.2.2⟩
def varV : Option (Nat × Nat) → CVal
  | none => .tup [.int .u64 0, .int .i64 0, .int .i64 2]
  | some (x, k) => .tup [.int .u64 x, .int .i64 k, .int .i64 0]
abbrev vaL : CCode := (.loop true (.seq (.seq (.region [.v 0, .v 1, .g (.len true (.loc 0)), .h .lss 2 0, .m (.loc 0), .q (.mv (.var 0)) 0 true, .q (.bin .lss (.loc 0) (.k 10)) 1 true, .g (.pick (.loc 2) (.loc 0) (.b false))] [(2, 7)] [] []) (.cond (.var 2) .skip (.exit 0))) (.block 1 (.seq (.region [.v 1, .v 0, .g (.idxStr (.loc 1) (.loc 0)), .g (.conv .u64 (.loc 0)), .m (.loc 0)] [(3, 4)] [] []) (.seq (.seq (.region [.v 0, .x .eql 0 (.k 9), .m (.loc 0), .q (.mv (.var 3)) 0 true, .q (.bin .gtr (.loc 0) (.const (.int .u64 1))) 1 true, .g (.pick (.loc 2) (.loc 0) (.b false))] [(4, 5)] [] []) (.cond (.var 4) (.seq (.region [.m (.const (.int .u64 0)), .m (.k 0), .m (.k 2)] [(0, 1), (5, 0), (7, 2)] [] []) .ret) .skip)) (.seq (.region [.v 5, .v 3, .g (.bin .rem (.loc 0) (.const (.int .u64 128))), .v 0, .g (.bin .mul (.k 7) (.loc 0)), .h .shl 2 0, .h .or 5 0, .m (.loc 0)] [(5, 7)] [] []) (.seq (.region [.v 0, .x .add 0 (.k 1), .m (.loc 0)] [(0, 2)] [] []) (.seq (.region [.v 3, .g (.bin .lss (.loc 0) (.const (.int .u64 128)))] [(6, 1)] [] []) (.cond (.var 6) (.seq (.region [.v 5, .v 0, .m (.loc 1), .m (.loc 1), .m (.k 0)] [(0, 3), (5, 2), (7, 4)] [] []) .ret) .skip)))))))))
theorem va_go (s : List UInt8) (hs : s.length < 100000) (Q : CExit → CSt → Prop) : ∀ (l : List UInt8) (i v : Nat), s.drop i = l → i ≤ s.length → i ≤ 10 → v < 2 ^ (7 * i) → ∀ (h : CHeap) (w2 w3 w4 w6 : CVal), Fit h →
    (∀ x k, varG i v l = some (x, k) → ∀ n' w2 w3 w4 w6, h.next ≤ n' → Q .ret ⟨[.int .i64 k, .str s, w2, w3, w4, .int .u64 x, w6, .int .i64 0], ⟨h.ents, n', h.tys⟩, []⟩) →
    (varG i v l = none → ∀ n' w2 w3 w4 w6, h.next ≤ n' → Q .ret ⟨[.int .i64 0, .str s, w2, w3, w4, .int .u64 0, w6, .int .i64 2], ⟨h.ents, n', h.tys⟩, []⟩) →
    (varG i v l = none → ∀ n' w0 w2 w3 w4 w5 w6 w7, h.next ≤ n' → Q (.exit 0) ⟨[w0, .str s, w2, w3, w4, w5, w6, w7], ⟨h.ents, n', h.tys⟩, []⟩) →
    W tree.getF vaL ⟨[.int .i64 i, .str s, w2, w3, w4, .int .u64 v, w6, .int .i64 0], h, []⟩ Q := by
  intro l
  induction l with
  | nil =>
    intro i v hd hi hi2 hv h w2 w3 w4 w6 hf h1 h2 h3
    obtain ⟨hu, hut, hX⟩ := fx4 hf
    have hl : s.length ≤ i := List.drop_eq_nil_iff.1 hd
    repeat (first
      | refine vx_ ?_
      | refine W.loop ?_
      | (refine dx_ ?_; refine W.loop ?_))
    refine h3 rfl _ _ _ _ _ _ _ _ ?_; exact om_
  | cons c r ih =>
    intro i v hd hi hi2 hv h w2 w3 w4 w6 hf h1 h2 h3
    obtain ⟨hu, hut, hX⟩ := fx4 hf
    obtain ⟨hc, hil, hd2⟩ := nth_str hd
    obtain ⟨_, hce⟩ := List.getElem?_eq_some_iff.1 hc
    have hcl : c.toNat < 256 := c.toNat_lt
    have ec : IntKind.u64.wrap (c.toNat : Int) = (c.toNat : Int) := sy_wrapu64 (by omega) (by omega)
    have et : Int.tmod (c.toNat : Int) 128 = (c.toNat : Int) % 128 := Int.tmod_eq_emod_of_nonneg (by omega)
    by_cases h10 : i = 10
    · subst h10
      have hn : varG 10 v (c :: r) = none := by unfold varG; rw [if_pos (by omega)]
      repeat (first
        | refine vx_ ?_
        | refine W.loop ?_
        | (refine dx_ ?_; refine W.loop ?_))
      refine h3 hn _ _ _ _ _ _ _ _ ?_; exact om_
    have hpw : 2 ^ (7 * (i + 1)) = 128 * 2 ^ (7 * i) := by rw [show 7 * (i + 1) = 7 * i + 7 by omega, Nat.pow_add]; omega
    have hmm : c.toNat % 128 * 2 ^ (7 * i) ≤ 127 * 2 ^ (7 * i) := Nat.mul_le_mul_right _ (by omega)
    by_cases h9 : i = 9 ∧ 1 < c.toNat
    · obtain ⟨h9, h9c⟩ := h9
      subst h9
      have hn : varG 9 v (c :: r) = none := by unfold varG; rw [if_neg (by omega), if_pos ⟨rfl, h9c⟩]
      have hZ := j5_ hX hc hce ec et
      repeat (first
        | refine vk_ ?_
        | refine W.loop ?_
        | (refine dk_ ?_; refine W.loop ?_))
      refine W.ret ?_
      simp only [outOf, thenW_ret, thenW_exit, thenW_normal, roundW, reduceIte]
      refine h2 hn _ _ _ _ _ ?_; exact om_
    have hm64 : v + c.toNat % 128 * 2 ^ (7 * i) < 2 ^ 64 := by
      rcases Nat.lt_or_ge i 9 with h8 | h8
      · have : 2 ^ (7 * (i + 1)) ≤ 2 ^ 63 := Nat.pow_le_pow_right (by omega) (by omega)
        omega
      · have h8 : i = 9 := by omega
        subst h8
        have : c.toNat % 128 * 2 ^ (7 * 9) ≤ 1 * 2 ^ (7 * 9) := Nat.mul_le_mul_right _ (by omega)
        omega
    have em : min ((7 : Int) * (i : Int)).toNat IntKind.u64.bits = 7 * i := by show min ((7 : Int) * (i : Int)).toNat 64 = 7 * i; omega
    have ew : IntKind.u64.wrap ((c.toNat : Int) % 128 * 2 ^ (7 * i)) = ((c.toNat % 128 * 2 ^ (7 * i) : Nat) : Int) := by
      have : ((c.toNat : Int) % 128 * 2 ^ (7 * i)) = ((c.toNat % 128 * 2 ^ (7 * i) : Nat) : Int) := by push_cast; rfl
      rw [this]; exact sy_wrapu64 (by omega) (by omega)
    have eo := or_u64 (c := c.toNat % 128) hv hm64
    generalize hM : c.toNat % 128 * 2 ^ (7 * i) = M at *
    generalize hW : v + M = w at *
    have g9 : i = 9 → (c.toNat : Int) ≤ 1 := fun e => by have : ¬ (1 < c.toNat) := fun q => h9 ⟨e, q⟩; omega
    by_cases h128 : c.toNat < 128
    · have hr : varG i v (c :: r) = some (w, i + 1) := by unfold varG; rw [if_neg (by omega), if_neg h9, if_pos h128, hM, hW]
      by_cases h99 : i = 9
      · have g9 := g9 h99
        have h99' : ((i : Int) == 9) = true := by simp; omega
        have hZ := j9_ hX hc hce ec et em ew eo h99'
        repeat (first
          | refine vk_ ?_
          | refine W.loop ?_
          | (refine dk_ ?_; refine W.loop ?_))
        refine W.ret ?_
        simp only [outOf, thenW_ret, thenW_exit, thenW_normal, roundW, reduceIte]
        have h1' := h1 _ _ hr
        push_cast at h1'
        refine h1' _ _ _ _ _ ?_; exact om_
      · have h99' : ((i : Int) == 9) = false := by simp; omega
        have hZ := j9_ hX hc hce ec et em ew eo h99'
        repeat (first
          | refine vk_ ?_
          | refine W.loop ?_
          | (refine dk_ ?_; refine W.loop ?_))
        refine W.ret ?_
        simp only [outOf, thenW_ret, thenW_exit, thenW_normal, roundW, reduceIte]
        have h1' := h1 _ _ hr
        push_cast at h1'
        refine h1' _ _ _ _ _ ?_; exact om_
    · have h99 : i ≠ 9 := fun e => by have := g9 e; omega
      have h99' : ((i : Int) == 9) = false := by simp; omega
      have hr : varG i v (c :: r) = varG (i + 1) w r := by conv => lhs; unfold varG; rw [if_neg (by omega), if_neg h9, if_neg h128, hM, hW]
      rw [hr] at h1 h2 h3
      have hZ := j9_ hX hc hce ec et em ew eo h99'
      repeat ((fail_if_success (show W tree.getF _ (dropped true _ _) _)); first
        | refine st_ rfl ?_
        | ((first | refine W.regG ?_ | refine WoR.go ?_); generalize e : goR .. = r; simp (disch := omega) [hZ] at e; replace e : some _ = _ := e; subst e; (try dsimp only [goW]))
        | refine W.loop ?_
        | (refine dk_ ?_; refine W.loop ?_)
        | (simp only [outOf, thenW_ret, thenW_exit, thenW_normal, roundW, reduceIte]))
      refine dk_ ?_
      have ei : ((i : Int) + 1) = ((i + 1 : Nat) : Int) := by omega
      rw [ei]
      refine ih (i + 1) w hd2 (by omega) (by omega) (by rw [← hW, hpw]; omega) _ _ _ _ _ fit_ ?_ ?_ ?_
      · intro x k e n' w2 w3 w4 w6 hn; dsimp only at hn; refine h1 x k e _ _ _ _ _ ?_; exact om_
      · intro e n' w2 w3 w4 w6 hn; dsimp only at hn; refine h2 e _ _ _ _ _ ?_; exact om_
      · intro e n' w0 w2 w3 w4 w5 w6 w7 hn; dsimp only at hn; refine h3 e _ _ _ _ _ _ _ _ ?_; exact om_
theorem varint_F (s : List UInt8) (hs : s.length < 100000) : Pe 99 [.str s] (varV (varF s)) := by
  intro h hf K hk
  obtain ⟨hu, hut, hX⟩ := fx4 hf
  refine mk_ 99 c99 (s_ ?_)
  repeat ((fail_if_success (show W tree.getF vaL _ _)); first
    | refine st_ rfl ?_
    | ((first | refine W.regG ?_ | refine WoR.go ?_); generalize e : goR .. = r; simp (disch := omega) [hX] at e; replace e : some _ = _ := e; subst e; (try dsimp only [goW]))
    | (simp only [outOf, thenW_ret, thenW_exit, thenW_normal, roundW, reduceIte]))
  refine va_go s hs _ s 0 0 rfl (by omega) (by omega) (by omega) _ _ _ _ _ fit_ ?_ ?_ ?_
  · intro x k e n' w2 w3 w4 w6 hn
    dsimp only at hn
    simp only [outOf, thenW_ret, thenW_exit, thenW_normal, roundW, reduceIte]
    refine rx_ ?_
    rw [show varF s = some (x, k) from e] at hk
    refine hk _ ?_; exact om_
  · intro e n' w2 w3 w4 w6 hn
    dsimp only at hn
    simp only [outOf, thenW_ret, thenW_exit, thenW_normal, roundW, reduceIte]
    refine rx_ ?_
    rw [show varF s = none from e] at hk
    refine hk _ ?_; exact om_
  · intro e n' w0 w2 w3 w4 w5 w6 w7 hn
    dsimp only at hn
    simp only [outOf, thenW_ret, thenW_exit, thenW_normal, roundW, reduceIte]
    repeat (first
      | refine vx_ ?_)
    refine rx_ ?_
    rw [show varF s = none from e] at hk
    refine hk _ ?_; exact om_
end Go.Proofs.YtnddcjimijmenaaGreat.IrU
namespace Go.Proofs.YtnddcjimijmenaaGreat.IrU
open Go Go.CI
set_option maxRecDepth 100000
set_option maxHeartbeats 4000000
set_option linter.unusedVariables false
set_option linter.unusedSimpArgs false
attribute [local irreducible] W Wo Wc WoR

theorem leF_lt : ∀ l : List UInt8, leF l < 256 ^ l.length
  | [] => by simp [leF]
  | c :: r => by
    have h1 := leF_lt r
    have h2 : c.toNat < 256 := c.toNat_lt
    simp only [leF, List.length_cons, Nat.pow_succ]
    have : leF r * 256 ≤ (256 ^ r.length - 1) * 256 := Nat.mul_le_mul_right _ (by omega)
    omega
abbrev fxL : CCode := (.loop true (.seq (.seq (.region [.v 1, .x .geq 0 (.k 0)] [(2, 1)] [] []) (.cond (.var 2) .skip (.exit 0))) (.seq (.block 1 (.region [.v 3, .g (.bin .shl (.loc 0) (.const (.int .u64 8))), .v 0, .v 1, .g (.idxStr (.loc 1) (.loc 0)), .g (.conv .u64 (.loc 0)), .h .or 4 0, .m (.loc 0)] [(3, 7)] [] [])) (.region [.v 1, .x .sub 0 (.k 1), .m (.loc 0)] [(1, 2)] [] []))))
theorem fx_go (s : List UInt8) (hs : s.length ≤ 8) (Q : CExit → CSt → Prop) : ∀ (j : Nat) (i : Int), i = (j : Int) - 1 → j ≤ s.length → ∀ (h : CHeap) (w2 : CVal), Fit h →
    (∀ n' w1 w2, h.next ≤ n' → Q (.exit 0) ⟨[.str s, w1, w2, .int .u64 (leF s)], ⟨h.ents, n', h.tys⟩, []⟩) →
    W tree.getF fxL ⟨[.str s, .int .i64 i, w2, .int .u64 (leF (s.drop j))], h, []⟩ Q := by
  intro j
  induction j with
  | zero =>
    intro i hi hj h w2 hf hk
    obtain ⟨hu, hut, hX⟩ := fx4 hf
    rw [List.drop_zero]
    repeat (first
      | refine vx_ ?_
      | refine W.loop ?_
      | (refine dx_ ?_; refine W.loop ?_))
    refine hk _ _ _ ?_; exact om_
  | succ j ih =>
    intro i hi hj h w2 hf hk
    obtain ⟨hu, hut, hX⟩ := fx4 hf
    have hi : i = (j : Int) := by omega
    subst hi
    obtain ⟨c, hc⟩ : ∃ c, s[j]? = some c := ⟨_, List.getElem?_eq_getElem (by omega)⟩
    have hcl : c.toNat < 256 := c.toNat_lt
    obtain ⟨_, hce⟩ := List.getElem?_eq_some_iff.1 hc
    have hd : s.drop j = c :: s.drop (j + 1) := by
      obtain ⟨h1, h2⟩ := List.getElem?_eq_some_iff.1 hc
      rw [List.drop_eq_getElem_cons h1, h2]
    have hl := leF_lt (s.drop (j + 1))
    have hl2 : 256 ^ (s.drop (j + 1)).length ≤ 256 ^ 7 := Nat.pow_le_pow_right (by omega) (by rw [List.length_drop]; omega)
    have hx : leF (s.drop j) = leF (s.drop (j + 1)) * 256 + c.toNat := by rw [hd]; rfl
    rw [hx] at ih
    generalize leF (s.drop (j + 1)) = x at *
    have ec : IntKind.u64.wrap (c.toNat : Int) = (c.toNat : Int) := sy_wrapu64 (by omega) (by omega)
    have ew : IntKind.u64.wrap ((x : Int) * 256) = ((x * 256 : Nat) : Int) := by rw [sy_wrapu64 (by omega) (by omega)]; push_cast; rfl
    have eo := or64 (c := x) (s := 8) (v := c.toNat) (w := x * 256 + c.toNat) ((x * 256 : Nat) : Int) rfl (by omega) rfl (by omega)
    have em : min 8 IntKind.u64.bits = 8 := rfl
    generalize hM : x * 256 = M at *
    generalize hW : M + c.toNat = w at *
    have hZ := j7_ hX hc hce ec ew eo em
    repeat ((fail_if_success (show W tree.getF _ (dropped true _ _) _)); first
      | refine st_ rfl ?_
      | ((first | refine W.regG ?_ | refine WoR.go ?_); generalize e : goR .. = r; simp (disch := omega) [hZ] at e; replace e : some _ = _ := e; subst e; (try dsimp only [goW]))
      | refine W.loop ?_
      | (refine dk_ ?_; refine W.loop ?_)
      | (simp only [outOf, thenW_ret, thenW_exit, thenW_normal, roundW, reduceIte]))
    refine dk_ ?_
    refine ih _ rfl (by omega) _ _ fit_ ?_
    intro n' w1 w2 hn; dsimp only at hn; refine hk _ _ _ ?_; exact om_
theorem fixed_F (s : List UInt8) (hs : s.length ≤ 8) : Pe 101 [.str s] (.int .u64 (leF s)) := by
  intro h hf K hk
  obtain ⟨hu, hut, hX⟩ := fx4 hf
  refine mk_ 101 c101 (s_ ?_)
  repeat ((fail_if_success (show W tree.getF fxL _ _)); first
    | refine st_ rfl ?_
    | ((first | refine W.regG ?_ | refine WoR.go ?_); generalize e : goR .. = r; simp (disch := omega) [hX] at e; replace e : some _ = _ := e; subst e; (try dsimp only [goW]))
    | (simp only [outOf, thenW_ret, thenW_exit, thenW_normal, roundW, reduceIte]))
  have hd : leF (s.drop s.length) = 0 := by rw [List.drop_length]; rfl
  rw [show (CVal.int IntKind.u64 0) = CVal.int .u64 ((leF (s.drop s.length) : Nat) : Int) from by rw [hd]; rfl]
  refine fx_go s hs _ s.length _ rfl (Nat.le_refl _) _ _ fit_ ?_
  intro n' w1 w2 hn
  dsimp only at hn
  simp only [outOf, thenW_ret, thenW_exit, thenW_normal, roundW, reduceIte]
  repeat (first
    | refine vx_ ?_)
  refine rx_ ?_
  refine hk _ ?_; exact om_
def oneV : Option Rc → CVal
  | none => .tup [.agg [.int .i64 0, .int .i64 0, .int .u64 0, .str [], .str []], .int .i64 2]
  | some r => .tup [recV r, .int .i64 0]
theorem one_F (s : List UInt8) (hs : s.length ≤ 5000) : Pe 79 [.str s] (oneV (oneF s)) := by
  intro h hf K hk
  obtain ⟨hu, hut, hX⟩ := fx4 hf
  have V1 := varint_F s (by omega)
  unfold oneF at hk
  cases e1 : varF s with
  | none =>
    rw [e1] at V1 hk
    dsimp only [varV, oneV] at V1 hk
    refine mk_ 79 c79 (s_ ?_)
    repeat (first
      | refine vx_ ?_
      | (refine pe_ (V1) fun n1 hn1 => ⟨rfl, ?_⟩; (try dsimp only at hn1)))
    refine rx_ ?_
    refine hk _ ?_; exact om_
  | some p =>
    obtain ⟨t, n⟩ := p
    rw [e1] at V1 hk
    dsimp only [varV] at V1 hk
    have b1 := varF_le e1
    have b2 := varF_lt e1
    have eq : Int.tdiv (t : Int) 8 = ((t / 8 : Nat) : Int) := by rw [Int.tdiv_eq_ediv_of_nonneg (by omega)]; push_cast; rfl
    have ew : Int.tmod (t : Int) 8 = ((t % 8 : Nat) : Int) := by rw [Int.tmod_eq_emod_of_nonneg (by omega)]; push_cast; rfl
    have bw : t % 8 < 8 := by omega
    generalize hq : t / 8 = q at *
    generalize hw : t % 8 = w at *
    have ewr : IntKind.u64.wrap (q : Int) = (q : Int) := sy_wrapu64 (by omega) (by omega)
    by_cases hb1 : q < 1
    · rw [if_pos (.inl hb1)] at hk
      dsimp only [oneV] at hk
      refine mk_ 79 c79 (s_ ?_)
      have hZ := j4_ hX eq ew ewr
      repeat (first
        | refine vk_ ?_
        | (refine pe_ (V1) fun n1 hn1 => ⟨rfl, ?_⟩; (try dsimp only at hn1)))
      refine rk_ ?_
      refine hk _ ?_; exact om_
    by_cases hb2 : 536870911 < q
    · rw [if_pos (.inr hb2)] at hk
      dsimp only [oneV] at hk
      refine mk_ 79 c79 (s_ ?_)
      have hZ := j4_ hX eq ew ewr
      repeat (first
        | refine vk_ ?_
        | (refine pe_ (V1) fun n1 hn1 => ⟨rfl, ?_⟩; (try dsimp only at hn1)))
      refine rk_ ?_
      refine hk _ ?_; exact om_
    rw [if_neg (by omega)] at hk
    have V2 := varint_F (s.drop n) (by rw [List.length_drop]; omega)
    by_cases h0 : w = 0
    · subst h0
      rw [if_pos rfl] at hk
      cases e2 : varF (s.drop n) with
      | none =>
        rw [e2] at V2 hk
        dsimp only [varV, oneV] at V2 hk
        refine mk_ 79 c79 (s_ ?_)
        have hZ := j4_ hX eq ew ewr
        repeat (first
          | refine vk_ ?_
          | (refine pe_ (V1) fun n1 hn1 => ⟨rfl, ?_⟩; (try dsimp only at hn1))
          | (refine pe_ (V2) fun n1 hn1 => ⟨rfl, ?_⟩; (try dsimp only at hn1)))
        refine rk_ ?_
        refine hk _ ?_; exact om_
      | some p =>
        obtain ⟨v, k⟩ := p
        have b3 := varF_le e2
        rw [List.length_drop] at b3
        rw [e2] at V2 hk
        dsimp only [varV, oneV, recV] at V2 hk
        have en : ((n : Int) + (k : Int)).toNat = n + k := by omega
        refine mk_ 79 c79 (s_ ?_)
        have hZ := j5_ hX eq ew ewr en
        repeat (first
          | refine vk_ ?_
          | (refine pe_ (V1) fun n1 hn1 => ⟨rfl, ?_⟩; (try dsimp only at hn1))
          | (refine pe_ (V2) fun n1 hn1 => ⟨rfl, ?_⟩; (try dsimp only at hn1)))
        refine rk_ ?_
        refine hk _ ?_; exact om_
    rw [if_neg h0] at hk
    have h0' : ((w : Int) == 0) = false := by simp; omega
    by_cases h2 : w = 2
    · subst h2
      rw [if_pos rfl] at hk
      cases e2 : varF (s.drop n) with
      | none =>
        rw [e2] at V2 hk
        dsimp only [varV, oneV] at V2 hk
        refine mk_ 79 c79 (s_ ?_)
        have hZ := j4_ hX eq ew ewr
        repeat (first
          | refine vk_ ?_
          | (refine pe_ (V1) fun n1 hn1 => ⟨rfl, ?_⟩; (try dsimp only at hn1))
          | (refine pe_ (V2) fun n1 hn1 => ⟨rfl, ?_⟩; (try dsimp only at hn1)))
        refine rk_ ?_
        refine hk _ ?_; exact om_
      | some p =>
        obtain ⟨v, k⟩ := p
        have b3 := varF_le e2
        have b4 := varF_lt e2
        rw [List.length_drop] at b3
        rw [e2] at V2 hk
        dsimp only [varV] at V2 hk
        have en : ((n : Int) + (k : Int)).toNat = n + k := by omega
        have el : IntKind.u64.wrap ((s.length - (n + k) : Nat) : Int) = ((s.length - (n + k) : Nat) : Int) := sy_wrapu64 (by omega) (by omega)
        have ed : List.drop k (List.take (s.length - n) (List.drop n s)) = s.drop (n + k) := by rw [List.take_of_length_le (by rw [List.length_drop]; omega), List.drop_drop]
        rw [List.length_drop] at hk
        by_cases hv : s.length - (n + k) < v
        · rw [if_pos hv] at hk
          dsimp only [oneV] at hk
          refine mk_ 79 c79 (s_ ?_)
          have hZ := j7_ hX eq ew ewr en el ed
          repeat (first
            | refine vk_ ?_
            | (refine pe_ (V1) fun n1 hn1 => ⟨rfl, ?_⟩; (try dsimp only at hn1))
            | (refine pe_ (V2) fun n1 hn1 => ⟨rfl, ?_⟩; (try dsimp only at hn1)))
          refine rk_ ?_
          refine hk _ ?_; exact om_
        · rw [if_neg hv] at hk
          dsimp only [oneV, recV] at hk
          have em : min v (s.length - (n + k)) = v := by omega
          have en2 : ((n : Int) + (k : Int) + (v : Int)).toNat = n + k + v := by omega
          refine mk_ 79 c79 (s_ ?_)
          have hZ := j9_ hX eq ew ewr en el em en2 ed
          repeat (first
            | refine vk_ ?_
            | (refine pe_ (V1) fun n1 hn1 => ⟨rfl, ?_⟩; (try dsimp only at hn1))
            | (refine pe_ (V2) fun n1 hn1 => ⟨rfl, ?_⟩; (try dsimp only at hn1)))
          refine rk_ ?_
          refine hk _ ?_; exact om_
    rw [if_neg h2] at hk
    have h2' : ((w : Int) == 2) = false := by simp; omega
    by_cases h1 : w = 1
    · subst h1
      rw [if_pos rfl] at hk
      have FX := fixed_F ((s.drop n).take 8) (by rw [List.length_take]; omega)
      rw [List.length_drop] at hk
      by_cases hl : s.length - n < 8
      · rw [if_pos hl] at hk
        dsimp only [oneV] at hk
        refine mk_ 79 c79 (s_ ?_)
        have hZ := j4_ hX eq ew ewr
        repeat (first
          | refine vk_ ?_
          | (refine pe_ (V1) fun n1 hn1 => ⟨rfl, ?_⟩; (try dsimp only at hn1))
          | (refine pe_ (FX) fun n1 hn1 => ⟨rfl, ?_⟩; (try dsimp only at hn1))
          | (refine mk_ 100 c100 (s_ ?_))
          | (refine rk_ ?_; refine ⟨rfl, ?_⟩))
        refine rk_ ?_
        refine hk _ ?_; exact om_
      · rw [if_neg hl] at hk
        dsimp only [oneV, recV] at hk
        have en : ((n : Int) + 8).toNat = n + 8 := by omega
        refine mk_ 79 c79 (s_ ?_)
        have hZ := j5_ hX eq ew ewr en
        repeat (first
          | refine vk_ ?_
          | (refine pe_ (V1) fun n1 hn1 => ⟨rfl, ?_⟩; (try dsimp only at hn1))
          | (refine pe_ (FX) fun n1 hn1 => ⟨rfl, ?_⟩; (try dsimp only at hn1))
          | (refine mk_ 100 c100 (s_ ?_))
          | (refine rk_ ?_; refine ⟨rfl, ?_⟩))
        refine rk_ ?_
        refine hk _ ?_; exact om_
    rw [if_neg h1] at hk
    have h1' : ((w : Int) == 1) = false := by simp; omega
    by_cases h5 : w = 5
    · subst h5
      rw [if_pos rfl] at hk
      have FX := fixed_F ((s.drop n).take 4) (by rw [List.length_take]; omega)
      rw [List.length_drop] at hk
      by_cases hl : s.length - n < 4
      · rw [if_pos hl] at hk
        dsimp only [oneV] at hk
        refine mk_ 79 c79 (s_ ?_)
        have hZ := j4_ hX eq ew ewr
        repeat (first
          | refine vk_ ?_
          | (refine pe_ (V1) fun n1 hn1 => ⟨rfl, ?_⟩; (try dsimp only at hn1))
          | (refine pe_ (FX) fun n1 hn1 => ⟨rfl, ?_⟩; (try dsimp only at hn1))
          | (refine mk_ 100 c100 (s_ ?_))
          | (refine rk_ ?_; refine ⟨rfl, ?_⟩))
        refine rk_ ?_
        refine hk _ ?_; exact om_
      · rw [if_neg hl] at hk
        dsimp only [oneV, recV] at hk
        have en : ((n : Int) + 4).toNat = n + 4 := by omega
        refine mk_ 79 c79 (s_ ?_)
        have hZ := j5_ hX eq ew ewr en
        repeat (first
          | refine vk_ ?_
          | (refine pe_ (V1) fun n1 hn1 => ⟨rfl, ?_⟩; (try dsimp only at hn1))
          | (refine pe_ (FX) fun n1 hn1 => ⟨rfl, ?_⟩; (try dsimp only at hn1))
          | (refine mk_ 100 c100 (s_ ?_))
          | (refine rk_ ?_; refine ⟨rfl, ?_⟩))
        refine rk_ ?_
        refine hk _ ?_; exact om_
    rw [if_neg h5] at hk
    have h5' : ((w : Int) == 5) = false := by simp; omega
    dsimp only [oneV] at hk
    refine mk_ 79 c79 (s_ ?_)
    have hZ := j8_ hX eq ew ewr h0' h2' h1' h5'
    repeat (first
      | refine vk_ ?_
      | (refine pe_ (V1) fun n1 hn1 => ⟨rfl, ?_⟩; (try dsimp only at hn1)))
    refine rk_ ?_
    refine hk _ ?_; exact om_
end Go.Proofs.YtnddcjimijmenaaGreat.IrU
namespace Go.Proofs.YtnddcjimijmenaaGreat.IrU
open Go Go.CI
set_option maxRecDepth 100000
set_option maxHeartbeats 4000000
set_option linter.unusedVariables false
set_option linter.unusedSimpArgs false
attribute [local irreducible] W Wo Wc WoR

def acV (k i u : Nat) (l : List CVal) : CVal := match l with | [] => .nils | _ :: _ => .imm (.own i u) k l
def acE (i u : Nat) (l : List CVal) (base : List (Nat × CObj)) : List (Nat × CObj) := match l with | [] => base | _ :: _ => (i, .tok u) :: base
theorem acE_under {i u n : Nat} {l : List CVal} {base : List (Nat × CObj)} (h : Under base n) (hi : i < n) : Under (acE i u l base) n := by
  cases l with
  | nil => exact h
  | cons a l => exact Under.cons hi h
abbrev spL : CCode := (.loop true (.seq (.seq (.region [.v 0, .g (.bin .neq (.loc 0) (.const (.str [])))] [(2, 1)] [] []) (.cond (.var 2) .skip (.exit 0))) (.block 1 (.seq (.region [.v 0, .g (.call false 79 [(.loc 0)]), .m (.loc 0), .g (.extract 0 (.loc 0)), .g (.extract 1 (.loc 1)), .g (.lazy 31457285), .g (.init 5 (.loc 0) (.loc 2)), .m (.loc 2)] [(3, 7), (6, 5)] [] []) (.seq (.seq (.region [.v 3, .x .neq 0 (.k 0)] [(4, 1)] [] []) (.cond (.var 4) (.seq (.region [.v 3, .m (.const .nils), .m (.loc 1)] [(7, 1), (8, 2)] [] []) .ret) .skip)) (.region [.v 5, .g (.load (some 5) (.var 6)), .g (.lit .imm true [(.int .i64 0), (.int .i64 0), (.int .u64 0), (.str []), (.str [])] 1 [(0, (.loc 0))]), .g (.append .imm 0 5 (.loc 2) (.loc 0)), .v 0, .g (.fieldAddr 4 (.var 6)), .l 0, .g (.len true (.loc 0)), .g (.slc 0 (.loc 3) (some (.loc 0)) none), .m (.loc 5), .m (.loc 1)] [(0, 10), (5, 9)] [(6, 0, 1)] []))))))
theorem sp_go (base : List (Nat × CObj)) (ty : List (Nat × Nat)) (n0 : Nat) (hb : Under base n0) (hty : UnderT ty n0) (Q : CExit → CSt → Prop) : ∀ (f : Nat) (s : List UInt8) (A : List Rc) (i u nx : Nat) (w1 w2 w3 w4 w6 : CVal), s.length ≤ f → A.length + s.length ≤ 5000 → n0 ≤ i → i < nx →
    (∀ l, splitF s = some l → ∀ i u n' w1 w2 w3 w4 w6, n0 ≤ i → i < n' → Q (.exit 0) ⟨[.str [], w1, w2, w3, w4, acV 5 i u ((A ++ l).map recV), w6, .nils, .int .i64 0], ⟨acE i u ((A ++ l).map recV) base, n', ty⟩, []⟩) →
    (splitF s = none → ∀ i u n' s' A' j cs w1 w2 w3 w4 w6, n0 ≤ i → i < n' → n0 ≤ j → j < n' → Q .ret ⟨[.str s', w1, w2, w3, w4, acV 5 i u A', w6, .nils, .int .i64 2], ⟨(j, .cells cs) :: acE i u A' base, n', ty⟩, []⟩) →
    W tree.getF spL ⟨[.str s, w1, w2, w3, w4, acV 5 i u (A.map recV), w6, .nils, .int .i64 0], ⟨acE i u (A.map recV) base, nx, ty⟩, []⟩ Q := by
  intro f
  induction f with
  | zero =>
    intro s A i u nx w1 w2 w3 w4 w6 hs hA hi hx h1 h2
    obtain rfl : s = [] := List.eq_nil_of_length_eq_zero (by omega)
    have h1' := h1 [] splitF_nil
    rw [List.append_nil] at h1'
    repeat (first
      | refine v0_ ?_
      | refine W.loop ?_
      | (refine d0_ ?_; refine W.loop ?_))
    refine h1' _ _ _ _ _ _ _ _ ?_ ?_ <;> exact om_
  | succ f ih =>
    intro s A i u nx w1 w2 w3 w4 w6 hs hA hi hx h1 h2
    by_cases hs0 : s = []
    · subst hs0
      have h1' := h1 [] splitF_nil
      rw [List.append_nil] at h1'
      repeat (first
        | refine v0_ ?_
        | refine W.loop ?_
        | (refine d0_ ?_; refine W.loop ?_))
      refine h1' _ _ _ _ _ _ _ _ ?_ ?_ <;> exact om_
    have hne : (s == []) = false := by cases s <;> simp at hs0 ⊢
    have hf : Fit (⟨acE i u (A.map recV) base, nx, ty⟩ : CHeap) := ⟨acE_under (hb.le (by dsimp only; omega)) hx, hty.le (by dsimp only; omega)⟩
    obtain ⟨hu, hut, hX⟩ := fx4 hf
    dsimp only at hu hut hX
    have V1 := one_F s (by omega)
    cases e1 : oneF s with
    | none =>
      have h2' := h2 (splitF_bad hs0 e1)
      rw [e1] at V1
      dsimp only [oneV] at V1
      have hZ := j2_ hX hne
      repeat (first
        | refine vk_ ?_
        | refine W.loop ?_
        | (refine dk_ ?_; refine W.loop ?_)
        | (refine pe_ (V1) fun n1 hn1 => ⟨rfl, ?_⟩; (try dsimp only at hn1)))
      (try refine W.ret ?_)
      (try simp only [outOf, thenW_ret, thenW_exit, thenW_normal, roundW, reduceIte])
      refine h2' _ _ _ _ _ _ _ _ _ _ _ _ ?_ ?_ ?_ ?_ <;> exact om_
    | some r =>
      obtain ⟨b1, b2, b3, b4⟩ := oneF_raw e1
      rw [e1] at V1
      dsimp only [oneV, recV] at V1
      have hsp := splitF_cons hs0 e1
      have hl : (s.drop r.raw.length).length < s.length := by rw [List.length_drop]; omega
      have key : ∀ (i' u' nx' : Nat) (w1 w2 w3 w4 w6 : CVal), n0 ≤ i' → i' < nx' → W tree.getF spL ⟨[.str (s.drop r.raw.length), w1, w2, w3, w4, acV 5 i' u' ((A ++ [r]).map recV), w6, .nils, .int .i64 0], ⟨acE i' u' ((A ++ [r]).map recV) base, nx', ty⟩, []⟩ Q := by
        intro i' u' nx' w1 w2 w3 w4 w6 hi' hx'
        refine ih _ (A ++ [r]) i' u' nx' _ _ _ _ _ (by omega) (by simp; omega) hi' hx' ?_ ?_
        · intro l e
          rw [e] at hsp
          have := h1 _ hsp
          rw [List.append_assoc]; exact this
        · intro e
          rw [e] at hsp
          exact h2 hsp
      cases A with
      | nil =>
        dsimp only [List.map, acV, acE] at *
        obtain ⟨hub, hutb, hXb⟩ := fx4 (h := ⟨base, n0, ty⟩) ⟨hb, hty⟩
        dsimp only at hub hutb hXb
        have hZ := j2_ hne hXb
        repeat ((fail_if_success (show W tree.getF _ (dropped true _ _) _)); first
          | refine st_ rfl ?_
          | ((first | refine W.regG ?_ | refine WoR.go ?_); generalize e : goR .. = r; simp (disch := omega) [hZ] at e; replace e : some _ = _ := e; subst e; (try dsimp only [goW]))
          | refine W.loop ?_
          | (refine dk_ ?_; refine W.loop ?_)
          | (simp only [outOf, thenW_ret, thenW_exit, thenW_normal, roundW, reduceIte])
          | (refine pe_ (V1) fun n1 hn1 => ⟨rfl, ?_⟩; (try dsimp only at hn1)))
        refine dk_ ?_
        refine key _ _ _ _ _ _ _ _ ?_ ?_ <;> exact om_
      | cons a A =>
        have hAl : A.length < 5000 := by simp at hA; omega
        dsimp only [List.map, acV, acE] at *
        obtain ⟨hub, hutb, hXb⟩ := fx4 (h := ⟨base, n0, ty⟩) ⟨hb, hty⟩
        dsimp only at hub hutb hXb
        have hZ := j2_ hne hXb
        repeat ((fail_if_success (show W tree.getF _ (dropped true _ _) _)); first
          | refine st_ rfl ?_
          | ((first | refine W.regG ?_ | refine WoR.go ?_); generalize e : goR .. = r; simp (disch := omega) [hZ] at e; replace e : some _ = _ := e; subst e; (try dsimp only [goW]))
          | refine W.loop ?_
          | (refine dk_ ?_; refine W.loop ?_)
          | (simp only [outOf, thenW_ret, thenW_exit, thenW_normal, roundW, reduceIte])
          | (refine pe_ (V1) fun n1 hn1 => ⟨rfl, ?_⟩; (try dsimp only at hn1)))
        refine dk_ ?_
        simp only [List.map_append, List.map_cons, List.map_nil, List.cons_append, acV, acE] at key
        refine key _ _ _ _ _ _ _ _ ?_ ?_ <;> exact om_
theorem split_F (s : List UInt8) : Pe 51 [.str s] (splitV s) := by
  intro h hf K hk
  obtain ⟨hu, hut, hX⟩ := fx4 hf
  unfold splitV at hk
  by_cases hl : 5000 < s.length
  · rw [if_pos hl] at hk
    refine mk_ 51 c51 (s_ ?_)
    repeat (first
      | refine vx_ ?_)
    refine rx_ ?_
    refine hk _ ?_; exact om_
  rw [if_neg hl] at hk
  refine mk_ 51 c51 (s_ ?_)
  repeat ((fail_if_success (show W tree.getF spL _ _)); first
    | refine st_ rfl ?_
    | ((first | refine W.regG ?_ | refine WoR.go ?_); generalize e : goR .. = r; simp (disch := omega) [hX] at e; replace e : some _ = _ := e; subst e; (try dsimp only [goW]))
    | (simp only [outOf, thenW_ret, thenW_exit, thenW_normal, roundW, reduceIte]))
  refine sp_go h.ents h.tys h.next hu hut _ s.length s [] h.next 0 _ _ _ _ _ _ (Nat.le_refl _) (by simp; omega) (Nat.le_refl _) ?_ ?_ ?_
  · exact om_
  · intro l e i u n' w1 w2 w3 w4 w6 hi hn
    rw [e] at hk
    simp only [outOf, thenW_ret, thenW_exit, thenW_normal, roundW, reduceIte]
    cases l with
    | nil =>
      dsimp only [List.nil_append, List.map, acV, acE, recsV] at hk ⊢
      repeat (first
        | refine vx_ ?_)
      refine rx_ ?_
      refine hk _ ?_; exact om_
    | cons a l =>
      dsimp only [List.nil_append, List.map, acV, acE, recsV] at hk ⊢
      repeat (first
        | refine vx_ ?_)
      refine rx_ ?_
      refine hk _ ?_; exact om_
  · intro e i u n' s' A' j cs w1 w2 w3 w4 w6 hi hn hj hjn
    rw [e] at hk
    simp only [outOf, thenW_ret, thenW_exit, thenW_normal, roundW, reduceIte]
    cases A' with
    | nil =>
      dsimp only [acV, acE]
      refine rx_ ?_
      refine hk _ ?_; exact om_
    | cons a l =>
      dsimp only [acV, acE]
      refine rx_ ?_
      refine hk _ ?_; exact om_
end Go.Proofs.YtnddcjimijmenaaGreat.IrU
namespace Go.Proofs.YtnddcjimijmenaaGreat.IrU
open Go Go.CI
set_option maxRecDepth 100000
set_option maxHeartbeats 4000000
set_option linter.unusedVariables false
set_option linter.unusedSimpArgs false
attribute [local irreducible] W Wo Wc WoR

theorem pv_1 (v : Nat) (hv : v < 128) : Pe 16 [.int .u64 v] (.str (vb v)) := by
  intro h hf K hk
  obtain ⟨hu, hut, hX⟩ := fx4 hf
  rw [vb_small hv] at hk
  have e8 : IntKind.u8.wrap (v : Int) = (v : Int) := sy_wrapu8 (by omega) (by omega)
  refine mk_ 16 c16 (s_ ?_)
  have hZ := j2_ hX e8
  repeat (first
    | refine vk_ ?_)
  refine rk_ ?_
  refine hk _ ?_; exact om_
theorem pv_2 (v : Nat) (hv : v < 16384) : Pe 16 [.int .u64 v] (.str (vb v)) := by
  by_cases h1 : v < 128
  · exact pv_1 v h1
  intro h hf K hk
  obtain ⟨hu, hut, hX⟩ := fx4 hf
  rw [vb_great h1] at hk
  have V1 := pv_1 (v / 128) (by omega)
  have et : Int.tmod (v : Int) 128 = ((v % 128 : Nat) : Int) := by rw [Int.tmod_eq_emod_of_nonneg (by omega)]; push_cast; rfl
  have eq : Int.tdiv (v : Int) 128 = ((v / 128 : Nat) : Int) := by rw [Int.tdiv_eq_ediv_of_nonneg (by omega)]; push_cast; rfl
  have hm : v % 128 < 128 := by omega
  have e64 : IntKind.u64.wrap ((v / 128 : Nat) : Int) = ((v / 128 : Nat) : Int) := sy_wrapu64 (by omega) (by omega)
  have hvl := vb_len_lt (v / 128) (by omega)
  generalize v / 128 = q at *
  generalize v % 128 = m at *
  have e8 : IntKind.u8.wrap (m : Int) = (m : Int) := sy_wrapu8 (by omega) (by omega)
  have e9 : IntKind.u8.wrap ((m : Int) + 128) = (m : Int) + 128 := sy_wrapu8 (by omega) (by omega)
  have e10 : ((m : Int) + 128).toNat = m + 128 := by omega
  refine mk_ 16 c16 (s_ ?_)
  have hZ := j7_ hX e8 e9 et eq e64 e10
  repeat (first
    | refine vk_ ?_
    | (refine pe_ (V1) fun n1 hn1 => ⟨rfl, ?_⟩; (try dsimp only at hn1)))
  refine rk_ ?_
  rw [UInt8.ofNat_add] at hk
  refine hk _ ?_; exact om_
theorem put_F (b : List UInt8) (hb : b.length < 16384) : Pe 9 [.agg [.int .i64 1, .int .i64 2, .int .u64 0, .str b, .str []]] (.str (putC b)) := by
  intro h hf K hk
  obtain ⟨hu, hut, hX⟩ := fx4 hf
  have V1 := pv_1 10 (by omega)
  rw [vb_small (by omega)] at V1
  have V1 : Pe 16 [.int .u64 10] (.str [10]) := V1
  have V2 := pv_2 b.length hb
  have hvl := vb_len_lt b.length (by omega)
  have e64 : IntKind.u64.wrap (b.length : Int) = (b.length : Int) := sy_wrapu64 (by omega) (by omega)
  have e1 : IntKind.u64.wrap 10 = 10 := rfl
  have e2 : IntKind.u64.wrap 1 = 1 := rfl
  have e3 : IntKind.u64.wrap 8 = 8 := rfl
  have e4 : IntKind.u64.wrap 2 = 2 := rfl
  refine mk_ 9 c9 (s_ ?_)
  have hZ := j6_ hX e64 e1 e2 e3 e4
  repeat (first
    | refine vk_ ?_
    | (refine pe_ (V1) fun n1 hn1 => ⟨rfl, ?_⟩; (try dsimp only at hn1))
    | (refine pe_ (V2) fun n1 hn1 => ⟨rfl, ?_⟩; (try dsimp only at hn1)))
  refine rk_ ?_
  unfold putC at hk
  simp only [List.cons_append, List.nil_append] at hk ⊢
  refine hk _ ?_; exact om_
end Go.Proofs.YtnddcjimijmenaaGreat.IrU
namespace Go.Proofs.YtnddcjimijmenaaGreat.IrU
open Go Go.CI
set_option maxRecDepth 100000
set_option maxHeartbeats 4000000
set_option linter.unusedVariables false
set_option linter.unusedSimpArgs false
attribute [local irreducible] W Wo Wc WoR

abbrev fldA : CVal := .agg [.int .i64 1, .str [97], .int .i64 0, .int .i64 16, .str [65], .int .i64 0, .bool false, .int .i64 0]
abbrev fldZ : CVal := .agg [.int .i64 0, .str [], .int .i64 0, .int .i64 0, .str [], .int .i64 0, .bool false, .int .i64 0]
abbrev msgA : List CVal := [.str [65], .imm .none 8 [fldA], .nils]
abbrev schA : List CVal := [.imm .none 3 [.agg msgA], .nils]
theorem field_1 : Pe 33 [.agg msgA, .int .i64 1] (.tup [fldA, .bool true]) := by
  intro h hf K hk
  obtain ⟨hu, hut, hX⟩ := fx4 hf
  refine mk_ 33 c33 (s_ ?_)
  repeat (first
    | refine vx_ ?_
    | refine W.loop ?_
    | (refine dx_ ?_; refine W.loop ?_)
    | (refine mk_ 52 c52 (s_ ?_))
    | (refine mk_ 53 c53 (s_ ?_))
    | (refine rx_ ?_; refine ⟨rfl, ?_⟩))
  refine rx_ ?_
  refine hk _ ?_; exact om_
theorem field_n (q : Nat) (hq : q ≠ 1) : Pe 33 [.agg msgA, .int .i64 (q : Int)] (.tup [fldZ, .bool false]) := by
  intro h hf K hk
  obtain ⟨hu, hut, hX⟩ := fx4 hf
  have e1 : ((1 : Int) == (q : Int)) = false := by simp; omega
  refine mk_ 33 c33 (s_ ?_)
  have hZ := j2_ hX e1
  repeat (first
    | refine vk_ ?_
    | refine W.loop ?_
    | (refine dk_ ?_; refine W.loop ?_)
    | (refine mk_ 52 c52 (s_ ?_))
    | (refine mk_ 53 c53 (s_ ?_))
    | (refine rk_ ?_; refine ⟨rfl, ?_⟩))
  refine rk_ ?_
  refine hk _ ?_; exact om_
theorem wire_16 : Pe 54 [.int .i64 16] (.int .i64 2) := by
  intro h hf K hk
  obtain ⟨hu, hut, hX⟩ := fx4 hf
  refine mk_ 54 c54 (s_ ?_)
  repeat (first
    | refine vx_ ?_)
  refine rx_ ?_
  refine hk _ ?_; exact om_
theorem known_1 : Pe 34 [fldA, .int .i64 2] (.bool true) := by
  intro h hf K hk
  obtain ⟨hu, hut, hX⟩ := fx4 hf
  refine mk_ 34 c34 (s_ ?_)
  repeat (first
    | refine vx_ ?_
    | (refine pe_ (wire_16) fun n1 hn1 => ⟨rfl, ?_⟩; (try dsimp only at hn1))
    | (refine mk_ 55 c55 (s_ ?_))
    | (refine rx_ ?_; refine ⟨rfl, ?_⟩))
  refine rx_ ?_
  refine hk _ ?_; exact om_
theorem known_n (w : Nat) (hw : w ≠ 2) : Pe 34 [fldA, .int .i64 (w : Int)] (.bool false) := by
  intro h hf K hk
  obtain ⟨hu, hut, hX⟩ := fx4 hf
  have e1 : ((w : Int) == 2) = false := by simp; omega
  refine mk_ 34 c34 (s_ ?_)
  have hZ := j2_ hX e1
  repeat (first
    | refine vk_ ?_
    | (refine pe_ (wire_16) fun n1 hn1 => ⟨rfl, ?_⟩; (try dsimp only at hn1))
    | (refine mk_ 55 c55 (s_ ?_))
    | (refine rk_ ?_; refine ⟨rfl, ?_⟩))
  refine rk_ ?_
  refine hk _ ?_; exact om_
theorem message_A : Pe 18 [.agg schA, .str [65]] (.tup [.agg msgA, .bool true]) := by
  intro h hf K hk
  obtain ⟨hu, hut, hX⟩ := fx4 hf
  refine mk_ 18 c18 (s_ ?_)
  repeat (first
    | refine vx_ ?_
    | refine W.loop ?_
    | (refine dx_ ?_; refine W.loop ?_)
    | (refine mk_ 28 c28 (s_ ?_))
    | (refine mk_ 29 c29 (s_ ?_))
    | (refine mk_ 30 c30 (s_ ?_))
    | (refine mk_ 31 c31 (s_ ?_))
    | (refine rx_ ?_; refine ⟨rfl, ?_⟩))
  refine rx_ ?_
  refine hk _ ?_; exact om_
end Go.Proofs.YtnddcjimijmenaaGreat.IrU
namespace Go.Proofs.YtnddcjimijmenaaGreat.IrU
open Go Go.CI
set_option maxRecDepth 100000
set_option maxHeartbeats 4000000
set_option linter.unusedVariables false
set_option linter.unusedSimpArgs false
attribute [local irreducible] W Wo Wc WoR

abbrev SD : Nat := 119537671
abbrev DD : Nat := 79691780
abbrev bv (b : UInt8) : CVal := .int .u8 b.toNat
abbrev staO (a b : Nat) (b0 b1 : CVal) : CObj := .cells [.str [65], .imm .none 8 [fldA], .nils, .map a, .map b, b0, b1]
abbrev decO (n e : Nat) : CObj := .cells [.imm .none 3 [.agg msgA], .nils, .int .i64 n, .int .i64 e]
theorem in_under {l : List (Nat × CObj)} {n p : Nat} {o : CObj} (h : Under l n) (hg : getEnt l p = some o) : p < n := by
  rcases Nat.lt_or_ge p n with h1 | h1
  · exact h1
  · rw [getEnt_under h h1] at hg; cases hg
theorem bw_1 {q w v a b : Nat} {r raw : List UInt8} (hraw : raw ≠ []) (hrl : r.length < 100000) (hwl : raw.length < 100000) {h : CHeap} (hf : Fit h) (hg : getEnt h.ents q = some (staO a b (.ptr q SD 5) (.ref w v 1 0 r.length))) (hr : getEnt h.ents w = some (.row v (r.map bv))) (hty : lookupN h.tys w = some 5) (hpr : q ≠ w) {K : CVal → CHeap → Prop}
    (hk : ∀ n', h.next ≤ n' → K (.tup [.int .i64 raw.length, .nili]) ⟨setEnt (setEnt h.ents w (.row (v + 1) ((r ++ raw).map bv))) q (staO a b (.ptr q SD 5) (.ref w (v + 1) 1 0 (r ++ raw).length)), n', h.tys⟩) : Wc tree.getF 35 [.ptr q SD 5, .str raw] h K := by
  obtain ⟨hu, hut, hX⟩ := fx4 hf
  have hgp : ∀ x, getEnt (setEnt h.ents q x) q = some x := fun x => sy_getEnt_setEnt hg
  have hgr : ∀ x, getEnt (setEnt h.ents w x) w = some x := fun x => sy_getEnt_setEnt hr
  have hgrp : ∀ x, getEnt (setEnt h.ents w x) q = getEnt h.ents q := fun x => getEnt_setEnt_ne hpr
  have lp := in_under hu hg
  have lr := in_under hu hr
  have htk : List.take r.length (r.map bv) = r.map bv := List.take_of_length_le (by simp)
  have hdc : ∀ x y m, h.next ≤ m → dropEnts (setEnt (setEnt h.ents w x) q y) m = setEnt (setEnt h.ents w x) q y := fun x y m hm => dropEnts_under ((hu.set.set).le hm)
  have hdk : ∀ x y m, h.next ≤ m → dropCells (setEnt (setEnt h.ents w x) q y) m = setEnt (setEnt h.ents w x) q y := fun x y m hm => dropCells_under ((hu.set.set).le hm)
  have hse : setEnt h.ents q (staO a b (.ptr q SD 5) (.ref w v 1 0 r.length)) = h.ents := setEnt_same hg
  obtain ⟨y, ys, rfl⟩ : ∃ y ys, raw = y :: ys := by cases raw with | nil => exact absurd rfl hraw | cons y ys => exact ⟨y, ys, rfl⟩
  simp only [List.length_cons] at hwl
  simp only [List.map_append, List.map_cons, List.length_append, List.length_cons] at hk
  (try push_cast at hk)
  have hbb : ys.map (CVal.bare ∘ fun b : UInt8 => CVal.int .u8 (b.toNat : Int)) = ys.map bv := rfl
  refine mk_ 35 c35 (s_ ?_)
  have hZ := j13_ hX hg hr hgp hgr hgrp hty hpr htk hdc hdk hse hbb
  repeat (first
    | refine vk_ ?_
    | ((refine Wc.primM (f := 56) (p := (pCopyCheck [(119537671, 5)])) (by kernel_rfl) ?_; generalize e : ((pCopyCheck [(119537671, 5)])) _ _ = r; simp (disch := omega) [hZ, hasPair, setEnt_same] at e; subst e; (try dsimp only); refine ⟨rfl, ?_⟩)))
  refine rk_ ?_
  refine hk _ ?_; exact om_
theorem bw_0 {q a b : Nat} {raw : List UInt8} (hraw : raw ≠ []) (hwl : raw.length < 100000) {h : CHeap} (hf : Fit h) (hg : getEnt h.ents q = some (staO a b .nilp .nils)) {K : CVal → CHeap → Prop}
    (hk : ∀ w n', h.next ≤ w → w < n' → K (.tup [.int .i64 raw.length, .nili]) ⟨(w, .row 0 (raw.map bv)) :: setEnt h.ents q (staO a b (.ptr q SD 5) (.ref w 0 1 0 raw.length)), n', (w, 5) :: h.tys⟩) : Wc tree.getF 35 [.ptr q SD 5, .str raw] h K := by
  obtain ⟨hu, hut, hX⟩ := fx4 hf
  have hY := fx5 hf hg; have ⟨hG, hD, hC, hN⟩ := hY
  have lp := in_under hu hg
  obtain ⟨y, ys, rfl⟩ : ∃ y ys, raw = y :: ys := by cases raw with | nil => exact absurd rfl hraw | cons y ys => exact ⟨y, ys, rfl⟩
  simp only [List.length_cons] at hwl
  simp only [List.map_append, List.map_cons, List.length_append, List.length_cons] at hk
  (try push_cast at hk)
  have hbb : ys.map (CVal.bare ∘ fun b : UInt8 => CVal.int .u8 (b.toNat : Int)) = ys.map bv := rfl
  refine mk_ 35 c35 (s_ ?_)
  have hZ := j4_ hX hg hY hbb
  repeat (first
    | refine vk_ ?_
    | ((refine Wc.primM (f := 56) (p := (pCopyCheck [(119537671, 5)])) (by kernel_rfl) ?_; generalize e : ((pCopyCheck [(119537671, 5)])) _ _ = r; simp (disch := omega) [hZ, hasPair, setEnt_same] at e; subst e; (try dsimp only); refine ⟨rfl, ?_⟩)))
  refine rk_ ?_
  refine hk _ _ ?_ ?_ <;> exact om_
end Go.Proofs.YtnddcjimijmenaaGreat.IrU
namespace Go.Proofs.YtnddcjimijmenaaGreat.IrU
open Go Go.CI
set_option maxRecDepth 100000
set_option maxHeartbeats 4000000
set_option linter.unusedVariables false
set_option linter.unusedSimpArgs false
attribute [local irreducible] W Wo Wc WoR

/-- What a Builder holds. -/
def BR (r : List UInt8) (q : Nat) (b0 b1 : CVal) (E : List (Nat × CObj)) (ty : List (Nat × Nat)) (bi : List Nat) : Prop :=
  (r = [] ∧ b0 = .nilp ∧ b1 = .nils ∧ bi = []) ∨ (r ≠ [] ∧ ∃ w v, b0 = .ptr q SD 5 ∧ b1 = .ref w v 1 0 r.length ∧ bi = [w] ∧ getEnt E w = some (.row v (r.map bv)) ∧ lookupN ty w = some 5)
/-- How messages that are read lie, one within the other. -/
def SR : List (List UInt8) → Nat → List (Nat × CObj) → List (Nat × Nat) → List Nat → Prop
  | [], _, _, _, _ => False
  | r :: t, q, E, ty, ids => ∃ a b b0 b1 bi si, ids = q :: a :: b :: (bi ++ si) ∧ getEnt E q = some (staO a b b0 b1) ∧ getEnt E a = some (.map 0 []) ∧ BR r q b0 b1 E ty bi ∧
      ((t = [] ∧ getEnt E b = some (.map 0 []) ∧ si = []) ∨ (t ≠ [] ∧ ∃ q2, getEnt E b = some (.map 1 [(0, .int .i64 1, .ptr q2 SD 0)]) ∧ SR t q2 E ty si))
theorem BR.frame {r : List UInt8} {q : Nat} {b0 b1 : CVal} {E E' : List (Nat × CObj)} {ty ty' : List (Nat × Nat)} {bi : List Nat} (h : BR r q b0 b1 E ty bi) (he : ∀ m ∈ bi, getEnt E' m = getEnt E m) (ht : ∀ m ∈ bi, lookupN ty' m = lookupN ty m) : BR r q b0 b1 E' ty' bi := by
  rcases h with h | ⟨h0, w, v, h1, h2, h3, h4, h5⟩
  · exact .inl h
  · subst h3
    exact .inr ⟨h0, w, v, h1, h2, rfl, by rw [he w (by simp)]; exact h4, by rw [ht w (by simp)]; exact h5⟩
theorem SR.frame : ∀ {c : List (List UInt8)} {q : Nat} {E E' : List (Nat × CObj)} {ty ty' : List (Nat × Nat)} {ids : List Nat}, SR c q E ty ids → (∀ m ∈ ids, getEnt E' m = getEnt E m) → (∀ m ∈ ids, lookupN ty' m = lookupN ty m) → SR c q E' ty' ids
  | [], _, _, _, _, _, _, h, _, _ => h
  | r :: t, q, E, E', ty, ty', ids, h, he, ht => by
    obtain ⟨a, b, b0, b1, bi, si, rfl, h1, h2, h3, h4⟩ := h
    refine ⟨a, b, b0, b1, bi, si, rfl, by rw [he q (by simp)]; exact h1, by rw [he a (by simp)]; exact h2, h3.frame (fun m hm => he m (by simp [hm])) (fun m hm => ht m (by simp [hm])), ?_⟩
    rcases h4 with ⟨e, h4, h5⟩ | ⟨e, q2, h4, h5⟩
    · exact .inl ⟨e, by rw [he b (by simp)]; exact h4, h5⟩
    · exact .inr ⟨e, q2, by rw [he b (by simp)]; exact h4, h5.frame (fun m hm => he m (by simp [hm])) (fun m hm => ht m (by simp [hm]))⟩
theorem SR.has : ∀ {c : List (List UInt8)} {q : Nat} {E : List (Nat × CObj)} {ty : List (Nat × Nat)} {ids : List Nat}, SR c q E ty ids → ∀ m ∈ ids, ∃ o, getEnt E m = some o
  | [], _, _, _, _, h, _, _ => h.elim
  | r :: t, q, E, ty, ids, h, m, hm => by
    obtain ⟨a, b, b0, b1, bi, si, rfl, h1, h2, h3, h4⟩ := h
    simp only [List.mem_cons, List.mem_append] at hm
    rcases hm with rfl | rfl | rfl | hm | hm
    · exact ⟨_, h1⟩
    · exact ⟨_, h2⟩
    · rcases h4 with ⟨e, h4, h5⟩ | ⟨e, q2, h4, h5⟩
      · exact ⟨_, h4⟩
      · exact ⟨_, h4⟩
    · rcases h3 with ⟨_, _, _, rfl⟩ | ⟨h0, w, v, _, _, rfl, h8, _⟩
      · cases hm
      · simp at hm; subst hm; exact ⟨_, h8⟩
    · rcases h4 with ⟨e, h4, rfl⟩ | ⟨e, q2, h4, h5⟩
      · cases hm
      · exact h5.has m hm
theorem SR.lt {c : List (List UInt8)} {q : Nat} {E : List (Nat × CObj)} {ty : List (Nat × Nat)} {ids : List Nat} {n : Nat} (h : SR c q E ty ids) (hu : Under E n) (m : Nat) (hm : m ∈ ids) : m < n := by
  obtain ⟨o, ho⟩ := h.has m hm
  exact in_under hu ho

theorem bw_F {q a b : Nat} {r raw : List UInt8} {b0 b1 : CVal} {bi : List Nat} (hraw : raw ≠ []) (hrl : r.length < 100000) (hwl : raw.length < 100000) {h : CHeap} (hf : Fit h) (hg : getEnt h.ents q = some (staO a b b0 b1)) (hb : BR r q b0 b1 h.ents h.tys bi) (hq : q ∉ bi) {K : CVal → CHeap → Prop}
    (hk : ∀ (h' : CHeap) b0' b1' bi', Fit h' → h.next ≤ h'.next → getEnt h'.ents q = some (staO a b b0' b1') → BR (r ++ raw) q b0' b1' h'.ents h'.tys bi' → (∀ m, m < h.next → m ≠ q → m ∉ bi → getEnt h'.ents m = getEnt h.ents m) → (∀ m, m < h.next → lookupN h'.tys m = lookupN h.tys m) → (∀ m ∈ bi', m ∈ bi ∨ h.next ≤ m) → bi'.Nodup → K (.tup [.int .i64 raw.length, .nili]) h') :
    Wc tree.getF 35 [.ptr q SD 5, .str raw] h K := by
  have hne : r ++ raw ≠ [] := by simp [hraw]
  rcases hb with ⟨rfl, rfl, rfl, rfl⟩ | ⟨h0, w, v, rfl, rfl, rfl, h4, h5⟩
  · refine bw_0 hraw hwl hf hg fun w n' hw hn => ?_
    have lq := in_under hf.1 hg
    refine hk ⟨_, n', _⟩ _ _ [w] ⟨Under.cons hn (hf.1.set.le (by (try dsimp only); omega)), UnderT.cons hn (hf.2.le (by (try dsimp only); omega))⟩ (by (try dsimp only); omega) ?_ (.inr ⟨hne, w, 0, rfl, rfl, rfl, ?_, ?_⟩) ?_ ?_ ?_ (by simp)
    · have : (w == q) = false := by simp; omega
      dsimp only
      rw [getEnt, this]
      exact sy_getEnt_setEnt hg
    · simp [getEnt]
    · simp [lookupN]
    · intro m hm hmq _
      have : (w == m) = false := by simp; omega
      dsimp only
      rw [getEnt, this]
      exact getEnt_setEnt_ne hmq
    · intro m hm
      have : (w == m) = false := by simp; omega
      dsimp only
      rw [lookupN, this]; rfl
    · intro m hm; simp at hm; omega
  · have hqw : q ≠ w := fun e => hq (by simp [e])
    refine bw_1 hraw hrl hwl hf hg h4 h5 hqw fun n' hn => ?_
    have hs : ∀ x, getEnt (setEnt h.ents w x) q = some (staO a b (.ptr q SD 5) (.ref w v 1 0 r.length)) := fun x => by rw [getEnt_setEnt_ne hqw]; exact hg
    refine hk ⟨_, n', _⟩ _ _ [w] ⟨hf.1.set.set.le hn, hf.2.le hn⟩ hn (sy_getEnt_setEnt (hs _)) (.inr ⟨hne, w, v + 1, rfl, rfl, rfl, ?_, h5⟩) ?_ (fun _ _ => rfl) (fun m hm => .inl hm) (by simp)
    · dsimp only
      rw [getEnt_setEnt_ne (Ne.symm hqw)]
      exact sy_getEnt_setEnt h4
    · intro m hm hmq hmw
      dsimp only
      rw [getEnt_setEnt_ne hmq, getEnt_setEnt_ne (fun e => hmw (by simp [e]))]
end Go.Proofs.YtnddcjimijmenaaGreat.IrU
namespace Go.Proofs.YtnddcjimijmenaaGreat.IrU
open Go Go.CI
set_option maxRecDepth 100000
set_option maxHeartbeats 4000000
set_option linter.unusedVariables false
set_option linter.unusedSimpArgs false
attribute [local irreducible] W Wo Wc WoR

/-- What the decoder's split gives, and the error behind it. -/
def splE (deep : Nat) (b : List UInt8) (e : Nat) : CVal × Nat := if e ≠ 0 then (.nils, e) else if 20 < deep then (.nils, 3) else if 5000 < b.length then (.nils, 3) else match splitF b with
  | none => (.nils, 2)
  | some l => (recsV l, 0)
theorem spt_F {d n e deep : Nat} {b : List UInt8} (hdeep : deep < 1000) (he : e ≤ 3) {h : CHeap} (hf : Fit h) (hg : getEnt h.ents d = some (decO n e)) {K : CVal → CHeap → Prop}
    (hk : ∀ n', h.next ≤ n' → K (splE deep b e).1 ⟨setEnt h.ents d (decO n (splE deep b e).2), n', h.tys⟩) : Wc tree.getF 32 [.ptr d DD 0, .str b, .int .i64 deep] h K := by
  obtain ⟨hu, hut, hX⟩ := fx4 hf
  have hY := fx5 hf hg; have ⟨hG, hD, hC, hN⟩ := hY
  have lp := in_under hu hg
  have hse : setEnt h.ents d (decO n e) = h.ents := setEnt_same hg
  by_cases he0 : e = 0
  · subst he0
    by_cases hd : 20 < deep
    · have e1 : splE deep b 0 = (.nils, 3) := by simp [splE, hd]
      rw [e1] at hk
      refine mk_ 32 c32 (s_ ?_)
      have hZ := j4_ hX hg hY hse
      repeat (first
        | refine vk_ ?_
        | (refine mk_ 50 c50 (s_ ?_))
        | (refine rk_ ?_; refine ⟨rfl, ?_⟩))
      refine rk_ ?_
      refine hk _ ?_; exact om_
    · have V1 := split_F b
      have e1 : splE deep b 0 = if 5000 < b.length then (.nils, 3) else match splitF b with | none => (.nils, 2) | some l => (recsV l, 0) := by simp [splE, hd]
      rw [e1] at hk
      unfold splitV at V1
      by_cases hl : 5000 < b.length
      · rw [if_pos hl] at V1 hk
        refine mk_ 32 c32 (s_ ?_)
        have hZ := j4_ hX hg hY hse
        repeat (first
          | refine vk_ ?_
          | (refine pe_ (V1) fun n1 hn1 => ⟨rfl, ?_⟩; (try dsimp only at hn1))
          | (refine mk_ 50 c50 (s_ ?_))
          | (refine rk_ ?_; refine ⟨rfl, ?_⟩))
        refine rk_ ?_
        refine hk _ ?_; exact om_
      · rw [if_neg hl] at V1 hk
        cases e2 : splitF b with
        | none =>
          rw [e2] at V1 hk
          refine mk_ 32 c32 (s_ ?_)
          have hZ := j4_ hX hg hY hse
          repeat (first
            | refine vk_ ?_
            | (refine pe_ (V1) fun n1 hn1 => ⟨rfl, ?_⟩; (try dsimp only at hn1))
            | (refine mk_ 50 c50 (s_ ?_))
            | (refine rk_ ?_; refine ⟨rfl, ?_⟩))
          refine rk_ ?_
          refine hk _ ?_; exact om_
        | some l =>
          rw [e2] at V1 hk
          dsimp only at V1 hk
          rw [hse] at hk
          have hu1 : (recsV l).isUndef = false := by cases l <;> rfl
          have hu2 : (recsV l).bare = recsV l := by cases l <;> rfl
          have hu3 : (recsV l).whole = true := by cases l <;> rfl
          have hu4 : (recsV l).strip = recsV l := by cases l <;> rfl
          have hu5 : (recsV l).cells = [recsV l] := by cases l <;> rfl
          generalize recsV l = v at *
          simp only [CVal.isUndef, CVal.bare, CVal.whole, CVal.strip, CVal.cells] at hu1 hu2 hu3 hu4 hu5
          refine mk_ 32 c32 (s_ ?_)
          have hZ := j9_ hX hg hY hse hu1 hu2 hu3 hu4 hu5
          repeat (first
            | refine vk_ ?_
            | (refine pe_ (V1) fun n1 hn1 => ⟨rfl, ?_⟩; (try dsimp only at hn1))
            | (refine mk_ 50 c50 (s_ ?_))
            | (refine rk_ ?_; refine ⟨rfl, ?_⟩))
          refine rk_ ?_
          refine hk _ ?_; exact om_
  · have e1 : splE deep b e = (.nils, e) := by simp [splE, he0]
    rw [e1] at hk
    dsimp only at hk
    rw [hse] at hk
    have e2 : ((e : Int) == 0) = false := by simp; omega
    have e3 : ((e : Int) != 0) = true := by simp; omega
    by_cases hd : 20 < deep
    · skip
      refine mk_ 32 c32 (s_ ?_)
      have hZ := j6_ hX hg hY hse e2 e3
      repeat (first
        | refine vk_ ?_
        | (refine mk_ 50 c50 (s_ ?_))
        | (refine rk_ ?_; refine ⟨rfl, ?_⟩))
      refine rk_ ?_
      refine hk _ ?_; exact om_
    · skip
      refine mk_ 32 c32 (s_ ?_)
      have hZ := j6_ hX hg hY hse e2 e3
      repeat (first
        | refine vk_ ?_
        | (refine mk_ 50 c50 (s_ ?_))
        | (refine rk_ ?_; refine ⟨rfl, ?_⟩))
      refine rk_ ?_
      refine hk _ ?_; exact om_
theorem cnt_F {d n : Nat} (hn0 : n ≤ 2000) {h : CHeap} (hf : Fit h) (hg : getEnt h.ents d = some (decO n 0)) {K : CVal → CHeap → Prop}
    (hk : ∀ n', h.next ≤ n' → K (.tup []) ⟨setEnt h.ents d (decO (n + 1) (if 2000 < n + 1 then 3 else 0)), n', h.tys⟩) : Wc tree.getF 60 [.ptr d DD 0] h K := by
  obtain ⟨hu, hut, hX⟩ := fx4 hf
  have hY := fx5 hf hg; have ⟨hG, hD, hC, hN⟩ := hY
  have lp := in_under hu hg
  by_cases h1 : 2000 < n + 1
  · rw [if_pos h1] at hk
    have h2 : (2000 : Int) < (n : Int) + 1 := by omega
    push_cast at hk
    refine mk_ 60 c60 (s_ ?_)
    have hZ := j3_ hX hg hY
    repeat (first
      | refine vk_ ?_
      | (refine mk_ 50 c50 (s_ ?_))
      | (refine rk_ ?_; refine ⟨rfl, ?_⟩))
    refine rk_ ?_
    refine hk _ ?_; exact om_
  · rw [if_neg h1] at hk
    have h2 : ¬ (2000 : Int) < (n : Int) + 1 := by omega
    push_cast at hk
    refine mk_ 60 c60 (s_ ?_)
    have hZ := j3_ hX hg hY
    repeat (first
      | refine vk_ ?_
      | (refine mk_ 50 c50 (s_ ?_))
      | (refine rk_ ?_; refine ⟨rfl, ?_⟩))
    refine rk_ ?_
    refine hk _ ?_; exact om_
theorem fre_F {d n e : Nat} {h : CHeap} (hf : Fit h) (hg : getEnt h.ents d = some (decO n e)) {K : CVal → CHeap → Prop}
    (hk : ∀ z a b q n' cs, h.next ≤ z → z < a → a < b → b < q → q < n' → K (.ptr q SD 0) ⟨(q, staO a b .nilp .nils) :: (b, .map 0 []) :: (a, .map 0 []) :: (z, .cells cs) :: h.ents, n', h.tys⟩) : Wc tree.getF 19 [.ptr d DD 0, .str [65]] h K := by
  obtain ⟨hu, hut, hX⟩ := fx4 hf
  have lp := in_under hu hg
  refine mk_ 19 c19 (s_ ?_)
  have hZ := j2_ hX hg
  repeat (first
    | refine vk_ ?_
    | (refine pe_ (message_A) fun n1 hn1 => ⟨rfl, ?_⟩; (try dsimp only at hn1)))
  refine rk_ ?_
  refine hk _ _ _ _ _ _ ?_ ?_ ?_ ?_ ?_ <;> exact om_
end Go.Proofs.YtnddcjimijmenaaGreat.IrU
