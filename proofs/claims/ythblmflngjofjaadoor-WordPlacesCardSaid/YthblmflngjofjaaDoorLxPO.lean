/- What the functions of the law 'WordPlaces' do: part 16. -/
import Derived.Test.YthblmflngjofjaaDoorLxPN
namespace Go.Proofs.YthblmflngjofjaaDoor.IrP
open Go Go.CI
open Go.LexF hiding spacesB lettersB
set_option maxRecDepth 100000
set_option linter.unusedVariables false
set_option linter.unusedSimpArgs false
attribute [local irreducible] W Wo Wc WoR
attribute [local simp] goR regOut checkOne swapOne sameAt nthOp CVal.beq beqs CVal.block storesTo entryC evalOps evalOper evalE evalP evalL evalOpnd nth setNth COp.cls COp.isStore CVal.isUndef CVal.whole CVal.cells CHeap.put CHeap.get CHeap.set wantedC getEnt setEnt partOf writeBack evalBin evalInt evalStr blockMost initVar descOf List.take List.drop CVal.lenOf CVal.isStr CVal.bare CVal.strip CVal.flat endsC resultsC oneOrTuple finishC cut fillCells setCells szOf szOf_desc elems bytesOf evalAppend fillElems mkElem setElem List.replicate sy_nbeq sy_neqF sy_leT sy_leF sy_setEnt_setEnt dropped sy_wrap64 dropEnts dropCells sizeMost sy_ibeqF sy_ieqF sy_ileT sy_ileF sy_iltT sy_iltF sy_ltT sy_ltF evalSlc optBound eqVal extL extE keyIs findKV nthKV setKV CHeap.ty lookupN CHeap.note CHeap.tyOk dropAll freezeVal freezeAll freezeFlat pCopyCheck pBString pMakeNoZero pIndexByte pClone pIndex hasPair rowOf byteVals idxFrom hasFront idxSub

set_option maxHeartbeats 4000000 in
theorem text_loop0 (valid : Bytes → Bool) (hV : ∀ t : Bytes, t.length ≤ 60000 → Pe 35 [.str t] (.bool (valid t))) {n0 : Nat} {E0 : List (Nat × CObj)} (p d : Nat) (s : List UInt8) (q : UInt8) (a : Nat) (L : CVal) (ts : List CVal) (hts : ts.length ≤ 100000) (to : Int) (hs : s.length < 50000) (h : CHeap) (S : St n0 E0 p s (a : Int) L ts 0 to h) (K : CVal → CHeap → Prop) (bq : Nat) (hb : h.next ≤ bq) (t : List UInt8) (i k : Nat) (n : Nat) (ty : List (Nat × Nat)) (v3 v4 v6 v8 v9 v10 v11 v12 : CVal) (hd : s.drop i = t) (hlen : i + t.length = s.length) (hrn : bq < n) (hut2 : UnderT ty n) (hia : i = a + (k + 1))
    (hk1 : ∀ txt kk, textF q t [] k = some (txt, kk) → valid txt = true → ∀ h' L', St n0 E0 p s ((a + (kk + 1) : Nat) : Int) L' (ts ++ [tokC 3 txt 0 a]) 0 to h' → h.next ≤ h'.next → K (.tup []) h')
    (hk2 : (textF q t [] k = none ∨ ∃ txt kk, textF q t [] k = some (txt, kk) ∧ valid txt = false) → ∀ h' at' L' ts', St n0 E0 p s at' L' ts' 2 (a : Int) h' → h.next ≤ h'.next → K (.tup []) h') :
    W tree.getF textLoop ⟨[.ptr p d 0, .int .i64 (a : Int), .int .i64 (i : Int), v3, v4, .int .u8 (q.toNat : Int), v6, .ptr bq 58720258 0, v8, v9, v10, v11, v12], ⟨((bq, .cells [.nilp, .nils]) :: h.ents), n, ty⟩, []⟩ (fun x st' => thenW tree.getF textRest (endW c21 h.next K) (outOf 0 x) st') := by
  have hm : t.length ≤ t.length := Nat.le_refl _
  have hg := S.g
  have hf := S.f
  have hp := S.lt
  have hql := q.toNat_lt
  have hll : s.length < 4611686018427387904 := by omega
  have hil : i + t.length = s.length := hlen
  have hEb : ∀ x, getEnt (setEnt h.ents p x) bq = none := fun x => getEnt_under hf.1.set hb
  obtain ⟨hu, hut⟩ := hf
  have hD : ∀ m, h.next ≤ m → dropEnts h.ents m = h.ents := fun m hm => dropEnts_under (hu.le hm)
  have hC : ∀ m, h.next ≤ m → dropCells h.ents m = h.ents := fun m hm => dropCells_under (hu.le hm)
  have hN : ∀ q, h.next ≤ q → getEnt h.ents q = none := fun q hq => getEnt_under hu hq
  have hT : ∀ q, h.next ≤ q → lookupN h.tys q = none := fun q hq => lookupN_under hut hq
  have hG : ∀ x, getEnt (setEnt h.ents p x) p = some x := fun x => sy_getEnt_setEnt hg
  have hD2 : ∀ x m, h.next ≤ m → dropEnts (setEnt h.ents p x) m = setEnt h.ents p x := fun x m hm => dropEnts_under (hu.set.le hm)
  have hC2 : ∀ x m, h.next ≤ m → dropCells (setEnt h.ents p x) m = setEnt h.ents p x := fun x m hm => dropCells_under (hu.set.le hm)
  have hN2 : ∀ x q, h.next ≤ q → getEnt (setEnt h.ents p x) q = none := fun x q hq => getEnt_under hu.set hq
  cases t with
  | nil =>
    simp only [List.length_nil, Nat.add_zero] at hil
    have herr : textF q [] ([] : List UInt8) k = none ∨ ∃ txt kk, textF q [] ([] : List UInt8) k = some (txt, kk) ∧ valid txt = false := .inl rfl
    refine W.loop ?_
    repeat (first
      | refine W.seq ?_
      | refine W.block ?_
      | ((first | refine W.regG ?_ | refine WoR.go ?_); generalize e : goR _ _ _ _ _ _ _ _ = r; simp (disch := omega) [hD, hC, hN, hT, hg, hG, hD2, hC2, hN2, hql, hEb, hll, hil, c17, c37, c21] at e; replace e : some _ = _ := e; subst e; (try dsimp only [goW]))
      | refine W.cond_true rfl ?_
      | refine W.cond_false rfl ?_
      | refine W.skip ?_
      | refine W.exit ?_
      | (refine Wc.mkG 17 c17 (by kernel_rfl) rfl ?_; generalize e : entryC _ _ _ = r; simp (disch := omega) [hD, hC, hN, hT, hg, hG, hD2, hC2, hN2, hql, hEb, hll, hil, c17, c37, c21] at e; subst e)
      | (refine Wc.mkG 37 c37 (by kernel_rfl) rfl ?_; generalize e : entryC _ _ _ = r; simp (disch := omega) [hD, hC, hN, hT, hg, hG, hD2, hC2, hN2, hql, hEb, hll, hil, c17, c37, c21] at e; subst e)
      | (refine Wc.primM (f := 36) (p := (pBString 5)) (by kernel_rfl) ?_; generalize e : (pBString 5) _ _ = r; simp (disch := omega) [hD, hC, hN, hT, hg, hG, hD2, hC2, hN2, hql, hEb, hll, hil, c17, c37, c21] at e; subst e; (try dsimp only); refine ⟨rfl, ?_⟩)
      | (refine Wc.primM (f := 51) (p := (pCopyCheck [(58720258, 0)])) (by kernel_rfl) ?_; generalize e : (pCopyCheck [(58720258, 0)]) _ _ = r; simp (disch := omega) [hD, hC, hN, hT, hg, hG, hD2, hC2, hN2, hql, hEb, hll, hil, c17, c37, c21] at e; subst e; (try dsimp only); refine ⟨rfl, ?_⟩)
      | ((first | (refine W.ret ?_; (try simp only [outOf, thenW_ret, roundW]); refine endW.of (.inl rfl) rfl ?_) | refine endW.of (.inr rfl) rfl ?_); generalize e : endsC _ _ _ = r; simp (disch := omega) [hD, hC, hN, hT, hg, hG, hD2, hC2, hN2, hql, hEb, hll, hil, c17, c37, c21] at e; subst e; (try dsimp only [goW]); (first | refine ⟨rfl, ?_⟩ | (refine hk2 ?_ _ _ _ _ (S.upd ?_ ?_) ?_; (focus ((exact herr); done)); (focus (((try dsimp only); omega); done)); (focus ((repeat (first | exact hut.le (by (try dsimp only); omega) | refine UnderT.cons (by (try dsimp only); omega) ?_ | exact UnderT.nil | assumption | exact UnderT.le (by assumption) (by (try dsimp only); omega))); done)); (try dsimp only); omega))))
  | cons c t1 =>
    obtain ⟨hlt, hget, hd1⟩ := get_of_dropG hd
    have hge : s[i] = c := by rw [List.getElem?_eq_getElem hlt] at hget; exact Option.some.inj hget
    simp only [List.length_cons] at hlen hm
    have hcl := c.toNat_lt
    by_cases hq : c = q
    · subst hq
      have htx : textF c (c :: t1) ([] : List UInt8) k = some (([] : List UInt8), k + 1) := by unfold textF; rw [if_pos rfl]
      have hps : ((a + (k + 1 + 1) : Nat) : Int) = (i : Int) + 1 := by omega
      cases hvt : valid ([] : List UInt8) with
      | true =>
        replace hk1 := hk1 _ _ htx hvt
        rw [hps] at hk1
        rcases S.l with ⟨rfl, rfl⟩ | ⟨i2, v2', rfl, ht, hip, hi0, hin⟩
        ·
          refine W.loop ?_
          repeat (first
            | refine W.seq ?_
            | refine W.block ?_
            | ((first | refine W.regG ?_ | refine WoR.go ?_); generalize e : goR _ _ _ _ _ _ _ _ = r; simp (disch := omega) [hD, hC, hN, hT, hg, hG, hD2, hC2, hN2, hql, hEb, hll, hge, hget, hvt, c17, c37, c21] at e; replace e : some _ = _ := e; subst e; (try dsimp only [goW]))
            | refine W.cond_true rfl ?_
            | refine W.cond_false rfl ?_
            | refine W.skip ?_
            | refine W.exit ?_
            | (refine hV ([]) (by (try simp) <;> omega) _ ?_ _ fun n7 hn7 => ⟨rfl, ?_⟩; (focus (((refine ⟨?_, ?_⟩; (focus ((repeat (first | exact hu.le (by (try dsimp only); omega) | exact hu.set.le (by (try dsimp only); omega) | exact hu.set.set.le (by (try dsimp only); omega) | refine Under.cons (by (try dsimp only); omega) ?_ | exact Under.nil)); done)); (focus ((repeat (first | exact hut.le (by (try dsimp only); omega) | refine UnderT.cons (by (try dsimp only); omega) ?_ | exact UnderT.nil | assumption | exact UnderT.le (by assumption) (by (try dsimp only); omega))); done)))); done)); (try dsimp only at hn7))
            | (refine Wc.mkG 17 c17 (by kernel_rfl) rfl ?_; generalize e : entryC _ _ _ = r; simp (disch := omega) [hD, hC, hN, hT, hg, hG, hD2, hC2, hN2, hql, hEb, hll, hge, hget, hvt, c17, c37, c21] at e; subst e)
            | (refine Wc.mkG 37 c37 (by kernel_rfl) rfl ?_; generalize e : entryC _ _ _ = r; simp (disch := omega) [hD, hC, hN, hT, hg, hG, hD2, hC2, hN2, hql, hEb, hll, hge, hget, hvt, c17, c37, c21] at e; subst e)
            | (refine Wc.primM (f := 36) (p := (pBString 5)) (by kernel_rfl) ?_; generalize e : (pBString 5) _ _ = r; simp (disch := omega) [hD, hC, hN, hT, hg, hG, hD2, hC2, hN2, hql, hEb, hll, hge, hget, hvt, c17, c37, c21] at e; subst e; (try dsimp only); refine ⟨rfl, ?_⟩)
            | (refine Wc.primM (f := 51) (p := (pCopyCheck [(58720258, 0)])) (by kernel_rfl) ?_; generalize e : (pCopyCheck [(58720258, 0)]) _ _ = r; simp (disch := omega) [hD, hC, hN, hT, hg, hG, hD2, hC2, hN2, hql, hEb, hll, hge, hget, hvt, c17, c37, c21] at e; subst e; (try dsimp only); refine ⟨rfl, ?_⟩)
            | ((first | (refine W.ret ?_; (try simp only [outOf, thenW_ret, roundW]); refine endW.of (.inl rfl) rfl ?_) | refine endW.of (.inr rfl) rfl ?_); generalize e : endsC _ _ _ = r; simp (disch := omega) [hD, hC, hN, hT, hg, hG, hD2, hC2, hN2, hql, hEb, hll, hge, hget, hvt, c17, c37, c21] at e; subst e; (try dsimp only [goW]); (first | refine ⟨rfl, ?_⟩ | (refine hk1 _ _ (S.app0 ?_ ?_ ?_) ?_; (focus (((try dsimp only); omega); done)); (focus (((try dsimp only); omega); done)); (focus ((repeat (first | exact hut.le (by (try dsimp only); omega) | refine UnderT.cons (by (try dsimp only); omega) ?_ | exact UnderT.nil | assumption | exact UnderT.le (by assumption) (by (try dsimp only); omega))); done)); (try dsimp only); omega))))
        ·
          have htP : ∀ x, getEnt (setEnt h.ents p x) i2 = some (.tok v2') := fun x => (getEnt_setEnt_ne hip).trans ht
          have hPt : ∀ x y, getEnt (setEnt (setEnt h.ents i2 x) p y) p = some y := fun x y => sy_getEnt_setEnt ((getEnt_setEnt_ne (Ne.symm hip)).trans hg)
          have hTT : ∀ x y, getEnt (setEnt (setEnt h.ents i2 x) p y) i2 = some x := fun x y => (getEnt_setEnt_ne hip).trans (sy_getEnt_setEnt ht)
          have hiP : ∀ x, getEnt (setEnt h.ents i2 x) p = _ := fun x => (getEnt_setEnt_ne (Ne.symm hip)).trans hg
          have hcomm : ∀ x y, setEnt (setEnt h.ents p y) i2 x = setEnt (setEnt h.ents i2 x) p y := fun x y => setEnt_comm (Ne.symm hip)
          have hC3 : ∀ x y m, h.next ≤ m → dropCells (setEnt (setEnt h.ents i2 x) p y) m = setEnt (setEnt h.ents i2 x) p y := fun x y m hm => dropCells_under (hu.set.set.le hm)
          have hD3 : ∀ x y m, h.next ≤ m → dropEnts (setEnt (setEnt h.ents i2 x) p y) m = setEnt (setEnt h.ents i2 x) p y := fun x y m hm => dropEnts_under (hu.set.set.le hm)
          refine W.loop ?_
          repeat (first
            | refine W.seq ?_
            | refine W.block ?_
            | ((first | refine W.regG ?_ | refine WoR.go ?_); generalize e : goR _ _ _ _ _ _ _ _ = r; simp (disch := omega) [hD, hC, hN, hT, hg, hG, hD2, hC2, hN2, hql, hEb, hll, ht, htP, hPt, hTT, hiP, hcomm, hC3, hD3, hts, beqs_refl, hge, hget, hvt, c17, c37, c21] at e; replace e : some _ = _ := e; subst e; (try dsimp only [goW]))
            | refine W.cond_true rfl ?_
            | refine W.cond_false rfl ?_
            | refine W.skip ?_
            | refine W.exit ?_
            | (refine hV ([]) (by (try simp) <;> omega) _ ?_ _ fun n7 hn7 => ⟨rfl, ?_⟩; (focus (((refine ⟨?_, ?_⟩; (focus ((repeat (first | exact hu.le (by (try dsimp only); omega) | exact hu.set.le (by (try dsimp only); omega) | exact hu.set.set.le (by (try dsimp only); omega) | refine Under.cons (by (try dsimp only); omega) ?_ | exact Under.nil)); done)); (focus ((repeat (first | exact hut.le (by (try dsimp only); omega) | refine UnderT.cons (by (try dsimp only); omega) ?_ | exact UnderT.nil | assumption | exact UnderT.le (by assumption) (by (try dsimp only); omega))); done)))); done)); (try dsimp only at hn7))
            | (refine Wc.mkG 17 c17 (by kernel_rfl) rfl ?_; generalize e : entryC _ _ _ = r; simp (disch := omega) [hD, hC, hN, hT, hg, hG, hD2, hC2, hN2, hql, hEb, hll, ht, htP, hPt, hTT, hiP, hcomm, hC3, hD3, hts, beqs_refl, hge, hget, hvt, c17, c37, c21] at e; subst e)
            | (refine Wc.mkG 37 c37 (by kernel_rfl) rfl ?_; generalize e : entryC _ _ _ = r; simp (disch := omega) [hD, hC, hN, hT, hg, hG, hD2, hC2, hN2, hql, hEb, hll, ht, htP, hPt, hTT, hiP, hcomm, hC3, hD3, hts, beqs_refl, hge, hget, hvt, c17, c37, c21] at e; subst e)
            | (refine Wc.primM (f := 36) (p := (pBString 5)) (by kernel_rfl) ?_; generalize e : (pBString 5) _ _ = r; simp (disch := omega) [hD, hC, hN, hT, hg, hG, hD2, hC2, hN2, hql, hEb, hll, ht, htP, hPt, hTT, hiP, hcomm, hC3, hD3, hts, beqs_refl, hge, hget, hvt, c17, c37, c21] at e; subst e; (try dsimp only); refine ⟨rfl, ?_⟩)
            | (refine Wc.primM (f := 51) (p := (pCopyCheck [(58720258, 0)])) (by kernel_rfl) ?_; generalize e : (pCopyCheck [(58720258, 0)]) _ _ = r; simp (disch := omega) [hD, hC, hN, hT, hg, hG, hD2, hC2, hN2, hql, hEb, hll, ht, htP, hPt, hTT, hiP, hcomm, hC3, hD3, hts, beqs_refl, hge, hget, hvt, c17, c37, c21] at e; subst e; (try dsimp only); refine ⟨rfl, ?_⟩)
            | ((first | (refine W.ret ?_; (try simp only [outOf, thenW_ret, roundW]); refine endW.of (.inl rfl) rfl ?_) | refine endW.of (.inr rfl) rfl ?_); generalize e : endsC _ _ _ = r; simp (disch := omega) [hD, hC, hN, hT, hg, hG, hD2, hC2, hN2, hql, hEb, hll, ht, htP, hPt, hTT, hiP, hcomm, hC3, hD3, hts, beqs_refl, hge, hget, hvt, c17, c37, c21] at e; subst e; (try dsimp only [goW]); (first | refine ⟨rfl, ?_⟩ | (refine hk1 _ _ (S.app1 ht hip hi0 hin ?_ ?_) ?_; (focus (((try dsimp only); omega); done)); (focus ((repeat (first | exact hut.le (by (try dsimp only); omega) | refine UnderT.cons (by (try dsimp only); omega) ?_ | exact UnderT.nil | assumption | exact UnderT.le (by assumption) (by (try dsimp only); omega))); done)); (try dsimp only); omega))))
      | false =>
        have herr : textF c (c :: t1) ([] : List UInt8) k = none ∨ ∃ txt kk, textF c (c :: t1) ([] : List UInt8) k = some (txt, kk) ∧ valid txt = false := .inr ⟨_, _, htx, hvt⟩
        rcases S.l with ⟨rfl, rfl⟩ | ⟨i2, v2', rfl, ht, hip, hi0, hin⟩
        ·
          refine W.loop ?_
          repeat (first
            | refine W.seq ?_
            | refine W.block ?_
            | ((first | refine W.regG ?_ | refine WoR.go ?_); generalize e : goR _ _ _ _ _ _ _ _ = r; simp (disch := omega) [hD, hC, hN, hT, hg, hG, hD2, hC2, hN2, hql, hEb, hll, hge, hget, hvt, c17, c37, c21] at e; replace e : some _ = _ := e; subst e; (try dsimp only [goW]))
            | refine W.cond_true rfl ?_
            | refine W.cond_false rfl ?_
            | refine W.skip ?_
            | refine W.exit ?_
            | (refine hV ([]) (by (try simp) <;> omega) _ ?_ _ fun n7 hn7 => ⟨rfl, ?_⟩; (focus (((refine ⟨?_, ?_⟩; (focus ((repeat (first | exact hu.le (by (try dsimp only); omega) | exact hu.set.le (by (try dsimp only); omega) | exact hu.set.set.le (by (try dsimp only); omega) | refine Under.cons (by (try dsimp only); omega) ?_ | exact Under.nil)); done)); (focus ((repeat (first | exact hut.le (by (try dsimp only); omega) | refine UnderT.cons (by (try dsimp only); omega) ?_ | exact UnderT.nil | assumption | exact UnderT.le (by assumption) (by (try dsimp only); omega))); done)))); done)); (try dsimp only at hn7))
            | (refine Wc.mkG 17 c17 (by kernel_rfl) rfl ?_; generalize e : entryC _ _ _ = r; simp (disch := omega) [hD, hC, hN, hT, hg, hG, hD2, hC2, hN2, hql, hEb, hll, hge, hget, hvt, c17, c37, c21] at e; subst e)
            | (refine Wc.mkG 37 c37 (by kernel_rfl) rfl ?_; generalize e : entryC _ _ _ = r; simp (disch := omega) [hD, hC, hN, hT, hg, hG, hD2, hC2, hN2, hql, hEb, hll, hge, hget, hvt, c17, c37, c21] at e; subst e)
            | (refine Wc.primM (f := 36) (p := (pBString 5)) (by kernel_rfl) ?_; generalize e : (pBString 5) _ _ = r; simp (disch := omega) [hD, hC, hN, hT, hg, hG, hD2, hC2, hN2, hql, hEb, hll, hge, hget, hvt, c17, c37, c21] at e; subst e; (try dsimp only); refine ⟨rfl, ?_⟩)
            | (refine Wc.primM (f := 51) (p := (pCopyCheck [(58720258, 0)])) (by kernel_rfl) ?_; generalize e : (pCopyCheck [(58720258, 0)]) _ _ = r; simp (disch := omega) [hD, hC, hN, hT, hg, hG, hD2, hC2, hN2, hql, hEb, hll, hge, hget, hvt, c17, c37, c21] at e; subst e; (try dsimp only); refine ⟨rfl, ?_⟩)
            | ((first | (refine W.ret ?_; (try simp only [outOf, thenW_ret, roundW]); refine endW.of (.inl rfl) rfl ?_) | refine endW.of (.inr rfl) rfl ?_); generalize e : endsC _ _ _ = r; simp (disch := omega) [hD, hC, hN, hT, hg, hG, hD2, hC2, hN2, hql, hEb, hll, hge, hget, hvt, c17, c37, c21] at e; subst e; (try dsimp only [goW]); (first | refine ⟨rfl, ?_⟩ | (refine hk2 herr _ _ _ _ (S.app0 ?_ ?_ ?_) ?_; (focus (((try dsimp only); omega); done)); (focus (((try dsimp only); omega); done)); (focus ((repeat (first | exact hut.le (by (try dsimp only); omega) | refine UnderT.cons (by (try dsimp only); omega) ?_ | exact UnderT.nil | assumption | exact UnderT.le (by assumption) (by (try dsimp only); omega))); done)); (try dsimp only); omega))))
        ·
          have htP : ∀ x, getEnt (setEnt h.ents p x) i2 = some (.tok v2') := fun x => (getEnt_setEnt_ne hip).trans ht
          have hPt : ∀ x y, getEnt (setEnt (setEnt h.ents i2 x) p y) p = some y := fun x y => sy_getEnt_setEnt ((getEnt_setEnt_ne (Ne.symm hip)).trans hg)
          have hTT : ∀ x y, getEnt (setEnt (setEnt h.ents i2 x) p y) i2 = some x := fun x y => (getEnt_setEnt_ne hip).trans (sy_getEnt_setEnt ht)
          have hiP : ∀ x, getEnt (setEnt h.ents i2 x) p = _ := fun x => (getEnt_setEnt_ne (Ne.symm hip)).trans hg
          have hcomm : ∀ x y, setEnt (setEnt h.ents p y) i2 x = setEnt (setEnt h.ents i2 x) p y := fun x y => setEnt_comm (Ne.symm hip)
          have hC3 : ∀ x y m, h.next ≤ m → dropCells (setEnt (setEnt h.ents i2 x) p y) m = setEnt (setEnt h.ents i2 x) p y := fun x y m hm => dropCells_under (hu.set.set.le hm)
          have hD3 : ∀ x y m, h.next ≤ m → dropEnts (setEnt (setEnt h.ents i2 x) p y) m = setEnt (setEnt h.ents i2 x) p y := fun x y m hm => dropEnts_under (hu.set.set.le hm)
          refine W.loop ?_
          repeat (first
            | refine W.seq ?_
            | refine W.block ?_
            | ((first | refine W.regG ?_ | refine WoR.go ?_); generalize e : goR _ _ _ _ _ _ _ _ = r; simp (disch := omega) [hD, hC, hN, hT, hg, hG, hD2, hC2, hN2, hql, hEb, hll, ht, htP, hPt, hTT, hiP, hcomm, hC3, hD3, hts, beqs_refl, hge, hget, hvt, c17, c37, c21] at e; replace e : some _ = _ := e; subst e; (try dsimp only [goW]))
            | refine W.cond_true rfl ?_
            | refine W.cond_false rfl ?_
            | refine W.skip ?_
            | refine W.exit ?_
            | (refine hV ([]) (by (try simp) <;> omega) _ ?_ _ fun n7 hn7 => ⟨rfl, ?_⟩; (focus (((refine ⟨?_, ?_⟩; (focus ((repeat (first | exact hu.le (by (try dsimp only); omega) | exact hu.set.le (by (try dsimp only); omega) | exact hu.set.set.le (by (try dsimp only); omega) | refine Under.cons (by (try dsimp only); omega) ?_ | exact Under.nil)); done)); (focus ((repeat (first | exact hut.le (by (try dsimp only); omega) | refine UnderT.cons (by (try dsimp only); omega) ?_ | exact UnderT.nil | assumption | exact UnderT.le (by assumption) (by (try dsimp only); omega))); done)))); done)); (try dsimp only at hn7))
            | (refine Wc.mkG 17 c17 (by kernel_rfl) rfl ?_; generalize e : entryC _ _ _ = r; simp (disch := omega) [hD, hC, hN, hT, hg, hG, hD2, hC2, hN2, hql, hEb, hll, ht, htP, hPt, hTT, hiP, hcomm, hC3, hD3, hts, beqs_refl, hge, hget, hvt, c17, c37, c21] at e; subst e)
            | (refine Wc.mkG 37 c37 (by kernel_rfl) rfl ?_; generalize e : entryC _ _ _ = r; simp (disch := omega) [hD, hC, hN, hT, hg, hG, hD2, hC2, hN2, hql, hEb, hll, ht, htP, hPt, hTT, hiP, hcomm, hC3, hD3, hts, beqs_refl, hge, hget, hvt, c17, c37, c21] at e; subst e)
            | (refine Wc.primM (f := 36) (p := (pBString 5)) (by kernel_rfl) ?_; generalize e : (pBString 5) _ _ = r; simp (disch := omega) [hD, hC, hN, hT, hg, hG, hD2, hC2, hN2, hql, hEb, hll, ht, htP, hPt, hTT, hiP, hcomm, hC3, hD3, hts, beqs_refl, hge, hget, hvt, c17, c37, c21] at e; subst e; (try dsimp only); refine ⟨rfl, ?_⟩)
            | (refine Wc.primM (f := 51) (p := (pCopyCheck [(58720258, 0)])) (by kernel_rfl) ?_; generalize e : (pCopyCheck [(58720258, 0)]) _ _ = r; simp (disch := omega) [hD, hC, hN, hT, hg, hG, hD2, hC2, hN2, hql, hEb, hll, ht, htP, hPt, hTT, hiP, hcomm, hC3, hD3, hts, beqs_refl, hge, hget, hvt, c17, c37, c21] at e; subst e; (try dsimp only); refine ⟨rfl, ?_⟩)
            | ((first | (refine W.ret ?_; (try simp only [outOf, thenW_ret, roundW]); refine endW.of (.inl rfl) rfl ?_) | refine endW.of (.inr rfl) rfl ?_); generalize e : endsC _ _ _ = r; simp (disch := omega) [hD, hC, hN, hT, hg, hG, hD2, hC2, hN2, hql, hEb, hll, ht, htP, hPt, hTT, hiP, hcomm, hC3, hD3, hts, beqs_refl, hge, hget, hvt, c17, c37, c21] at e; subst e; (try dsimp only [goW]); (first | refine ⟨rfl, ?_⟩ | (refine hk2 herr _ _ _ _ (S.app1 ht hip hi0 hin ?_ ?_) ?_; (focus (((try dsimp only); omega); done)); (focus ((repeat (first | exact hut.le (by (try dsimp only); omega) | refine UnderT.cons (by (try dsimp only); omega) ?_ | exact UnderT.nil | assumption | exact UnderT.le (by assumption) (by (try dsimp only); omega))); done)); (try dsimp only); omega))))
    · have hqn : ¬ ((c.toNat : Int) = (q.toNat : Int)) := fun e => hq (UInt8.toNat_inj.1 (by omega))
      by_cases h10 : c = 10
      · have hc10 : (c.toNat : Int) = 10 := by rw [h10]; rfl
        have hqn2 : ¬ ((10 : Int) = (q.toNat : Int)) := by omega
        have herr : textF q (c :: t1) ([] : List UInt8) k = none ∨ ∃ txt kk, textF q (c :: t1) ([] : List UInt8) k = some (txt, kk) ∧ valid txt = false := .inl (by unfold textF; rw [if_neg hq, if_pos h10])
        refine W.loop ?_
        repeat (first
          | refine W.seq ?_
          | refine W.block ?_
          | ((first | refine W.regG ?_ | refine WoR.go ?_); generalize e : goR _ _ _ _ _ _ _ _ = r; simp (disch := omega) [hD, hC, hN, hT, hg, hG, hD2, hC2, hN2, hql, hEb, hll, hge, hget, hc10, hqn, hqn2, c17, c37, c21] at e; replace e : some _ = _ := e; subst e; (try dsimp only [goW]))
          | refine W.cond_true rfl ?_
          | refine W.cond_false rfl ?_
          | refine W.skip ?_
          | refine W.exit ?_
          | (refine Wc.mkG 17 c17 (by kernel_rfl) rfl ?_; generalize e : entryC _ _ _ = r; simp (disch := omega) [hD, hC, hN, hT, hg, hG, hD2, hC2, hN2, hql, hEb, hll, hge, hget, hc10, hqn, hqn2, c17, c37, c21] at e; subst e)
          | (refine Wc.mkG 37 c37 (by kernel_rfl) rfl ?_; generalize e : entryC _ _ _ = r; simp (disch := omega) [hD, hC, hN, hT, hg, hG, hD2, hC2, hN2, hql, hEb, hll, hge, hget, hc10, hqn, hqn2, c17, c37, c21] at e; subst e)
          | (refine Wc.primM (f := 36) (p := (pBString 5)) (by kernel_rfl) ?_; generalize e : (pBString 5) _ _ = r; simp (disch := omega) [hD, hC, hN, hT, hg, hG, hD2, hC2, hN2, hql, hEb, hll, hge, hget, hc10, hqn, hqn2, c17, c37, c21] at e; subst e; (try dsimp only); refine ⟨rfl, ?_⟩)
          | (refine Wc.primM (f := 51) (p := (pCopyCheck [(58720258, 0)])) (by kernel_rfl) ?_; generalize e : (pCopyCheck [(58720258, 0)]) _ _ = r; simp (disch := omega) [hD, hC, hN, hT, hg, hG, hD2, hC2, hN2, hql, hEb, hll, hge, hget, hc10, hqn, hqn2, c17, c37, c21] at e; subst e; (try dsimp only); refine ⟨rfl, ?_⟩)
          | ((first | (refine W.ret ?_; (try simp only [outOf, thenW_ret, roundW]); refine endW.of (.inl rfl) rfl ?_) | refine endW.of (.inr rfl) rfl ?_); generalize e : endsC _ _ _ = r; simp (disch := omega) [hD, hC, hN, hT, hg, hG, hD2, hC2, hN2, hql, hEb, hll, hge, hget, hc10, hqn, hqn2, c17, c37, c21] at e; subst e; (try dsimp only [goW]); (first | refine ⟨rfl, ?_⟩ | (refine hk2 ?_ _ _ _ _ (S.upd ?_ ?_) ?_; (focus ((exact herr); done)); (focus (((try dsimp only); omega); done)); (focus ((repeat (first | exact hut.le (by (try dsimp only); omega) | refine UnderT.cons (by (try dsimp only); omega) ?_ | exact UnderT.nil | assumption | exact UnderT.le (by assumption) (by (try dsimp only); omega))); done)); (try dsimp only); omega))))
      · have hn10 : ¬ ((c.toNat : Int) = 10) := fun e => h10 (UInt8.toNat_inj.1 (by
            have h9 : c.toNat = 10 := by omega
            rw [h9]; rfl))
        by_cases h92 : c = 92
        · have hc92 : (c.toNat : Int) = 92 := by rw [h92]; rfl
          have hqn2 : ¬ ((92 : Int) = (q.toNat : Int)) := by omega
          cases t1 with
          | nil =>
            have herr : textF q [c] ([] : List UInt8) k = none ∨ ∃ txt kk, textF q [c] ([] : List UInt8) k = some (txt, kk) ∧ valid txt = false := .inl (by unfold textF; rw [if_neg hq, if_neg h10, if_pos h92])
            have hil2 : s.length = i + 1 := by simpa using hlen.symm
            refine W.loop ?_
            repeat (first
              | refine W.seq ?_
              | refine W.block ?_
              | ((first | refine W.regG ?_ | refine WoR.go ?_); generalize e : goR _ _ _ _ _ _ _ _ = r; simp (disch := omega) [hD, hC, hN, hT, hg, hG, hD2, hC2, hN2, hql, hEb, hll, hge, hget, hc92, hqn, hqn2, hil2, c17, c37, c21] at e; replace e : some _ = _ := e; subst e; (try dsimp only [goW]))
              | refine W.cond_true rfl ?_
              | refine W.cond_false rfl ?_
              | refine W.skip ?_
              | refine W.exit ?_
              | (refine Wc.mkG 17 c17 (by kernel_rfl) rfl ?_; generalize e : entryC _ _ _ = r; simp (disch := omega) [hD, hC, hN, hT, hg, hG, hD2, hC2, hN2, hql, hEb, hll, hge, hget, hc92, hqn, hqn2, hil2, c17, c37, c21] at e; subst e)
              | (refine Wc.mkG 37 c37 (by kernel_rfl) rfl ?_; generalize e : entryC _ _ _ = r; simp (disch := omega) [hD, hC, hN, hT, hg, hG, hD2, hC2, hN2, hql, hEb, hll, hge, hget, hc92, hqn, hqn2, hil2, c17, c37, c21] at e; subst e)
              | (refine Wc.primM (f := 36) (p := (pBString 5)) (by kernel_rfl) ?_; generalize e : (pBString 5) _ _ = r; simp (disch := omega) [hD, hC, hN, hT, hg, hG, hD2, hC2, hN2, hql, hEb, hll, hge, hget, hc92, hqn, hqn2, hil2, c17, c37, c21] at e; subst e; (try dsimp only); refine ⟨rfl, ?_⟩)
              | (refine Wc.primM (f := 51) (p := (pCopyCheck [(58720258, 0)])) (by kernel_rfl) ?_; generalize e : (pCopyCheck [(58720258, 0)]) _ _ = r; simp (disch := omega) [hD, hC, hN, hT, hg, hG, hD2, hC2, hN2, hql, hEb, hll, hge, hget, hc92, hqn, hqn2, hil2, c17, c37, c21] at e; subst e; (try dsimp only); refine ⟨rfl, ?_⟩)
              | ((first | (refine W.ret ?_; (try simp only [outOf, thenW_ret, roundW]); refine endW.of (.inl rfl) rfl ?_) | refine endW.of (.inr rfl) rfl ?_); generalize e : endsC _ _ _ = r; simp (disch := omega) [hD, hC, hN, hT, hg, hG, hD2, hC2, hN2, hql, hEb, hll, hge, hget, hc92, hqn, hqn2, hil2, c17, c37, c21] at e; subst e; (try dsimp only [goW]); (first | refine ⟨rfl, ?_⟩ | (refine hk2 ?_ _ _ _ _ (S.upd ?_ ?_) ?_; (focus ((exact herr); done)); (focus (((try dsimp only); omega); done)); (focus ((repeat (first | exact hut.le (by (try dsimp only); omega) | refine UnderT.cons (by (try dsimp only); omega) ?_ | exact UnderT.nil | assumption | exact UnderT.le (by assumption) (by (try dsimp only); omega))); done)); (try dsimp only); omega))))
          | cons x u =>
            obtain ⟨hlt2, hget2, hd2⟩ := get_of_dropG hd1
            have hge2 : s[i + 1] = x := by rw [List.getElem?_eq_getElem hlt2] at hget2; exact Option.some.inj hget2
            simp only [List.length_cons] at hlen hm
            have I0 := indexb_G [92, 34, 39, 110] x (by decide)
            have hto1 : ((i : Int) + 1).toNat = i + 1 := by omega
            cases hme : meantF x with
            | none =>
              rw [esc_no x hme] at I0
              have herr : textF q (c :: x :: u) ([] : List UInt8) k = none ∨ ∃ txt kk, textF q (c :: x :: u) ([] : List UInt8) k = some (txt, kk) ∧ valid txt = false := .inl (by unfold textF; rw [if_neg hq, if_neg h10, if_pos h92]; dsimp only; rw [hme])
              refine W.loop ?_
              repeat (first
                | refine W.seq ?_
                | refine W.block ?_
                | ((first | refine W.regG ?_ | refine WoR.go ?_); generalize e : goR _ _ _ _ _ _ _ _ = r; simp (disch := omega) [hD, hC, hN, hT, hg, hG, hD2, hC2, hN2, hql, hEb, hll, hge, hge2, hget, hget2, hto1, hc92, hqn, hqn2, c17, c37, c21] at e; replace e : some _ = _ := e; subst e; (try dsimp only [goW]))
                | refine W.cond_true rfl ?_
                | refine W.cond_false rfl ?_
                | refine W.skip ?_
                | refine W.exit ?_
                | (refine I0 _ ?_ _ fun n5 hn5 => ⟨rfl, ?_⟩; (focus (((refine ⟨?_, ?_⟩; (focus ((repeat (first | exact hu.le (by (try dsimp only); omega) | exact hu.set.le (by (try dsimp only); omega) | exact hu.set.set.le (by (try dsimp only); omega) | refine Under.cons (by (try dsimp only); omega) ?_ | exact Under.nil)); done)); (focus ((repeat (first | exact hut.le (by (try dsimp only); omega) | refine UnderT.cons (by (try dsimp only); omega) ?_ | exact UnderT.nil | assumption | exact UnderT.le (by assumption) (by (try dsimp only); omega))); done)))); done)); (try dsimp only at hn5))
                | (refine Wc.mkG 17 c17 (by kernel_rfl) rfl ?_; generalize e : entryC _ _ _ = r; simp (disch := omega) [hD, hC, hN, hT, hg, hG, hD2, hC2, hN2, hql, hEb, hll, hge, hge2, hget, hget2, hto1, hc92, hqn, hqn2, c17, c37, c21] at e; subst e)
                | (refine Wc.mkG 37 c37 (by kernel_rfl) rfl ?_; generalize e : entryC _ _ _ = r; simp (disch := omega) [hD, hC, hN, hT, hg, hG, hD2, hC2, hN2, hql, hEb, hll, hge, hge2, hget, hget2, hto1, hc92, hqn, hqn2, c17, c37, c21] at e; subst e)
                | (refine Wc.primM (f := 36) (p := (pBString 5)) (by kernel_rfl) ?_; generalize e : (pBString 5) _ _ = r; simp (disch := omega) [hD, hC, hN, hT, hg, hG, hD2, hC2, hN2, hql, hEb, hll, hge, hge2, hget, hget2, hto1, hc92, hqn, hqn2, c17, c37, c21] at e; subst e; (try dsimp only); refine ⟨rfl, ?_⟩)
                | (refine Wc.primM (f := 51) (p := (pCopyCheck [(58720258, 0)])) (by kernel_rfl) ?_; generalize e : (pCopyCheck [(58720258, 0)]) _ _ = r; simp (disch := omega) [hD, hC, hN, hT, hg, hG, hD2, hC2, hN2, hql, hEb, hll, hge, hge2, hget, hget2, hto1, hc92, hqn, hqn2, c17, c37, c21] at e; subst e; (try dsimp only); refine ⟨rfl, ?_⟩)
                | ((first | (refine W.ret ?_; (try simp only [outOf, thenW_ret, roundW]); refine endW.of (.inl rfl) rfl ?_) | refine endW.of (.inr rfl) rfl ?_); generalize e : endsC _ _ _ = r; simp (disch := omega) [hD, hC, hN, hT, hg, hG, hD2, hC2, hN2, hql, hEb, hll, hge, hge2, hget, hget2, hto1, hc92, hqn, hqn2, c17, c37, c21] at e; subst e; (try dsimp only [goW]); (first | refine ⟨rfl, ?_⟩ | (refine hk2 ?_ _ _ _ _ (S.upd ?_ ?_) ?_; (focus ((exact herr); done)); (focus (((try dsimp only); omega); done)); (focus ((repeat (first | exact hut.le (by (try dsimp only); omega) | refine UnderT.cons (by (try dsimp only); omega) ?_ | exact UnderT.nil | assumption | exact UnderT.le (by assumption) (by (try dsimp only); omega))); done)); (try dsimp only); omega))))
            | some m =>
              have htx2 : textF q (c :: x :: u) ([] : List UInt8) k = textF q u (([] : List UInt8) ++ [m]) (k + 2) := by
                conv => lhs; unfold textF
                rw [if_neg hq, if_neg h10, if_pos h92]
                dsimp only
                rw [hme]
              rw [htx2] at hk1 hk2
              have hxm : (x = 92 ∧ m = 92) ∨ (x = 34 ∧ m = 34) ∨ (x = 39 ∧ m = 39) ∨ (x = 110 ∧ m = 10) := by
                unfold meantF at hme
                split at hme
                · cases hme; exact .inl ⟨by assumption, rfl⟩
                · split at hme
                  · cases hme; exact .inr (.inl ⟨by assumption, rfl⟩)
                  · split at hme
                    · cases hme; exact .inr (.inr (.inl ⟨by assumption, rfl⟩))
                    · split at hme
                      · cases hme; exact .inr (.inr (.inr ⟨by assumption, rfl⟩))
                      · cases hme
              rcases hxm with ⟨hx, rfl⟩ | ⟨hx, rfl⟩ | ⟨hx, rfl⟩ | ⟨hx, rfl⟩
              · rw [show idxFrom x [92, 34, 39, 110] 0 = 0 by rw [hx]; rfl] at I0
                refine W.loop ?_
                repeat (first
                  | refine W.seq ?_
                  | refine W.block ?_
                  | ((first | refine W.regG ?_ | refine WoR.go ?_); generalize e : goR _ _ _ _ _ _ _ _ = r; simp (disch := omega) [hD, hC, hN, hT, hg, hG, hD2, hC2, hN2, hql, hEb, hll, hge, hge2, hget, hget2, hto1, hc92, hqn, hqn2, c17, c37, c21] at e; replace e : some _ = _ := e; subst e; (try dsimp only [goW]))
                  | refine W.cond_true rfl ?_
                  | refine W.cond_false rfl ?_
                  | refine W.skip ?_
                  | refine W.exit ?_
                  | (refine I0 _ ?_ _ fun n5 hn5 => ⟨rfl, ?_⟩; (focus (((refine ⟨?_, ?_⟩; (focus ((repeat (first | exact hu.le (by (try dsimp only); omega) | exact hu.set.le (by (try dsimp only); omega) | exact hu.set.set.le (by (try dsimp only); omega) | refine Under.cons (by (try dsimp only); omega) ?_ | exact Under.nil)); done)); (focus ((repeat (first | exact hut.le (by (try dsimp only); omega) | refine UnderT.cons (by (try dsimp only); omega) ?_ | exact UnderT.nil | assumption | exact UnderT.le (by assumption) (by (try dsimp only); omega))); done)))); done)); (try dsimp only at hn5))
                  | (refine Wc.mkG 17 c17 (by kernel_rfl) rfl ?_; generalize e : entryC _ _ _ = r; simp (disch := omega) [hD, hC, hN, hT, hg, hG, hD2, hC2, hN2, hql, hEb, hll, hge, hge2, hget, hget2, hto1, hc92, hqn, hqn2, c17, c37, c21] at e; subst e)
                  | (refine Wc.mkG 37 c37 (by kernel_rfl) rfl ?_; generalize e : entryC _ _ _ = r; simp (disch := omega) [hD, hC, hN, hT, hg, hG, hD2, hC2, hN2, hql, hEb, hll, hge, hge2, hget, hget2, hto1, hc92, hqn, hqn2, c17, c37, c21] at e; subst e)
                  | (refine Wc.primM (f := 36) (p := (pBString 5)) (by kernel_rfl) ?_; generalize e : (pBString 5) _ _ = r; simp (disch := omega) [hD, hC, hN, hT, hg, hG, hD2, hC2, hN2, hql, hEb, hll, hge, hge2, hget, hget2, hto1, hc92, hqn, hqn2, c17, c37, c21] at e; subst e; (try dsimp only); refine ⟨rfl, ?_⟩)
                  | (refine Wc.primM (f := 51) (p := (pCopyCheck [(58720258, 0)])) (by kernel_rfl) ?_; generalize e : (pCopyCheck [(58720258, 0)]) _ _ = r; simp (disch := omega) [hD, hC, hN, hT, hg, hG, hD2, hC2, hN2, hql, hEb, hll, hge, hge2, hget, hget2, hto1, hc92, hqn, hqn2, c17, c37, c21] at e; subst e; (try dsimp only); refine ⟨rfl, ?_⟩)
                  | ((first | (refine W.ret ?_; (try simp only [outOf, thenW_ret, roundW]); refine endW.of (.inl rfl) rfl ?_) | refine endW.of (.inr rfl) rfl ?_); generalize e : endsC _ _ _ = r; simp (disch := omega) [hD, hC, hN, hT, hg, hG, hD2, hC2, hN2, hql, hEb, hll, hge, hge2, hget, hget2, hto1, hc92, hqn, hqn2, c17, c37, c21] at e; subst e; (try dsimp only [goW]); refine ⟨rfl, ?_⟩))
                show W tree.getF textLoop (dropped true _ _) _
                generalize e : dropped _ _ _ = r9
                simp (disch := omega) [hD, hC, hN, hT, hg, hG, hD2, hC2, hN2, hql, hEb, hll] at e
                subst e
                simp only [List.nil_append] at hk1 hk2
                refine text_loop1 valid hV p d s q a L ts hts to hs h S K bq _ hb ?_ _ u [(92 : UInt8)] (i + 2) (k + 2) 0 _ _ _ _ _ _ _ _ _ _ (Nat.le_refl _) (by simpa using hd2) (by omega) (by simp) (by (try simp) <;> omega) ?_ ?_ ?_ (by omega) hk1 hk2
                · ((try dsimp only); omega)
                · ((try dsimp only); omega)
                · repeat (first | exact hut.le (by (try dsimp only); omega) | refine UnderT.cons (by (try dsimp only); omega) ?_ | exact UnderT.nil | assumption | exact UnderT.le (by assumption) (by (try dsimp only); omega))
                · simp [lookupN]
              · rw [show idxFrom x [92, 34, 39, 110] 0 = 1 by rw [hx]; rfl] at I0
                refine W.loop ?_
                repeat (first
                  | refine W.seq ?_
                  | refine W.block ?_
                  | ((first | refine W.regG ?_ | refine WoR.go ?_); generalize e : goR _ _ _ _ _ _ _ _ = r; simp (disch := omega) [hD, hC, hN, hT, hg, hG, hD2, hC2, hN2, hql, hEb, hll, hge, hge2, hget, hget2, hto1, hc92, hqn, hqn2, c17, c37, c21] at e; replace e : some _ = _ := e; subst e; (try dsimp only [goW]))
                  | refine W.cond_true rfl ?_
                  | refine W.cond_false rfl ?_
                  | refine W.skip ?_
                  | refine W.exit ?_
                  | (refine I0 _ ?_ _ fun n5 hn5 => ⟨rfl, ?_⟩; (focus (((refine ⟨?_, ?_⟩; (focus ((repeat (first | exact hu.le (by (try dsimp only); omega) | exact hu.set.le (by (try dsimp only); omega) | exact hu.set.set.le (by (try dsimp only); omega) | refine Under.cons (by (try dsimp only); omega) ?_ | exact Under.nil)); done)); (focus ((repeat (first | exact hut.le (by (try dsimp only); omega) | refine UnderT.cons (by (try dsimp only); omega) ?_ | exact UnderT.nil | assumption | exact UnderT.le (by assumption) (by (try dsimp only); omega))); done)))); done)); (try dsimp only at hn5))
                  | (refine Wc.mkG 17 c17 (by kernel_rfl) rfl ?_; generalize e : entryC _ _ _ = r; simp (disch := omega) [hD, hC, hN, hT, hg, hG, hD2, hC2, hN2, hql, hEb, hll, hge, hge2, hget, hget2, hto1, hc92, hqn, hqn2, c17, c37, c21] at e; subst e)
                  | (refine Wc.mkG 37 c37 (by kernel_rfl) rfl ?_; generalize e : entryC _ _ _ = r; simp (disch := omega) [hD, hC, hN, hT, hg, hG, hD2, hC2, hN2, hql, hEb, hll, hge, hge2, hget, hget2, hto1, hc92, hqn, hqn2, c17, c37, c21] at e; subst e)
                  | (refine Wc.primM (f := 36) (p := (pBString 5)) (by kernel_rfl) ?_; generalize e : (pBString 5) _ _ = r; simp (disch := omega) [hD, hC, hN, hT, hg, hG, hD2, hC2, hN2, hql, hEb, hll, hge, hge2, hget, hget2, hto1, hc92, hqn, hqn2, c17, c37, c21] at e; subst e; (try dsimp only); refine ⟨rfl, ?_⟩)
                  | (refine Wc.primM (f := 51) (p := (pCopyCheck [(58720258, 0)])) (by kernel_rfl) ?_; generalize e : (pCopyCheck [(58720258, 0)]) _ _ = r; simp (disch := omega) [hD, hC, hN, hT, hg, hG, hD2, hC2, hN2, hql, hEb, hll, hge, hge2, hget, hget2, hto1, hc92, hqn, hqn2, c17, c37, c21] at e; subst e; (try dsimp only); refine ⟨rfl, ?_⟩)
                  | ((first | (refine W.ret ?_; (try simp only [outOf, thenW_ret, roundW]); refine endW.of (.inl rfl) rfl ?_) | refine endW.of (.inr rfl) rfl ?_); generalize e : endsC _ _ _ = r; simp (disch := omega) [hD, hC, hN, hT, hg, hG, hD2, hC2, hN2, hql, hEb, hll, hge, hge2, hget, hget2, hto1, hc92, hqn, hqn2, c17, c37, c21] at e; subst e; (try dsimp only [goW]); refine ⟨rfl, ?_⟩))
                show W tree.getF textLoop (dropped true _ _) _
                generalize e : dropped _ _ _ = r9
                simp (disch := omega) [hD, hC, hN, hT, hg, hG, hD2, hC2, hN2, hql, hEb, hll] at e
                subst e
                simp only [List.nil_append] at hk1 hk2
                refine text_loop1 valid hV p d s q a L ts hts to hs h S K bq _ hb ?_ _ u [(34 : UInt8)] (i + 2) (k + 2) 0 _ _ _ _ _ _ _ _ _ _ (Nat.le_refl _) (by simpa using hd2) (by omega) (by simp) (by (try simp) <;> omega) ?_ ?_ ?_ (by omega) hk1 hk2
                · ((try dsimp only); omega)
                · ((try dsimp only); omega)
                · repeat (first | exact hut.le (by (try dsimp only); omega) | refine UnderT.cons (by (try dsimp only); omega) ?_ | exact UnderT.nil | assumption | exact UnderT.le (by assumption) (by (try dsimp only); omega))
                · simp [lookupN]
              · rw [show idxFrom x [92, 34, 39, 110] 0 = 2 by rw [hx]; rfl] at I0
                refine W.loop ?_
                repeat (first
                  | refine W.seq ?_
                  | refine W.block ?_
                  | ((first | refine W.regG ?_ | refine WoR.go ?_); generalize e : goR _ _ _ _ _ _ _ _ = r; simp (disch := omega) [hD, hC, hN, hT, hg, hG, hD2, hC2, hN2, hql, hEb, hll, hge, hge2, hget, hget2, hto1, hc92, hqn, hqn2, c17, c37, c21] at e; replace e : some _ = _ := e; subst e; (try dsimp only [goW]))
                  | refine W.cond_true rfl ?_
                  | refine W.cond_false rfl ?_
                  | refine W.skip ?_
                  | refine W.exit ?_
                  | (refine I0 _ ?_ _ fun n5 hn5 => ⟨rfl, ?_⟩; (focus (((refine ⟨?_, ?_⟩; (focus ((repeat (first | exact hu.le (by (try dsimp only); omega) | exact hu.set.le (by (try dsimp only); omega) | exact hu.set.set.le (by (try dsimp only); omega) | refine Under.cons (by (try dsimp only); omega) ?_ | exact Under.nil)); done)); (focus ((repeat (first | exact hut.le (by (try dsimp only); omega) | refine UnderT.cons (by (try dsimp only); omega) ?_ | exact UnderT.nil | assumption | exact UnderT.le (by assumption) (by (try dsimp only); omega))); done)))); done)); (try dsimp only at hn5))
                  | (refine Wc.mkG 17 c17 (by kernel_rfl) rfl ?_; generalize e : entryC _ _ _ = r; simp (disch := omega) [hD, hC, hN, hT, hg, hG, hD2, hC2, hN2, hql, hEb, hll, hge, hge2, hget, hget2, hto1, hc92, hqn, hqn2, c17, c37, c21] at e; subst e)
                  | (refine Wc.mkG 37 c37 (by kernel_rfl) rfl ?_; generalize e : entryC _ _ _ = r; simp (disch := omega) [hD, hC, hN, hT, hg, hG, hD2, hC2, hN2, hql, hEb, hll, hge, hge2, hget, hget2, hto1, hc92, hqn, hqn2, c17, c37, c21] at e; subst e)
                  | (refine Wc.primM (f := 36) (p := (pBString 5)) (by kernel_rfl) ?_; generalize e : (pBString 5) _ _ = r; simp (disch := omega) [hD, hC, hN, hT, hg, hG, hD2, hC2, hN2, hql, hEb, hll, hge, hge2, hget, hget2, hto1, hc92, hqn, hqn2, c17, c37, c21] at e; subst e; (try dsimp only); refine ⟨rfl, ?_⟩)
                  | (refine Wc.primM (f := 51) (p := (pCopyCheck [(58720258, 0)])) (by kernel_rfl) ?_; generalize e : (pCopyCheck [(58720258, 0)]) _ _ = r; simp (disch := omega) [hD, hC, hN, hT, hg, hG, hD2, hC2, hN2, hql, hEb, hll, hge, hge2, hget, hget2, hto1, hc92, hqn, hqn2, c17, c37, c21] at e; subst e; (try dsimp only); refine ⟨rfl, ?_⟩)
                  | ((first | (refine W.ret ?_; (try simp only [outOf, thenW_ret, roundW]); refine endW.of (.inl rfl) rfl ?_) | refine endW.of (.inr rfl) rfl ?_); generalize e : endsC _ _ _ = r; simp (disch := omega) [hD, hC, hN, hT, hg, hG, hD2, hC2, hN2, hql, hEb, hll, hge, hge2, hget, hget2, hto1, hc92, hqn, hqn2, c17, c37, c21] at e; subst e; (try dsimp only [goW]); refine ⟨rfl, ?_⟩))
                show W tree.getF textLoop (dropped true _ _) _
                generalize e : dropped _ _ _ = r9
                simp (disch := omega) [hD, hC, hN, hT, hg, hG, hD2, hC2, hN2, hql, hEb, hll] at e
                subst e
                simp only [List.nil_append] at hk1 hk2
                refine text_loop1 valid hV p d s q a L ts hts to hs h S K bq _ hb ?_ _ u [(39 : UInt8)] (i + 2) (k + 2) 0 _ _ _ _ _ _ _ _ _ _ (Nat.le_refl _) (by simpa using hd2) (by omega) (by simp) (by (try simp) <;> omega) ?_ ?_ ?_ (by omega) hk1 hk2
                · ((try dsimp only); omega)
                · ((try dsimp only); omega)
                · repeat (first | exact hut.le (by (try dsimp only); omega) | refine UnderT.cons (by (try dsimp only); omega) ?_ | exact UnderT.nil | assumption | exact UnderT.le (by assumption) (by (try dsimp only); omega))
                · simp [lookupN]
              · rw [show idxFrom x [92, 34, 39, 110] 0 = 3 by rw [hx]; rfl] at I0
                refine W.loop ?_
                repeat (first
                  | refine W.seq ?_
                  | refine W.block ?_
                  | ((first | refine W.regG ?_ | refine WoR.go ?_); generalize e : goR _ _ _ _ _ _ _ _ = r; simp (disch := omega) [hD, hC, hN, hT, hg, hG, hD2, hC2, hN2, hql, hEb, hll, hge, hge2, hget, hget2, hto1, hc92, hqn, hqn2, c17, c37, c21] at e; replace e : some _ = _ := e; subst e; (try dsimp only [goW]))
                  | refine W.cond_true rfl ?_
                  | refine W.cond_false rfl ?_
                  | refine W.skip ?_
                  | refine W.exit ?_
                  | (refine I0 _ ?_ _ fun n5 hn5 => ⟨rfl, ?_⟩; (focus (((refine ⟨?_, ?_⟩; (focus ((repeat (first | exact hu.le (by (try dsimp only); omega) | exact hu.set.le (by (try dsimp only); omega) | exact hu.set.set.le (by (try dsimp only); omega) | refine Under.cons (by (try dsimp only); omega) ?_ | exact Under.nil)); done)); (focus ((repeat (first | exact hut.le (by (try dsimp only); omega) | refine UnderT.cons (by (try dsimp only); omega) ?_ | exact UnderT.nil | assumption | exact UnderT.le (by assumption) (by (try dsimp only); omega))); done)))); done)); (try dsimp only at hn5))
                  | (refine Wc.mkG 17 c17 (by kernel_rfl) rfl ?_; generalize e : entryC _ _ _ = r; simp (disch := omega) [hD, hC, hN, hT, hg, hG, hD2, hC2, hN2, hql, hEb, hll, hge, hge2, hget, hget2, hto1, hc92, hqn, hqn2, c17, c37, c21] at e; subst e)
                  | (refine Wc.mkG 37 c37 (by kernel_rfl) rfl ?_; generalize e : entryC _ _ _ = r; simp (disch := omega) [hD, hC, hN, hT, hg, hG, hD2, hC2, hN2, hql, hEb, hll, hge, hge2, hget, hget2, hto1, hc92, hqn, hqn2, c17, c37, c21] at e; subst e)
                  | (refine Wc.primM (f := 36) (p := (pBString 5)) (by kernel_rfl) ?_; generalize e : (pBString 5) _ _ = r; simp (disch := omega) [hD, hC, hN, hT, hg, hG, hD2, hC2, hN2, hql, hEb, hll, hge, hge2, hget, hget2, hto1, hc92, hqn, hqn2, c17, c37, c21] at e; subst e; (try dsimp only); refine ⟨rfl, ?_⟩)
                  | (refine Wc.primM (f := 51) (p := (pCopyCheck [(58720258, 0)])) (by kernel_rfl) ?_; generalize e : (pCopyCheck [(58720258, 0)]) _ _ = r; simp (disch := omega) [hD, hC, hN, hT, hg, hG, hD2, hC2, hN2, hql, hEb, hll, hge, hge2, hget, hget2, hto1, hc92, hqn, hqn2, c17, c37, c21] at e; subst e; (try dsimp only); refine ⟨rfl, ?_⟩)
                  | ((first | (refine W.ret ?_; (try simp only [outOf, thenW_ret, roundW]); refine endW.of (.inl rfl) rfl ?_) | refine endW.of (.inr rfl) rfl ?_); generalize e : endsC _ _ _ = r; simp (disch := omega) [hD, hC, hN, hT, hg, hG, hD2, hC2, hN2, hql, hEb, hll, hge, hge2, hget, hget2, hto1, hc92, hqn, hqn2, c17, c37, c21] at e; subst e; (try dsimp only [goW]); refine ⟨rfl, ?_⟩))
                show W tree.getF textLoop (dropped true _ _) _
                generalize e : dropped _ _ _ = r9
                simp (disch := omega) [hD, hC, hN, hT, hg, hG, hD2, hC2, hN2, hql, hEb, hll] at e
                subst e
                simp only [List.nil_append] at hk1 hk2
                refine text_loop1 valid hV p d s q a L ts hts to hs h S K bq _ hb ?_ _ u [(10 : UInt8)] (i + 2) (k + 2) 0 _ _ _ _ _ _ _ _ _ _ (Nat.le_refl _) (by simpa using hd2) (by omega) (by simp) (by (try simp) <;> omega) ?_ ?_ ?_ (by omega) hk1 hk2
                · ((try dsimp only); omega)
                · ((try dsimp only); omega)
                · repeat (first | exact hut.le (by (try dsimp only); omega) | refine UnderT.cons (by (try dsimp only); omega) ?_ | exact UnderT.nil | assumption | exact UnderT.le (by assumption) (by (try dsimp only); omega))
                · simp [lookupN]
        · have hn92 : ¬ ((c.toNat : Int) = 92) := fun e => h92 (UInt8.toNat_inj.1 (by
            have h9 : c.toNat = 92 := by omega
            rw [h9]; rfl))
          have htx2 : textF q (c :: t1) ([] : List UInt8) k = textF q t1 (([] : List UInt8) ++ [c]) (k + 1) := by
            conv => lhs; unfold textF
            rw [if_neg hq, if_neg h10, if_neg h92]
          rw [htx2] at hk1 hk2
          refine W.loop ?_
          repeat (first
            | refine W.seq ?_
            | refine W.block ?_
            | ((first | refine W.regG ?_ | refine WoR.go ?_); generalize e : goR _ _ _ _ _ _ _ _ = r; simp (disch := omega) [hD, hC, hN, hT, hg, hG, hD2, hC2, hN2, hql, hEb, hll, hge, hget, hqn, hn10, hn92, c17, c37, c21] at e; replace e : some _ = _ := e; subst e; (try dsimp only [goW]))
            | refine W.cond_true rfl ?_
            | refine W.cond_false rfl ?_
            | refine W.skip ?_
            | refine W.exit ?_
            | (refine Wc.mkG 17 c17 (by kernel_rfl) rfl ?_; generalize e : entryC _ _ _ = r; simp (disch := omega) [hD, hC, hN, hT, hg, hG, hD2, hC2, hN2, hql, hEb, hll, hge, hget, hqn, hn10, hn92, c17, c37, c21] at e; subst e)
            | (refine Wc.mkG 37 c37 (by kernel_rfl) rfl ?_; generalize e : entryC _ _ _ = r; simp (disch := omega) [hD, hC, hN, hT, hg, hG, hD2, hC2, hN2, hql, hEb, hll, hge, hget, hqn, hn10, hn92, c17, c37, c21] at e; subst e)
            | (refine Wc.primM (f := 36) (p := (pBString 5)) (by kernel_rfl) ?_; generalize e : (pBString 5) _ _ = r; simp (disch := omega) [hD, hC, hN, hT, hg, hG, hD2, hC2, hN2, hql, hEb, hll, hge, hget, hqn, hn10, hn92, c17, c37, c21] at e; subst e; (try dsimp only); refine ⟨rfl, ?_⟩)
            | (refine Wc.primM (f := 51) (p := (pCopyCheck [(58720258, 0)])) (by kernel_rfl) ?_; generalize e : (pCopyCheck [(58720258, 0)]) _ _ = r; simp (disch := omega) [hD, hC, hN, hT, hg, hG, hD2, hC2, hN2, hql, hEb, hll, hge, hget, hqn, hn10, hn92, c17, c37, c21] at e; subst e; (try dsimp only); refine ⟨rfl, ?_⟩)
            | ((first | (refine W.ret ?_; (try simp only [outOf, thenW_ret, roundW]); refine endW.of (.inl rfl) rfl ?_) | refine endW.of (.inr rfl) rfl ?_); generalize e : endsC _ _ _ = r; simp (disch := omega) [hD, hC, hN, hT, hg, hG, hD2, hC2, hN2, hql, hEb, hll, hge, hget, hqn, hn10, hn92, c17, c37, c21] at e; subst e; (try dsimp only [goW]); refine ⟨rfl, ?_⟩))
          show W tree.getF textLoop (dropped true _ _) _
          generalize e : dropped _ _ _ = r9
          simp (disch := omega) [hD, hC, hN, hT, hg, hG, hD2, hC2, hN2, hql, hEb, hll] at e
          subst e
          simp only [List.nil_append] at hk1 hk2
          refine text_loop1 valid hV p d s q a L ts hts to hs h S K bq _ hb ?_ _ t1 [c] (i + 1) (k + 1) 0 _ _ _ _ _ _ _ _ _ _ (Nat.le_refl _) (by simpa using hd1) (by omega) (by simp) (by (try simp) <;> omega) ?_ ?_ ?_ (by omega) hk1 hk2
          · ((try dsimp only); omega)
          · ((try dsimp only); omega)
          · repeat (first | exact hut.le (by (try dsimp only); omega) | refine UnderT.cons (by (try dsimp only); omega) ?_ | exact UnderT.nil | assumption | exact UnderT.le (by assumption) (by (try dsimp only); omega))
          · simp [lookupN]

theorem text_F (valid : Bytes → Bool) (hV : ∀ t : Bytes, t.length ≤ 60000 → Pe 35 [.str t] (.bool (valid t))) {n0 : Nat} {E0 : List (Nat × CObj)} (p d : Nat) (s : List UInt8) (q : UInt8) (t : List UInt8) (a : Nat) (L : CVal) (ts : List CVal) (hts : ts.length ≤ 100000) (to : Int) (hs : s.length < 50000) (hda : s.drop a = q :: t) (hlen : a + (q :: t).length = s.length) (h : CHeap) (S : St n0 E0 p s (a : Int) L ts 0 to h) (K : CVal → CHeap → Prop)
    (hk1 : ∀ txt kk, textF q t [] 0 = some (txt, kk) → valid txt = true → ∀ h' L', St n0 E0 p s ((a + (kk + 1) : Nat) : Int) L' (ts ++ [tokC 3 txt 0 a]) 0 to h' → h.next ≤ h'.next → K (.tup []) h')
    (hk2 : (textF q t [] 0 = none ∨ ∃ txt kk, textF q t [] 0 = some (txt, kk) ∧ valid txt = false) → ∀ h' at' L' ts', St n0 E0 p s at' L' ts' 2 (a : Int) h' → h.next ≤ h'.next → K (.tup []) h') : Wc tree.getF 21 [.ptr p d 0] h K := by
  have hg := S.g
  have hf := S.f
  have hp := S.lt
  obtain ⟨hlt, hget, hd1⟩ := get_of_dropG hda
  have hge : s[a] = q := by rw [List.getElem?_eq_getElem hlt] at hget; exact Option.some.inj hget
  simp only [List.length_cons] at hlen
  obtain ⟨hu, hut⟩ := hf
  have hD : ∀ m, h.next ≤ m → dropEnts h.ents m = h.ents := fun m hm => dropEnts_under (hu.le hm)
  have hC : ∀ m, h.next ≤ m → dropCells h.ents m = h.ents := fun m hm => dropCells_under (hu.le hm)
  have hN : ∀ q, h.next ≤ q → getEnt h.ents q = none := fun q hq => getEnt_under hu hq
  have hT : ∀ q, h.next ≤ q → lookupN h.tys q = none := fun q hq => lookupN_under hut hq
  have hG : ∀ x, getEnt (setEnt h.ents p x) p = some x := fun x => sy_getEnt_setEnt hg
  have hD2 : ∀ x m, h.next ≤ m → dropEnts (setEnt h.ents p x) m = setEnt h.ents p x := fun x m hm => dropEnts_under (hu.set.le hm)
  have hC2 : ∀ x m, h.next ≤ m → dropCells (setEnt h.ents p x) m = setEnt h.ents p x := fun x m hm => dropCells_under (hu.set.le hm)
  have hN2 : ∀ x q, h.next ≤ q → getEnt (setEnt h.ents p x) q = none := fun x q hq => getEnt_under hu.set hq
  refine Wc.mkG 21 c21 (by kernel_rfl) rfl ?_
  generalize e : entryC _ _ _ = r
  simp (disch := omega) [hD, hC, hN, hT, hg, hG, hD2, hC2, hN2, c21] at e
  subst e
  repeat (first
    | refine W.seq ?_
    | refine W.block ?_
    | ((first | refine W.regG ?_ | refine WoR.go ?_); generalize e : goR _ _ _ _ _ _ _ _ = r; simp (disch := omega) [hD, hC, hN, hT, hg, hG, hD2, hC2, hN2, hge, hget, c21] at e; replace e : some _ = _ := e; subst e; (try dsimp only [goW]))
    | refine W.cond_true rfl ?_
    | refine W.cond_false rfl ?_
    | refine W.skip ?_
    | refine W.exit ?_)
  refine text_loop0 valid hV p d s q a L ts hts to hs h S K _ ?_ t (a + 1) 0 _ _ _ _ _ _ _ _ _ _ hd1 (by omega) ?_ ?_ rfl hk1 hk2
  · (try dsimp only); omega
  · (try dsimp only); omega
  · repeat (first | exact hut.le (by (try dsimp only); omega) | refine UnderT.cons (by (try dsimp only); omega) ?_ | exact UnderT.nil | assumption | exact UnderT.le (by assumption) (by (try dsimp only); omega))
end Go.Proofs.YthblmflngjofjaaDoor.IrP
