/- What the functions of the law 'WordPlaces' do: part 19. -/
import Derived.Test.YthblmflngjofjaaDoorLxPR
namespace Go.Proofs.YthblmflngjofjaaDoor.IrP
open Go Go.CI
open Go.LexF hiding spacesB lettersB
set_option maxRecDepth 100000
set_option linter.unusedVariables false
set_option linter.unusedSimpArgs false
attribute [local irreducible] W Wo Wc WoR
attribute [local simp] goR regOut checkOne swapOne sameAt nthOp CVal.beq beqs CVal.block storesTo entryC evalOps evalOper evalE evalP evalL evalOpnd nth setNth COp.cls COp.isStore CVal.isUndef CVal.whole CVal.cells CHeap.put CHeap.get CHeap.set wantedC getEnt setEnt partOf writeBack evalBin evalInt evalStr blockMost initVar descOf List.take List.drop CVal.lenOf CVal.isStr CVal.bare CVal.strip CVal.flat endsC resultsC oneOrTuple finishC cut fillCells setCells szOf szOf_desc elems bytesOf evalAppend fillElems mkElem setElem List.replicate sy_nbeq sy_neqF sy_leT sy_leF sy_setEnt_setEnt dropped sy_wrap64 dropEnts dropCells sizeMost sy_ibeqF sy_ieqF sy_ileT sy_ileF sy_iltT sy_iltF sy_ltT sy_ltF evalSlc optBound eqVal extL extE keyIs findKV nthKV setKV CHeap.ty lookupN CHeap.note CHeap.tyOk dropAll freezeVal freezeAll freezeFlat pCopyCheck pBString pMakeNoZero pIndexByte pClone pIndex hasPair rowOf byteVals idxFrom hasFront idxSub

theorem dropCells_get : ∀ {l : List (Nat × CObj)} {n q : Nat} {o : CObj}, getEnt l q = some o → (q < n ∨ ∀ cs, o ≠ .cells cs) → getEnt (dropCells l n) q = some o
  | [], _, _, _, h, _ => by cases h
  | (i, x) :: r, n, q, o, h, hq => by
    unfold dropCells
    by_cases hn : n ≤ i
    · rw [if_pos hn]
      by_cases hi : i = q
      · subst hi
        simp [getEnt] at h
        subst h
        rcases hq with hq | hq
        · omega
        · cases x with
          | cells cs => exact absurd rfl (hq cs)
          | _ => simp [getEnt]
      · have h2 : getEnt r q = some o := by simpa [getEnt, hi] using h
        have ih := dropCells_get (n := n) h2 hq
        cases x with
        | cells cs => exact ih
        | _ => simp [getEnt, hi]; exact ih
    · rw [if_neg hn]; exact h
theorem dropCells_sub : ∀ {l : List (Nat × CObj)} {n : Nat} {x : Nat × CObj}, x ∈ dropCells l n → x ∈ l
  | [], _, _, h => h
  | (i, o) :: r, n, x, h => by
    unfold dropCells at h
    by_cases hn : n ≤ i
    · rw [if_pos hn] at h
      cases o with
      | cells cs => exact List.mem_cons_of_mem _ (dropCells_sub h)
      | _ => rcases List.mem_cons.1 h with rfl | h
             · simp
             · exact List.mem_cons_of_mem _ (dropCells_sub h)
    · rw [if_neg hn] at h; exact h
theorem dropCells_app : ∀ {pre E0 : List (Nat × CObj)} {n0 n : Nat}, Under E0 n0 → n0 ≤ n → dropCells (pre ++ E0) n = dropCells pre n ++ E0
  | [], E0, n0, n, h, hn => dropCells_under (h.le hn)
  | (i, o) :: r, E0, n0, n, h, hn => by
    have ih := dropCells_app (pre := r) h hn
    simp only [List.cons_append, dropCells]
    split
    · cases o <;> simp [ih]
    · rfl
theorem Over.dropC {n0 n : Nat} {E0 l : List (Nat × CObj)} (h : Over n0 E0 l) (hn : n0 ≤ n) : Over n0 E0 (dropCells l n) := by
  obtain ⟨pre, rfl, h1, h2⟩ := h
  exact ⟨dropCells pre n, dropCells_app h2 hn, fun x hx => h1 x (dropCells_sub hx), h2⟩
theorem St.drop {n0 : Nat} {E0 : List (Nat × CObj)} {p : Nat} {s : List UInt8} {a : Int} {L : CVal} {ts : List CVal} {e to : Int} {h : CHeap} {n : Nat} (S : St n0 E0 p s a L ts e to h) (hn : n0 ≤ n) (hp : p < n) : St n0 E0 p s a L ts e to ⟨dropCells h.ents n, h.next, h.tys⟩ where
  g := dropCells_get S.g (.inl hp)
  l := by
    rcases S.l with h1 | ⟨i, v, h1, h2, h3, h4, h5⟩
    · exact .inl h1
    · exact .inr ⟨i, v, h1, dropCells_get h2 (.inr (by simp)), h3, h4, h5⟩
  d := S.d.dropC hn
  n := S.n
  lt := S.lt
  f := ⟨fun x hx => S.f.1 x (dropCells_sub hx), S.f.2⟩
theorem contains_D (c : UInt8) (b : Bool) (hb : D10.contains c = b) : Pu tree.getF 19 [.str [48, 49, 50, 51, 52, 53, 54, 55, 56, 57], .str [c]] (.bool b) := by
  rw [← hb]; exact contains_F D10 c (by decide)
theorem contains_S (c : UInt8) (b : Bool) (hb : signsB.contains c = b) : Pu tree.getF 19 [.str [123, 125, 40, 41, 91, 93, 61, 59, 44, 60, 62, 45], .str [c]] (.bool b) := by
  rw [← hb]; exact contains_F signsB c (by decide)

theorem next_name0 {n0 : Nat} {E0 : List (Nat × CObj)} (p d : Nat) (s r0 : List UInt8) (c0 : UInt8) (a : Nat) (ts : List CVal) (hts : ts.length ≤ 50000) (to : Int) (hs : s.length < 50000) (hda : s.drop a = c0 :: r0) (hlen : a + (c0 :: r0).length = s.length) (hN : 0 < nameF (c0 :: r0)) (h : CHeap) (S : St n0 E0 p s (a : Int) (.nils) [] 0 to h) (K : CVal → CHeap → Prop)
    (hk : ∀ h' L', St n0 E0 p s ((a + nameF (c0 :: r0) : Nat) : Int) L' ([] ++ [tokC 1 ((c0 :: r0).take (nameF (c0 :: r0))) 0 a]) 0 to h' → h.next ≤ h'.next → K (.tup []) h') : Wc tree.getF 10 [.ptr p d 0] h K := by
  have hg := S.g
  have hf := S.f
  have hp := S.lt
  have hn0 := S.n
  have hll : r0.length + 1 ≤ s.length := by simp at hlen; omega
  have htk : s.take s.length = s := List.take_length
  have htr : (c0 :: r0).take (r0.length + 1) = c0 :: r0 := List.take_of_length_le (by simp)
  have h00 : (c0 :: r0)[0]? = some c0 := rfl
  obtain ⟨nn, hnn⟩ : ∃ nn, nameF (c0 :: r0) = nn := ⟨_, rfl⟩
  have hnl := nameF_le (c0 :: r0)
  have N0 := name_F (c0 :: r0) (by simp at hlen ⊢; omega)
  rw [hnn] at N0 hnl
  rw [hnn] at hN
  rw [hnn] at hk
  obtain ⟨hu, hut⟩ := hf
  have hD : ∀ m, h.next ≤ m → dropEnts h.ents m = h.ents := fun m hm => dropEnts_under (hu.le hm)
  have hC : ∀ m, h.next ≤ m → dropCells h.ents m = h.ents := fun m hm => dropCells_under (hu.le hm)
  have hN : ∀ q, h.next ≤ q → getEnt h.ents q = none := fun q hq => getEnt_under hu hq
  have hT : ∀ q, h.next ≤ q → lookupN h.tys q = none := fun q hq => lookupN_under hut hq
  have hG : ∀ x, getEnt (setEnt h.ents p x) p = some x := fun x => sy_getEnt_setEnt hg
  have hD2 : ∀ x m, h.next ≤ m → dropEnts (setEnt h.ents p x) m = setEnt h.ents p x := fun x m hm => dropEnts_under (hu.set.le hm)
  have hC2 : ∀ x m, h.next ≤ m → dropCells (setEnt h.ents p x) m = setEnt h.ents p x := fun x m hm => dropCells_under (hu.set.le hm)
  have hN2 : ∀ x q, h.next ≤ q → getEnt (setEnt h.ents p x) q = none := fun x q hq => getEnt_under hu.set hq
  push_cast at hk
  have hnp : (0 : Int) < (nn : Int) := by omega
  have hnl2 : nn ≤ r0.length + 1 := by simpa using hnl
  refine Wc.mkG 10 c10 (by kernel_rfl) rfl ?_
  generalize e : entryC _ _ _ = r
  simp (disch := omega) [hD, hC, hN, hT, hg, hG, hD2, hC2, hN2, htk, hda, htr, h00, beqs_refl, c10] at e
  subst e
  repeat (first
    | refine W.seq ?_
    | refine W.block ?_
    | ((first | refine W.regG ?_ | refine WoR.go ?_); generalize e : goR _ _ _ _ _ _ _ _ = r; simp (disch := omega) [hD, hC, hN, hT, hg, hG, hD2, hC2, hN2, htk, hda, htr, h00, beqs_refl, c10] at e; replace e : some _ = _ := e; subst e; (try dsimp only [goW]))
    | refine W.cond_true rfl ?_
    | refine W.cond_false rfl ?_
    | refine W.skip ?_
    | refine W.exit ?_
    | (refine N0 _ ?_ _ fun n1 tyn1 hn1 hun1 => ⟨rfl, ?_⟩; (focus (((refine ⟨?_, ?_⟩; (focus ((repeat (first | exact hu.le (by (try dsimp only); omega) | exact hu.set.le (by (try dsimp only); omega) | exact hu.set.set.le (by (try dsimp only); omega) | refine Under.cons (by (try dsimp only); omega) ?_ | exact Under.nil)); done)); (focus ((repeat (first | exact hut.le (by (try dsimp only); omega) | refine UnderT.cons (by (try dsimp only); omega) ?_ | exact UnderT.nil | assumption | exact UnderT.le (by assumption) (by (try dsimp only); omega))); done)))); done)); (try dsimp only at hn1))
    | ((first | (refine W.ret ?_; (try simp only [outOf, thenW_ret, roundW]); refine endW.of (.inl rfl) rfl ?_) | refine endW.of (.inr rfl) rfl ?_); generalize e : endsC _ _ _ = r; simp (disch := omega) [hD, hC, hN, hT, hg, hG, hD2, hC2, hN2, htk, hda, htr, h00, beqs_refl, c10] at e; subst e; (try dsimp only [goW]); (refine hk _ _ (S.app0 ?_ ?_ ?_) ?_; (focus (((try dsimp only); omega); done)); (focus (((try dsimp only); omega); done)); (focus ((repeat (first | exact hut.le (by (try dsimp only); omega) | refine UnderT.cons (by (try dsimp only); omega) ?_ | exact UnderT.nil | assumption | exact UnderT.le (by assumption) (by (try dsimp only); omega))); done)); (try dsimp only); omega)))

theorem next_name1 {n0 : Nat} {E0 : List (Nat × CObj)} (p d : Nat) (s r0 : List UInt8) (c0 : UInt8) (a : Nat) (ts : List CVal) (hts : ts.length ≤ 50000) (to : Int) (hs : s.length < 50000) (hda : s.drop a = c0 :: r0) (hlen : a + (c0 :: r0).length = s.length) (hN : 0 < nameF (c0 :: r0)) (h : CHeap) (i v : Nat) (ht : getEnt h.ents i = some (.tok v)) (hip : i ≠ p) (hi0 : n0 ≤ i) (hin : i < h.next) (S : St n0 E0 p s (a : Int) (.imm (.own i v) 4 ts) ts 0 to h) (K : CVal → CHeap → Prop)
    (hk : ∀ h' L', St n0 E0 p s ((a + nameF (c0 :: r0) : Nat) : Int) L' (ts ++ [tokC 1 ((c0 :: r0).take (nameF (c0 :: r0))) 0 a]) 0 to h' → h.next ≤ h'.next → K (.tup []) h') : Wc tree.getF 10 [.ptr p d 0] h K := by
  have hg := S.g
  have hf := S.f
  have hp := S.lt
  have hn0 := S.n
  have hll : r0.length + 1 ≤ s.length := by simp at hlen; omega
  have htk : s.take s.length = s := List.take_length
  have htr : (c0 :: r0).take (r0.length + 1) = c0 :: r0 := List.take_of_length_le (by simp)
  have h00 : (c0 :: r0)[0]? = some c0 := rfl
  obtain ⟨nn, hnn⟩ : ∃ nn, nameF (c0 :: r0) = nn := ⟨_, rfl⟩
  have hnl := nameF_le (c0 :: r0)
  have N0 := name_F (c0 :: r0) (by simp at hlen ⊢; omega)
  rw [hnn] at N0 hnl
  rw [hnn] at hN
  rw [hnn] at hk
  obtain ⟨hu, hut⟩ := hf
  have hD : ∀ m, h.next ≤ m → dropEnts h.ents m = h.ents := fun m hm => dropEnts_under (hu.le hm)
  have hC : ∀ m, h.next ≤ m → dropCells h.ents m = h.ents := fun m hm => dropCells_under (hu.le hm)
  have hN : ∀ q, h.next ≤ q → getEnt h.ents q = none := fun q hq => getEnt_under hu hq
  have hT : ∀ q, h.next ≤ q → lookupN h.tys q = none := fun q hq => lookupN_under hut hq
  have hG : ∀ x, getEnt (setEnt h.ents p x) p = some x := fun x => sy_getEnt_setEnt hg
  have hD2 : ∀ x m, h.next ≤ m → dropEnts (setEnt h.ents p x) m = setEnt h.ents p x := fun x m hm => dropEnts_under (hu.set.le hm)
  have hC2 : ∀ x m, h.next ≤ m → dropCells (setEnt h.ents p x) m = setEnt h.ents p x := fun x m hm => dropCells_under (hu.set.le hm)
  have hN2 : ∀ x q, h.next ≤ q → getEnt (setEnt h.ents p x) q = none := fun x q hq => getEnt_under hu.set hq
  have htP : ∀ x, getEnt (setEnt h.ents p x) i = some (.tok v) := fun x => (getEnt_setEnt_ne hip).trans ht
  have hPt : ∀ x y, getEnt (setEnt (setEnt h.ents i x) p y) p = some y := fun x y => sy_getEnt_setEnt ((getEnt_setEnt_ne (Ne.symm hip)).trans hg)
  have hTT : ∀ x y, getEnt (setEnt (setEnt h.ents i x) p y) i = some x := fun x y => (getEnt_setEnt_ne hip).trans (sy_getEnt_setEnt ht)
  have hiP : ∀ x, getEnt (setEnt h.ents i x) p = _ := fun x => (getEnt_setEnt_ne (Ne.symm hip)).trans hg
  have hcomm : ∀ x y, setEnt (setEnt h.ents p y) i x = setEnt (setEnt h.ents i x) p y := fun x y => setEnt_comm (Ne.symm hip)
  have hC3 : ∀ x y m, h.next ≤ m → dropCells (setEnt (setEnt h.ents i x) p y) m = setEnt (setEnt h.ents i x) p y := fun x y m hm => dropCells_under (hu.set.set.le hm)
  have hD3 : ∀ x y m, h.next ≤ m → dropEnts (setEnt (setEnt h.ents i x) p y) m = setEnt (setEnt h.ents i x) p y := fun x y m hm => dropEnts_under (hu.set.set.le hm)
  push_cast at hk
  have hnp : (0 : Int) < (nn : Int) := by omega
  have hnl2 : nn ≤ r0.length + 1 := by simpa using hnl
  refine Wc.mkG 10 c10 (by kernel_rfl) rfl ?_
  generalize e : entryC _ _ _ = r
  simp (disch := omega) [hD, hC, hN, hT, hg, hG, hD2, hC2, hN2, ht, htP, hPt, hTT, hiP, hcomm, hC3, hD3, htk, hda, htr, h00, beqs_refl, c10] at e
  subst e
  repeat (first
    | refine W.seq ?_
    | refine W.block ?_
    | ((first | refine W.regG ?_ | refine WoR.go ?_); generalize e : goR _ _ _ _ _ _ _ _ = r; simp (disch := omega) [hD, hC, hN, hT, hg, hG, hD2, hC2, hN2, ht, htP, hPt, hTT, hiP, hcomm, hC3, hD3, htk, hda, htr, h00, beqs_refl, c10] at e; replace e : some _ = _ := e; subst e; (try dsimp only [goW]))
    | refine W.cond_true rfl ?_
    | refine W.cond_false rfl ?_
    | refine W.skip ?_
    | refine W.exit ?_
    | (refine N0 _ ?_ _ fun n1 tyn1 hn1 hun1 => ⟨rfl, ?_⟩; (focus (((refine ⟨?_, ?_⟩; (focus ((repeat (first | exact hu.le (by (try dsimp only); omega) | exact hu.set.le (by (try dsimp only); omega) | exact hu.set.set.le (by (try dsimp only); omega) | refine Under.cons (by (try dsimp only); omega) ?_ | exact Under.nil)); done)); (focus ((repeat (first | exact hut.le (by (try dsimp only); omega) | refine UnderT.cons (by (try dsimp only); omega) ?_ | exact UnderT.nil | assumption | exact UnderT.le (by assumption) (by (try dsimp only); omega))); done)))); done)); (try dsimp only at hn1))
    | ((first | (refine W.ret ?_; (try simp only [outOf, thenW_ret, roundW]); refine endW.of (.inl rfl) rfl ?_) | refine endW.of (.inr rfl) rfl ?_); generalize e : endsC _ _ _ = r; simp (disch := omega) [hD, hC, hN, hT, hg, hG, hD2, hC2, hN2, ht, htP, hPt, hTT, hiP, hcomm, hC3, hD3, htk, hda, htr, h00, beqs_refl, c10] at e; subst e; (try dsimp only [goW]); (refine hk _ _ (S.app1 ht hip hi0 hin ?_ ?_) ?_; (focus (((try dsimp only); omega); done)); (focus ((repeat (first | exact hut.le (by (try dsimp only); omega) | refine UnderT.cons (by (try dsimp only); omega) ?_ | exact UnderT.nil | assumption | exact UnderT.le (by assumption) (by (try dsimp only); omega))); done)); (try dsimp only); omega)))

theorem next_sign0 {n0 : Nat} {E0 : List (Nat × CObj)} (p d : Nat) (s r0 : List UInt8) (c0 : UInt8) (a : Nat) (ts : List CVal) (hts : ts.length ≤ 50000) (to : Int) (hs : s.length < 50000) (hda : s.drop a = c0 :: r0) (hlen : a + (c0 :: r0).length = s.length) (hN : ¬ 0 < nameF (c0 :: r0)) (hD0 : D10.contains c0 = false) (hq : ¬ (c0 = 34 ∨ c0 = 39)) (hS : signsB.contains c0 = true) (h : CHeap) (S : St n0 E0 p s (a : Int) (.nils) [] 0 to h) (K : CVal → CHeap → Prop)
    (hk : ∀ h' L', St n0 E0 p s ((a + 1 : Nat) : Int) L' ([] ++ [tokC 4 [c0] 0 a]) 0 to h' → h.next ≤ h'.next → K (.tup []) h') : Wc tree.getF 10 [.ptr p d 0] h K := by
  have hg := S.g
  have hf := S.f
  have hp := S.lt
  have hn0 := S.n
  have hll : r0.length + 1 ≤ s.length := by simp at hlen; omega
  have htk : s.take s.length = s := List.take_length
  have htr : (c0 :: r0).take (r0.length + 1) = c0 :: r0 := List.take_of_length_le (by simp)
  have h00 : (c0 :: r0)[0]? = some c0 := rfl
  obtain ⟨nn, hnn⟩ : ∃ nn, nameF (c0 :: r0) = nn := ⟨_, rfl⟩
  have hnl := nameF_le (c0 :: r0)
  have N0 := name_F (c0 :: r0) (by simp at hlen ⊢; omega)
  rw [hnn] at N0 hnl
  rw [hnn] at hN
  obtain ⟨hu, hut⟩ := hf
  have hD : ∀ m, h.next ≤ m → dropEnts h.ents m = h.ents := fun m hm => dropEnts_under (hu.le hm)
  have hC : ∀ m, h.next ≤ m → dropCells h.ents m = h.ents := fun m hm => dropCells_under (hu.le hm)
  have hN : ∀ q, h.next ≤ q → getEnt h.ents q = none := fun q hq => getEnt_under hu hq
  have hT : ∀ q, h.next ≤ q → lookupN h.tys q = none := fun q hq => lookupN_under hut hq
  have hG : ∀ x, getEnt (setEnt h.ents p x) p = some x := fun x => sy_getEnt_setEnt hg
  have hD2 : ∀ x m, h.next ≤ m → dropEnts (setEnt h.ents p x) m = setEnt h.ents p x := fun x m hm => dropEnts_under (hu.set.le hm)
  have hC2 : ∀ x m, h.next ≤ m → dropCells (setEnt h.ents p x) m = setEnt h.ents p x := fun x m hm => dropCells_under (hu.set.le hm)
  have hN2 : ∀ x q, h.next ≤ q → getEnt (setEnt h.ents p x) q = none := fun x q hq => getEnt_under hu.set hq
  push_cast at hk
  obtain rfl : nn = 0 := by omega
  have hc1 : ¬ ((c0.toNat : Int) = 34) := fun e => hq (.inl (UInt8.toNat_inj.1 (by
    have h9 : c0.toNat = 34 := by omega
    rw [h9]; rfl)))
  have hc2 : ¬ ((c0.toNat : Int) = 39) := fun e => hq (.inr (UInt8.toNat_inj.1 (by
    have h9 : c0.toNat = 39 := by omega
    rw [h9]; rfl)))
  refine Wc.mkG 10 c10 (by kernel_rfl) rfl ?_
  generalize e : entryC _ _ _ = r
  simp (disch := omega) [hD, hC, hN, hT, hg, hG, hD2, hC2, hN2, htk, hda, htr, h00, beqs_refl, hc1, hc2, c10] at e
  subst e
  repeat (first
    | refine W.seq ?_
    | refine W.block ?_
    | ((first | refine W.regG ?_ | refine WoR.go ?_); generalize e : goR _ _ _ _ _ _ _ _ = r; simp (disch := omega) [hD, hC, hN, hT, hg, hG, hD2, hC2, hN2, htk, hda, htr, h00, beqs_refl, hc1, hc2, c10] at e; replace e : some _ = _ := e; subst e; (try dsimp only [goW]))
    | refine W.cond_true rfl ?_
    | refine W.cond_false rfl ?_
    | refine W.skip ?_
    | refine W.exit ?_
    | (refine N0 _ ?_ _ fun n1 tyn1 hn1 hun1 => ⟨rfl, ?_⟩; (focus (((refine ⟨?_, ?_⟩; (focus ((repeat (first | exact hu.le (by (try dsimp only); omega) | exact hu.set.le (by (try dsimp only); omega) | exact hu.set.set.le (by (try dsimp only); omega) | refine Under.cons (by (try dsimp only); omega) ?_ | exact Under.nil)); done)); (focus ((repeat (first | exact hut.le (by (try dsimp only); omega) | refine UnderT.cons (by (try dsimp only); omega) ?_ | exact UnderT.nil | assumption | exact UnderT.le (by assumption) (by (try dsimp only); omega))); done)))); done)); (try dsimp only at hn1))
    | (refine (contains_D c0 _ hD0) _ ?_ _ fun n2 tyn2 hn2 hun2 => ⟨rfl, ?_⟩; (focus (((refine ⟨?_, ?_⟩; (focus ((repeat (first | exact hu.le (by (try dsimp only); omega) | exact hu.set.le (by (try dsimp only); omega) | exact hu.set.set.le (by (try dsimp only); omega) | refine Under.cons (by (try dsimp only); omega) ?_ | exact Under.nil)); done)); (focus ((repeat (first | exact hut.le (by (try dsimp only); omega) | refine UnderT.cons (by (try dsimp only); omega) ?_ | exact UnderT.nil | assumption | exact UnderT.le (by assumption) (by (try dsimp only); omega))); done)))); done)); (try dsimp only at hn2))
    | (refine (contains_S c0 _ hS) _ ?_ _ fun n3 tyn3 hn3 hun3 => ⟨rfl, ?_⟩; (focus (((refine ⟨?_, ?_⟩; (focus ((repeat (first | exact hu.le (by (try dsimp only); omega) | exact hu.set.le (by (try dsimp only); omega) | exact hu.set.set.le (by (try dsimp only); omega) | refine Under.cons (by (try dsimp only); omega) ?_ | exact Under.nil)); done)); (focus ((repeat (first | exact hut.le (by (try dsimp only); omega) | refine UnderT.cons (by (try dsimp only); omega) ?_ | exact UnderT.nil | assumption | exact UnderT.le (by assumption) (by (try dsimp only); omega))); done)))); done)); (try dsimp only at hn3))
    | ((first | (refine W.ret ?_; (try simp only [outOf, thenW_ret, roundW]); refine endW.of (.inl rfl) rfl ?_) | refine endW.of (.inr rfl) rfl ?_); generalize e : endsC _ _ _ = r; simp (disch := omega) [hD, hC, hN, hT, hg, hG, hD2, hC2, hN2, htk, hda, htr, h00, beqs_refl, hc1, hc2, c10] at e; subst e; (try dsimp only [goW]); (refine hk _ _ (S.app0 ?_ ?_ ?_) ?_; (focus (((try dsimp only); omega); done)); (focus (((try dsimp only); omega); done)); (focus ((repeat (first | exact hut.le (by (try dsimp only); omega) | refine UnderT.cons (by (try dsimp only); omega) ?_ | exact UnderT.nil | assumption | exact UnderT.le (by assumption) (by (try dsimp only); omega))); done)); (try dsimp only); omega)))

theorem next_sign1 {n0 : Nat} {E0 : List (Nat × CObj)} (p d : Nat) (s r0 : List UInt8) (c0 : UInt8) (a : Nat) (ts : List CVal) (hts : ts.length ≤ 50000) (to : Int) (hs : s.length < 50000) (hda : s.drop a = c0 :: r0) (hlen : a + (c0 :: r0).length = s.length) (hN : ¬ 0 < nameF (c0 :: r0)) (hD0 : D10.contains c0 = false) (hq : ¬ (c0 = 34 ∨ c0 = 39)) (hS : signsB.contains c0 = true) (h : CHeap) (i v : Nat) (ht : getEnt h.ents i = some (.tok v)) (hip : i ≠ p) (hi0 : n0 ≤ i) (hin : i < h.next) (S : St n0 E0 p s (a : Int) (.imm (.own i v) 4 ts) ts 0 to h) (K : CVal → CHeap → Prop)
    (hk : ∀ h' L', St n0 E0 p s ((a + 1 : Nat) : Int) L' (ts ++ [tokC 4 [c0] 0 a]) 0 to h' → h.next ≤ h'.next → K (.tup []) h') : Wc tree.getF 10 [.ptr p d 0] h K := by
  have hg := S.g
  have hf := S.f
  have hp := S.lt
  have hn0 := S.n
  have hll : r0.length + 1 ≤ s.length := by simp at hlen; omega
  have htk : s.take s.length = s := List.take_length
  have htr : (c0 :: r0).take (r0.length + 1) = c0 :: r0 := List.take_of_length_le (by simp)
  have h00 : (c0 :: r0)[0]? = some c0 := rfl
  obtain ⟨nn, hnn⟩ : ∃ nn, nameF (c0 :: r0) = nn := ⟨_, rfl⟩
  have hnl := nameF_le (c0 :: r0)
  have N0 := name_F (c0 :: r0) (by simp at hlen ⊢; omega)
  rw [hnn] at N0 hnl
  rw [hnn] at hN
  obtain ⟨hu, hut⟩ := hf
  have hD : ∀ m, h.next ≤ m → dropEnts h.ents m = h.ents := fun m hm => dropEnts_under (hu.le hm)
  have hC : ∀ m, h.next ≤ m → dropCells h.ents m = h.ents := fun m hm => dropCells_under (hu.le hm)
  have hN : ∀ q, h.next ≤ q → getEnt h.ents q = none := fun q hq => getEnt_under hu hq
  have hT : ∀ q, h.next ≤ q → lookupN h.tys q = none := fun q hq => lookupN_under hut hq
  have hG : ∀ x, getEnt (setEnt h.ents p x) p = some x := fun x => sy_getEnt_setEnt hg
  have hD2 : ∀ x m, h.next ≤ m → dropEnts (setEnt h.ents p x) m = setEnt h.ents p x := fun x m hm => dropEnts_under (hu.set.le hm)
  have hC2 : ∀ x m, h.next ≤ m → dropCells (setEnt h.ents p x) m = setEnt h.ents p x := fun x m hm => dropCells_under (hu.set.le hm)
  have hN2 : ∀ x q, h.next ≤ q → getEnt (setEnt h.ents p x) q = none := fun x q hq => getEnt_under hu.set hq
  have htP : ∀ x, getEnt (setEnt h.ents p x) i = some (.tok v) := fun x => (getEnt_setEnt_ne hip).trans ht
  have hPt : ∀ x y, getEnt (setEnt (setEnt h.ents i x) p y) p = some y := fun x y => sy_getEnt_setEnt ((getEnt_setEnt_ne (Ne.symm hip)).trans hg)
  have hTT : ∀ x y, getEnt (setEnt (setEnt h.ents i x) p y) i = some x := fun x y => (getEnt_setEnt_ne hip).trans (sy_getEnt_setEnt ht)
  have hiP : ∀ x, getEnt (setEnt h.ents i x) p = _ := fun x => (getEnt_setEnt_ne (Ne.symm hip)).trans hg
  have hcomm : ∀ x y, setEnt (setEnt h.ents p y) i x = setEnt (setEnt h.ents i x) p y := fun x y => setEnt_comm (Ne.symm hip)
  have hC3 : ∀ x y m, h.next ≤ m → dropCells (setEnt (setEnt h.ents i x) p y) m = setEnt (setEnt h.ents i x) p y := fun x y m hm => dropCells_under (hu.set.set.le hm)
  have hD3 : ∀ x y m, h.next ≤ m → dropEnts (setEnt (setEnt h.ents i x) p y) m = setEnt (setEnt h.ents i x) p y := fun x y m hm => dropEnts_under (hu.set.set.le hm)
  push_cast at hk
  obtain rfl : nn = 0 := by omega
  have hc1 : ¬ ((c0.toNat : Int) = 34) := fun e => hq (.inl (UInt8.toNat_inj.1 (by
    have h9 : c0.toNat = 34 := by omega
    rw [h9]; rfl)))
  have hc2 : ¬ ((c0.toNat : Int) = 39) := fun e => hq (.inr (UInt8.toNat_inj.1 (by
    have h9 : c0.toNat = 39 := by omega
    rw [h9]; rfl)))
  refine Wc.mkG 10 c10 (by kernel_rfl) rfl ?_
  generalize e : entryC _ _ _ = r
  simp (disch := omega) [hD, hC, hN, hT, hg, hG, hD2, hC2, hN2, ht, htP, hPt, hTT, hiP, hcomm, hC3, hD3, htk, hda, htr, h00, beqs_refl, hc1, hc2, c10] at e
  subst e
  repeat (first
    | refine W.seq ?_
    | refine W.block ?_
    | ((first | refine W.regG ?_ | refine WoR.go ?_); generalize e : goR _ _ _ _ _ _ _ _ = r; simp (disch := omega) [hD, hC, hN, hT, hg, hG, hD2, hC2, hN2, ht, htP, hPt, hTT, hiP, hcomm, hC3, hD3, htk, hda, htr, h00, beqs_refl, hc1, hc2, c10] at e; replace e : some _ = _ := e; subst e; (try dsimp only [goW]))
    | refine W.cond_true rfl ?_
    | refine W.cond_false rfl ?_
    | refine W.skip ?_
    | refine W.exit ?_
    | (refine N0 _ ?_ _ fun n1 tyn1 hn1 hun1 => ⟨rfl, ?_⟩; (focus (((refine ⟨?_, ?_⟩; (focus ((repeat (first | exact hu.le (by (try dsimp only); omega) | exact hu.set.le (by (try dsimp only); omega) | exact hu.set.set.le (by (try dsimp only); omega) | refine Under.cons (by (try dsimp only); omega) ?_ | exact Under.nil)); done)); (focus ((repeat (first | exact hut.le (by (try dsimp only); omega) | refine UnderT.cons (by (try dsimp only); omega) ?_ | exact UnderT.nil | assumption | exact UnderT.le (by assumption) (by (try dsimp only); omega))); done)))); done)); (try dsimp only at hn1))
    | (refine (contains_D c0 _ hD0) _ ?_ _ fun n2 tyn2 hn2 hun2 => ⟨rfl, ?_⟩; (focus (((refine ⟨?_, ?_⟩; (focus ((repeat (first | exact hu.le (by (try dsimp only); omega) | exact hu.set.le (by (try dsimp only); omega) | exact hu.set.set.le (by (try dsimp only); omega) | refine Under.cons (by (try dsimp only); omega) ?_ | exact Under.nil)); done)); (focus ((repeat (first | exact hut.le (by (try dsimp only); omega) | refine UnderT.cons (by (try dsimp only); omega) ?_ | exact UnderT.nil | assumption | exact UnderT.le (by assumption) (by (try dsimp only); omega))); done)))); done)); (try dsimp only at hn2))
    | (refine (contains_S c0 _ hS) _ ?_ _ fun n3 tyn3 hn3 hun3 => ⟨rfl, ?_⟩; (focus (((refine ⟨?_, ?_⟩; (focus ((repeat (first | exact hu.le (by (try dsimp only); omega) | exact hu.set.le (by (try dsimp only); omega) | exact hu.set.set.le (by (try dsimp only); omega) | refine Under.cons (by (try dsimp only); omega) ?_ | exact Under.nil)); done)); (focus ((repeat (first | exact hut.le (by (try dsimp only); omega) | refine UnderT.cons (by (try dsimp only); omega) ?_ | exact UnderT.nil | assumption | exact UnderT.le (by assumption) (by (try dsimp only); omega))); done)))); done)); (try dsimp only at hn3))
    | ((first | (refine W.ret ?_; (try simp only [outOf, thenW_ret, roundW]); refine endW.of (.inl rfl) rfl ?_) | refine endW.of (.inr rfl) rfl ?_); generalize e : endsC _ _ _ = r; simp (disch := omega) [hD, hC, hN, hT, hg, hG, hD2, hC2, hN2, ht, htP, hPt, hTT, hiP, hcomm, hC3, hD3, htk, hda, htr, h00, beqs_refl, hc1, hc2, c10] at e; subst e; (try dsimp only [goW]); (refine hk _ _ (S.app1 ht hip hi0 hin ?_ ?_) ?_; (focus (((try dsimp only); omega); done)); (focus ((repeat (first | exact hut.le (by (try dsimp only); omega) | refine UnderT.cons (by (try dsimp only); omega) ?_ | exact UnderT.nil | assumption | exact UnderT.le (by assumption) (by (try dsimp only); omega))); done)); (try dsimp only); omega)))

theorem next_bad {n0 : Nat} {E0 : List (Nat × CObj)} (p d : Nat) (s r0 : List UInt8) (c0 : UInt8) (a : Nat) (ts : List CVal) (hts : ts.length ≤ 50000) (to : Int) (hs : s.length < 50000) (hda : s.drop a = c0 :: r0) (hlen : a + (c0 :: r0).length = s.length) (hN : ¬ 0 < nameF (c0 :: r0)) (hD0 : D10.contains c0 = false) (hq : ¬ (c0 = 34 ∨ c0 = 39)) (hS : signsB.contains c0 = false) (L : CVal) (h : CHeap) (S : St n0 E0 p s (a : Int) L ts 0 to h) (K : CVal → CHeap → Prop)
    (hk : ∀ h' at' L' ts', St n0 E0 p s at' L' ts' 2 (a : Int) h' → h.next ≤ h'.next → K (.tup []) h') : Wc tree.getF 10 [.ptr p d 0] h K := by
  have hL := S.whole
  have hg := S.g
  have hf := S.f
  have hp := S.lt
  have hn0 := S.n
  have hll : r0.length + 1 ≤ s.length := by simp at hlen; omega
  have htk : s.take s.length = s := List.take_length
  have htr : (c0 :: r0).take (r0.length + 1) = c0 :: r0 := List.take_of_length_le (by simp)
  have h00 : (c0 :: r0)[0]? = some c0 := rfl
  obtain ⟨nn, hnn⟩ : ∃ nn, nameF (c0 :: r0) = nn := ⟨_, rfl⟩
  have hnl := nameF_le (c0 :: r0)
  have N0 := name_F (c0 :: r0) (by simp at hlen ⊢; omega)
  rw [hnn] at N0 hnl
  obtain ⟨hu, hut⟩ := hf
  have hD : ∀ m, h.next ≤ m → dropEnts h.ents m = h.ents := fun m hm => dropEnts_under (hu.le hm)
  have hC : ∀ m, h.next ≤ m → dropCells h.ents m = h.ents := fun m hm => dropCells_under (hu.le hm)
  have hN : ∀ q, h.next ≤ q → getEnt h.ents q = none := fun q hq => getEnt_under hu hq
  have hT : ∀ q, h.next ≤ q → lookupN h.tys q = none := fun q hq => lookupN_under hut hq
  have hG : ∀ x, getEnt (setEnt h.ents p x) p = some x := fun x => sy_getEnt_setEnt hg
  have hD2 : ∀ x m, h.next ≤ m → dropEnts (setEnt h.ents p x) m = setEnt h.ents p x := fun x m hm => dropEnts_under (hu.set.le hm)
  have hC2 : ∀ x m, h.next ≤ m → dropCells (setEnt h.ents p x) m = setEnt h.ents p x := fun x m hm => dropCells_under (hu.set.le hm)
  have hN2 : ∀ x q, h.next ≤ q → getEnt (setEnt h.ents p x) q = none := fun x q hq => getEnt_under hu.set hq
  obtain rfl : nn = 0 := by omega
  have hc1 : ¬ ((c0.toNat : Int) = 34) := fun e => hq (.inl (UInt8.toNat_inj.1 (by
    have h9 : c0.toNat = 34 := by omega
    rw [h9]; rfl)))
  have hc2 : ¬ ((c0.toNat : Int) = 39) := fun e => hq (.inr (UInt8.toNat_inj.1 (by
    have h9 : c0.toNat = 39 := by omega
    rw [h9]; rfl)))
  refine Wc.mkG 10 c10 (by kernel_rfl) rfl ?_
  generalize e : entryC _ _ _ = r
  simp (disch := omega) [hD, hC, hN, hT, hg, hG, hD2, hC2, hN2, htk, hda, htr, h00, hc1, hc2, hL, c10] at e
  subst e
  repeat (first
    | refine W.seq ?_
    | refine W.block ?_
    | ((first | refine W.regG ?_ | refine WoR.go ?_); generalize e : goR _ _ _ _ _ _ _ _ = r; simp (disch := omega) [hD, hC, hN, hT, hg, hG, hD2, hC2, hN2, htk, hda, htr, h00, hc1, hc2, hL, c17, c10] at e; replace e : some _ = _ := e; subst e; (try dsimp only [goW]))
    | refine W.cond_true rfl ?_
    | refine W.cond_false rfl ?_
    | refine W.skip ?_
    | refine W.exit ?_
    | (refine N0 _ ?_ _ fun n1 tyn1 hn1 hun1 => ⟨rfl, ?_⟩; (focus (((refine ⟨?_, ?_⟩; (focus ((repeat (first | exact hu.le (by (try dsimp only); omega) | exact hu.set.le (by (try dsimp only); omega) | exact hu.set.set.le (by (try dsimp only); omega) | refine Under.cons (by (try dsimp only); omega) ?_ | exact Under.nil)); done)); (focus ((repeat (first | exact hut.le (by (try dsimp only); omega) | refine UnderT.cons (by (try dsimp only); omega) ?_ | exact UnderT.nil | assumption | exact UnderT.le (by assumption) (by (try dsimp only); omega))); done)))); done)); (try dsimp only at hn1))
    | (refine (contains_D c0 _ hD0) _ ?_ _ fun n2 tyn2 hn2 hun2 => ⟨rfl, ?_⟩; (focus (((refine ⟨?_, ?_⟩; (focus ((repeat (first | exact hu.le (by (try dsimp only); omega) | exact hu.set.le (by (try dsimp only); omega) | exact hu.set.set.le (by (try dsimp only); omega) | refine Under.cons (by (try dsimp only); omega) ?_ | exact Under.nil)); done)); (focus ((repeat (first | exact hut.le (by (try dsimp only); omega) | refine UnderT.cons (by (try dsimp only); omega) ?_ | exact UnderT.nil | assumption | exact UnderT.le (by assumption) (by (try dsimp only); omega))); done)))); done)); (try dsimp only at hn2))
    | (refine (contains_S c0 _ hS) _ ?_ _ fun n3 tyn3 hn3 hun3 => ⟨rfl, ?_⟩; (focus (((refine ⟨?_, ?_⟩; (focus ((repeat (first | exact hu.le (by (try dsimp only); omega) | exact hu.set.le (by (try dsimp only); omega) | exact hu.set.set.le (by (try dsimp only); omega) | refine Under.cons (by (try dsimp only); omega) ?_ | exact Under.nil)); done)); (focus ((repeat (first | exact hut.le (by (try dsimp only); omega) | refine UnderT.cons (by (try dsimp only); omega) ?_ | exact UnderT.nil | assumption | exact UnderT.le (by assumption) (by (try dsimp only); omega))); done)))); done)); (try dsimp only at hn3))
    | (refine Wc.mkG 17 c17 (by kernel_rfl) rfl ?_; generalize e : entryC _ _ _ = r; simp (disch := omega) [hD, hC, hN, hT, hg, hG, hD2, hC2, hN2, htk, hda, htr, h00, hc1, hc2, hL, c17, c10] at e; subst e)
    | ((first | (refine W.ret ?_; (try simp only [outOf, thenW_ret, roundW]); refine endW.of (.inl rfl) rfl ?_) | refine endW.of (.inr rfl) rfl ?_); generalize e : endsC _ _ _ = r; simp (disch := omega) [hD, hC, hN, hT, hg, hG, hD2, hC2, hN2, htk, hda, htr, h00, hc1, hc2, hL, c17, c10] at e; subst e; (try dsimp only [goW]); (first | refine ⟨rfl, ?_⟩ | (refine hk _ _ _ _ (S.upd ?_ ?_) ?_; (focus (((try dsimp only); omega); done)); (focus ((repeat (first | exact hut.le (by (try dsimp only); omega) | refine UnderT.cons (by (try dsimp only); omega) ?_ | exact UnderT.nil | assumption | exact UnderT.le (by assumption) (by (try dsimp only); omega))); done)); (try dsimp only); omega))))

theorem next_num {n0 : Nat} {E0 : List (Nat × CObj)} (p d : Nat) (s r0 : List UInt8) (c0 : UInt8) (a : Nat) (ts : List CVal) (hts : ts.length ≤ 50000) (to : Int) (hs : s.length < 50000) (hda : s.drop a = c0 :: r0) (hlen : a + (c0 :: r0).length = s.length) (hN : ¬ 0 < nameF (c0 :: r0)) (hD0 : D10.contains c0 = true) (L : CVal) (h : CHeap) (S : St n0 E0 p s (a : Int) L ts 0 to h) (K : CVal → CHeap → Prop)
    (hk1 : ∀ v len, numW (c0 :: r0) = .tok 2 [] v len → ∀ h' L', St n0 E0 p s ((a + len : Nat) : Int) L' (ts ++ [tokC 2 [] v a]) 0 to h' → h.next ≤ h'.next → K (.tup []) h')
    (hk2 : ∀ e, numW (c0 :: r0) = .err e → ∀ h' at' L' ts', St n0 E0 p s at' L' ts' (e : Int) (a : Int) h' → h.next ≤ h'.next → K (.tup []) h') : Wc tree.getF 10 [.ptr p d 0] h K := by
  have hL := S.whole
  have hg := S.g
  have hf := S.f
  have hp := S.lt
  have hn0 := S.n
  have hll : r0.length + 1 ≤ s.length := by simp at hlen; omega
  have htk : s.take s.length = s := List.take_length
  have htr : (c0 :: r0).take (r0.length + 1) = c0 :: r0 := List.take_of_length_le (by simp)
  have h00 : (c0 :: r0)[0]? = some c0 := rfl
  obtain ⟨nn, hnn⟩ : ∃ nn, nameF (c0 :: r0) = nn := ⟨_, rfl⟩
  have hnl := nameF_le (c0 :: r0)
  have N0 := name_F (c0 :: r0) (by simp at hlen ⊢; omega)
  rw [hnn] at N0 hnl
  obtain ⟨hu, hut⟩ := hf
  have hD : ∀ m, h.next ≤ m → dropEnts h.ents m = h.ents := fun m hm => dropEnts_under (hu.le hm)
  have hC : ∀ m, h.next ≤ m → dropCells h.ents m = h.ents := fun m hm => dropCells_under (hu.le hm)
  have hN : ∀ q, h.next ≤ q → getEnt h.ents q = none := fun q hq => getEnt_under hu hq
  have hT : ∀ q, h.next ≤ q → lookupN h.tys q = none := fun q hq => lookupN_under hut hq
  have hG : ∀ x, getEnt (setEnt h.ents p x) p = some x := fun x => sy_getEnt_setEnt hg
  have hD2 : ∀ x m, h.next ≤ m → dropEnts (setEnt h.ents p x) m = setEnt h.ents p x := fun x m hm => dropEnts_under (hu.set.le hm)
  have hC2 : ∀ x m, h.next ≤ m → dropCells (setEnt h.ents p x) m = setEnt h.ents p x := fun x m hm => dropCells_under (hu.set.le hm)
  have hN2 : ∀ x q, h.next ≤ q → getEnt (setEnt h.ents p x) q = none := fun x q hq => getEnt_under hu.set hq
  obtain rfl : nn = 0 := by omega
  refine Wc.mkG 10 c10 (by kernel_rfl) rfl ?_
  generalize e : entryC _ _ _ = r
  simp (disch := omega) [hD, hC, hN, hT, hg, hG, hD2, hC2, hN2, htk, hda, htr, h00, c10] at e
  subst e
  repeat (first
    | refine W.seq ?_
    | refine W.block ?_
    | ((first | refine W.regG ?_ | refine WoR.go ?_); generalize e : goR _ _ _ _ _ _ _ _ = r; simp (disch := omega) [hD, hC, hN, hT, hg, hG, hD2, hC2, hN2, htk, hda, htr, h00, hL, c10] at e; replace e : some _ = _ := e; subst e; (try dsimp only [goW]))
    | refine W.cond_true rfl ?_
    | refine W.cond_false rfl ?_
    | refine W.skip ?_
    | refine W.exit ?_
    | (refine N0 _ ?_ _ fun n1 tyn1 hn1 hun1 => ⟨rfl, ?_⟩; (focus (((refine ⟨?_, ?_⟩; (focus ((repeat (first | exact hu.le (by (try dsimp only); omega) | exact hu.set.le (by (try dsimp only); omega) | exact hu.set.set.le (by (try dsimp only); omega) | refine Under.cons (by (try dsimp only); omega) ?_ | exact Under.nil)); done)); (focus ((repeat (first | exact hut.le (by (try dsimp only); omega) | refine UnderT.cons (by (try dsimp only); omega) ?_ | exact UnderT.nil | assumption | exact UnderT.le (by assumption) (by (try dsimp only); omega))); done)))); done)); (try dsimp only at hn1))
    | (refine (contains_D c0 _ hD0) _ ?_ _ fun n2 tyn2 hn2 hun2 => ⟨rfl, ?_⟩; (focus (((refine ⟨?_, ?_⟩; (focus ((repeat (first | exact hu.le (by (try dsimp only); omega) | exact hu.set.le (by (try dsimp only); omega) | exact hu.set.set.le (by (try dsimp only); omega) | refine Under.cons (by (try dsimp only); omega) ?_ | exact Under.nil)); done)); (focus ((repeat (first | exact hut.le (by (try dsimp only); omega) | refine UnderT.cons (by (try dsimp only); omega) ?_ | exact UnderT.nil | assumption | exact UnderT.le (by assumption) (by (try dsimp only); omega))); done)))); done)); (try dsimp only at hn2)))
  refine number_F p d s r0 c0 a L ts (by omega) to (by omega) hda hlen hD0 _ (S.mv ?_ ?_) _ (fun v len e h' L' S' g => ⟨rfl, ?_⟩) (fun e he h' at' L' ts' S' g => ⟨rfl, ?_⟩)
  · (try dsimp only); omega
  · repeat (first | exact hut.le (by (try dsimp only); omega) | refine UnderT.cons (by (try dsimp only); omega) ?_ | exact UnderT.nil | assumption | exact UnderT.le (by assumption) (by (try dsimp only); omega))
  · (try dsimp only at g)
    repeat (first
      | refine W.seq ?_
      | refine W.block ?_
      | ((first | refine W.regG ?_ | refine WoR.go ?_); generalize e : goR _ _ _ _ _ _ _ _ = r; simp (disch := omega) [hD, hC, hN, hT, hg, hG, hD2, hC2, hN2, htk, hda, htr, h00, c10] at e; replace e : some _ = _ := e; subst e; (try dsimp only [goW]))
      | refine W.cond_true rfl ?_
      | refine W.cond_false rfl ?_
      | refine W.skip ?_
      | refine W.exit ?_
      | ((first | (refine W.ret ?_; (try simp only [outOf, thenW_ret, roundW]); refine endW.of (.inl rfl) rfl ?_) | refine endW.of (.inr rfl) rfl ?_); generalize e : endsC _ _ _ = r; simp (disch := omega) [hD, hC, hN, hT, hg, hG, hD2, hC2, hN2, htk, hda, htr, h00, c10] at e; subst e; (try dsimp only [goW]); (refine hk1 v len e _ L' (S'.drop (by (try dsimp only); omega) (by (try dsimp only); omega)) ?_; (try dsimp only); omega)))
  · (try dsimp only at g)
    repeat (first
      | refine W.seq ?_
      | refine W.block ?_
      | ((first | refine W.regG ?_ | refine WoR.go ?_); generalize e : goR _ _ _ _ _ _ _ _ = r; simp (disch := omega) [hD, hC, hN, hT, hg, hG, hD2, hC2, hN2, htk, hda, htr, h00, c10] at e; replace e : some _ = _ := e; subst e; (try dsimp only [goW]))
      | refine W.cond_true rfl ?_
      | refine W.cond_false rfl ?_
      | refine W.skip ?_
      | refine W.exit ?_
      | ((first | (refine W.ret ?_; (try simp only [outOf, thenW_ret, roundW]); refine endW.of (.inl rfl) rfl ?_) | refine endW.of (.inr rfl) rfl ?_); generalize e : endsC _ _ _ = r; simp (disch := omega) [hD, hC, hN, hT, hg, hG, hD2, hC2, hN2, htk, hda, htr, h00, c10] at e; subst e; (try dsimp only [goW]); (refine hk2 e he _ at' L' ts' (S'.drop (by (try dsimp only); omega) (by (try dsimp only); omega)) ?_; (try dsimp only); omega)))

theorem next_text {n0 : Nat} {E0 : List (Nat × CObj)} (p d : Nat) (s r0 : List UInt8) (c0 : UInt8) (a : Nat) (ts : List CVal) (hts : ts.length ≤ 50000) (to : Int) (hs : s.length < 50000) (hda : s.drop a = c0 :: r0) (hlen : a + (c0 :: r0).length = s.length) (hN : ¬ 0 < nameF (c0 :: r0)) (hD0 : D10.contains c0 = false) (hq : c0 = 34 ∨ c0 = 39) (L : CVal) (h : CHeap) (S : St n0 E0 p s (a : Int) L ts 0 to h) (K : CVal → CHeap → Prop)
    (hk1 : ∀ txt kk, textF c0 r0 [] 0 = some (txt, kk) → validF txt = true → ∀ h' L', St n0 E0 p s ((a + (kk + 1) : Nat) : Int) L' (ts ++ [tokC 3 txt 0 a]) 0 to h' → h.next ≤ h'.next → K (.tup []) h')
    (hk2 : (textF c0 r0 [] 0 = none ∨ ∃ txt kk, textF c0 r0 [] 0 = some (txt, kk) ∧ validF txt = false) → ∀ h' at' L' ts', St n0 E0 p s at' L' ts' 2 (a : Int) h' → h.next ≤ h'.next → K (.tup []) h') : Wc tree.getF 10 [.ptr p d 0] h K := by
  have hL := S.whole
  have hg := S.g
  have hf := S.f
  have hp := S.lt
  have hn0 := S.n
  have hll : r0.length + 1 ≤ s.length := by simp at hlen; omega
  have htk : s.take s.length = s := List.take_length
  have htr : (c0 :: r0).take (r0.length + 1) = c0 :: r0 := List.take_of_length_le (by simp)
  have h00 : (c0 :: r0)[0]? = some c0 := rfl
  obtain ⟨nn, hnn⟩ : ∃ nn, nameF (c0 :: r0) = nn := ⟨_, rfl⟩
  have hnl := nameF_le (c0 :: r0)
  have N0 := name_F (c0 :: r0) (by simp at hlen ⊢; omega)
  rw [hnn] at N0 hnl
  obtain ⟨hu, hut⟩ := hf
  have hD : ∀ m, h.next ≤ m → dropEnts h.ents m = h.ents := fun m hm => dropEnts_under (hu.le hm)
  have hC : ∀ m, h.next ≤ m → dropCells h.ents m = h.ents := fun m hm => dropCells_under (hu.le hm)
  have hN : ∀ q, h.next ≤ q → getEnt h.ents q = none := fun q hq => getEnt_under hu hq
  have hT : ∀ q, h.next ≤ q → lookupN h.tys q = none := fun q hq => lookupN_under hut hq
  have hG : ∀ x, getEnt (setEnt h.ents p x) p = some x := fun x => sy_getEnt_setEnt hg
  have hD2 : ∀ x m, h.next ≤ m → dropEnts (setEnt h.ents p x) m = setEnt h.ents p x := fun x m hm => dropEnts_under (hu.set.le hm)
  have hC2 : ∀ x m, h.next ≤ m → dropCells (setEnt h.ents p x) m = setEnt h.ents p x := fun x m hm => dropCells_under (hu.set.le hm)
  have hN2 : ∀ x q, h.next ≤ q → getEnt (setEnt h.ents p x) q = none := fun x q hq => getEnt_under hu.set hq
  obtain rfl : nn = 0 := by omega
  rcases hq with rfl | rfl
  ·
    refine Wc.mkG 10 c10 (by kernel_rfl) rfl ?_
    generalize e : entryC _ _ _ = r
    simp (disch := omega) [hD, hC, hN, hT, hg, hG, hD2, hC2, hN2, htk, hda, htr, h00, c10] at e
    subst e
    repeat (first
      | refine W.seq ?_
      | refine W.block ?_
      | ((first | refine W.regG ?_ | refine WoR.go ?_); generalize e : goR _ _ _ _ _ _ _ _ = r; simp (disch := omega) [hD, hC, hN, hT, hg, hG, hD2, hC2, hN2, htk, hda, htr, h00, hL, c10] at e; replace e : some _ = _ := e; subst e; (try dsimp only [goW]))
      | refine W.cond_true rfl ?_
      | refine W.cond_false rfl ?_
      | refine W.skip ?_
      | refine W.exit ?_
      | (refine N0 _ ?_ _ fun n1 tyn1 hn1 hun1 => ⟨rfl, ?_⟩; (focus (((refine ⟨?_, ?_⟩; (focus ((repeat (first | exact hu.le (by (try dsimp only); omega) | exact hu.set.le (by (try dsimp only); omega) | exact hu.set.set.le (by (try dsimp only); omega) | refine Under.cons (by (try dsimp only); omega) ?_ | exact Under.nil)); done)); (focus ((repeat (first | exact hut.le (by (try dsimp only); omega) | refine UnderT.cons (by (try dsimp only); omega) ?_ | exact UnderT.nil | assumption | exact UnderT.le (by assumption) (by (try dsimp only); omega))); done)))); done)); (try dsimp only at hn1))
      | (refine (contains_D 34 _ hD0) _ ?_ _ fun n2 tyn2 hn2 hun2 => ⟨rfl, ?_⟩; (focus (((refine ⟨?_, ?_⟩; (focus ((repeat (first | exact hu.le (by (try dsimp only); omega) | exact hu.set.le (by (try dsimp only); omega) | exact hu.set.set.le (by (try dsimp only); omega) | refine Under.cons (by (try dsimp only); omega) ?_ | exact Under.nil)); done)); (focus ((repeat (first | exact hut.le (by (try dsimp only); omega) | refine UnderT.cons (by (try dsimp only); omega) ?_ | exact UnderT.nil | assumption | exact UnderT.le (by assumption) (by (try dsimp only); omega))); done)))); done)); (try dsimp only at hn2)))
    refine text_F validF (fun t ht => valid_F t ht) p d s 34 r0 a L ts (by omega) to (by omega) hda hlen _ (S.mv ?_ ?_) _ (fun txt kk e1 e2 h' L' S' g => ⟨rfl, ?_⟩) (fun he h' at' L' ts' S' g => ⟨rfl, ?_⟩)
    · (try dsimp only); omega
    · repeat (first | exact hut.le (by (try dsimp only); omega) | refine UnderT.cons (by (try dsimp only); omega) ?_ | exact UnderT.nil | assumption | exact UnderT.le (by assumption) (by (try dsimp only); omega))
    · (try dsimp only at g)
      repeat (first
        | refine W.seq ?_
        | refine W.block ?_
        | ((first | refine W.regG ?_ | refine WoR.go ?_); generalize e : goR _ _ _ _ _ _ _ _ = r; simp (disch := omega) [hD, hC, hN, hT, hg, hG, hD2, hC2, hN2, htk, hda, htr, h00, c10] at e; replace e : some _ = _ := e; subst e; (try dsimp only [goW]))
        | refine W.cond_true rfl ?_
        | refine W.cond_false rfl ?_
        | refine W.skip ?_
        | refine W.exit ?_
        | ((first | (refine W.ret ?_; (try simp only [outOf, thenW_ret, roundW]); refine endW.of (.inl rfl) rfl ?_) | refine endW.of (.inr rfl) rfl ?_); generalize e : endsC _ _ _ = r; simp (disch := omega) [hD, hC, hN, hT, hg, hG, hD2, hC2, hN2, htk, hda, htr, h00, c10] at e; subst e; (try dsimp only [goW]); (refine hk1 txt kk e1 e2 _ L' (S'.drop (by (try dsimp only); omega) (by (try dsimp only); omega)) ?_; (try dsimp only); omega)))
    · (try dsimp only at g)
      repeat (first
        | refine W.seq ?_
        | refine W.block ?_
        | ((first | refine W.regG ?_ | refine WoR.go ?_); generalize e : goR _ _ _ _ _ _ _ _ = r; simp (disch := omega) [hD, hC, hN, hT, hg, hG, hD2, hC2, hN2, htk, hda, htr, h00, c10] at e; replace e : some _ = _ := e; subst e; (try dsimp only [goW]))
        | refine W.cond_true rfl ?_
        | refine W.cond_false rfl ?_
        | refine W.skip ?_
        | refine W.exit ?_
        | ((first | (refine W.ret ?_; (try simp only [outOf, thenW_ret, roundW]); refine endW.of (.inl rfl) rfl ?_) | refine endW.of (.inr rfl) rfl ?_); generalize e : endsC _ _ _ = r; simp (disch := omega) [hD, hC, hN, hT, hg, hG, hD2, hC2, hN2, htk, hda, htr, h00, c10] at e; subst e; (try dsimp only [goW]); (refine hk2 he _ at' L' ts' (S'.drop (by (try dsimp only); omega) (by (try dsimp only); omega)) ?_; (try dsimp only); omega)))
  ·
    refine Wc.mkG 10 c10 (by kernel_rfl) rfl ?_
    generalize e : entryC _ _ _ = r
    simp (disch := omega) [hD, hC, hN, hT, hg, hG, hD2, hC2, hN2, htk, hda, htr, h00, c10] at e
    subst e
    repeat (first
      | refine W.seq ?_
      | refine W.block ?_
      | ((first | refine W.regG ?_ | refine WoR.go ?_); generalize e : goR _ _ _ _ _ _ _ _ = r; simp (disch := omega) [hD, hC, hN, hT, hg, hG, hD2, hC2, hN2, htk, hda, htr, h00, hL, c10] at e; replace e : some _ = _ := e; subst e; (try dsimp only [goW]))
      | refine W.cond_true rfl ?_
      | refine W.cond_false rfl ?_
      | refine W.skip ?_
      | refine W.exit ?_
      | (refine N0 _ ?_ _ fun n1 tyn1 hn1 hun1 => ⟨rfl, ?_⟩; (focus (((refine ⟨?_, ?_⟩; (focus ((repeat (first | exact hu.le (by (try dsimp only); omega) | exact hu.set.le (by (try dsimp only); omega) | exact hu.set.set.le (by (try dsimp only); omega) | refine Under.cons (by (try dsimp only); omega) ?_ | exact Under.nil)); done)); (focus ((repeat (first | exact hut.le (by (try dsimp only); omega) | refine UnderT.cons (by (try dsimp only); omega) ?_ | exact UnderT.nil | assumption | exact UnderT.le (by assumption) (by (try dsimp only); omega))); done)))); done)); (try dsimp only at hn1))
      | (refine (contains_D 39 _ hD0) _ ?_ _ fun n2 tyn2 hn2 hun2 => ⟨rfl, ?_⟩; (focus (((refine ⟨?_, ?_⟩; (focus ((repeat (first | exact hu.le (by (try dsimp only); omega) | exact hu.set.le (by (try dsimp only); omega) | exact hu.set.set.le (by (try dsimp only); omega) | refine Under.cons (by (try dsimp only); omega) ?_ | exact Under.nil)); done)); (focus ((repeat (first | exact hut.le (by (try dsimp only); omega) | refine UnderT.cons (by (try dsimp only); omega) ?_ | exact UnderT.nil | assumption | exact UnderT.le (by assumption) (by (try dsimp only); omega))); done)))); done)); (try dsimp only at hn2)))
    refine text_F validF (fun t ht => valid_F t ht) p d s 39 r0 a L ts (by omega) to (by omega) hda hlen _ (S.mv ?_ ?_) _ (fun txt kk e1 e2 h' L' S' g => ⟨rfl, ?_⟩) (fun he h' at' L' ts' S' g => ⟨rfl, ?_⟩)
    · (try dsimp only); omega
    · repeat (first | exact hut.le (by (try dsimp only); omega) | refine UnderT.cons (by (try dsimp only); omega) ?_ | exact UnderT.nil | assumption | exact UnderT.le (by assumption) (by (try dsimp only); omega))
    · (try dsimp only at g)
      repeat (first
        | refine W.seq ?_
        | refine W.block ?_
        | ((first | refine W.regG ?_ | refine WoR.go ?_); generalize e : goR _ _ _ _ _ _ _ _ = r; simp (disch := omega) [hD, hC, hN, hT, hg, hG, hD2, hC2, hN2, htk, hda, htr, h00, c10] at e; replace e : some _ = _ := e; subst e; (try dsimp only [goW]))
        | refine W.cond_true rfl ?_
        | refine W.cond_false rfl ?_
        | refine W.skip ?_
        | refine W.exit ?_
        | ((first | (refine W.ret ?_; (try simp only [outOf, thenW_ret, roundW]); refine endW.of (.inl rfl) rfl ?_) | refine endW.of (.inr rfl) rfl ?_); generalize e : endsC _ _ _ = r; simp (disch := omega) [hD, hC, hN, hT, hg, hG, hD2, hC2, hN2, htk, hda, htr, h00, c10] at e; subst e; (try dsimp only [goW]); (refine hk1 txt kk e1 e2 _ L' (S'.drop (by (try dsimp only); omega) (by (try dsimp only); omega)) ?_; (try dsimp only); omega)))
    · (try dsimp only at g)
      repeat (first
        | refine W.seq ?_
        | refine W.block ?_
        | ((first | refine W.regG ?_ | refine WoR.go ?_); generalize e : goR _ _ _ _ _ _ _ _ = r; simp (disch := omega) [hD, hC, hN, hT, hg, hG, hD2, hC2, hN2, htk, hda, htr, h00, c10] at e; replace e : some _ = _ := e; subst e; (try dsimp only [goW]))
        | refine W.cond_true rfl ?_
        | refine W.cond_false rfl ?_
        | refine W.skip ?_
        | refine W.exit ?_
        | ((first | (refine W.ret ?_; (try simp only [outOf, thenW_ret, roundW]); refine endW.of (.inl rfl) rfl ?_) | refine endW.of (.inr rfl) rfl ?_); generalize e : endsC _ _ _ = r; simp (disch := omega) [hD, hC, hN, hT, hg, hG, hD2, hC2, hN2, htk, hda, htr, h00, c10] at e; subst e; (try dsimp only [goW]); (refine hk2 he _ at' L' ts' (S'.drop (by (try dsimp only); omega) (by (try dsimp only); omega)) ?_; (try dsimp only); omega)))

theorem next_F {n0 : Nat} {E0 : List (Nat × CObj)} (p d : Nat) (s r0 : List UInt8) (c0 : UInt8) (a : Nat) (ts : List CVal) (hts : ts.length ≤ 50000) (to : Int) (hs : s.length < 50000) (hda : s.drop a = c0 :: r0) (hlen : a + (c0 :: r0).length = s.length) (L : CVal) (h : CHeap) (S : St n0 E0 p s (a : Int) L ts 0 to h) (K : CVal → CHeap → Prop)
    (hk1 : ∀ k t n len, wordW validF (c0 :: r0) = .tok k t n len → ∀ h' L', St n0 E0 p s ((a + len : Nat) : Int) L' (ts ++ [tokC k t n a]) 0 to h' → h.next ≤ h'.next → K (.tup []) h') (hk2 : ∀ e, wordW validF (c0 :: r0) = .err e → ∀ h' at' L' ts', St n0 E0 p s at' L' ts' (e : Int) (a : Int) h' → h.next ≤ h'.next → K (.tup []) h') : Wc tree.getF 10 [.ptr p d 0] h K := by
  have hSL := S.l
  by_cases hN : 0 < nameF (c0 :: r0)
  · have hw : wordW validF (c0 :: r0) = .tok 1 ((c0 :: r0).take (nameF (c0 :: r0))) 0 (nameF (c0 :: r0)) := by unfold wordW; dsimp only; rw [if_pos hN]
    rcases hSL with ⟨rfl, rfl⟩ | ⟨i, v, rfl, ht, hip, hi0, hin⟩
    · exact next_name0 p d s r0 c0 a [] (by simp) to hs hda hlen hN h S K (hk1 _ _ _ _ hw)
    · exact next_name1 p d s r0 c0 a ts hts to hs hda hlen hN h i v ht hip hi0 hin S K (hk1 _ _ _ _ hw)
  · cases hD0 : D10.contains c0 with
    | true =>
      have hw : wordW validF (c0 :: r0) = numW (c0 :: r0) := by unfold wordW; dsimp only; rw [if_neg hN, if_pos hD0]
      exact next_num p d s r0 c0 a ts hts to hs hda hlen hN hD0 L h S K (fun v len e => hk1 _ _ _ _ (hw.trans e)) (fun e he => hk2 e (hw.trans he))
    | false =>
      have hD1 : ¬ D10.contains c0 = true := by rw [hD0]; simp
      by_cases hq : c0 = 34 ∨ c0 = 39
      · refine next_text p d s r0 c0 a ts hts to hs hda hlen hN hD0 hq L h S K (fun txt kk e1 e2 => hk1 3 txt 0 (kk + 1) ?_) (fun he => hk2 2 ?_)
        · unfold wordW; dsimp only; rw [if_neg hN, if_neg hD1, if_pos hq, e1]; dsimp only; rw [if_pos e2]
        · unfold wordW; dsimp only; rw [if_neg hN, if_neg hD1, if_pos hq]
          rcases he with e1 | ⟨txt, kk, e1, e2⟩
          · rw [e1]
          · rw [e1]; dsimp only; rw [if_neg (by rw [e2]; simp)]
      · cases hS : signsB.contains c0 with
        | true =>
          have hw : wordW validF (c0 :: r0) = .tok 4 [c0] 0 1 := by unfold wordW; dsimp only; rw [if_neg hN, if_neg hD1, if_neg hq, if_pos hS]
          rcases hSL with ⟨rfl, rfl⟩ | ⟨i, v, rfl, ht, hip, hi0, hin⟩
          · exact next_sign0 p d s r0 c0 a [] (by simp) to hs hda hlen hN hD0 hq hS h S K (hk1 _ _ _ _ hw)
          · exact next_sign1 p d s r0 c0 a ts hts to hs hda hlen hN hD0 hq hS h i v ht hip hi0 hin S K (hk1 _ _ _ _ hw)
        | false =>
          have hw : wordW validF (c0 :: r0) = .err 2 := by unfold wordW; dsimp only; rw [if_neg hN, if_neg hD1, if_neg hq, if_neg (by rw [hS]; simp)]
          exact next_bad p d s r0 c0 a ts hts to hs hda hlen hN hD0 hq hS L h S K (hk2 2 hw)
end Go.Proofs.YthblmflngjofjaaDoor.IrP
