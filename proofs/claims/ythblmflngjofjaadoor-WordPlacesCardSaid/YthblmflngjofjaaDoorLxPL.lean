/- What the functions of the law 'WordPlaces' do: part 13. -/
import Derived.Test.YthblmflngjofjaaDoorLxPK
namespace Go.Proofs.YthblmflngjofjaaDoor.IrP
open Go Go.CI
open Go.LexF hiding spacesB lettersB
set_option maxRecDepth 100000
set_option linter.unusedVariables false
set_option linter.unusedSimpArgs false
attribute [local irreducible] W Wo Wc WoR
attribute [local simp] goR regOut checkOne swapOne sameAt nthOp CVal.beq beqs CVal.block storesTo entryC evalOps evalOper evalE evalP evalL evalOpnd nth setNth COp.cls COp.isStore CVal.isUndef CVal.whole CVal.cells CHeap.put CHeap.get CHeap.set wantedC getEnt setEnt partOf writeBack evalBin evalInt evalStr blockMost initVar descOf List.take List.drop CVal.lenOf CVal.isStr CVal.bare CVal.strip CVal.flat endsC resultsC oneOrTuple finishC cut fillCells setCells szOf szOf_desc elems bytesOf evalAppend fillElems mkElem setElem List.replicate sy_nbeq sy_neqF sy_leT sy_leF sy_setEnt_setEnt dropped sy_wrap64 dropEnts dropCells sizeMost sy_ibeqF sy_ieqF sy_ileT sy_ileF sy_iltT sy_iltF sy_ltT sy_ltF evalSlc optBound eqVal extL extE keyIs findKV nthKV setKV CHeap.ty lookupN CHeap.note CHeap.tyOk dropAll freezeVal freezeAll freezeFlat pCopyCheck pBString pMakeNoZero pIndexByte pClone pIndex hasPair rowOf byteVals idxFrom hasFront idxSub

theorem St.mv {n0 : Nat} {E0 : List (Nat × CObj)} {p : Nat} {s : List UInt8} {a : Int} {L : CVal} {ts : List CVal} {e to : Int} {h : CHeap} {n' : Nat} {ty : List (Nat × Nat)} (S : St n0 E0 p s a L ts e to h) (hn : h.next ≤ n') (ht : UnderT ty n') : St n0 E0 p s a L ts e to ⟨h.ents, n', ty⟩ where
  g := S.g
  l := by
    rcases S.l with h1 | ⟨i, v, h1, h2, h3, h4, h5⟩
    · exact .inl h1
    · exact .inr ⟨i, v, h1, h2, h3, h4, by (try dsimp only); omega⟩
  d := S.d
  n := S.n
  lt := by have := S.lt; (try dsimp only); omega
  f := ⟨S.f.1.le hn, ht⟩
theorem num_rest {n0 n1 : Nat} {E0 : List (Nat × CObj)} (p d : Nat) (s r : List UInt8) (a n k B : Nat) (set ds : List UInt8) (L : CVal) (ts : List CVal) (hts : ts.length ≤ 100000) (to : Int) (hs : s.length < 60000) (hda : s.drop a = r) (hlen : a + r.length = s.length) (hnr : n ≤ r.length)
    (hF : numF r = (B, n, ds)) (hds : ds = fr set (r.drop n)) (hk0 : ds.length = k) (FR : Pu tree.getF 13 [.str (r.drop n), .str set] (.int .i64 (k : Int)))
    (PO : valF B 0 ds < 18446744073709551616 → Pu tree.getF 34 [.str ds, .int .i64 B, .int .i64 64] (.tup [.int .u64 (valF B 0 ds : Nat), .nili]))
    (PB : 18446744073709551616 ≤ valF B 0 ds → ∀ (h : CHeap), Fit h → ∀ (K : CVal → CHeap → Prop), (∀ n' ty m d, h.next ≤ n' → UnderT ty n' → K (.tup [.int .u64 ((18446744073709551615 : Nat) : Int), .ifc 80 (.ptr m d 0)]) ⟨h.ents, n', ty⟩) → Wc tree.getF 34 [.str ds, .int .i64 B, .int .i64 64] h K)
    (h : CHeap) (S : St n0 E0 p s (a : Int) L ts 0 to h) (hn1 : n1 ≤ h.next) (hu1 : Under h.ents n1) (v2 v3 v6 v8 v9 v10 : CVal) (K : CVal → CHeap → Prop)
    (hk1 : ∀ v len, numW r = .tok 2 [] v len → ∀ h' L', St n0 E0 p s ((a + len : Nat) : Int) L' (ts ++ [tokC 2 [] v a]) 0 to h' → h.next ≤ h'.next → K (.tup []) h')
    (hk2 : ∀ e, numW r = .err e → ∀ h' at' L' ts', St n0 E0 p s at' L' ts' (e : Int) (a : Int) h' → h.next ≤ h'.next → K (.tup []) h') :
    W tree.getF numTail ⟨[.ptr p d 0, .str r, v2, v3, .int .i64 (n : Int), .str set, v6, .int .i64 B, v8, v9, v10], h, []⟩ (endW c20 n1 K) := by
  have hfl := fr_len set (r.drop n)
  rw [← hds, List.length_drop] at hfl
  have hnk : n + k ≤ r.length := by omega
  have hdsE : (r.take (n + k)).drop n = ds := by
    rw [List.drop_take, show n + k - n = k by omega, ← hk0, hds, take_fr]
  have hpos : (a : Int) + ((n : Int) + (k : Int)) = ((a + (n + k) : Nat) : Int) := by omega
  unfold numW at hk1 hk2
  rw [hF] at hk1 hk2
  dsimp only at hk1 hk2
  rw [hk0] at hk1 hk2
  have hSL := S.l
  by_cases hv : valF B 0 ds < 18446744073709551616
  · have hv' : ¬ 18446744073709551616 ≤ valF B 0 ds := by omega
    rw [if_neg hv'] at hk1 hk2
    cases hc : r.drop (n + k) with
    | nil =>
      have hend : n + k = r.length := by have := congrArg List.length hc; simp at this; omega
      rw [hc] at hk1
      dsimp only at hk1
      rcases hSL with ⟨rfl, rfl⟩ | ⟨i, v, rfl, ht, hip, hi0, hin⟩
      · refine tail_ok_end0 p d s r a n k B (valF B 0 ds) set ds [] (by simp) to hs hda hlen hnk hdsE FR (PO hv) hend h S hn1 hu1 _ _ _ _ _ _ K fun h' L' S' hn' => ?_
        rw [hpos] at S'; exact hk1 _ _ rfl h' L' S' hn'
      · refine tail_ok_end1 p d s r a n k B (valF B 0 ds) set ds ts hts to hs hda hlen hnk hdsE FR (PO hv) hend h i v ht hip hi0 hin S hn1 hu1 _ _ _ _ _ _ K fun h' L' S' hn' => ?_
        rw [hpos] at S'; exact hk1 _ _ rfl h' L' S' hn'
    | cons c t =>
      rw [hc] at hk1 hk2
      dsimp only at hk1 hk2
      cases hcc : (namesB ++ [46]).contains c with
      | false =>
        rw [hcc] at hk1
        simp only [Bool.false_eq_true, if_false] at hk1
        rcases hSL with ⟨rfl, rfl⟩ | ⟨i, v, rfl, ht, hip, hi0, hin⟩
        · refine tail_ok_good0 p d s r a n k B (valF B 0 ds) set ds [] (by simp) to hs hda hlen hnk hdsE FR (PO hv) c t hc hcc h S hn1 hu1 _ _ _ _ _ _ K fun h' L' S' hn' => ?_
          rw [hpos] at S'; exact hk1 _ _ rfl h' L' S' hn'
        · refine tail_ok_good1 p d s r a n k B (valF B 0 ds) set ds ts hts to hs hda hlen hnk hdsE FR (PO hv) c t hc hcc h i v ht hip hi0 hin S hn1 hu1 _ _ _ _ _ _ K fun h' L' S' hn' => ?_
          rw [hpos] at S'; exact hk1 _ _ rfl h' L' S' hn'
      | true =>
        rw [hcc] at hk2
        simp only [if_true] at hk2
        rcases hSL with ⟨rfl, rfl⟩ | ⟨i, v, rfl, ht, hip, hi0, hin⟩
        · exact tail_ok_bad0 p d s r a n k B (valF B 0 ds) set ds [] (by simp) to hs hda hlen hnk hdsE FR (PO hv) c t hc hcc h S hn1 hu1 _ _ _ _ _ _ K fun h' L' S' hn' => hk2 2 rfl h' _ L' _ S' hn'
        · exact tail_ok_bad1 p d s r a n k B (valF B 0 ds) set ds ts hts to hs hda hlen hnk hdsE FR (PO hv) c t hc hcc h i v ht hip hi0 hin S hn1 hu1 _ _ _ _ _ _ K fun h' L' S' hn' => hk2 2 rfl h' _ L' _ S' hn'
  · have hv : 18446744073709551616 ≤ valF B 0 ds := by omega
    rw [if_pos hv] at hk2
    cases hc : r.drop (n + k) with
    | nil =>
      have hend : n + k = r.length := by have := congrArg List.length hc; simp at this; omega
      rcases hSL with ⟨rfl, rfl⟩ | ⟨i, v, rfl, ht, hip, hi0, hin⟩
      · exact tail_ovf_end0 p d s r a n k B 18446744073709551615 set ds [] (by simp) to hs hda hlen hnk hdsE FR (PB hv) hend h S hn1 hu1 _ _ _ _ _ _ K fun h' L' S' hn' => hk2 3 rfl h' _ L' _ S' hn'
      · exact tail_ovf_end1 p d s r a n k B 18446744073709551615 set ds ts hts to hs hda hlen hnk hdsE FR (PB hv) hend h i v ht hip hi0 hin S hn1 hu1 _ _ _ _ _ _ K fun h' L' S' hn' => hk2 3 rfl h' _ L' _ S' hn'
    | cons c t =>
      cases hcc : (namesB ++ [46]).contains c with
      | false =>
        rcases hSL with ⟨rfl, rfl⟩ | ⟨i, v, rfl, ht, hip, hi0, hin⟩
        · exact tail_ovf_good0 p d s r a n k B 18446744073709551615 set ds [] (by simp) to hs hda hlen hnk hdsE FR (PB hv) c t hc hcc h S hn1 hu1 _ _ _ _ _ _ K fun h' L' S' hn' => hk2 3 rfl h' _ L' _ S' hn'
        · exact tail_ovf_good1 p d s r a n k B 18446744073709551615 set ds ts hts to hs hda hlen hnk hdsE FR (PB hv) c t hc hcc h i v ht hip hi0 hin S hn1 hu1 _ _ _ _ _ _ K fun h' L' S' hn' => hk2 3 rfl h' _ L' _ S' hn'
      | true =>
        rcases hSL with ⟨rfl, rfl⟩ | ⟨i, v, rfl, ht, hip, hi0, hin⟩
        · exact tail_ovf_bad0 p d s r a n k B 18446744073709551615 set ds [] (by simp) to hs hda hlen hnk hdsE FR (PB hv) c t hc hcc h S hn1 hu1 _ _ _ _ _ _ K fun h' L' S' hn' => hk2 3 rfl h' _ L' _ S' hn'
        · exact tail_ovf_bad1 p d s r a n k B 18446744073709551615 set ds ts hts to hs hda hlen hnk hdsE FR (PB hv) c t hc hcc h i v ht hip hi0 hin S hn1 hu1 _ _ _ _ _ _ K fun h' L' S' hn' => hk2 3 rfl h' _ L' _ S' hn'
def okB (B : Nat) (c : UInt8) : Bool := (decide (48 ≤ c.toNat ∧ c.toNat ≤ 57 ∨ 65 ≤ c.toNat ∧ c.toNat ≤ 70 ∨ 97 ≤ c.toNat ∧ c.toNat ≤ 102)) && decide (digF c < B)
theorem ok_of {B : Nat} {set : List UInt8} (h : set.all (okB B) = true) {c : UInt8} (hc : set.contains c = true) : okF B c := by
  have := List.all_eq_true.1 h c (by simpa using hc)
  simp only [okB, Bool.and_eq_true, decide_eq_true_eq] at this
  exact this
theorem number_F {n0 : Nat} {E0 : List (Nat × CObj)} (p d : Nat) (s r0 : List UInt8) (c0 : UInt8) (a : Nat) (L : CVal) (ts : List CVal) (hts : ts.length ≤ 100000) (to : Int) (hs : s.length < 60000) (hda : s.drop a = c0 :: r0) (hlen : a + (c0 :: r0).length = s.length) (hcd : D10.contains c0 = true)
    (h : CHeap) (S : St n0 E0 p s (a : Int) L ts 0 to h) (K : CVal → CHeap → Prop)
    (hk1 : ∀ v len, numW (c0 :: r0) = .tok 2 [] v len → ∀ h' L', St n0 E0 p s ((a + len : Nat) : Int) L' (ts ++ [tokC 2 [] v a]) 0 to h' → h.next ≤ h'.next → K (.tup []) h')
    (hk2 : ∀ e, numW (c0 :: r0) = .err e → ∀ h' at' L' ts', St n0 E0 p s at' L' ts' (e : Int) (a : Int) h' → h.next ≤ h'.next → K (.tup []) h') : Wc tree.getF 20 [.ptr p d 0] h K := by
  have hL := S.whole
  have hu1 := S.f.1
  have hll : (c0 :: r0).length ≤ s.length := by omega
  have h2 : ∀ q : List UInt8, (decide (2 ≤ (c0 :: r0).length) && ((c0 :: r0).take 2 == q)) = true ∨ (decide (2 ≤ (c0 :: r0).length) && ((c0 :: r0).take 2 == q)) = false := fun q => by cases (decide (2 ≤ (c0 :: r0).length) && ((c0 :: r0).take 2 == q)) <;> simp
  have take2 : ∀ q : List UInt8, q.length = 2 → ((decide (2 ≤ (c0 :: r0).length) && ((c0 :: r0).take 2 == q)) = true ↔ (c0 :: r0).take 2 = q) := fun q hq => by
    simp only [Bool.and_eq_true, decide_eq_true_eq, beq_iff_eq]
    refine ⟨fun h => h.2, fun h => ⟨?_, h⟩⟩
    have := congrArg List.length h
    rw [List.length_take, hq] at this; omega
  have t1 := take2 [48, 120] rfl
  have t2 := take2 [48, 88] rfl
  have head48 : (c0 :: r0).take 2 = [48, 120] ∨ (c0 :: r0).take 2 = [48, 88] → c0 = 48 := fun h => by
    rcases h with h | h <;> (cases r0 <;> simp at h; exact h.1)
  by_cases hP : ((c0 :: r0).take 2 = [48, 120] ∨ (c0 :: r0).take 2 = [48, 88]) ∧ 0 < (fr hexesB ((c0 :: r0).drop 2)).length
  · have hF : numF (c0 :: r0) = (16, 2, fr hexesB ((c0 :: r0).drop 2)) := by unfold numF; rw [if_pos hP]
    have hne : fr hexesB ((c0 :: r0).drop 2) ≠ [] := fun e => by have := hP.2; rw [e] at this; simp at this
    have hfl := fr_len hexesB ((c0 :: r0).drop 2)
    rw [List.length_drop] at hfl
    have hdl : ∀ c ∈ fr hexesB ((c0 :: r0).drop 2), okF 16 c := fun c hc => ok_of (by decide) (fr_mem hc)
    have fin : ∀ n' ty v2 v3 v6 v8 v9 v10, h.next ≤ n' → UnderT ty n' → W tree.getF numTail ⟨[.ptr p d 0, .str (c0 :: r0), v2, v3, .int .i64 ((2 : Nat) : Int), .str hexesB, v6, .int .i64 16, v8, v9, v10], ⟨h.ents, n', ty⟩, []⟩ (endW c20 h.next K) := by
      intro n' ty v2 v3 v6 v8 v9 v10 g1 g2
      exact num_rest p d s (c0 :: r0) a 2 _ 16 hexesB _ L ts hts to hs hda hlen (by have := hP.2; omega) hF rfl rfl (front_16 _ (by simp at hll ⊢; omega)) (fun hv => p_ok16 _ hne (by omega) hdl hv) (fun hv => p_bad16 _ hne (by omega) hdl hv) _ (S.mv g1 g2) g1 hu1 _ _ _ _ _ _ K (fun v len e h' L' S' g => hk1 v len e h' L' S' (Nat.le_trans g1 g)) (fun e' e h' at' L' ts' S' g => hk2 e' e h' at' L' ts' S' (Nat.le_trans g1 g))
    rcases h2 [48, 120] with h1 | h1
    · exact head_A p d s r0 c0 a L hL.1 0 to hs hda hlen h1 hP.2 h S.g S.f S.lt K fin
    · have h3 : (c0 :: r0).take 2 = [48, 88] := by
        rcases hP.1 with h | h
        · rw [t1.2 h] at h1; cases h1
        · exact h
      exact head_B p d s r0 c0 a L hL.1 0 to hs hda hlen h1 (t2.2 h3) hP.2 h S.g S.f S.lt K fin
  · by_cases h48 : c0 = 48
    · have hF : numF (c0 :: r0) = (8, 0, fr D8 (c0 :: r0)) := by unfold numF; rw [if_neg hP, if_pos (by rw [h48]; rfl)]
      have hfr : fr D8 (c0 :: r0) = c0 :: fr D8 r0 := by unfold fr; rw [List.takeWhile_cons, if_pos (by rw [h48]; decide)]
      have hne : fr D8 (c0 :: r0) ≠ [] := by rw [hfr]; simp
      have hfl := fr_len D8 (c0 :: r0)
      have hdl : ∀ c ∈ fr D8 (c0 :: r0), okF 8 c := fun c hc => ok_of (by decide) (fr_mem hc)
      have fin : ∀ n' ty v2 v3 v6 v8 v9 v10, h.next ≤ n' → UnderT ty n' → W tree.getF numTail ⟨[.ptr p d 0, .str (c0 :: r0), v2, v3, .int .i64 ((0 : Nat) : Int), .str D8, v6, .int .i64 8, v8, v9, v10], ⟨h.ents, n', ty⟩, []⟩ (endW c20 h.next K) := by
        intro n' ty v2 v3 v6 v8 v9 v10 g1 g2
        exact num_rest p d s (c0 :: r0) a 0 _ 8 D8 _ L ts hts to hs hda hlen (by omega) hF rfl rfl (front_8 _ (by simp at hll ⊢; omega)) (fun hv => p_ok8 _ hne (by omega) hdl hv) (fun hv => p_bad8 _ hne (by omega) hdl hv) _ (S.mv g1 g2) g1 hu1 _ _ _ _ _ _ K (fun v len e h' L' S' g => hk1 v len e h' L' S' (Nat.le_trans g1 g)) (fun e' e h' at' L' ts' S' g => hk2 e' e h' at' L' ts' S' (Nat.le_trans g1 g))
      have hk0 : (c0 :: r0).take 2 = [48, 120] ∨ (c0 :: r0).take 2 = [48, 88] → (fr hexesB ((c0 :: r0).drop 2)).length = 0 := fun e => by
        rcases Nat.eq_zero_or_pos (fr hexesB ((c0 :: r0).drop 2)).length with h | h
        · exact h
        · exact absurd ⟨e, h⟩ hP
      rcases h2 [48, 120] with h1 | h1
      · exact head_C p d s r0 c0 a L hL.1 0 to hs hda hlen h1 (hk0 (.inl (t1.1 h1))) h48 h S.g S.f S.lt K fin
      · rcases h2 [48, 88] with h3 | h3
        · exact head_D p d s r0 c0 a L hL.1 0 to hs hda hlen h1 h3 (hk0 (.inr (t2.1 h3))) h48 h S.g S.f S.lt K fin
        · exact head_E p d s r0 c0 a L hL.1 0 to hs hda hlen h1 h3 h48 h S.g S.f S.lt K fin
    · have hF : numF (c0 :: r0) = (10, 0, fr D10 (c0 :: r0)) := by
        unfold numF; rw [if_neg hP, if_neg (by simpa using h48)]
      have hfr : fr D10 (c0 :: r0) = c0 :: fr D10 r0 := by unfold fr; rw [List.takeWhile_cons, if_pos hcd]
      have hne : fr D10 (c0 :: r0) ≠ [] := by rw [hfr]; simp
      have hfl := fr_len D10 (c0 :: r0)
      have hdl : ∀ c ∈ fr D10 (c0 :: r0), okF 10 c := fun c hc => ok_of (by decide) (fr_mem hc)
      have fin : ∀ n' ty v2 v3 v6 v8 v9 v10, h.next ≤ n' → UnderT ty n' → W tree.getF numTail ⟨[.ptr p d 0, .str (c0 :: r0), v2, v3, .int .i64 ((0 : Nat) : Int), .str D10, v6, .int .i64 10, v8, v9, v10], ⟨h.ents, n', ty⟩, []⟩ (endW c20 h.next K) := by
        intro n' ty v2 v3 v6 v8 v9 v10 g1 g2
        exact num_rest p d s (c0 :: r0) a 0 _ 10 D10 _ L ts hts to hs hda hlen (by omega) hF rfl rfl (front_10 _ (by simp at hll ⊢; omega)) (fun hv => p_ok10 _ hne (by omega) hdl hv) (fun hv => p_bad10 _ hne (by omega) hdl hv) _ (S.mv g1 g2) g1 hu1 _ _ _ _ _ _ K (fun v len e h' L' S' g => hk1 v len e h' L' S' (Nat.le_trans g1 g)) (fun e' e h' at' L' ts' S' g => hk2 e' e h' at' L' ts' S' (Nat.le_trans g1 g))
      have no : ∀ q : List UInt8, (q = [48, 120] ∨ q = [48, 88]) → (decide (2 ≤ (c0 :: r0).length) && ((c0 :: r0).take 2 == q)) = false := fun q hq => by
        rcases h2 q with h | h
        · exfalso; apply h48; apply head48
          rcases hq with rfl | rfl
          · exact .inl (t1.1 h)
          · exact .inr (t2.1 h)
        · exact h
      exact head_F p d s r0 c0 a L hL.1 0 to hs hda hlen (no _ (.inl rfl)) (no _ (.inr rfl)) h48 h S.g S.f S.lt K fin
end Go.Proofs.YthblmflngjofjaaDoor.IrP
