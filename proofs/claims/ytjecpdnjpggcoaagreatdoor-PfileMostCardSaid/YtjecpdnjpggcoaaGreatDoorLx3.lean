/- What the functions of the law 'PfileMost' do: part 3 of 8. -/
import Derived.Test.YtjecpdnjpggcoaaGreatDoorLx2
namespace Go.Proofs.YtjecpdnjpggcoaaGreatDoor.IrM
open Go Go.CI
open Go.LexF hiding spacesB lettersB
set_option maxRecDepth 100000
set_option linter.unusedVariables false
set_option linter.unusedSimpArgs false
attribute [local irreducible] W Wo Wc WoR
attribute [local simp] goR regOut checkOne swapOne sameAt nthOp CVal.beq beqs CVal.block storesTo zAa zAe zBg evalE evalP evalL zAy nth setNth COp.cls COp.isStore CVal.isUndef CVal.whole CVal.cells CHeap.put CHeap.get CHeap.set wantedC zA2 zA0 partOf zB9 evalBin evalInt evalStr zB8 initVar descOf List.take List.drop CVal.lenOf CVal.isStr CVal.bare CVal.strip CVal.flat zAo zBm zB6 finishC cut fillCells setCells szOf szOf_desc elems bytesOf evalAppend fillElems mkElem setElem List.replicate sy_nbeq sy_neqF sy_leT sy_leF zAj dropped sy_wrap64 zAx zAc zBb sy_ibeqF sy_ieqF sy_ileT sy_ileF sy_iltT sy_iltF sy_ltT sy_ltF zAg zA8 eqVal extL extE keyIs findKV nthKV setKV CHeap.ty lookupN CHeap.note CHeap.tyOk dropAll freezeVal freezeAll freezeFlat cellsEq cellEq zAk zAq pMakeNoZero zBi pClone pIndex hasPair rowOf byteVals idxFrom hasFront idxSub
theorem wUN1 {P : Prop} (h : P := by repeat (first | refine sq_ ?_ | refine bl_ ?_ | ((first | refine rg_ ?_ | refine go_ ?_); generalize e : goR _ _ _ _ _ _ _ _ = r; simp (disch := omega) [hX, hg, hY, hql, hEb, hTr, hcut, hbv, hal, hll, hil, c33, c52, c36] at e; replace e : some _ = _ := e; subst e; (try dsimp only [goW])) | refine ct_ rfl ?_ | refine cf_ rfl ?_ | refine sk_ ?_ | refine ex_ ?_ | (refine Wc.mkG 33 c33 (by kernel_rfl) rfl ?_; generalize e : zAa _ _ _ = r; simp (disch := omega) [hX, hg, hY, hql, hEb, hTr, hcut, hbv, hal, hll, hil, c33, c52, c36] at e; subst e) | (refine Wc.mkG 52 c52 (by kernel_rfl) rfl ?_; generalize e : zAa _ _ _ = r; simp (disch := omega) [hX, hg, hY, hql, hEb, hTr, hcut, hbv, hal, hll, hil, c33, c52, c36] at e; subst e) | (refine Wc.primM (f := 51) (p := (zAq 5)) (by kernel_rfl) ?_; generalize e : (zAq 5) _ _ = r; simp (disch := omega) [hX, hg, hY, hql, hEb, hTr, hcut, hbv, hal, hll, hil, c33, c52, c36] at e; subst e; (try dsimp only); refine ⟨rfl, ?_⟩) | (refine Wc.primM (f := 70) (p := (zAk [(97517570, 0)])) (by kernel_rfl) ?_; generalize e : (zAk [(97517570, 0)]) _ _ = r; simp (disch := omega) [hX, hg, hY, hql, hEb, hTr, hcut, hbv, hal, hll, hil, c33, c52, c36] at e; subst e; (try dsimp only); refine ⟨rfl, ?_⟩) | ((first | (refine W.ret ?_; (try simp only [zAl, zA3, zAf]); refine endW.of (.inl rfl) rfl ?_) | refine endW.of (.inr rfl) rfl ?_); generalize e : zAo _ _ _ = r; simp (disch := omega) [hX, hg, hY, hql, hEb, hTr, hcut, hbv, hal, hll, hil, c33, c52, c36] at e; subst e; (try dsimp only [goW]); (first | refine ⟨rfl, ?_⟩ | (refine hk2 ?_ _ _ _ _ (S.updc ?_ ?_ ?_) ?_; (focus ((exact herr); done)); (try dsimp only); omega; (try dsimp only); omega; exact ut_; (try dsimp only); omega))))) : P := h
def Pe (f : Nat) (args : List CVal) (v : CVal) : Prop := ∀ (h : CHeap), Fit h → ∀ (K : CVal → CHeap → Prop), (∀ n', h.next ≤ n' → K v ⟨h.ents, n', h.tys⟩) → Wc tree.getF f args h K
theorem indexb_G (s : List UInt8) (c : UInt8) (hl : s.length < 100000) : Pe 32 [.str s, .int .u8 (c.toNat : Int)] (.int .i64 (idxFrom c s 0)) := by
 intro h hf K hk
 obtain ⟨hu, hut, hX⟩ := fx4 hf
 have hcc : ((c.toNat : Int).toNat).toUInt8 = c := by simp
 refine Wc.mkG 32 c32 (by kernel_rfl) rfl ?_
 generalize e : zAa _ _ _ = r
 simp (disch := omega) [hX, hcc, c32] at e
 subst e
 repeat (first | refine sq_ ?_ | refine bl_ ?_ | ((first | refine rg_ ?_ | refine go_ ?_); generalize e : goR _ _ _ _ _ _ _ _ = r; simp (disch := omega) [hX, hcc, c47, c32] at e; replace e : some _ = _ := e; subst e; (try dsimp only [goW])) | refine ct_ rfl ?_ | refine cf_ rfl ?_ | refine sk_ ?_ | refine ex_ ?_ | (refine W.loop ?_; try (generalize e : dropped _ _ _ = r; simp (disch := omega) [hX, hcc, c47, c32] at e; subst e; try dsimp only)) | (refine Wc.mkG 47 c47 (by kernel_rfl) rfl ?_; generalize e : zAa _ _ _ = r; simp (disch := omega) [hX, hcc, c47, c32] at e; subst e) | (refine Wc.primM (f := 66) (p := zBi) (by kernel_rfl) ?_; generalize e : zBi _ _ = r; simp (disch := omega) [hX, hcc, c47, c32] at e; subst e; (try dsimp only); refine ⟨rfl, ?_⟩) | ((first | (refine W.ret ?_; (try simp only [zAl, zA3, zAf]); refine endW.of (.inl rfl) rfl ?_) | refine endW.of (.inr rfl) rfl ?_); generalize e : zAo _ _ _ = r; simp (disch := omega) [hX, hcc, c47, c32] at e; subst e; (try dsimp only [goW]); (first | refine ⟨rfl, ?_⟩ | (refine hk _ ?_; omega))))
theorem setEnt_cons_ne {r p : Nat} {o x : CObj} {l : List (Nat × CObj)} (h : r ≠ p) : zA0 ((r, o) :: l) p x = (r, o) :: zA0 l p x := by simp [zA0, h]
theorem St.app0c {n0 : Nat} {E0 : List (Nat × CObj)} {p : Nat} {s : List UInt8} {a a' : Int} {e to e' to' : Int} {h : CHeap} {n' i r : Nat} {o : CObj} {ty : List (Nat × Nat)} {x : CVal} {ts : List CVal} (S : St n0 E0 p s a .nils ts e to h) (hr : h.next ≤ r) (hi : r < i) (hn : i < n') (ht : zAb ty n') :
    St n0 E0 p s a' (.imm (.own i 0) 4 [x]) [x] e' to' ⟨(i, .tok 0) :: (r, o) :: zA0 h.ents p (rdr s a' (.imm (.own i 0) 4 [x]) e' to'), n', ty⟩ := by
 have hlt := S.lt
 have h1 := (S.cons (o := o) hr hi (zAb.le S.f.2 (by omega))).app0 (a' := a') (e' := e') (to' := to') (x := x) (i := i) (n' := n') (ty := ty) (Nat.le_refl _) hn ht
 rw [setEnt_cons_ne (by omega)] at h1
 exact h1
theorem St.app1c {n0 : Nat} {E0 : List (Nat × CObj)} {p : Nat} {s : List UInt8} {a a' : Int} {e to e' to' : Int} {h : CHeap} {n' i v r : Nat} {o : CObj} {ty : List (Nat × Nat)} {x : CVal} {ts : List CVal} {L : CVal} (S : St n0 E0 p s a L ts e to h) (ht : zA2 h.ents i = some (.tok v)) (hip : i ≠ p) (hi0 : n0 ≤ i) (hin : i < h.next) (hr : h.next ≤ r) (hn : r < n') (hty : zAb ty n') :
    St n0 E0 p s a' (.imm (.own i (v + 1)) 4 (ts ++ [x])) (ts ++ [x]) e' to' ⟨(r, o) :: zA0 (zA0 h.ents i (.tok (v + 1))) p (rdr s a' (.imm (.own i (v + 1)) 4 (ts ++ [x])) e' to'), n', ty⟩ :=
 (S.app1 ht hip hi0 hin (Nat.le_refl _) S.f.2).cons hr hn hty
theorem St.updc {n0 : Nat} {E0 : List (Nat × CObj)} {p : Nat} {s : List UInt8} {a a' : Int} {L : CVal} {ts : List CVal} {e to e' to' : Int} {h : CHeap} {n' r : Nat} {o : CObj} {ty : List (Nat × Nat)} (S : St n0 E0 p s a L ts e to h) (hr : h.next ≤ r) (hn : r < n') (ht : zAb ty n') :
    St n0 E0 p s a' L ts e' to' ⟨(r, o) :: zA0 h.ents p (rdr s a' L e' to'), n', ty⟩ := (S.upd (Nat.le_refl _) S.f.2).cons hr hn ht
theorem esc_92 : idxFrom 92 [92, 34, 39, 110] 0 = 0 := rfl
theorem esc_no (x : UInt8) (h : meantF x = none) : idxFrom x [92, 34, 39, 110] 0 = -1 := by
 unfold meantF at h
 have h1 : ¬ x = 92 := fun e => by simp [e] at h
 have h2 : ¬ x = 34 := fun e => by simp [e] at h
 have h3 : ¬ x = 39 := fun e => by simp [e] at h
 have h4 : ¬ x = 110 := fun e => by simp [e] at h
 have g1 : (92 == x) = false := by simp; exact fun e => h1 e.symm
 have g2 : (34 == x) = false := by simp; exact fun e => h2 e.symm
 have g3 : (39 == x) = false := by simp; exact fun e => h3 e.symm
 have g4 : (110 == x) = false := by simp; exact fun e => h4 e.symm
 simp [idxFrom, g1, g2, g3, g4]
theorem W_cast {c : CCode} {st st' : CSt} {Q : CExit → CSt → Prop} (h : W tree.getF c st Q) (e : st' = st) : W tree.getF c st' Q := by rw [e]; exact h
set_option maxHeartbeats 4000000 in
theorem text_loop1 (valid : Bytes → Bool) (hV : ∀ t : Bytes, t.length ≤ 60000 → Pe 50 [.str t] (.bool (valid t))) {n0 : Nat} {E0 : List (Nat × CObj)} (p d : Nat) (s : List UInt8) (q : UInt8) (a : Nat) (L : CVal) (ts : List CVal) (hts : ts.length ≤ 100000) (to : Int) (hs : s.length < 50000) (h : CHeap) (S : St n0 E0 p s (a : Int) L ts 0 to h) (K : CVal → CHeap → Prop) (bq : Nat) (r : Nat) (hb : h.next ≤ bq) (hbr : bq < r) : ∀ (m : Nat) (t acc : List UInt8) (i k v : Nat) (n : Nat) (ty : List (Nat × Nat)) (v3 v4 v6 v8 v9 v10 v11 v12 : CVal), t.length ≤ m → s.drop i = t → i + t.length = s.length → acc ≠ [] → acc.length ≤ i → r < n → zAb ty n → lookupN ty r = some 5 → i = a + (k + 1) →
    (∀ txt kk, textF q t acc k = some (txt, kk) → valid txt = true → ∀ h' L', St n0 E0 p s ((a + (kk + 1) : Nat) : Int) L' (ts ++ [tokC 3 txt 0 a]) 0 to h' → h.next ≤ h'.next → K (.tup []) h')
    → ((textF q t acc k = none ∨ ∃ txt kk, textF q t acc k = some (txt, kk) ∧ valid txt = false) → ∀ h' at' L' ts', St n0 E0 p s at' L' ts' 2 (a : Int) h' → h.next ≤ h'.next → K (.tup []) h') →
    W tree.getF textLoop ⟨[.ptr p d 0, .int .i64 (a : Int), .int .i64 (i : Int), v3, v4, .int .u8 (q.toNat : Int), v6, .ptr bq 97517570 0, v8, v9, v10, v11, v12], ⟨((r, .row v (acc.map bv)) :: (bq, .cells [.ptr bq 97517570 0, .ref r v 1 0 acc.length]) :: h.ents), n, ty⟩, []⟩ (fun x st' => thenW tree.getF textRest (endW c36 h.next K) (zAl 0 x) st') := by
 intro m
 induction m with
 | zero =>
  intro t acc i k v n ty v3 v4 v6 v8 v9 v10 v11 v12 hm hd hlen hne hal hrn hut2 hty hia hk1 hk2
  have hg := S.g
  have hf := S.f
  have hp := S.lt
  have hql := q.toNat_lt
  have hll : s.length < 4611686018427387904 := by omega
  have hil : i + t.length = s.length := hlen
  have hEb : ∀ x, zA2 (zA0 h.ents p x) bq = none := fun x => getEnt_under hf.1.set hb
  obtain ⟨hu, hut, hX⟩ := fx4 hf
  have hY := fx5 hf hg
  have hTr : lookupN ty r = some 5 := hty
  have hcut : (acc.map bv).take acc.length = acc.map bv := List.take_of_length_le (by simp)
  have hbv := byteVals_map acc
  have hap : 0 < acc.length := by cases acc with | nil => exact absurd rfl hne | cons => simp
  obtain rfl : t = [] := List.length_eq_zero_iff.1 (by omega)
  simp only [List.length_nil, Nat.add_zero] at hil
  have herr : textF q [] acc k = none ∨ ∃ txt kk, textF q [] acc k = some (txt, kk) ∧ valid txt = false := .inl rfl
  refine W.loop ?_
  exact wUN1
 | succ m ih =>
  intro t acc i k v n ty v3 v4 v6 v8 v9 v10 v11 v12 hm hd hlen hne hal hrn hut2 hty hia hk1 hk2
  have hg := S.g
  have hf := S.f
  have hp := S.lt
  have hql := q.toNat_lt
  have hll : s.length < 4611686018427387904 := by omega
  have hil : i + t.length = s.length := hlen
  have hEb : ∀ x, zA2 (zA0 h.ents p x) bq = none := fun x => getEnt_under hf.1.set hb
  obtain ⟨hu, hut, hX⟩ := fx4 hf
  have hY := fx5 hf hg
  have hTr : lookupN ty r = some 5 := hty
  have hcut : (acc.map bv).take acc.length = acc.map bv := List.take_of_length_le (by simp)
  have hbv := byteVals_map acc
  have hap : 0 < acc.length := by cases acc with | nil => exact absurd rfl hne | cons => simp
  cases t with
  | nil =>
   simp only [List.length_nil, Nat.add_zero] at hil
   have herr : textF q [] acc k = none ∨ ∃ txt kk, textF q [] acc k = some (txt, kk) ∧ valid txt = false := .inl rfl
   refine W.loop ?_
   exact wUN1
  | cons c t1 =>
   obtain ⟨hlt, hget, hd1⟩ := get_of_dropG hd
   have hge : s[i] = c := by rw [List.getElem?_eq_getElem hlt] at hget; exact Option.some.inj hget
   have hacc1 : (acc ++ [c]).map bv = acc.map bv ++ [bv c] := by simp
   simp only [List.length_cons] at hlen hm
   have hcl := c.toNat_lt
   by_cases hq : c = q
   · subst hq
     have htx : textF c (c :: t1) acc k = some (acc, k + 1) := by unfold textF; rw [if_pos rfl]
     have hps : ((a + (k + 1 + 1) : Nat) : Int) = (i : Int) + 1 := by omega
     cases hvt : valid acc with
     | true =>
      replace hk1 := hk1 _ _ htx hvt
      rw [hps] at hk1
      rcases S.l with ⟨rfl, rfl⟩ | ⟨i2, v2', rfl, ht, hip, hi0, hin⟩
      ·
       refine W.loop ?_
       repeat (first | refine sq_ ?_ | refine bl_ ?_ | ((first | refine rg_ ?_ | refine go_ ?_); generalize e : goR _ _ _ _ _ _ _ _ = r; simp (disch := omega) [hX, hg, hY, hql, hEb, hTr, hcut, hbv, hal, hll, hge, hget, hvt, c33, c52, c36] at e; replace e : some _ = _ := e; subst e; (try dsimp only [goW])) | refine ct_ rfl ?_ | refine cf_ rfl ?_ | refine sk_ ?_ | refine ex_ ?_ | (refine hV (acc) (by (try simp) <;> omega) _ ?_ _ fun n7 hn7 => ⟨rfl, ?_⟩; exact fit_; (try dsimp only at hn7)) | (refine Wc.mkG 33 c33 (by kernel_rfl) rfl ?_; generalize e : zAa _ _ _ = r; simp (disch := omega) [hX, hg, hY, hql, hEb, hTr, hcut, hbv, hal, hll, hge, hget, hvt, c33, c52, c36] at e; subst e) | (refine Wc.mkG 52 c52 (by kernel_rfl) rfl ?_; generalize e : zAa _ _ _ = r; simp (disch := omega) [hX, hg, hY, hql, hEb, hTr, hcut, hbv, hal, hll, hge, hget, hvt, c33, c52, c36] at e; subst e) | (refine Wc.primM (f := 51) (p := (zAq 5)) (by kernel_rfl) ?_; generalize e : (zAq 5) _ _ = r; simp (disch := omega) [hX, hg, hY, hql, hEb, hTr, hcut, hbv, hal, hll, hge, hget, hvt, c33, c52, c36] at e; subst e; (try dsimp only); refine ⟨rfl, ?_⟩) | (refine Wc.primM (f := 70) (p := (zAk [(97517570, 0)])) (by kernel_rfl) ?_; generalize e : (zAk [(97517570, 0)]) _ _ = r; simp (disch := omega) [hX, hg, hY, hql, hEb, hTr, hcut, hbv, hal, hll, hge, hget, hvt, c33, c52, c36] at e; subst e; (try dsimp only); refine ⟨rfl, ?_⟩) | ((first | (refine W.ret ?_; (try simp only [zAl, zA3, zAf]); refine endW.of (.inl rfl) rfl ?_) | refine endW.of (.inr rfl) rfl ?_); generalize e : zAo _ _ _ = r; simp (disch := omega) [hX, hg, hY, hql, hEb, hTr, hcut, hbv, hal, hll, hge, hget, hvt, c33, c52, c36] at e; subst e; (try dsimp only [goW]); (first | refine ⟨rfl, ?_⟩ | (refine hk1 _ _ (S.app0c ?_ ?_ ?_ ?_) ?_; (try dsimp only); omega; (try dsimp only); omega; (try dsimp only); omega; exact ut_; (try dsimp only); omega))))
      ·
       have htP : ∀ x, zA2 (zA0 h.ents p x) i2 = some (.tok v2') := fun x => (zA1 hip).trans ht
       have hPt : ∀ x y, zA2 (zA0 (zA0 h.ents i2 x) p y) p = some y := fun x y => zA7 ((zA1 (Ne.symm hip)).trans hg)
       have hTT : ∀ x y, zA2 (zA0 (zA0 h.ents i2 x) p y) i2 = some x := fun x y => (zA1 hip).trans (zA7 ht)
       have hiP : ∀ x, zA2 (zA0 h.ents i2 x) p = _ := fun x => (zA1 (Ne.symm hip)).trans hg
       have hcomm : ∀ x y, zA0 (zA0 h.ents p y) i2 x = zA0 (zA0 h.ents i2 x) p y := fun x y => zAw (Ne.symm hip)
       have hC3 : ∀ x y m, h.next ≤ m → zAc (zA0 (zA0 h.ents i2 x) p y) m = zA0 (zA0 h.ents i2 x) p y := fun x y m hm => zAh (hu.set.set.le hm)
       have hD3 : ∀ x y m, h.next ≤ m → zAx (zA0 (zA0 h.ents i2 x) p y) m = zA0 (zA0 h.ents i2 x) p y := fun x y m hm => zAr (hu.set.set.le hm)
       refine W.loop ?_
       repeat (first | refine sq_ ?_ | refine bl_ ?_ | ((first | refine rg_ ?_ | refine go_ ?_); generalize e : goR _ _ _ _ _ _ _ _ = r; simp (disch := omega) [hX, hg, hY, hql, hEb, hTr, hcut, hbv, hal, hll, ht, htP, hPt, hTT, hiP, hcomm, hC3, hD3, hts, zAd, hge, hget, hvt, c33, c52, c36] at e; replace e : some _ = _ := e; subst e; (try dsimp only [goW])) | refine ct_ rfl ?_ | refine cf_ rfl ?_ | refine sk_ ?_ | refine ex_ ?_ | (refine hV (acc) (by (try simp) <;> omega) _ ?_ _ fun n7 hn7 => ⟨rfl, ?_⟩; exact fit_; (try dsimp only at hn7)) | (refine Wc.mkG 33 c33 (by kernel_rfl) rfl ?_; generalize e : zAa _ _ _ = r; simp (disch := omega) [hX, hg, hY, hql, hEb, hTr, hcut, hbv, hal, hll, ht, htP, hPt, hTT, hiP, hcomm, hC3, hD3, hts, zAd, hge, hget, hvt, c33, c52, c36] at e; subst e) | (refine Wc.mkG 52 c52 (by kernel_rfl) rfl ?_; generalize e : zAa _ _ _ = r; simp (disch := omega) [hX, hg, hY, hql, hEb, hTr, hcut, hbv, hal, hll, ht, htP, hPt, hTT, hiP, hcomm, hC3, hD3, hts, zAd, hge, hget, hvt, c33, c52, c36] at e; subst e) | (refine Wc.primM (f := 51) (p := (zAq 5)) (by kernel_rfl) ?_; generalize e : (zAq 5) _ _ = r; simp (disch := omega) [hX, hg, hY, hql, hEb, hTr, hcut, hbv, hal, hll, ht, htP, hPt, hTT, hiP, hcomm, hC3, hD3, hts, zAd, hge, hget, hvt, c33, c52, c36] at e; subst e; (try dsimp only); refine ⟨rfl, ?_⟩) | (refine Wc.primM (f := 70) (p := (zAk [(97517570, 0)])) (by kernel_rfl) ?_; generalize e : (zAk [(97517570, 0)]) _ _ = r; simp (disch := omega) [hX, hg, hY, hql, hEb, hTr, hcut, hbv, hal, hll, ht, htP, hPt, hTT, hiP, hcomm, hC3, hD3, hts, zAd, hge, hget, hvt, c33, c52, c36] at e; subst e; (try dsimp only); refine ⟨rfl, ?_⟩) | ((first | (refine W.ret ?_; (try simp only [zAl, zA3, zAf]); refine endW.of (.inl rfl) rfl ?_) | refine endW.of (.inr rfl) rfl ?_); generalize e : zAo _ _ _ = r; simp (disch := omega) [hX, hg, hY, hql, hEb, hTr, hcut, hbv, hal, hll, ht, htP, hPt, hTT, hiP, hcomm, hC3, hD3, hts, zAd, hge, hget, hvt, c33, c52, c36] at e; subst e; (try dsimp only [goW]); (first | refine ⟨rfl, ?_⟩ | (refine hk1 _ _ (S.app1c ht hip hi0 hin ?_ ?_ ?_) ?_; (try dsimp only); omega; (try dsimp only); omega; exact ut_; (try dsimp only); omega))))
     | false =>
      have herr : textF c (c :: t1) acc k = none ∨ ∃ txt kk, textF c (c :: t1) acc k = some (txt, kk) ∧ valid txt = false := .inr ⟨_, _, htx, hvt⟩
      rcases S.l with ⟨rfl, rfl⟩ | ⟨i2, v2', rfl, ht, hip, hi0, hin⟩
      ·
       refine W.loop ?_
       repeat (first | refine sq_ ?_ | refine bl_ ?_ | ((first | refine rg_ ?_ | refine go_ ?_); generalize e : goR _ _ _ _ _ _ _ _ = r; simp (disch := omega) [hX, hg, hY, hql, hEb, hTr, hcut, hbv, hal, hll, hge, hget, hvt, c33, c52, c36] at e; replace e : some _ = _ := e; subst e; (try dsimp only [goW])) | refine ct_ rfl ?_ | refine cf_ rfl ?_ | refine sk_ ?_ | refine ex_ ?_ | (refine hV (acc) (by (try simp) <;> omega) _ ?_ _ fun n7 hn7 => ⟨rfl, ?_⟩; exact fit_; (try dsimp only at hn7)) | (refine Wc.mkG 33 c33 (by kernel_rfl) rfl ?_; generalize e : zAa _ _ _ = r; simp (disch := omega) [hX, hg, hY, hql, hEb, hTr, hcut, hbv, hal, hll, hge, hget, hvt, c33, c52, c36] at e; subst e) | (refine Wc.mkG 52 c52 (by kernel_rfl) rfl ?_; generalize e : zAa _ _ _ = r; simp (disch := omega) [hX, hg, hY, hql, hEb, hTr, hcut, hbv, hal, hll, hge, hget, hvt, c33, c52, c36] at e; subst e) | (refine Wc.primM (f := 51) (p := (zAq 5)) (by kernel_rfl) ?_; generalize e : (zAq 5) _ _ = r; simp (disch := omega) [hX, hg, hY, hql, hEb, hTr, hcut, hbv, hal, hll, hge, hget, hvt, c33, c52, c36] at e; subst e; (try dsimp only); refine ⟨rfl, ?_⟩) | (refine Wc.primM (f := 70) (p := (zAk [(97517570, 0)])) (by kernel_rfl) ?_; generalize e : (zAk [(97517570, 0)]) _ _ = r; simp (disch := omega) [hX, hg, hY, hql, hEb, hTr, hcut, hbv, hal, hll, hge, hget, hvt, c33, c52, c36] at e; subst e; (try dsimp only); refine ⟨rfl, ?_⟩) | ((first | (refine W.ret ?_; (try simp only [zAl, zA3, zAf]); refine endW.of (.inl rfl) rfl ?_) | refine endW.of (.inr rfl) rfl ?_); generalize e : zAo _ _ _ = r; simp (disch := omega) [hX, hg, hY, hql, hEb, hTr, hcut, hbv, hal, hll, hge, hget, hvt, c33, c52, c36] at e; subst e; (try dsimp only [goW]); (first | refine ⟨rfl, ?_⟩ | (refine hk2 herr _ _ _ _ (S.app0c ?_ ?_ ?_ ?_) ?_; (try dsimp only); omega; (try dsimp only); omega; (try dsimp only); omega; exact ut_; (try dsimp only); omega))))
      ·
       have htP : ∀ x, zA2 (zA0 h.ents p x) i2 = some (.tok v2') := fun x => (zA1 hip).trans ht
       have hPt : ∀ x y, zA2 (zA0 (zA0 h.ents i2 x) p y) p = some y := fun x y => zA7 ((zA1 (Ne.symm hip)).trans hg)
       have hTT : ∀ x y, zA2 (zA0 (zA0 h.ents i2 x) p y) i2 = some x := fun x y => (zA1 hip).trans (zA7 ht)
       have hiP : ∀ x, zA2 (zA0 h.ents i2 x) p = _ := fun x => (zA1 (Ne.symm hip)).trans hg
       have hcomm : ∀ x y, zA0 (zA0 h.ents p y) i2 x = zA0 (zA0 h.ents i2 x) p y := fun x y => zAw (Ne.symm hip)
       have hC3 : ∀ x y m, h.next ≤ m → zAc (zA0 (zA0 h.ents i2 x) p y) m = zA0 (zA0 h.ents i2 x) p y := fun x y m hm => zAh (hu.set.set.le hm)
       have hD3 : ∀ x y m, h.next ≤ m → zAx (zA0 (zA0 h.ents i2 x) p y) m = zA0 (zA0 h.ents i2 x) p y := fun x y m hm => zAr (hu.set.set.le hm)
       refine W.loop ?_
       repeat (first | refine sq_ ?_ | refine bl_ ?_ | ((first | refine rg_ ?_ | refine go_ ?_); generalize e : goR _ _ _ _ _ _ _ _ = r; simp (disch := omega) [hX, hg, hY, hql, hEb, hTr, hcut, hbv, hal, hll, ht, htP, hPt, hTT, hiP, hcomm, hC3, hD3, hts, zAd, hge, hget, hvt, c33, c52, c36] at e; replace e : some _ = _ := e; subst e; (try dsimp only [goW])) | refine ct_ rfl ?_ | refine cf_ rfl ?_ | refine sk_ ?_ | refine ex_ ?_ | (refine hV (acc) (by (try simp) <;> omega) _ ?_ _ fun n7 hn7 => ⟨rfl, ?_⟩; exact fit_; (try dsimp only at hn7)) | (refine Wc.mkG 33 c33 (by kernel_rfl) rfl ?_; generalize e : zAa _ _ _ = r; simp (disch := omega) [hX, hg, hY, hql, hEb, hTr, hcut, hbv, hal, hll, ht, htP, hPt, hTT, hiP, hcomm, hC3, hD3, hts, zAd, hge, hget, hvt, c33, c52, c36] at e; subst e) | (refine Wc.mkG 52 c52 (by kernel_rfl) rfl ?_; generalize e : zAa _ _ _ = r; simp (disch := omega) [hX, hg, hY, hql, hEb, hTr, hcut, hbv, hal, hll, ht, htP, hPt, hTT, hiP, hcomm, hC3, hD3, hts, zAd, hge, hget, hvt, c33, c52, c36] at e; subst e) | (refine Wc.primM (f := 51) (p := (zAq 5)) (by kernel_rfl) ?_; generalize e : (zAq 5) _ _ = r; simp (disch := omega) [hX, hg, hY, hql, hEb, hTr, hcut, hbv, hal, hll, ht, htP, hPt, hTT, hiP, hcomm, hC3, hD3, hts, zAd, hge, hget, hvt, c33, c52, c36] at e; subst e; (try dsimp only); refine ⟨rfl, ?_⟩) | (refine Wc.primM (f := 70) (p := (zAk [(97517570, 0)])) (by kernel_rfl) ?_; generalize e : (zAk [(97517570, 0)]) _ _ = r; simp (disch := omega) [hX, hg, hY, hql, hEb, hTr, hcut, hbv, hal, hll, ht, htP, hPt, hTT, hiP, hcomm, hC3, hD3, hts, zAd, hge, hget, hvt, c33, c52, c36] at e; subst e; (try dsimp only); refine ⟨rfl, ?_⟩) | ((first | (refine W.ret ?_; (try simp only [zAl, zA3, zAf]); refine endW.of (.inl rfl) rfl ?_) | refine endW.of (.inr rfl) rfl ?_); generalize e : zAo _ _ _ = r; simp (disch := omega) [hX, hg, hY, hql, hEb, hTr, hcut, hbv, hal, hll, ht, htP, hPt, hTT, hiP, hcomm, hC3, hD3, hts, zAd, hge, hget, hvt, c33, c52, c36] at e; subst e; (try dsimp only [goW]); (first | refine ⟨rfl, ?_⟩ | (refine hk2 herr _ _ _ _ (S.app1c ht hip hi0 hin ?_ ?_ ?_) ?_; (try dsimp only); omega; (try dsimp only); omega; exact ut_; (try dsimp only); omega))))
   · have hqn : ¬ ((c.toNat : Int) = (q.toNat : Int)) := fun e => hq (UInt8.toNat_inj.1 (by omega))
     by_cases h10 : c = 10
     · have hc10 : (c.toNat : Int) = 10 := by rw [h10]; rfl
       have hqn2 : ¬ ((10 : Int) = (q.toNat : Int)) := by omega
       have herr : textF q (c :: t1) acc k = none ∨ ∃ txt kk, textF q (c :: t1) acc k = some (txt, kk) ∧ valid txt = false := .inl (by unfold textF; rw [if_neg hq, if_pos h10])
       refine W.loop ?_
       repeat (first | refine sq_ ?_ | refine bl_ ?_ | ((first | refine rg_ ?_ | refine go_ ?_); generalize e : goR _ _ _ _ _ _ _ _ = r; simp (disch := omega) [hX, hg, hY, hql, hEb, hTr, hcut, hbv, hal, hll, hge, hget, hc10, hqn, hqn2, c33, c52, c36] at e; replace e : some _ = _ := e; subst e; (try dsimp only [goW])) | refine ct_ rfl ?_ | refine cf_ rfl ?_ | refine sk_ ?_ | refine ex_ ?_ | (refine Wc.mkG 33 c33 (by kernel_rfl) rfl ?_; generalize e : zAa _ _ _ = r; simp (disch := omega) [hX, hg, hY, hql, hEb, hTr, hcut, hbv, hal, hll, hge, hget, hc10, hqn, hqn2, c33, c52, c36] at e; subst e) | (refine Wc.mkG 52 c52 (by kernel_rfl) rfl ?_; generalize e : zAa _ _ _ = r; simp (disch := omega) [hX, hg, hY, hql, hEb, hTr, hcut, hbv, hal, hll, hge, hget, hc10, hqn, hqn2, c33, c52, c36] at e; subst e) | (refine Wc.primM (f := 51) (p := (zAq 5)) (by kernel_rfl) ?_; generalize e : (zAq 5) _ _ = r; simp (disch := omega) [hX, hg, hY, hql, hEb, hTr, hcut, hbv, hal, hll, hge, hget, hc10, hqn, hqn2, c33, c52, c36] at e; subst e; (try dsimp only); refine ⟨rfl, ?_⟩) | (refine Wc.primM (f := 70) (p := (zAk [(97517570, 0)])) (by kernel_rfl) ?_; generalize e : (zAk [(97517570, 0)]) _ _ = r; simp (disch := omega) [hX, hg, hY, hql, hEb, hTr, hcut, hbv, hal, hll, hge, hget, hc10, hqn, hqn2, c33, c52, c36] at e; subst e; (try dsimp only); refine ⟨rfl, ?_⟩) | ((first | (refine W.ret ?_; (try simp only [zAl, zA3, zAf]); refine endW.of (.inl rfl) rfl ?_) | refine endW.of (.inr rfl) rfl ?_); generalize e : zAo _ _ _ = r; simp (disch := omega) [hX, hg, hY, hql, hEb, hTr, hcut, hbv, hal, hll, hge, hget, hc10, hqn, hqn2, c33, c52, c36] at e; subst e; (try dsimp only [goW]); (first | refine ⟨rfl, ?_⟩ | (refine hk2 ?_ _ _ _ _ (S.updc ?_ ?_ ?_) ?_; (focus ((exact herr); done)); (try dsimp only); omega; (try dsimp only); omega; exact ut_; (try dsimp only); omega))))
     · have hn10 : ¬ ((c.toNat : Int) = 10) := fun e => h10 (UInt8.toNat_inj.1 (by
           have h9 : c.toNat = 10 := by omega
           rw [h9]; rfl))
       by_cases h92 : c = 92
       · have hc92 : (c.toNat : Int) = 92 := by rw [h92]; rfl
         have hqn2 : ¬ ((92 : Int) = (q.toNat : Int)) := by omega
         cases t1 with
         | nil =>
          have herr : textF q [c] acc k = none ∨ ∃ txt kk, textF q [c] acc k = some (txt, kk) ∧ valid txt = false := .inl (by unfold textF; rw [if_neg hq, if_neg h10, if_pos h92])
          have hil2 : s.length = i + 1 := by simpa using hlen.symm
          refine W.loop ?_
          repeat (first | refine sq_ ?_ | refine bl_ ?_ | ((first | refine rg_ ?_ | refine go_ ?_); generalize e : goR _ _ _ _ _ _ _ _ = r; simp (disch := omega) [hX, hg, hY, hql, hEb, hTr, hcut, hbv, hal, hll, hge, hget, hc92, hqn, hqn2, hil2, c33, c52, c36] at e; replace e : some _ = _ := e; subst e; (try dsimp only [goW])) | refine ct_ rfl ?_ | refine cf_ rfl ?_ | refine sk_ ?_ | refine ex_ ?_ | (refine Wc.mkG 33 c33 (by kernel_rfl) rfl ?_; generalize e : zAa _ _ _ = r; simp (disch := omega) [hX, hg, hY, hql, hEb, hTr, hcut, hbv, hal, hll, hge, hget, hc92, hqn, hqn2, hil2, c33, c52, c36] at e; subst e) | (refine Wc.mkG 52 c52 (by kernel_rfl) rfl ?_; generalize e : zAa _ _ _ = r; simp (disch := omega) [hX, hg, hY, hql, hEb, hTr, hcut, hbv, hal, hll, hge, hget, hc92, hqn, hqn2, hil2, c33, c52, c36] at e; subst e) | (refine Wc.primM (f := 51) (p := (zAq 5)) (by kernel_rfl) ?_; generalize e : (zAq 5) _ _ = r; simp (disch := omega) [hX, hg, hY, hql, hEb, hTr, hcut, hbv, hal, hll, hge, hget, hc92, hqn, hqn2, hil2, c33, c52, c36] at e; subst e; (try dsimp only); refine ⟨rfl, ?_⟩) | (refine Wc.primM (f := 70) (p := (zAk [(97517570, 0)])) (by kernel_rfl) ?_; generalize e : (zAk [(97517570, 0)]) _ _ = r; simp (disch := omega) [hX, hg, hY, hql, hEb, hTr, hcut, hbv, hal, hll, hge, hget, hc92, hqn, hqn2, hil2, c33, c52, c36] at e; subst e; (try dsimp only); refine ⟨rfl, ?_⟩) | ((first | (refine W.ret ?_; (try simp only [zAl, zA3, zAf]); refine endW.of (.inl rfl) rfl ?_) | refine endW.of (.inr rfl) rfl ?_); generalize e : zAo _ _ _ = r; simp (disch := omega) [hX, hg, hY, hql, hEb, hTr, hcut, hbv, hal, hll, hge, hget, hc92, hqn, hqn2, hil2, c33, c52, c36] at e; subst e; (try dsimp only [goW]); (first | refine ⟨rfl, ?_⟩ | (refine hk2 ?_ _ _ _ _ (S.updc ?_ ?_ ?_) ?_; (focus ((exact herr); done)); (try dsimp only); omega; (try dsimp only); omega; exact ut_; (try dsimp only); omega))))
         | cons x u =>
          obtain ⟨hlt2, hget2, hd2⟩ := get_of_dropG hd1
          have hge2 : s[i + 1] = x := by rw [List.getElem?_eq_getElem hlt2] at hget2; exact Option.some.inj hget2
          simp only [List.length_cons] at hlen hm
          have I0 := indexb_G [92, 34, 39, 110] x (by decide)
          have hto1 : ((i : Int) + 1).toNat = i + 1 := by omega
          cases hme : meantF x with
          | none =>
           rw [esc_no x hme] at I0
           have herr : textF q (c :: x :: u) acc k = none ∨ ∃ txt kk, textF q (c :: x :: u) acc k = some (txt, kk) ∧ valid txt = false := .inl (by unfold textF; rw [if_neg hq, if_neg h10, if_pos h92]; dsimp only; rw [hme])
           refine W.loop ?_
           repeat (first | refine sq_ ?_ | refine bl_ ?_ | ((first | refine rg_ ?_ | refine go_ ?_); generalize e : goR _ _ _ _ _ _ _ _ = r; simp (disch := omega) [hX, hg, hY, hql, hEb, hTr, hcut, hbv, hal, hll, hge, hge2, hget, hget2, hto1, hc92, hqn, hqn2, c33, c52, c36] at e; replace e : some _ = _ := e; subst e; (try dsimp only [goW])) | refine ct_ rfl ?_ | refine cf_ rfl ?_ | refine sk_ ?_ | refine ex_ ?_ | (refine I0 _ ?_ _ fun n5 hn5 => ⟨rfl, ?_⟩; exact fit_; (try dsimp only at hn5)) | (refine Wc.mkG 33 c33 (by kernel_rfl) rfl ?_; generalize e : zAa _ _ _ = r; simp (disch := omega) [hX, hg, hY, hql, hEb, hTr, hcut, hbv, hal, hll, hge, hge2, hget, hget2, hto1, hc92, hqn, hqn2, c33, c52, c36] at e; subst e) | (refine Wc.mkG 52 c52 (by kernel_rfl) rfl ?_; generalize e : zAa _ _ _ = r; simp (disch := omega) [hX, hg, hY, hql, hEb, hTr, hcut, hbv, hal, hll, hge, hge2, hget, hget2, hto1, hc92, hqn, hqn2, c33, c52, c36] at e; subst e) | (refine Wc.primM (f := 51) (p := (zAq 5)) (by kernel_rfl) ?_; generalize e : (zAq 5) _ _ = r; simp (disch := omega) [hX, hg, hY, hql, hEb, hTr, hcut, hbv, hal, hll, hge, hge2, hget, hget2, hto1, hc92, hqn, hqn2, c33, c52, c36] at e; subst e; (try dsimp only); refine ⟨rfl, ?_⟩) | (refine Wc.primM (f := 70) (p := (zAk [(97517570, 0)])) (by kernel_rfl) ?_; generalize e : (zAk [(97517570, 0)]) _ _ = r; simp (disch := omega) [hX, hg, hY, hql, hEb, hTr, hcut, hbv, hal, hll, hge, hge2, hget, hget2, hto1, hc92, hqn, hqn2, c33, c52, c36] at e; subst e; (try dsimp only); refine ⟨rfl, ?_⟩) | ((first | (refine W.ret ?_; (try simp only [zAl, zA3, zAf]); refine endW.of (.inl rfl) rfl ?_) | refine endW.of (.inr rfl) rfl ?_); generalize e : zAo _ _ _ = r; simp (disch := omega) [hX, hg, hY, hql, hEb, hTr, hcut, hbv, hal, hll, hge, hge2, hget, hget2, hto1, hc92, hqn, hqn2, c33, c52, c36] at e; subst e; (try dsimp only [goW]); (first | refine ⟨rfl, ?_⟩ | (refine hk2 ?_ _ _ _ _ (S.updc ?_ ?_ ?_) ?_; (focus ((exact herr); done)); (try dsimp only); omega; (try dsimp only); omega; exact ut_; (try dsimp only); omega))))
          | some m =>
           have htx2 : textF q (c :: x :: u) acc k = textF q u (acc ++ [m]) (k + 2) := by
            conv => lhs; unfold textF
            rw [if_neg hq, if_neg h10, if_pos h92]
            dsimp only
            rw [hme]
           rw [htx2] at hk1 hk2
           have hxm : (x = 92 ∧ m = 92) ∨ (x = 34 ∧ m = 34) ∨ (x = 39 ∧ m = 39) ∨ (x = 110 ∧ m = 10) := by
            unfold meantF at hme
            split at hme
            · cases hme; exact .inl ⟨by assumption, rfl⟩
            · split at hme
              · cases hme; exact .inr (.inl ⟨by assumption, rfl⟩)
              · split at hme
                · cases hme; exact .inr (.inr (.inl ⟨by assumption, rfl⟩))
                · split at hme
                  · cases hme; exact .inr (.inr (.inr ⟨by assumption, rfl⟩))
                  · cases hme
           rcases hxm with ⟨hx, rfl⟩ | ⟨hx, rfl⟩ | ⟨hx, rfl⟩ | ⟨hx, rfl⟩
           · rw [show idxFrom x [92, 34, 39, 110] 0 = 0 by rw [hx]; rfl] at I0
             refine W.loop ?_
             repeat (first | refine sq_ ?_ | refine bl_ ?_ | ((first | refine rg_ ?_ | refine go_ ?_); generalize e : goR _ _ _ _ _ _ _ _ = r; simp (disch := omega) [hX, hg, hY, hql, hEb, hTr, hcut, hbv, hal, hll, hge, hge2, hget, hget2, hto1, hc92, hqn, hqn2, c33, c52, c36] at e; replace e : some _ = _ := e; subst e; (try dsimp only [goW])) | refine ct_ rfl ?_ | refine cf_ rfl ?_ | refine sk_ ?_ | refine ex_ ?_ | (refine I0 _ ?_ _ fun n5 hn5 => ⟨rfl, ?_⟩; exact fit_; (try dsimp only at hn5)) | (refine Wc.mkG 33 c33 (by kernel_rfl) rfl ?_; generalize e : zAa _ _ _ = r; simp (disch := omega) [hX, hg, hY, hql, hEb, hTr, hcut, hbv, hal, hll, hge, hge2, hget, hget2, hto1, hc92, hqn, hqn2, c33, c52, c36] at e; subst e) | (refine Wc.mkG 52 c52 (by kernel_rfl) rfl ?_; generalize e : zAa _ _ _ = r; simp (disch := omega) [hX, hg, hY, hql, hEb, hTr, hcut, hbv, hal, hll, hge, hge2, hget, hget2, hto1, hc92, hqn, hqn2, c33, c52, c36] at e; subst e) | (refine Wc.primM (f := 51) (p := (zAq 5)) (by kernel_rfl) ?_; generalize e : (zAq 5) _ _ = r; simp (disch := omega) [hX, hg, hY, hql, hEb, hTr, hcut, hbv, hal, hll, hge, hge2, hget, hget2, hto1, hc92, hqn, hqn2, c33, c52, c36] at e; subst e; (try dsimp only); refine ⟨rfl, ?_⟩) | (refine Wc.primM (f := 70) (p := (zAk [(97517570, 0)])) (by kernel_rfl) ?_; generalize e : (zAk [(97517570, 0)]) _ _ = r; simp (disch := omega) [hX, hg, hY, hql, hEb, hTr, hcut, hbv, hal, hll, hge, hge2, hget, hget2, hto1, hc92, hqn, hqn2, c33, c52, c36] at e; subst e; (try dsimp only); refine ⟨rfl, ?_⟩) | ((first | (refine W.ret ?_; (try simp only [zAl, zA3, zAf]); refine endW.of (.inl rfl) rfl ?_) | refine endW.of (.inr rfl) rfl ?_); generalize e : zAo _ _ _ = r; simp (disch := omega) [hX, hg, hY, hql, hEb, hTr, hcut, hbv, hal, hll, hge, hge2, hget, hget2, hto1, hc92, hqn, hqn2, c33, c52, c36] at e; subst e; (try dsimp only [goW]); refine ⟨rfl, ?_⟩))
             show W tree.getF textLoop (dropped true _ _) _
             generalize e : dropped _ _ _ = r9
             simp (disch := omega) [hX, hg, hY, hql, hEb, hTr, hcut, hbv, hal, hll] at e
             subst e
             rw [show acc.map bv ++ [CVal.int .u8 92] = (acc ++ [(92 : UInt8)]).map bv by rw [List.map_append]; rfl, show acc.length + 1 = (acc ++ [(92 : UInt8)]).length by simp]
             refine ih u (acc ++ [(92 : UInt8)]) (i + 2) (k + 2) (v + 1) _ _ _ _ _ _ _ _ _ _ (by omega) (by simpa using hd2) (by omega) (by simp) (by simp; omega) ?_ ?_ ?_ (by omega) hk1 hk2
             · ((try dsimp only); omega)
             · exact ut_
             · exact hty
           · rw [show idxFrom x [92, 34, 39, 110] 0 = 1 by rw [hx]; rfl] at I0
             refine W.loop ?_
             repeat (first | refine sq_ ?_ | refine bl_ ?_ | ((first | refine rg_ ?_ | refine go_ ?_); generalize e : goR _ _ _ _ _ _ _ _ = r; simp (disch := omega) [hX, hg, hY, hql, hEb, hTr, hcut, hbv, hal, hll, hge, hge2, hget, hget2, hto1, hc92, hqn, hqn2, c33, c52, c36] at e; replace e : some _ = _ := e; subst e; (try dsimp only [goW])) | refine ct_ rfl ?_ | refine cf_ rfl ?_ | refine sk_ ?_ | refine ex_ ?_ | (refine I0 _ ?_ _ fun n5 hn5 => ⟨rfl, ?_⟩; exact fit_; (try dsimp only at hn5)) | (refine Wc.mkG 33 c33 (by kernel_rfl) rfl ?_; generalize e : zAa _ _ _ = r; simp (disch := omega) [hX, hg, hY, hql, hEb, hTr, hcut, hbv, hal, hll, hge, hge2, hget, hget2, hto1, hc92, hqn, hqn2, c33, c52, c36] at e; subst e) | (refine Wc.mkG 52 c52 (by kernel_rfl) rfl ?_; generalize e : zAa _ _ _ = r; simp (disch := omega) [hX, hg, hY, hql, hEb, hTr, hcut, hbv, hal, hll, hge, hge2, hget, hget2, hto1, hc92, hqn, hqn2, c33, c52, c36] at e; subst e) | (refine Wc.primM (f := 51) (p := (zAq 5)) (by kernel_rfl) ?_; generalize e : (zAq 5) _ _ = r; simp (disch := omega) [hX, hg, hY, hql, hEb, hTr, hcut, hbv, hal, hll, hge, hge2, hget, hget2, hto1, hc92, hqn, hqn2, c33, c52, c36] at e; subst e; (try dsimp only); refine ⟨rfl, ?_⟩) | (refine Wc.primM (f := 70) (p := (zAk [(97517570, 0)])) (by kernel_rfl) ?_; generalize e : (zAk [(97517570, 0)]) _ _ = r; simp (disch := omega) [hX, hg, hY, hql, hEb, hTr, hcut, hbv, hal, hll, hge, hge2, hget, hget2, hto1, hc92, hqn, hqn2, c33, c52, c36] at e; subst e; (try dsimp only); refine ⟨rfl, ?_⟩) | ((first | (refine W.ret ?_; (try simp only [zAl, zA3, zAf]); refine endW.of (.inl rfl) rfl ?_) | refine endW.of (.inr rfl) rfl ?_); generalize e : zAo _ _ _ = r; simp (disch := omega) [hX, hg, hY, hql, hEb, hTr, hcut, hbv, hal, hll, hge, hge2, hget, hget2, hto1, hc92, hqn, hqn2, c33, c52, c36] at e; subst e; (try dsimp only [goW]); refine ⟨rfl, ?_⟩))
             show W tree.getF textLoop (dropped true _ _) _
             generalize e : dropped _ _ _ = r9
             simp (disch := omega) [hX, hg, hY, hql, hEb, hTr, hcut, hbv, hal, hll] at e
             subst e
             rw [show acc.map bv ++ [CVal.int .u8 34] = (acc ++ [(34 : UInt8)]).map bv by rw [List.map_append]; rfl, show acc.length + 1 = (acc ++ [(34 : UInt8)]).length by simp]
             refine ih u (acc ++ [(34 : UInt8)]) (i + 2) (k + 2) (v + 1) _ _ _ _ _ _ _ _ _ _ (by omega) (by simpa using hd2) (by omega) (by simp) (by simp; omega) ?_ ?_ ?_ (by omega) hk1 hk2
             · ((try dsimp only); omega)
             · exact ut_
             · exact hty
           · rw [show idxFrom x [92, 34, 39, 110] 0 = 2 by rw [hx]; rfl] at I0
             refine W.loop ?_
             repeat (first | refine sq_ ?_ | refine bl_ ?_ | ((first | refine rg_ ?_ | refine go_ ?_); generalize e : goR _ _ _ _ _ _ _ _ = r; simp (disch := omega) [hX, hg, hY, hql, hEb, hTr, hcut, hbv, hal, hll, hge, hge2, hget, hget2, hto1, hc92, hqn, hqn2, c33, c52, c36] at e; replace e : some _ = _ := e; subst e; (try dsimp only [goW])) | refine ct_ rfl ?_ | refine cf_ rfl ?_ | refine sk_ ?_ | refine ex_ ?_ | (refine I0 _ ?_ _ fun n5 hn5 => ⟨rfl, ?_⟩; exact fit_; (try dsimp only at hn5)) | (refine Wc.mkG 33 c33 (by kernel_rfl) rfl ?_; generalize e : zAa _ _ _ = r; simp (disch := omega) [hX, hg, hY, hql, hEb, hTr, hcut, hbv, hal, hll, hge, hge2, hget, hget2, hto1, hc92, hqn, hqn2, c33, c52, c36] at e; subst e) | (refine Wc.mkG 52 c52 (by kernel_rfl) rfl ?_; generalize e : zAa _ _ _ = r; simp (disch := omega) [hX, hg, hY, hql, hEb, hTr, hcut, hbv, hal, hll, hge, hge2, hget, hget2, hto1, hc92, hqn, hqn2, c33, c52, c36] at e; subst e) | (refine Wc.primM (f := 51) (p := (zAq 5)) (by kernel_rfl) ?_; generalize e : (zAq 5) _ _ = r; simp (disch := omega) [hX, hg, hY, hql, hEb, hTr, hcut, hbv, hal, hll, hge, hge2, hget, hget2, hto1, hc92, hqn, hqn2, c33, c52, c36] at e; subst e; (try dsimp only); refine ⟨rfl, ?_⟩) | (refine Wc.primM (f := 70) (p := (zAk [(97517570, 0)])) (by kernel_rfl) ?_; generalize e : (zAk [(97517570, 0)]) _ _ = r; simp (disch := omega) [hX, hg, hY, hql, hEb, hTr, hcut, hbv, hal, hll, hge, hge2, hget, hget2, hto1, hc92, hqn, hqn2, c33, c52, c36] at e; subst e; (try dsimp only); refine ⟨rfl, ?_⟩) | ((first | (refine W.ret ?_; (try simp only [zAl, zA3, zAf]); refine endW.of (.inl rfl) rfl ?_) | refine endW.of (.inr rfl) rfl ?_); generalize e : zAo _ _ _ = r; simp (disch := omega) [hX, hg, hY, hql, hEb, hTr, hcut, hbv, hal, hll, hge, hge2, hget, hget2, hto1, hc92, hqn, hqn2, c33, c52, c36] at e; subst e; (try dsimp only [goW]); refine ⟨rfl, ?_⟩))
             show W tree.getF textLoop (dropped true _ _) _
             generalize e : dropped _ _ _ = r9
             simp (disch := omega) [hX, hg, hY, hql, hEb, hTr, hcut, hbv, hal, hll] at e
             subst e
             rw [show acc.map bv ++ [CVal.int .u8 39] = (acc ++ [(39 : UInt8)]).map bv by rw [List.map_append]; rfl, show acc.length + 1 = (acc ++ [(39 : UInt8)]).length by simp]
             refine ih u (acc ++ [(39 : UInt8)]) (i + 2) (k + 2) (v + 1) _ _ _ _ _ _ _ _ _ _ (by omega) (by simpa using hd2) (by omega) (by simp) (by simp; omega) ?_ ?_ ?_ (by omega) hk1 hk2
             · ((try dsimp only); omega)
             · exact ut_
             · exact hty
           · rw [show idxFrom x [92, 34, 39, 110] 0 = 3 by rw [hx]; rfl] at I0
             refine W.loop ?_
             repeat (first | refine sq_ ?_ | refine bl_ ?_ | ((first | refine rg_ ?_ | refine go_ ?_); generalize e : goR _ _ _ _ _ _ _ _ = r; simp (disch := omega) [hX, hg, hY, hql, hEb, hTr, hcut, hbv, hal, hll, hge, hge2, hget, hget2, hto1, hc92, hqn, hqn2, c33, c52, c36] at e; replace e : some _ = _ := e; subst e; (try dsimp only [goW])) | refine ct_ rfl ?_ | refine cf_ rfl ?_ | refine sk_ ?_ | refine ex_ ?_ | (refine I0 _ ?_ _ fun n5 hn5 => ⟨rfl, ?_⟩; exact fit_; (try dsimp only at hn5)) | (refine Wc.mkG 33 c33 (by kernel_rfl) rfl ?_; generalize e : zAa _ _ _ = r; simp (disch := omega) [hX, hg, hY, hql, hEb, hTr, hcut, hbv, hal, hll, hge, hge2, hget, hget2, hto1, hc92, hqn, hqn2, c33, c52, c36] at e; subst e) | (refine Wc.mkG 52 c52 (by kernel_rfl) rfl ?_; generalize e : zAa _ _ _ = r; simp (disch := omega) [hX, hg, hY, hql, hEb, hTr, hcut, hbv, hal, hll, hge, hge2, hget, hget2, hto1, hc92, hqn, hqn2, c33, c52, c36] at e; subst e) | (refine Wc.primM (f := 51) (p := (zAq 5)) (by kernel_rfl) ?_; generalize e : (zAq 5) _ _ = r; simp (disch := omega) [hX, hg, hY, hql, hEb, hTr, hcut, hbv, hal, hll, hge, hge2, hget, hget2, hto1, hc92, hqn, hqn2, c33, c52, c36] at e; subst e; (try dsimp only); refine ⟨rfl, ?_⟩) | (refine Wc.primM (f := 70) (p := (zAk [(97517570, 0)])) (by kernel_rfl) ?_; generalize e : (zAk [(97517570, 0)]) _ _ = r; simp (disch := omega) [hX, hg, hY, hql, hEb, hTr, hcut, hbv, hal, hll, hge, hge2, hget, hget2, hto1, hc92, hqn, hqn2, c33, c52, c36] at e; subst e; (try dsimp only); refine ⟨rfl, ?_⟩) | ((first | (refine W.ret ?_; (try simp only [zAl, zA3, zAf]); refine endW.of (.inl rfl) rfl ?_) | refine endW.of (.inr rfl) rfl ?_); generalize e : zAo _ _ _ = r; simp (disch := omega) [hX, hg, hY, hql, hEb, hTr, hcut, hbv, hal, hll, hge, hge2, hget, hget2, hto1, hc92, hqn, hqn2, c33, c52, c36] at e; subst e; (try dsimp only [goW]); refine ⟨rfl, ?_⟩))
             show W tree.getF textLoop (dropped true _ _) _
             generalize e : dropped _ _ _ = r9
             simp (disch := omega) [hX, hg, hY, hql, hEb, hTr, hcut, hbv, hal, hll] at e
             subst e
             rw [show acc.map bv ++ [CVal.int .u8 10] = (acc ++ [(10 : UInt8)]).map bv by rw [List.map_append]; rfl, show acc.length + 1 = (acc ++ [(10 : UInt8)]).length by simp]
             refine ih u (acc ++ [(10 : UInt8)]) (i + 2) (k + 2) (v + 1) _ _ _ _ _ _ _ _ _ _ (by omega) (by simpa using hd2) (by omega) (by simp) (by simp; omega) ?_ ?_ ?_ (by omega) hk1 hk2
             · ((try dsimp only); omega)
             · exact ut_
             · exact hty
       · have hn92 : ¬ ((c.toNat : Int) = 92) := fun e => h92 (UInt8.toNat_inj.1 (by
          have h9 : c.toNat = 92 := by omega
          rw [h9]; rfl))
         have htx2 : textF q (c :: t1) acc k = textF q t1 (acc ++ [c]) (k + 1) := by
          conv => lhs; unfold textF
          rw [if_neg hq, if_neg h10, if_neg h92]
         rw [htx2] at hk1 hk2
         refine W.loop ?_
         repeat (first | refine sq_ ?_ | refine bl_ ?_ | ((first | refine rg_ ?_ | refine go_ ?_); generalize e : goR _ _ _ _ _ _ _ _ = r; simp (disch := omega) [hX, hg, hY, hql, hEb, hTr, hcut, hbv, hal, hll, hge, hget, hqn, hn10, hn92, c33, c52, c36] at e; replace e : some _ = _ := e; subst e; (try dsimp only [goW])) | refine ct_ rfl ?_ | refine cf_ rfl ?_ | refine sk_ ?_ | refine ex_ ?_ | (refine Wc.mkG 33 c33 (by kernel_rfl) rfl ?_; generalize e : zAa _ _ _ = r; simp (disch := omega) [hX, hg, hY, hql, hEb, hTr, hcut, hbv, hal, hll, hge, hget, hqn, hn10, hn92, c33, c52, c36] at e; subst e) | (refine Wc.mkG 52 c52 (by kernel_rfl) rfl ?_; generalize e : zAa _ _ _ = r; simp (disch := omega) [hX, hg, hY, hql, hEb, hTr, hcut, hbv, hal, hll, hge, hget, hqn, hn10, hn92, c33, c52, c36] at e; subst e) | (refine Wc.primM (f := 51) (p := (zAq 5)) (by kernel_rfl) ?_; generalize e : (zAq 5) _ _ = r; simp (disch := omega) [hX, hg, hY, hql, hEb, hTr, hcut, hbv, hal, hll, hge, hget, hqn, hn10, hn92, c33, c52, c36] at e; subst e; (try dsimp only); refine ⟨rfl, ?_⟩) | (refine Wc.primM (f := 70) (p := (zAk [(97517570, 0)])) (by kernel_rfl) ?_; generalize e : (zAk [(97517570, 0)]) _ _ = r; simp (disch := omega) [hX, hg, hY, hql, hEb, hTr, hcut, hbv, hal, hll, hge, hget, hqn, hn10, hn92, c33, c52, c36] at e; subst e; (try dsimp only); refine ⟨rfl, ?_⟩) | ((first | (refine W.ret ?_; (try simp only [zAl, zA3, zAf]); refine endW.of (.inl rfl) rfl ?_) | refine endW.of (.inr rfl) rfl ?_); generalize e : zAo _ _ _ = r; simp (disch := omega) [hX, hg, hY, hql, hEb, hTr, hcut, hbv, hal, hll, hge, hget, hqn, hn10, hn92, c33, c52, c36] at e; subst e; (try dsimp only [goW]); refine ⟨rfl, ?_⟩))
         show W tree.getF textLoop (dropped true _ _) _
         generalize e : dropped _ _ _ = r9
         simp (disch := omega) [hX, hg, hY, hql, hEb, hTr, hcut, hbv, hal, hll] at e
         subst e
         rw [show acc.map bv ++ [CVal.int .u8 (c.toNat : Int)] = (acc ++ [c]).map bv by rw [List.map_append]; rfl, show acc.length + 1 = (acc ++ [c]).length by simp]
         refine ih t1 (acc ++ [c]) (i + 1) (k + 1) (v + 1) _ _ _ _ _ _ _ _ _ _ (by omega) (by simpa using hd1) (by omega) (by simp) (by simp; omega) ?_ ?_ ?_ (by omega) hk1 hk2
         · ((try dsimp only); omega)
         · exact ut_
         · exact hty
end Go.Proofs.YtjecpdnjpggcoaaGreatDoor.IrM
namespace Go.Proofs.YtjecpdnjpggcoaaGreatDoor.IrM
open Go Go.CI
open Go.LexF hiding spacesB lettersB
set_option maxRecDepth 100000
set_option linter.unusedVariables false
set_option linter.unusedSimpArgs false
attribute [local irreducible] W Wo Wc WoR
attribute [local simp] goR regOut checkOne swapOne sameAt nthOp CVal.beq beqs CVal.block storesTo zAa zAe zBg evalE evalP evalL zAy nth setNth COp.cls COp.isStore CVal.isUndef CVal.whole CVal.cells CHeap.put CHeap.get CHeap.set wantedC zA2 zA0 partOf zB9 evalBin evalInt evalStr zB8 initVar descOf List.take List.drop CVal.lenOf CVal.isStr CVal.bare CVal.strip CVal.flat zAo zBm zB6 finishC cut fillCells setCells szOf szOf_desc elems bytesOf evalAppend fillElems mkElem setElem List.replicate sy_nbeq sy_neqF sy_leT sy_leF zAj dropped sy_wrap64 zAx zAc zBb sy_ibeqF sy_ieqF sy_ileT sy_ileF sy_iltT sy_iltF sy_ltT sy_ltF zAg zA8 eqVal extL extE keyIs findKV nthKV setKV CHeap.ty lookupN CHeap.note CHeap.tyOk dropAll freezeVal freezeAll freezeFlat cellsEq cellEq zAk zAq pMakeNoZero zBi pClone pIndex hasPair rowOf byteVals idxFrom hasFront idxSub
set_option maxHeartbeats 4000000 in
theorem text_loop0 (valid : Bytes → Bool) (hV : ∀ t : Bytes, t.length ≤ 60000 → Pe 50 [.str t] (.bool (valid t))) {n0 : Nat} {E0 : List (Nat × CObj)} (p d : Nat) (s : List UInt8) (q : UInt8) (a : Nat) (L : CVal) (ts : List CVal) (hts : ts.length ≤ 100000) (to : Int) (hs : s.length < 50000) (h : CHeap) (S : St n0 E0 p s (a : Int) L ts 0 to h) (K : CVal → CHeap → Prop) (bq : Nat) (hb : h.next ≤ bq) (t : List UInt8) (i k : Nat) (n : Nat) (ty : List (Nat × Nat)) (v3 v4 v6 v8 v9 v10 v11 v12 : CVal) (hd : s.drop i = t) (hlen : i + t.length = s.length) (hrn : bq < n) (hut2 : zAb ty n) (hia : i = a + (k + 1))
    (hk1 : ∀ txt kk, textF q t [] k = some (txt, kk) → valid txt = true → ∀ h' L', St n0 E0 p s ((a + (kk + 1) : Nat) : Int) L' (ts ++ [tokC 3 txt 0 a]) 0 to h' → h.next ≤ h'.next → K (.tup []) h')
    (hk2 : (textF q t [] k = none ∨ ∃ txt kk, textF q t [] k = some (txt, kk) ∧ valid txt = false) → ∀ h' at' L' ts', St n0 E0 p s at' L' ts' 2 (a : Int) h' → h.next ≤ h'.next → K (.tup []) h') :
    W tree.getF textLoop ⟨[.ptr p d 0, .int .i64 (a : Int), .int .i64 (i : Int), v3, v4, .int .u8 (q.toNat : Int), v6, .ptr bq 97517570 0, v8, v9, v10, v11, v12], ⟨((bq, .cells [.nilp, .nils]) :: h.ents), n, ty⟩, []⟩ (fun x st' => thenW tree.getF textRest (endW c36 h.next K) (zAl 0 x) st') := by
 have hm : t.length ≤ t.length := Nat.le_refl _
 have hg := S.g
 have hf := S.f
 have hp := S.lt
 have hql := q.toNat_lt
 have hll : s.length < 4611686018427387904 := by omega
 have hil : i + t.length = s.length := hlen
 have hEb : ∀ x, zA2 (zA0 h.ents p x) bq = none := fun x => getEnt_under hf.1.set hb
 obtain ⟨hu, hut, hX⟩ := fx4 hf
 have hY := fx5 hf hg
 cases t with
 | nil =>
  simp only [List.length_nil, Nat.add_zero] at hil
  have herr : textF q [] ([] : List UInt8) k = none ∨ ∃ txt kk, textF q [] ([] : List UInt8) k = some (txt, kk) ∧ valid txt = false := .inl rfl
  refine W.loop ?_
  repeat (first | refine sq_ ?_ | refine bl_ ?_ | ((first | refine rg_ ?_ | refine go_ ?_); generalize e : goR _ _ _ _ _ _ _ _ = r; simp (disch := omega) [hX, hg, hY, hql, hEb, hll, hil, c33, c52, c36] at e; replace e : some _ = _ := e; subst e; (try dsimp only [goW])) | refine ct_ rfl ?_ | refine cf_ rfl ?_ | refine sk_ ?_ | refine ex_ ?_ | (refine Wc.mkG 33 c33 (by kernel_rfl) rfl ?_; generalize e : zAa _ _ _ = r; simp (disch := omega) [hX, hg, hY, hql, hEb, hll, hil, c33, c52, c36] at e; subst e) | (refine Wc.mkG 52 c52 (by kernel_rfl) rfl ?_; generalize e : zAa _ _ _ = r; simp (disch := omega) [hX, hg, hY, hql, hEb, hll, hil, c33, c52, c36] at e; subst e) | (refine Wc.primM (f := 51) (p := (zAq 5)) (by kernel_rfl) ?_; generalize e : (zAq 5) _ _ = r; simp (disch := omega) [hX, hg, hY, hql, hEb, hll, hil, c33, c52, c36] at e; subst e; (try dsimp only); refine ⟨rfl, ?_⟩) | (refine Wc.primM (f := 70) (p := (zAk [(97517570, 0)])) (by kernel_rfl) ?_; generalize e : (zAk [(97517570, 0)]) _ _ = r; simp (disch := omega) [hX, hg, hY, hql, hEb, hll, hil, c33, c52, c36] at e; subst e; (try dsimp only); refine ⟨rfl, ?_⟩) | ((first | (refine W.ret ?_; (try simp only [zAl, zA3, zAf]); refine endW.of (.inl rfl) rfl ?_) | refine endW.of (.inr rfl) rfl ?_); generalize e : zAo _ _ _ = r; simp (disch := omega) [hX, hg, hY, hql, hEb, hll, hil, c33, c52, c36] at e; subst e; (try dsimp only [goW]); (first | refine ⟨rfl, ?_⟩ | (refine hk2 ?_ _ _ _ _ (S.upd ?_ ?_) ?_; (focus ((exact herr); done)); (try dsimp only); omega; exact ut_; (try dsimp only); omega))))
 | cons c t1 =>
  obtain ⟨hlt, hget, hd1⟩ := get_of_dropG hd
  have hge : s[i] = c := by rw [List.getElem?_eq_getElem hlt] at hget; exact Option.some.inj hget
  simp only [List.length_cons] at hlen hm
  have hcl := c.toNat_lt
  by_cases hq : c = q
  · subst hq
    have htx : textF c (c :: t1) ([] : List UInt8) k = some (([] : List UInt8), k + 1) := by unfold textF; rw [if_pos rfl]
    have hps : ((a + (k + 1 + 1) : Nat) : Int) = (i : Int) + 1 := by omega
    cases hvt : valid ([] : List UInt8) with
    | true =>
     replace hk1 := hk1 _ _ htx hvt
     rw [hps] at hk1
     rcases S.l with ⟨rfl, rfl⟩ | ⟨i2, v2', rfl, ht, hip, hi0, hin⟩
     ·
      refine W.loop ?_
      repeat (first | refine sq_ ?_ | refine bl_ ?_ | ((first | refine rg_ ?_ | refine go_ ?_); generalize e : goR _ _ _ _ _ _ _ _ = r; simp (disch := omega) [hX, hg, hY, hql, hEb, hll, hge, hget, hvt, c33, c52, c36] at e; replace e : some _ = _ := e; subst e; (try dsimp only [goW])) | refine ct_ rfl ?_ | refine cf_ rfl ?_ | refine sk_ ?_ | refine ex_ ?_ | (refine hV ([]) (by (try simp) <;> omega) _ ?_ _ fun n7 hn7 => ⟨rfl, ?_⟩; exact fit_; (try dsimp only at hn7)) | (refine Wc.mkG 33 c33 (by kernel_rfl) rfl ?_; generalize e : zAa _ _ _ = r; simp (disch := omega) [hX, hg, hY, hql, hEb, hll, hge, hget, hvt, c33, c52, c36] at e; subst e) | (refine Wc.mkG 52 c52 (by kernel_rfl) rfl ?_; generalize e : zAa _ _ _ = r; simp (disch := omega) [hX, hg, hY, hql, hEb, hll, hge, hget, hvt, c33, c52, c36] at e; subst e) | (refine Wc.primM (f := 51) (p := (zAq 5)) (by kernel_rfl) ?_; generalize e : (zAq 5) _ _ = r; simp (disch := omega) [hX, hg, hY, hql, hEb, hll, hge, hget, hvt, c33, c52, c36] at e; subst e; (try dsimp only); refine ⟨rfl, ?_⟩) | (refine Wc.primM (f := 70) (p := (zAk [(97517570, 0)])) (by kernel_rfl) ?_; generalize e : (zAk [(97517570, 0)]) _ _ = r; simp (disch := omega) [hX, hg, hY, hql, hEb, hll, hge, hget, hvt, c33, c52, c36] at e; subst e; (try dsimp only); refine ⟨rfl, ?_⟩) | ((first | (refine W.ret ?_; (try simp only [zAl, zA3, zAf]); refine endW.of (.inl rfl) rfl ?_) | refine endW.of (.inr rfl) rfl ?_); generalize e : zAo _ _ _ = r; simp (disch := omega) [hX, hg, hY, hql, hEb, hll, hge, hget, hvt, c33, c52, c36] at e; subst e; (try dsimp only [goW]); (first | refine ⟨rfl, ?_⟩ | (refine hk1 _ _ (S.app0 ?_ ?_ ?_) ?_; (try dsimp only); omega; (try dsimp only); omega; exact ut_; (try dsimp only); omega))))
     ·
      have htP : ∀ x, zA2 (zA0 h.ents p x) i2 = some (.tok v2') := fun x => (zA1 hip).trans ht
      have hPt : ∀ x y, zA2 (zA0 (zA0 h.ents i2 x) p y) p = some y := fun x y => zA7 ((zA1 (Ne.symm hip)).trans hg)
      have hTT : ∀ x y, zA2 (zA0 (zA0 h.ents i2 x) p y) i2 = some x := fun x y => (zA1 hip).trans (zA7 ht)
      have hiP : ∀ x, zA2 (zA0 h.ents i2 x) p = _ := fun x => (zA1 (Ne.symm hip)).trans hg
      have hcomm : ∀ x y, zA0 (zA0 h.ents p y) i2 x = zA0 (zA0 h.ents i2 x) p y := fun x y => zAw (Ne.symm hip)
      have hC3 : ∀ x y m, h.next ≤ m → zAc (zA0 (zA0 h.ents i2 x) p y) m = zA0 (zA0 h.ents i2 x) p y := fun x y m hm => zAh (hu.set.set.le hm)
      have hD3 : ∀ x y m, h.next ≤ m → zAx (zA0 (zA0 h.ents i2 x) p y) m = zA0 (zA0 h.ents i2 x) p y := fun x y m hm => zAr (hu.set.set.le hm)
      refine W.loop ?_
      repeat (first | refine sq_ ?_ | refine bl_ ?_ | ((first | refine rg_ ?_ | refine go_ ?_); generalize e : goR _ _ _ _ _ _ _ _ = r; simp (disch := omega) [hX, hg, hY, hql, hEb, hll, ht, htP, hPt, hTT, hiP, hcomm, hC3, hD3, hts, zAd, hge, hget, hvt, c33, c52, c36] at e; replace e : some _ = _ := e; subst e; (try dsimp only [goW])) | refine ct_ rfl ?_ | refine cf_ rfl ?_ | refine sk_ ?_ | refine ex_ ?_ | (refine hV ([]) (by (try simp) <;> omega) _ ?_ _ fun n7 hn7 => ⟨rfl, ?_⟩; exact fit_; (try dsimp only at hn7)) | (refine Wc.mkG 33 c33 (by kernel_rfl) rfl ?_; generalize e : zAa _ _ _ = r; simp (disch := omega) [hX, hg, hY, hql, hEb, hll, ht, htP, hPt, hTT, hiP, hcomm, hC3, hD3, hts, zAd, hge, hget, hvt, c33, c52, c36] at e; subst e) | (refine Wc.mkG 52 c52 (by kernel_rfl) rfl ?_; generalize e : zAa _ _ _ = r; simp (disch := omega) [hX, hg, hY, hql, hEb, hll, ht, htP, hPt, hTT, hiP, hcomm, hC3, hD3, hts, zAd, hge, hget, hvt, c33, c52, c36] at e; subst e) | (refine Wc.primM (f := 51) (p := (zAq 5)) (by kernel_rfl) ?_; generalize e : (zAq 5) _ _ = r; simp (disch := omega) [hX, hg, hY, hql, hEb, hll, ht, htP, hPt, hTT, hiP, hcomm, hC3, hD3, hts, zAd, hge, hget, hvt, c33, c52, c36] at e; subst e; (try dsimp only); refine ⟨rfl, ?_⟩) | (refine Wc.primM (f := 70) (p := (zAk [(97517570, 0)])) (by kernel_rfl) ?_; generalize e : (zAk [(97517570, 0)]) _ _ = r; simp (disch := omega) [hX, hg, hY, hql, hEb, hll, ht, htP, hPt, hTT, hiP, hcomm, hC3, hD3, hts, zAd, hge, hget, hvt, c33, c52, c36] at e; subst e; (try dsimp only); refine ⟨rfl, ?_⟩) | ((first | (refine W.ret ?_; (try simp only [zAl, zA3, zAf]); refine endW.of (.inl rfl) rfl ?_) | refine endW.of (.inr rfl) rfl ?_); generalize e : zAo _ _ _ = r; simp (disch := omega) [hX, hg, hY, hql, hEb, hll, ht, htP, hPt, hTT, hiP, hcomm, hC3, hD3, hts, zAd, hge, hget, hvt, c33, c52, c36] at e; subst e; (try dsimp only [goW]); (first | refine ⟨rfl, ?_⟩ | (refine hk1 _ _ (S.app1 ht hip hi0 hin ?_ ?_) ?_; (try dsimp only); omega; exact ut_; (try dsimp only); omega))))
    | false =>
     have herr : textF c (c :: t1) ([] : List UInt8) k = none ∨ ∃ txt kk, textF c (c :: t1) ([] : List UInt8) k = some (txt, kk) ∧ valid txt = false := .inr ⟨_, _, htx, hvt⟩
     rcases S.l with ⟨rfl, rfl⟩ | ⟨i2, v2', rfl, ht, hip, hi0, hin⟩
     ·
      refine W.loop ?_
      repeat (first | refine sq_ ?_ | refine bl_ ?_ | ((first | refine rg_ ?_ | refine go_ ?_); generalize e : goR _ _ _ _ _ _ _ _ = r; simp (disch := omega) [hX, hg, hY, hql, hEb, hll, hge, hget, hvt, c33, c52, c36] at e; replace e : some _ = _ := e; subst e; (try dsimp only [goW])) | refine ct_ rfl ?_ | refine cf_ rfl ?_ | refine sk_ ?_ | refine ex_ ?_ | (refine hV ([]) (by (try simp) <;> omega) _ ?_ _ fun n7 hn7 => ⟨rfl, ?_⟩; exact fit_; (try dsimp only at hn7)) | (refine Wc.mkG 33 c33 (by kernel_rfl) rfl ?_; generalize e : zAa _ _ _ = r; simp (disch := omega) [hX, hg, hY, hql, hEb, hll, hge, hget, hvt, c33, c52, c36] at e; subst e) | (refine Wc.mkG 52 c52 (by kernel_rfl) rfl ?_; generalize e : zAa _ _ _ = r; simp (disch := omega) [hX, hg, hY, hql, hEb, hll, hge, hget, hvt, c33, c52, c36] at e; subst e) | (refine Wc.primM (f := 51) (p := (zAq 5)) (by kernel_rfl) ?_; generalize e : (zAq 5) _ _ = r; simp (disch := omega) [hX, hg, hY, hql, hEb, hll, hge, hget, hvt, c33, c52, c36] at e; subst e; (try dsimp only); refine ⟨rfl, ?_⟩) | (refine Wc.primM (f := 70) (p := (zAk [(97517570, 0)])) (by kernel_rfl) ?_; generalize e : (zAk [(97517570, 0)]) _ _ = r; simp (disch := omega) [hX, hg, hY, hql, hEb, hll, hge, hget, hvt, c33, c52, c36] at e; subst e; (try dsimp only); refine ⟨rfl, ?_⟩) | ((first | (refine W.ret ?_; (try simp only [zAl, zA3, zAf]); refine endW.of (.inl rfl) rfl ?_) | refine endW.of (.inr rfl) rfl ?_); generalize e : zAo _ _ _ = r; simp (disch := omega) [hX, hg, hY, hql, hEb, hll, hge, hget, hvt, c33, c52, c36] at e; subst e; (try dsimp only [goW]); (first | refine ⟨rfl, ?_⟩ | (refine hk2 herr _ _ _ _ (S.app0 ?_ ?_ ?_) ?_; (try dsimp only); omega; (try dsimp only); omega; exact ut_; (try dsimp only); omega))))
     ·
      have htP : ∀ x, zA2 (zA0 h.ents p x) i2 = some (.tok v2') := fun x => (zA1 hip).trans ht
      have hPt : ∀ x y, zA2 (zA0 (zA0 h.ents i2 x) p y) p = some y := fun x y => zA7 ((zA1 (Ne.symm hip)).trans hg)
      have hTT : ∀ x y, zA2 (zA0 (zA0 h.ents i2 x) p y) i2 = some x := fun x y => (zA1 hip).trans (zA7 ht)
      have hiP : ∀ x, zA2 (zA0 h.ents i2 x) p = _ := fun x => (zA1 (Ne.symm hip)).trans hg
      have hcomm : ∀ x y, zA0 (zA0 h.ents p y) i2 x = zA0 (zA0 h.ents i2 x) p y := fun x y => zAw (Ne.symm hip)
      have hC3 : ∀ x y m, h.next ≤ m → zAc (zA0 (zA0 h.ents i2 x) p y) m = zA0 (zA0 h.ents i2 x) p y := fun x y m hm => zAh (hu.set.set.le hm)
      have hD3 : ∀ x y m, h.next ≤ m → zAx (zA0 (zA0 h.ents i2 x) p y) m = zA0 (zA0 h.ents i2 x) p y := fun x y m hm => zAr (hu.set.set.le hm)
      refine W.loop ?_
      repeat (first | refine sq_ ?_ | refine bl_ ?_ | ((first | refine rg_ ?_ | refine go_ ?_); generalize e : goR _ _ _ _ _ _ _ _ = r; simp (disch := omega) [hX, hg, hY, hql, hEb, hll, ht, htP, hPt, hTT, hiP, hcomm, hC3, hD3, hts, zAd, hge, hget, hvt, c33, c52, c36] at e; replace e : some _ = _ := e; subst e; (try dsimp only [goW])) | refine ct_ rfl ?_ | refine cf_ rfl ?_ | refine sk_ ?_ | refine ex_ ?_ | (refine hV ([]) (by (try simp) <;> omega) _ ?_ _ fun n7 hn7 => ⟨rfl, ?_⟩; exact fit_; (try dsimp only at hn7)) | (refine Wc.mkG 33 c33 (by kernel_rfl) rfl ?_; generalize e : zAa _ _ _ = r; simp (disch := omega) [hX, hg, hY, hql, hEb, hll, ht, htP, hPt, hTT, hiP, hcomm, hC3, hD3, hts, zAd, hge, hget, hvt, c33, c52, c36] at e; subst e) | (refine Wc.mkG 52 c52 (by kernel_rfl) rfl ?_; generalize e : zAa _ _ _ = r; simp (disch := omega) [hX, hg, hY, hql, hEb, hll, ht, htP, hPt, hTT, hiP, hcomm, hC3, hD3, hts, zAd, hge, hget, hvt, c33, c52, c36] at e; subst e) | (refine Wc.primM (f := 51) (p := (zAq 5)) (by kernel_rfl) ?_; generalize e : (zAq 5) _ _ = r; simp (disch := omega) [hX, hg, hY, hql, hEb, hll, ht, htP, hPt, hTT, hiP, hcomm, hC3, hD3, hts, zAd, hge, hget, hvt, c33, c52, c36] at e; subst e; (try dsimp only); refine ⟨rfl, ?_⟩) | (refine Wc.primM (f := 70) (p := (zAk [(97517570, 0)])) (by kernel_rfl) ?_; generalize e : (zAk [(97517570, 0)]) _ _ = r; simp (disch := omega) [hX, hg, hY, hql, hEb, hll, ht, htP, hPt, hTT, hiP, hcomm, hC3, hD3, hts, zAd, hge, hget, hvt, c33, c52, c36] at e; subst e; (try dsimp only); refine ⟨rfl, ?_⟩) | ((first | (refine W.ret ?_; (try simp only [zAl, zA3, zAf]); refine endW.of (.inl rfl) rfl ?_) | refine endW.of (.inr rfl) rfl ?_); generalize e : zAo _ _ _ = r; simp (disch := omega) [hX, hg, hY, hql, hEb, hll, ht, htP, hPt, hTT, hiP, hcomm, hC3, hD3, hts, zAd, hge, hget, hvt, c33, c52, c36] at e; subst e; (try dsimp only [goW]); (first | refine ⟨rfl, ?_⟩ | (refine hk2 herr _ _ _ _ (S.app1 ht hip hi0 hin ?_ ?_) ?_; (try dsimp only); omega; exact ut_; (try dsimp only); omega))))
  · have hqn : ¬ ((c.toNat : Int) = (q.toNat : Int)) := fun e => hq (UInt8.toNat_inj.1 (by omega))
    by_cases h10 : c = 10
    · have hc10 : (c.toNat : Int) = 10 := by rw [h10]; rfl
      have hqn2 : ¬ ((10 : Int) = (q.toNat : Int)) := by omega
      have herr : textF q (c :: t1) ([] : List UInt8) k = none ∨ ∃ txt kk, textF q (c :: t1) ([] : List UInt8) k = some (txt, kk) ∧ valid txt = false := .inl (by unfold textF; rw [if_neg hq, if_pos h10])
      refine W.loop ?_
      repeat (first | refine sq_ ?_ | refine bl_ ?_ | ((first | refine rg_ ?_ | refine go_ ?_); generalize e : goR _ _ _ _ _ _ _ _ = r; simp (disch := omega) [hX, hg, hY, hql, hEb, hll, hge, hget, hc10, hqn, hqn2, c33, c52, c36] at e; replace e : some _ = _ := e; subst e; (try dsimp only [goW])) | refine ct_ rfl ?_ | refine cf_ rfl ?_ | refine sk_ ?_ | refine ex_ ?_ | (refine Wc.mkG 33 c33 (by kernel_rfl) rfl ?_; generalize e : zAa _ _ _ = r; simp (disch := omega) [hX, hg, hY, hql, hEb, hll, hge, hget, hc10, hqn, hqn2, c33, c52, c36] at e; subst e) | (refine Wc.mkG 52 c52 (by kernel_rfl) rfl ?_; generalize e : zAa _ _ _ = r; simp (disch := omega) [hX, hg, hY, hql, hEb, hll, hge, hget, hc10, hqn, hqn2, c33, c52, c36] at e; subst e) | (refine Wc.primM (f := 51) (p := (zAq 5)) (by kernel_rfl) ?_; generalize e : (zAq 5) _ _ = r; simp (disch := omega) [hX, hg, hY, hql, hEb, hll, hge, hget, hc10, hqn, hqn2, c33, c52, c36] at e; subst e; (try dsimp only); refine ⟨rfl, ?_⟩) | (refine Wc.primM (f := 70) (p := (zAk [(97517570, 0)])) (by kernel_rfl) ?_; generalize e : (zAk [(97517570, 0)]) _ _ = r; simp (disch := omega) [hX, hg, hY, hql, hEb, hll, hge, hget, hc10, hqn, hqn2, c33, c52, c36] at e; subst e; (try dsimp only); refine ⟨rfl, ?_⟩) | ((first | (refine W.ret ?_; (try simp only [zAl, zA3, zAf]); refine endW.of (.inl rfl) rfl ?_) | refine endW.of (.inr rfl) rfl ?_); generalize e : zAo _ _ _ = r; simp (disch := omega) [hX, hg, hY, hql, hEb, hll, hge, hget, hc10, hqn, hqn2, c33, c52, c36] at e; subst e; (try dsimp only [goW]); (first | refine ⟨rfl, ?_⟩ | (refine hk2 ?_ _ _ _ _ (S.upd ?_ ?_) ?_; (focus ((exact herr); done)); (try dsimp only); omega; exact ut_; (try dsimp only); omega))))
    · have hn10 : ¬ ((c.toNat : Int) = 10) := fun e => h10 (UInt8.toNat_inj.1 (by
          have h9 : c.toNat = 10 := by omega
          rw [h9]; rfl))
      by_cases h92 : c = 92
      · have hc92 : (c.toNat : Int) = 92 := by rw [h92]; rfl
        have hqn2 : ¬ ((92 : Int) = (q.toNat : Int)) := by omega
        cases t1 with
        | nil =>
         have herr : textF q [c] ([] : List UInt8) k = none ∨ ∃ txt kk, textF q [c] ([] : List UInt8) k = some (txt, kk) ∧ valid txt = false := .inl (by unfold textF; rw [if_neg hq, if_neg h10, if_pos h92])
         have hil2 : s.length = i + 1 := by simpa using hlen.symm
         refine W.loop ?_
         repeat (first | refine sq_ ?_ | refine bl_ ?_ | ((first | refine rg_ ?_ | refine go_ ?_); generalize e : goR _ _ _ _ _ _ _ _ = r; simp (disch := omega) [hX, hg, hY, hql, hEb, hll, hge, hget, hc92, hqn, hqn2, hil2, c33, c52, c36] at e; replace e : some _ = _ := e; subst e; (try dsimp only [goW])) | refine ct_ rfl ?_ | refine cf_ rfl ?_ | refine sk_ ?_ | refine ex_ ?_ | (refine Wc.mkG 33 c33 (by kernel_rfl) rfl ?_; generalize e : zAa _ _ _ = r; simp (disch := omega) [hX, hg, hY, hql, hEb, hll, hge, hget, hc92, hqn, hqn2, hil2, c33, c52, c36] at e; subst e) | (refine Wc.mkG 52 c52 (by kernel_rfl) rfl ?_; generalize e : zAa _ _ _ = r; simp (disch := omega) [hX, hg, hY, hql, hEb, hll, hge, hget, hc92, hqn, hqn2, hil2, c33, c52, c36] at e; subst e) | (refine Wc.primM (f := 51) (p := (zAq 5)) (by kernel_rfl) ?_; generalize e : (zAq 5) _ _ = r; simp (disch := omega) [hX, hg, hY, hql, hEb, hll, hge, hget, hc92, hqn, hqn2, hil2, c33, c52, c36] at e; subst e; (try dsimp only); refine ⟨rfl, ?_⟩) | (refine Wc.primM (f := 70) (p := (zAk [(97517570, 0)])) (by kernel_rfl) ?_; generalize e : (zAk [(97517570, 0)]) _ _ = r; simp (disch := omega) [hX, hg, hY, hql, hEb, hll, hge, hget, hc92, hqn, hqn2, hil2, c33, c52, c36] at e; subst e; (try dsimp only); refine ⟨rfl, ?_⟩) | ((first | (refine W.ret ?_; (try simp only [zAl, zA3, zAf]); refine endW.of (.inl rfl) rfl ?_) | refine endW.of (.inr rfl) rfl ?_); generalize e : zAo _ _ _ = r; simp (disch := omega) [hX, hg, hY, hql, hEb, hll, hge, hget, hc92, hqn, hqn2, hil2, c33, c52, c36] at e; subst e; (try dsimp only [goW]); (first | refine ⟨rfl, ?_⟩ | (refine hk2 ?_ _ _ _ _ (S.upd ?_ ?_) ?_; (focus ((exact herr); done)); (try dsimp only); omega; exact ut_; (try dsimp only); omega))))
        | cons x u =>
         obtain ⟨hlt2, hget2, hd2⟩ := get_of_dropG hd1
         have hge2 : s[i + 1] = x := by rw [List.getElem?_eq_getElem hlt2] at hget2; exact Option.some.inj hget2
         simp only [List.length_cons] at hlen hm
         have I0 := indexb_G [92, 34, 39, 110] x (by decide)
         have hto1 : ((i : Int) + 1).toNat = i + 1 := by omega
         cases hme : meantF x with
         | none =>
          rw [esc_no x hme] at I0
          have herr : textF q (c :: x :: u) ([] : List UInt8) k = none ∨ ∃ txt kk, textF q (c :: x :: u) ([] : List UInt8) k = some (txt, kk) ∧ valid txt = false := .inl (by unfold textF; rw [if_neg hq, if_neg h10, if_pos h92]; dsimp only; rw [hme])
          refine W.loop ?_
          repeat (first | refine sq_ ?_ | refine bl_ ?_ | ((first | refine rg_ ?_ | refine go_ ?_); generalize e : goR _ _ _ _ _ _ _ _ = r; simp (disch := omega) [hX, hg, hY, hql, hEb, hll, hge, hge2, hget, hget2, hto1, hc92, hqn, hqn2, c33, c52, c36] at e; replace e : some _ = _ := e; subst e; (try dsimp only [goW])) | refine ct_ rfl ?_ | refine cf_ rfl ?_ | refine sk_ ?_ | refine ex_ ?_ | (refine I0 _ ?_ _ fun n5 hn5 => ⟨rfl, ?_⟩; exact fit_; (try dsimp only at hn5)) | (refine Wc.mkG 33 c33 (by kernel_rfl) rfl ?_; generalize e : zAa _ _ _ = r; simp (disch := omega) [hX, hg, hY, hql, hEb, hll, hge, hge2, hget, hget2, hto1, hc92, hqn, hqn2, c33, c52, c36] at e; subst e) | (refine Wc.mkG 52 c52 (by kernel_rfl) rfl ?_; generalize e : zAa _ _ _ = r; simp (disch := omega) [hX, hg, hY, hql, hEb, hll, hge, hge2, hget, hget2, hto1, hc92, hqn, hqn2, c33, c52, c36] at e; subst e) | (refine Wc.primM (f := 51) (p := (zAq 5)) (by kernel_rfl) ?_; generalize e : (zAq 5) _ _ = r; simp (disch := omega) [hX, hg, hY, hql, hEb, hll, hge, hge2, hget, hget2, hto1, hc92, hqn, hqn2, c33, c52, c36] at e; subst e; (try dsimp only); refine ⟨rfl, ?_⟩) | (refine Wc.primM (f := 70) (p := (zAk [(97517570, 0)])) (by kernel_rfl) ?_; generalize e : (zAk [(97517570, 0)]) _ _ = r; simp (disch := omega) [hX, hg, hY, hql, hEb, hll, hge, hge2, hget, hget2, hto1, hc92, hqn, hqn2, c33, c52, c36] at e; subst e; (try dsimp only); refine ⟨rfl, ?_⟩) | ((first | (refine W.ret ?_; (try simp only [zAl, zA3, zAf]); refine endW.of (.inl rfl) rfl ?_) | refine endW.of (.inr rfl) rfl ?_); generalize e : zAo _ _ _ = r; simp (disch := omega) [hX, hg, hY, hql, hEb, hll, hge, hge2, hget, hget2, hto1, hc92, hqn, hqn2, c33, c52, c36] at e; subst e; (try dsimp only [goW]); (first | refine ⟨rfl, ?_⟩ | (refine hk2 ?_ _ _ _ _ (S.upd ?_ ?_) ?_; (focus ((exact herr); done)); (try dsimp only); omega; exact ut_; (try dsimp only); omega))))
         | some m =>
          have htx2 : textF q (c :: x :: u) ([] : List UInt8) k = textF q u (([] : List UInt8) ++ [m]) (k + 2) := by
           conv => lhs; unfold textF
           rw [if_neg hq, if_neg h10, if_pos h92]
           dsimp only
           rw [hme]
          rw [htx2] at hk1 hk2
          have hxm : (x = 92 ∧ m = 92) ∨ (x = 34 ∧ m = 34) ∨ (x = 39 ∧ m = 39) ∨ (x = 110 ∧ m = 10) := by
           unfold meantF at hme
           split at hme
           · cases hme; exact .inl ⟨by assumption, rfl⟩
           · split at hme
             · cases hme; exact .inr (.inl ⟨by assumption, rfl⟩)
             · split at hme
               · cases hme; exact .inr (.inr (.inl ⟨by assumption, rfl⟩))
               · split at hme
                 · cases hme; exact .inr (.inr (.inr ⟨by assumption, rfl⟩))
                 · cases hme
          rcases hxm with ⟨hx, rfl⟩ | ⟨hx, rfl⟩ | ⟨hx, rfl⟩ | ⟨hx, rfl⟩
          · rw [show idxFrom x [92, 34, 39, 110] 0 = 0 by rw [hx]; rfl] at I0
            refine W.loop ?_
            repeat (first | refine sq_ ?_ | refine bl_ ?_ | ((first | refine rg_ ?_ | refine go_ ?_); generalize e : goR _ _ _ _ _ _ _ _ = r; simp (disch := omega) [hX, hg, hY, hql, hEb, hll, hge, hge2, hget, hget2, hto1, hc92, hqn, hqn2, c33, c52, c36] at e; replace e : some _ = _ := e; subst e; (try dsimp only [goW])) | refine ct_ rfl ?_ | refine cf_ rfl ?_ | refine sk_ ?_ | refine ex_ ?_ | (refine I0 _ ?_ _ fun n5 hn5 => ⟨rfl, ?_⟩; exact fit_; (try dsimp only at hn5)) | (refine Wc.mkG 33 c33 (by kernel_rfl) rfl ?_; generalize e : zAa _ _ _ = r; simp (disch := omega) [hX, hg, hY, hql, hEb, hll, hge, hge2, hget, hget2, hto1, hc92, hqn, hqn2, c33, c52, c36] at e; subst e) | (refine Wc.mkG 52 c52 (by kernel_rfl) rfl ?_; generalize e : zAa _ _ _ = r; simp (disch := omega) [hX, hg, hY, hql, hEb, hll, hge, hge2, hget, hget2, hto1, hc92, hqn, hqn2, c33, c52, c36] at e; subst e) | (refine Wc.primM (f := 51) (p := (zAq 5)) (by kernel_rfl) ?_; generalize e : (zAq 5) _ _ = r; simp (disch := omega) [hX, hg, hY, hql, hEb, hll, hge, hge2, hget, hget2, hto1, hc92, hqn, hqn2, c33, c52, c36] at e; subst e; (try dsimp only); refine ⟨rfl, ?_⟩) | (refine Wc.primM (f := 70) (p := (zAk [(97517570, 0)])) (by kernel_rfl) ?_; generalize e : (zAk [(97517570, 0)]) _ _ = r; simp (disch := omega) [hX, hg, hY, hql, hEb, hll, hge, hge2, hget, hget2, hto1, hc92, hqn, hqn2, c33, c52, c36] at e; subst e; (try dsimp only); refine ⟨rfl, ?_⟩) | ((first | (refine W.ret ?_; (try simp only [zAl, zA3, zAf]); refine endW.of (.inl rfl) rfl ?_) | refine endW.of (.inr rfl) rfl ?_); generalize e : zAo _ _ _ = r; simp (disch := omega) [hX, hg, hY, hql, hEb, hll, hge, hge2, hget, hget2, hto1, hc92, hqn, hqn2, c33, c52, c36] at e; subst e; (try dsimp only [goW]); refine ⟨rfl, ?_⟩))
            show W tree.getF textLoop (dropped true _ _) _
            generalize e : dropped _ _ _ = r9
            simp (disch := omega) [hX, hg, hY, hql, hEb, hll] at e
            subst e
            simp only [List.nil_append] at hk1 hk2
            refine text_loop1 valid hV p d s q a L ts hts to hs h S K bq _ hb ?_ _ u [(92 : UInt8)] (i + 2) (k + 2) 0 _ _ _ _ _ _ _ _ _ _ (Nat.le_refl _) (by simpa using hd2) (by omega) (by simp) (by (try simp) <;> omega) ?_ ?_ ?_ (by omega) hk1 hk2
            · ((try dsimp only); omega)
            · ((try dsimp only); omega)
            · exact ut_
            · simp [lookupN]
          · rw [show idxFrom x [92, 34, 39, 110] 0 = 1 by rw [hx]; rfl] at I0
            refine W.loop ?_
            repeat (first | refine sq_ ?_ | refine bl_ ?_ | ((first | refine rg_ ?_ | refine go_ ?_); generalize e : goR _ _ _ _ _ _ _ _ = r; simp (disch := omega) [hX, hg, hY, hql, hEb, hll, hge, hge2, hget, hget2, hto1, hc92, hqn, hqn2, c33, c52, c36] at e; replace e : some _ = _ := e; subst e; (try dsimp only [goW])) | refine ct_ rfl ?_ | refine cf_ rfl ?_ | refine sk_ ?_ | refine ex_ ?_ | (refine I0 _ ?_ _ fun n5 hn5 => ⟨rfl, ?_⟩; exact fit_; (try dsimp only at hn5)) | (refine Wc.mkG 33 c33 (by kernel_rfl) rfl ?_; generalize e : zAa _ _ _ = r; simp (disch := omega) [hX, hg, hY, hql, hEb, hll, hge, hge2, hget, hget2, hto1, hc92, hqn, hqn2, c33, c52, c36] at e; subst e) | (refine Wc.mkG 52 c52 (by kernel_rfl) rfl ?_; generalize e : zAa _ _ _ = r; simp (disch := omega) [hX, hg, hY, hql, hEb, hll, hge, hge2, hget, hget2, hto1, hc92, hqn, hqn2, c33, c52, c36] at e; subst e) | (refine Wc.primM (f := 51) (p := (zAq 5)) (by kernel_rfl) ?_; generalize e : (zAq 5) _ _ = r; simp (disch := omega) [hX, hg, hY, hql, hEb, hll, hge, hge2, hget, hget2, hto1, hc92, hqn, hqn2, c33, c52, c36] at e; subst e; (try dsimp only); refine ⟨rfl, ?_⟩) | (refine Wc.primM (f := 70) (p := (zAk [(97517570, 0)])) (by kernel_rfl) ?_; generalize e : (zAk [(97517570, 0)]) _ _ = r; simp (disch := omega) [hX, hg, hY, hql, hEb, hll, hge, hge2, hget, hget2, hto1, hc92, hqn, hqn2, c33, c52, c36] at e; subst e; (try dsimp only); refine ⟨rfl, ?_⟩) | ((first | (refine W.ret ?_; (try simp only [zAl, zA3, zAf]); refine endW.of (.inl rfl) rfl ?_) | refine endW.of (.inr rfl) rfl ?_); generalize e : zAo _ _ _ = r; simp (disch := omega) [hX, hg, hY, hql, hEb, hll, hge, hge2, hget, hget2, hto1, hc92, hqn, hqn2, c33, c52, c36] at e; subst e; (try dsimp only [goW]); refine ⟨rfl, ?_⟩))
            show W tree.getF textLoop (dropped true _ _) _
            generalize e : dropped _ _ _ = r9
            simp (disch := omega) [hX, hg, hY, hql, hEb, hll] at e
            subst e
            simp only [List.nil_append] at hk1 hk2
            refine text_loop1 valid hV p d s q a L ts hts to hs h S K bq _ hb ?_ _ u [(34 : UInt8)] (i + 2) (k + 2) 0 _ _ _ _ _ _ _ _ _ _ (Nat.le_refl _) (by simpa using hd2) (by omega) (by simp) (by (try simp) <;> omega) ?_ ?_ ?_ (by omega) hk1 hk2
            · ((try dsimp only); omega)
            · ((try dsimp only); omega)
            · exact ut_
            · simp [lookupN]
          · rw [show idxFrom x [92, 34, 39, 110] 0 = 2 by rw [hx]; rfl] at I0
            refine W.loop ?_
            repeat (first | refine sq_ ?_ | refine bl_ ?_ | ((first | refine rg_ ?_ | refine go_ ?_); generalize e : goR _ _ _ _ _ _ _ _ = r; simp (disch := omega) [hX, hg, hY, hql, hEb, hll, hge, hge2, hget, hget2, hto1, hc92, hqn, hqn2, c33, c52, c36] at e; replace e : some _ = _ := e; subst e; (try dsimp only [goW])) | refine ct_ rfl ?_ | refine cf_ rfl ?_ | refine sk_ ?_ | refine ex_ ?_ | (refine I0 _ ?_ _ fun n5 hn5 => ⟨rfl, ?_⟩; exact fit_; (try dsimp only at hn5)) | (refine Wc.mkG 33 c33 (by kernel_rfl) rfl ?_; generalize e : zAa _ _ _ = r; simp (disch := omega) [hX, hg, hY, hql, hEb, hll, hge, hge2, hget, hget2, hto1, hc92, hqn, hqn2, c33, c52, c36] at e; subst e) | (refine Wc.mkG 52 c52 (by kernel_rfl) rfl ?_; generalize e : zAa _ _ _ = r; simp (disch := omega) [hX, hg, hY, hql, hEb, hll, hge, hge2, hget, hget2, hto1, hc92, hqn, hqn2, c33, c52, c36] at e; subst e) | (refine Wc.primM (f := 51) (p := (zAq 5)) (by kernel_rfl) ?_; generalize e : (zAq 5) _ _ = r; simp (disch := omega) [hX, hg, hY, hql, hEb, hll, hge, hge2, hget, hget2, hto1, hc92, hqn, hqn2, c33, c52, c36] at e; subst e; (try dsimp only); refine ⟨rfl, ?_⟩) | (refine Wc.primM (f := 70) (p := (zAk [(97517570, 0)])) (by kernel_rfl) ?_; generalize e : (zAk [(97517570, 0)]) _ _ = r; simp (disch := omega) [hX, hg, hY, hql, hEb, hll, hge, hge2, hget, hget2, hto1, hc92, hqn, hqn2, c33, c52, c36] at e; subst e; (try dsimp only); refine ⟨rfl, ?_⟩) | ((first | (refine W.ret ?_; (try simp only [zAl, zA3, zAf]); refine endW.of (.inl rfl) rfl ?_) | refine endW.of (.inr rfl) rfl ?_); generalize e : zAo _ _ _ = r; simp (disch := omega) [hX, hg, hY, hql, hEb, hll, hge, hge2, hget, hget2, hto1, hc92, hqn, hqn2, c33, c52, c36] at e; subst e; (try dsimp only [goW]); refine ⟨rfl, ?_⟩))
            show W tree.getF textLoop (dropped true _ _) _
            generalize e : dropped _ _ _ = r9
            simp (disch := omega) [hX, hg, hY, hql, hEb, hll] at e
            subst e
            simp only [List.nil_append] at hk1 hk2
            refine text_loop1 valid hV p d s q a L ts hts to hs h S K bq _ hb ?_ _ u [(39 : UInt8)] (i + 2) (k + 2) 0 _ _ _ _ _ _ _ _ _ _ (Nat.le_refl _) (by simpa using hd2) (by omega) (by simp) (by (try simp) <;> omega) ?_ ?_ ?_ (by omega) hk1 hk2
            · ((try dsimp only); omega)
            · ((try dsimp only); omega)
            · exact ut_
            · simp [lookupN]
          · rw [show idxFrom x [92, 34, 39, 110] 0 = 3 by rw [hx]; rfl] at I0
            refine W.loop ?_
            repeat (first | refine sq_ ?_ | refine bl_ ?_ | ((first | refine rg_ ?_ | refine go_ ?_); generalize e : goR _ _ _ _ _ _ _ _ = r; simp (disch := omega) [hX, hg, hY, hql, hEb, hll, hge, hge2, hget, hget2, hto1, hc92, hqn, hqn2, c33, c52, c36] at e; replace e : some _ = _ := e; subst e; (try dsimp only [goW])) | refine ct_ rfl ?_ | refine cf_ rfl ?_ | refine sk_ ?_ | refine ex_ ?_ | (refine I0 _ ?_ _ fun n5 hn5 => ⟨rfl, ?_⟩; exact fit_; (try dsimp only at hn5)) | (refine Wc.mkG 33 c33 (by kernel_rfl) rfl ?_; generalize e : zAa _ _ _ = r; simp (disch := omega) [hX, hg, hY, hql, hEb, hll, hge, hge2, hget, hget2, hto1, hc92, hqn, hqn2, c33, c52, c36] at e; subst e) | (refine Wc.mkG 52 c52 (by kernel_rfl) rfl ?_; generalize e : zAa _ _ _ = r; simp (disch := omega) [hX, hg, hY, hql, hEb, hll, hge, hge2, hget, hget2, hto1, hc92, hqn, hqn2, c33, c52, c36] at e; subst e) | (refine Wc.primM (f := 51) (p := (zAq 5)) (by kernel_rfl) ?_; generalize e : (zAq 5) _ _ = r; simp (disch := omega) [hX, hg, hY, hql, hEb, hll, hge, hge2, hget, hget2, hto1, hc92, hqn, hqn2, c33, c52, c36] at e; subst e; (try dsimp only); refine ⟨rfl, ?_⟩) | (refine Wc.primM (f := 70) (p := (zAk [(97517570, 0)])) (by kernel_rfl) ?_; generalize e : (zAk [(97517570, 0)]) _ _ = r; simp (disch := omega) [hX, hg, hY, hql, hEb, hll, hge, hge2, hget, hget2, hto1, hc92, hqn, hqn2, c33, c52, c36] at e; subst e; (try dsimp only); refine ⟨rfl, ?_⟩) | ((first | (refine W.ret ?_; (try simp only [zAl, zA3, zAf]); refine endW.of (.inl rfl) rfl ?_) | refine endW.of (.inr rfl) rfl ?_); generalize e : zAo _ _ _ = r; simp (disch := omega) [hX, hg, hY, hql, hEb, hll, hge, hge2, hget, hget2, hto1, hc92, hqn, hqn2, c33, c52, c36] at e; subst e; (try dsimp only [goW]); refine ⟨rfl, ?_⟩))
            show W tree.getF textLoop (dropped true _ _) _
            generalize e : dropped _ _ _ = r9
            simp (disch := omega) [hX, hg, hY, hql, hEb, hll] at e
            subst e
            simp only [List.nil_append] at hk1 hk2
            refine text_loop1 valid hV p d s q a L ts hts to hs h S K bq _ hb ?_ _ u [(10 : UInt8)] (i + 2) (k + 2) 0 _ _ _ _ _ _ _ _ _ _ (Nat.le_refl _) (by simpa using hd2) (by omega) (by simp) (by (try simp) <;> omega) ?_ ?_ ?_ (by omega) hk1 hk2
            · ((try dsimp only); omega)
            · ((try dsimp only); omega)
            · exact ut_
            · simp [lookupN]
      · have hn92 : ¬ ((c.toNat : Int) = 92) := fun e => h92 (UInt8.toNat_inj.1 (by
         have h9 : c.toNat = 92 := by omega
         rw [h9]; rfl))
        have htx2 : textF q (c :: t1) ([] : List UInt8) k = textF q t1 (([] : List UInt8) ++ [c]) (k + 1) := by
         conv => lhs; unfold textF
         rw [if_neg hq, if_neg h10, if_neg h92]
        rw [htx2] at hk1 hk2
        refine W.loop ?_
        repeat (first | refine sq_ ?_ | refine bl_ ?_ | ((first | refine rg_ ?_ | refine go_ ?_); generalize e : goR _ _ _ _ _ _ _ _ = r; simp (disch := omega) [hX, hg, hY, hql, hEb, hll, hge, hget, hqn, hn10, hn92, c33, c52, c36] at e; replace e : some _ = _ := e; subst e; (try dsimp only [goW])) | refine ct_ rfl ?_ | refine cf_ rfl ?_ | refine sk_ ?_ | refine ex_ ?_ | (refine Wc.mkG 33 c33 (by kernel_rfl) rfl ?_; generalize e : zAa _ _ _ = r; simp (disch := omega) [hX, hg, hY, hql, hEb, hll, hge, hget, hqn, hn10, hn92, c33, c52, c36] at e; subst e) | (refine Wc.mkG 52 c52 (by kernel_rfl) rfl ?_; generalize e : zAa _ _ _ = r; simp (disch := omega) [hX, hg, hY, hql, hEb, hll, hge, hget, hqn, hn10, hn92, c33, c52, c36] at e; subst e) | (refine Wc.primM (f := 51) (p := (zAq 5)) (by kernel_rfl) ?_; generalize e : (zAq 5) _ _ = r; simp (disch := omega) [hX, hg, hY, hql, hEb, hll, hge, hget, hqn, hn10, hn92, c33, c52, c36] at e; subst e; (try dsimp only); refine ⟨rfl, ?_⟩) | (refine Wc.primM (f := 70) (p := (zAk [(97517570, 0)])) (by kernel_rfl) ?_; generalize e : (zAk [(97517570, 0)]) _ _ = r; simp (disch := omega) [hX, hg, hY, hql, hEb, hll, hge, hget, hqn, hn10, hn92, c33, c52, c36] at e; subst e; (try dsimp only); refine ⟨rfl, ?_⟩) | ((first | (refine W.ret ?_; (try simp only [zAl, zA3, zAf]); refine endW.of (.inl rfl) rfl ?_) | refine endW.of (.inr rfl) rfl ?_); generalize e : zAo _ _ _ = r; simp (disch := omega) [hX, hg, hY, hql, hEb, hll, hge, hget, hqn, hn10, hn92, c33, c52, c36] at e; subst e; (try dsimp only [goW]); refine ⟨rfl, ?_⟩))
        show W tree.getF textLoop (dropped true _ _) _
        generalize e : dropped _ _ _ = r9
        simp (disch := omega) [hX, hg, hY, hql, hEb, hll] at e
        subst e
        simp only [List.nil_append] at hk1 hk2
        refine text_loop1 valid hV p d s q a L ts hts to hs h S K bq _ hb ?_ _ t1 [c] (i + 1) (k + 1) 0 _ _ _ _ _ _ _ _ _ _ (Nat.le_refl _) (by simpa using hd1) (by omega) (by simp) (by (try simp) <;> omega) ?_ ?_ ?_ (by omega) hk1 hk2
        · ((try dsimp only); omega)
        · ((try dsimp only); omega)
        · exact ut_
        · simp [lookupN]
theorem text_F (valid : Bytes → Bool) (hV : ∀ t : Bytes, t.length ≤ 60000 → Pe 50 [.str t] (.bool (valid t))) {n0 : Nat} {E0 : List (Nat × CObj)} (p d : Nat) (s : List UInt8) (q : UInt8) (t : List UInt8) (a : Nat) (L : CVal) (ts : List CVal) (hts : ts.length ≤ 100000) (to : Int) (hs : s.length < 50000) (hda : s.drop a = q :: t) (hlen : a + (q :: t).length = s.length) (h : CHeap) (S : St n0 E0 p s (a : Int) L ts 0 to h) (K : CVal → CHeap → Prop)
    (hk1 : ∀ txt kk, textF q t [] 0 = some (txt, kk) → valid txt = true → ∀ h' L', St n0 E0 p s ((a + (kk + 1) : Nat) : Int) L' (ts ++ [tokC 3 txt 0 a]) 0 to h' → h.next ≤ h'.next → K (.tup []) h')
    (hk2 : (textF q t [] 0 = none ∨ ∃ txt kk, textF q t [] 0 = some (txt, kk) ∧ valid txt = false) → ∀ h' at' L' ts', St n0 E0 p s at' L' ts' 2 (a : Int) h' → h.next ≤ h'.next → K (.tup []) h') : Wc tree.getF 36 [.ptr p d 0] h K := by
 have hg := S.g
 have hf := S.f
 have hp := S.lt
 obtain ⟨hlt, hget, hd1⟩ := get_of_dropG hda
 have hge : s[a] = q := by rw [List.getElem?_eq_getElem hlt] at hget; exact Option.some.inj hget
 simp only [List.length_cons] at hlen
 obtain ⟨hu, hut, hX⟩ := fx4 hf
 have hY := fx5 hf hg
 refine Wc.mkG 36 c36 (by kernel_rfl) rfl ?_
 generalize e : zAa _ _ _ = r
 simp (disch := omega) [hX, hg, hY, c36] at e
 subst e
 repeat (first | refine sq_ ?_ | refine bl_ ?_ | ((first | refine rg_ ?_ | refine go_ ?_); generalize e : goR _ _ _ _ _ _ _ _ = r; simp (disch := omega) [hX, hg, hY, hge, hget, c36] at e; replace e : some _ = _ := e; subst e; (try dsimp only [goW])) | refine ct_ rfl ?_ | refine cf_ rfl ?_ | refine sk_ ?_ | refine ex_ ?_)
 refine text_loop0 valid hV p d s q a L ts hts to hs h S K _ ?_ t (a + 1) 0 _ _ _ _ _ _ _ _ _ _ hd1 (by omega) ?_ ?_ rfl hk1 hk2
 · (try dsimp only); omega
 · (try dsimp only); omega
 · exact ut_
end Go.Proofs.YtjecpdnjpggcoaaGreatDoor.IrM
namespace Go.Proofs.YtjecpdnjpggcoaaGreatDoor.IrM
open Go Go.CI
open Go.LexF hiding spacesB lettersB
set_option maxRecDepth 100000
set_option linter.unusedVariables false
set_option linter.unusedSimpArgs false
attribute [local irreducible] W Wo Wc WoR
attribute [local simp] goR regOut checkOne swapOne sameAt nthOp CVal.beq beqs CVal.block storesTo zAa zAe zBg evalE evalP evalL zAy nth setNth COp.cls COp.isStore CVal.isUndef CVal.whole CVal.cells CHeap.put CHeap.get CHeap.set wantedC zA2 zA0 partOf zB9 evalBin evalInt evalStr zB8 initVar descOf List.take List.drop CVal.lenOf CVal.isStr CVal.bare CVal.strip CVal.flat zAo zBm zB6 finishC cut fillCells setCells szOf szOf_desc elems bytesOf evalAppend fillElems mkElem setElem List.replicate sy_nbeq sy_neqF sy_leT sy_leF zAj dropped sy_wrap64 zAx zAc zBb sy_ibeqF sy_ieqF sy_ileT sy_ileF sy_iltT sy_iltF sy_ltT sy_ltF zAg zA8 eqVal extL extE keyIs findKV nthKV setKV CHeap.ty lookupN CHeap.note CHeap.tyOk dropAll freezeVal freezeAll freezeFlat cellsEq cellEq zAk zAq pMakeNoZero zBi pClone pIndex hasPair rowOf byteVals idxFrom hasFront idxSub
theorem wUQ1 {P : Prop} (h : P := by refine Wc.mkG 83 c83 (by kernel_rfl) rfl ?_; generalize e : zAa _ _ _ = r; simp (disch := omega) [hX, fl, ol, f6, a6, o6, f0, a0, o0, zAn, zAi, zB2, hbits8, c83] at e; subst e; repeat (first | refine sq_ ?_ | refine bl_ ?_ | ((first | refine rg_ ?_ | refine go_ ?_); generalize e : goR _ _ _ _ _ _ _ _ = r; simp (disch := omega) [hX, fl, ol, f6, a6, o6, f0, a0, o0, zAn, zAi, zB2, hbits8, c93, c83] at e; replace e : some _ = _ := e; subst e; (try dsimp only [goW])) | refine ct_ rfl ?_ | refine cf_ rfl ?_ | refine sk_ ?_ | refine ex_ ?_ | (refine W.loop ?_; try (generalize e : dropped _ _ _ = r; simp (disch := omega) [hX, fl, ol, f6, a6, o6, f0, a0, o0, zAn, zAi, zB2, hbits8, c93, c83] at e; subst e; try dsimp only)) | (refine Wc.mkG 93 c93 (by kernel_rfl) rfl ?_; generalize e : zAa _ _ _ = r; simp (disch := omega) [hX, fl, ol, f6, a6, o6, f0, a0, o0, zAn, zAi, zB2, hbits8, c93, c83] at e; subst e) | ((first | (refine W.ret ?_; (try simp only [zAl, zA3, zAf]); refine endW.of (.inl rfl) rfl ?_) | refine endW.of (.inr rfl) rfl ?_); generalize e : zAo _ _ _ = r; simp (disch := omega) [hX, fl, ol, f6, a6, o6, f0, a0, o0, zAn, zAi, zB2, hbits8, c93, c83] at e; subst e; (try dsimp only [goW]); (first | refine ⟨rfl, ?_⟩ | ((try simp only [hres] at hk); refine hk _ ?_; omega))))) : P := h
theorem wUQ2 {P : Prop} (h : P := by refine Wc.mkG 83 c83 (by kernel_rfl) rfl ?_; generalize e : zAa _ _ _ = r; simp (disch := omega) [hX, c83] at e; subst e; repeat (first | refine sq_ ?_ | refine bl_ ?_ | ((first | refine rg_ ?_ | refine go_ ?_); generalize e : goR _ _ _ _ _ _ _ _ = r; simp (disch := omega) [hX, c83] at e; replace e : some _ = _ := e; subst e; (try dsimp only [goW])) | refine ct_ rfl ?_ | refine cf_ rfl ?_ | refine sk_ ?_ | refine ex_ ?_ | (refine W.loop ?_; try (generalize e : dropped _ _ _ = r; simp (disch := omega) [hX, c83] at e; subst e; try dsimp only)) | (refine put_3b 65533 (by decide) (by decide) _ ?_ _ fun n1 hn1 => ⟨rfl, ?_⟩; exact fit_; (try dsimp only at hn1)) | ((first | (refine W.ret ?_; (try simp only [zAl, zA3, zAf]); refine endW.of (.inl rfl) rfl ?_) | refine endW.of (.inr rfl) rfl ?_); generalize e : zAo _ _ _ = r; simp (disch := omega) [hX, c83] at e; subst e; (try dsimp only [goW]); (refine hk _ ?_; omega)))) : P := h
theorem bits_u32 {a b : Nat} (ha : a < 4294967296) (hb : b < 4294967296) : zAp .and .u32 (a : Int) (b : Int) = some (.int .u32 ((a &&& b : Nat) : Int)) ∧ zAp .or .u32 (a : Int) (b : Int) = some (.int .u32 ((a ||| b : Nat) : Int)) := by
 have e1 : (BitVec.ofInt 32 (a : Int)).toNat = a := by rw [BitVec.ofInt_natCast, BitVec.toNat_ofNat]; exact Nat.mod_eq_of_lt ha
 have e2 : (BitVec.ofInt 32 (b : Int)).toNat = b := by rw [BitVec.ofInt_natCast, BitVec.toNat_ofNat]; exact Nat.mod_eq_of_lt hb
 have h1 : a &&& b < 4294967296 := Nat.lt_of_le_of_lt Nat.and_le_left ha
 have h2 : a ||| b < 2 ^ 32 := Nat.or_lt_two_pow ha hb
 have w : ∀ x : Nat, x < 4294967296 → IntKind.u32.wrap (x : Int) = x := fun x hx => by simp [IntKind.wrap, IntKind.bits, IntKind.signed]; omega
 constructor
 · show some (CVal.int .u32 (IntKind.u32.wrap ((BitVec.ofInt 32 (a : Int) &&& BitVec.ofInt 32 (b : Int)).toNat))) = _
   rw [BitVec.toNat_and, e1, e2, w _ h1]
 · show some (CVal.int .u32 (IntKind.u32.wrap ((BitVec.ofInt 32 (a : Int) ||| BitVec.ofInt 32 (b : Int)).toNat))) = _
   rw [BitVec.toNat_or, e1, e2, w _ h2]
theorem and_u8 {a b : Nat} (ha : a < 256) (hb : b < 256) : zAp .and .u8 (a : Int) (b : Int) = some (.int .u8 ((a &&& b : Nat) : Int)) := by
 have e1 : (BitVec.ofInt 8 (a : Int)).toNat = a := by rw [BitVec.ofInt_natCast, BitVec.toNat_ofNat]; exact Nat.mod_eq_of_lt ha
 have e2 : (BitVec.ofInt 8 (b : Int)).toNat = b := by rw [BitVec.ofInt_natCast, BitVec.toNat_ofNat]; exact Nat.mod_eq_of_lt hb
 have h1 : a &&& b < 256 := Nat.lt_of_le_of_lt Nat.and_le_left ha
 show some (CVal.int .u8 (IntKind.u8.wrap ((BitVec.ofInt 8 (a : Int) &&& BitVec.ofInt 8 (b : Int)).toNat))) = _
 rw [BitVec.toNat_and, e1, e2]
 simp [IntKind.wrap, IntKind.bits, IntKind.signed]
 try omega
theorem zAn {x : Int} (h : 0 ≤ x) (h2 : x < 4294967296) : IntKind.u32.wrap x = x := by
 simp [IntKind.wrap, IntKind.bits, IntKind.signed] <;> omega
theorem and63 {x y : Nat} (hx : x < 4294967296) (hy : x % 64 = y) : zAp .and .u32 (x : Int) 63 = some (.int .u32 (y : Int)) := by
 rw [show (63 : Int) = ((63 : Nat) : Int) from rfl, (bits_u32 hx (by decide)).1, show (63 : Nat) = 2 ^ 6 - 1 from rfl, Nat.and_two_pow_sub_one_eq_mod]
 rw [← hy]
theorem and8 {x y : Nat} (k : Nat) (m : Int) (hm : m = ((2 ^ k - 1 : Nat) : Int)) (hk : 2 ^ k - 1 < 256) (hx : x < 256) (hy : x % 2 ^ k = y) : zAp .and .u8 (x : Int) m = some (.int .u8 (y : Int)) := by
 rw [hm, and_u8 hx hk, Nat.and_two_pow_sub_one_eq_mod, hy]
theorem or32 {c s v w : Nat} (m : Int) (hm : m = ((c * 2 ^ s : Nat) : Int)) (hv : v < 2 ^ s) (hc : c * 2 ^ s < 4294967296) (hs : 2 ^ s ≤ 4294967296) (hw : c * 2 ^ s + v = w) : zAp .or .u32 m (v : Int) = some (.int .u32 (w : Int)) := by
 rw [hm, (bits_u32 hc (by omega)).2, Nat.or_comm, or_low hv, Nat.add_comm, hw]
theorem zB2 : IntKind.u32.bits = 32 := rfl
theorem hbits8 : IntKind.u8.bits = 8 := rfl
theorem zB0 {x k y : Nat} (h : x / k = y) : Int.fdiv (x : Int) (k : Int) = (y : Int) := by
 rw [Int.fdiv_eq_ediv_of_nonneg _ (by omega), ← h]; rfl
def putB (x : Nat) : List UInt8 :=
 if x < 128 then [UInt8.ofNat x] else if x < 2048 then [UInt8.ofNat (192 + x / 64), UInt8.ofNat (128 + x % 64)]
 else if 55296 ≤ x ∧ x < 57344 ∨ 1114111 < x then [239, 191, 189]
 else if x < 65536 then [UInt8.ofNat (224 + x / 4096), UInt8.ofNat (128 + x / 64 % 64), UInt8.ofNat (128 + x % 64)]
 else [UInt8.ofNat (240 + x / 262144), UInt8.ofNat (128 + x / 4096 % 64), UInt8.ofNat (128 + x / 64 % 64), UInt8.ofNat (128 + x % 64)]
theorem put_1 (x : Nat) (hx : x < 128) : Pe 83 [.int .u32 (x : Int)] (.str [UInt8.ofNat x]) := by
 intro h hf K hk
 obtain ⟨hu, hut, hX⟩ := fx4 hf
 refine Wc.mkG 83 c83 (by kernel_rfl) rfl ?_
 generalize e : zAa _ _ _ = r
 simp (disch := omega) [hX, zAn, zAi, c83] at e
 subst e
 repeat (first | refine sq_ ?_ | refine bl_ ?_ | ((first | refine rg_ ?_ | refine go_ ?_); generalize e : goR _ _ _ _ _ _ _ _ = r; simp (disch := omega) [hX, zAn, zAi, c93, c83] at e; replace e : some _ = _ := e; subst e; (try dsimp only [goW])) | refine ct_ rfl ?_ | refine cf_ rfl ?_ | refine sk_ ?_ | refine ex_ ?_ | (refine W.loop ?_; try (generalize e : dropped _ _ _ = r; simp (disch := omega) [hX, zAn, zAi, c93, c83] at e; subst e; try dsimp only)) | (refine Wc.mkG 93 c93 (by kernel_rfl) rfl ?_; generalize e : zAa _ _ _ = r; simp (disch := omega) [hX, zAn, zAi, c93, c83] at e; subst e) | ((first | (refine W.ret ?_; (try simp only [zAl, zA3, zAf]); refine endW.of (.inl rfl) rfl ?_) | refine endW.of (.inr rfl) rfl ?_); generalize e : zAo _ _ _ = r; simp (disch := omega) [hX, zAn, zAi, c93, c83] at e; subst e; (try dsimp only [goW]); (first | refine ⟨rfl, ?_⟩ | (refine hk _ ?_; omega))))
set_option maxHeartbeats 2000000 in
theorem put_2 (x : Nat) (hx : 128 ≤ x) (hx2 : x < 2048) : Pe 83 [.int .u32 (x : Int)] (.str [UInt8.ofNat (192 + x / 64), UInt8.ofNat (128 + x % 64)]) := by
 intro h hf K hk
 obtain ⟨hu, hut, hX⟩ := fx4 hf
 obtain ⟨yl, hyl⟩ : ∃ q : Nat, x / 64 = q := ⟨_, rfl⟩
 have fl : Int.fdiv (x : Int) 64 = (yl : Int) := zB0 hyl
 obtain ⟨wl, hwl⟩ : ∃ q : Nat, 192 + yl = q := ⟨_, rfl⟩
 have ol : zAp .or .u32 192 (yl : Int) = some (.int .u32 (wl : Int)) := or32 (c := 3) (s := 6) 192 rfl (by omega) (by decide) (by decide) hwl
 have f0 : Int.fdiv (x : Int) 1 = (x : Int) := zB0 (k := 1) (Nat.div_one x)
 obtain ⟨z0, hz0⟩ : ∃ q : Nat, x % 64 = q := ⟨_, rfl⟩
 have a0 : zAp .and .u32 (x : Int) 63 = some (.int .u32 (z0 : Int)) := and63 (by omega) hz0
 obtain ⟨w0, hw0⟩ : ∃ q : Nat, 128 + z0 = q := ⟨_, rfl⟩
 have o0 : zAp .or .u32 128 (z0 : Int) = some (.int .u32 (w0 : Int)) := or32 (c := 2) (s := 6) 128 rfl (by omega) (by decide) (by decide) hw0
 have hres : [UInt8.ofNat (192 + x / 64), UInt8.ofNat (128 + x % 64)] = [UInt8.ofNat wl, UInt8.ofNat w0] := by rw [← hwl, ← hyl, ← hw0, ← hz0]
 refine Wc.mkG 83 c83 (by kernel_rfl) rfl ?_
 generalize e : zAa _ _ _ = r
 simp (disch := omega) [hX, fl, ol, f0, a0, o0, zAn, zAi, zB2, hbits8, c83] at e
 subst e
 repeat (first | refine sq_ ?_ | refine bl_ ?_ | ((first | refine rg_ ?_ | refine go_ ?_); generalize e : goR _ _ _ _ _ _ _ _ = r; simp (disch := omega) [hX, fl, ol, f0, a0, o0, zAn, zAi, zB2, hbits8, c93, c83] at e; replace e : some _ = _ := e; subst e; (try dsimp only [goW])) | refine ct_ rfl ?_ | refine cf_ rfl ?_ | refine sk_ ?_ | refine ex_ ?_ | (refine W.loop ?_; try (generalize e : dropped _ _ _ = r; simp (disch := omega) [hX, fl, ol, f0, a0, o0, zAn, zAi, zB2, hbits8, c93, c83] at e; subst e; try dsimp only)) | (refine Wc.mkG 93 c93 (by kernel_rfl) rfl ?_; generalize e : zAa _ _ _ = r; simp (disch := omega) [hX, fl, ol, f0, a0, o0, zAn, zAi, zB2, hbits8, c93, c83] at e; subst e) | ((first | (refine W.ret ?_; (try simp only [zAl, zA3, zAf]); refine endW.of (.inl rfl) rfl ?_) | refine endW.of (.inr rfl) rfl ?_); generalize e : zAo _ _ _ = r; simp (disch := omega) [hX, fl, ol, f0, a0, o0, zAn, zAi, zB2, hbits8, c93, c83] at e; subst e; (try dsimp only [goW]); (first | refine ⟨rfl, ?_⟩ | ((try simp only [hres] at hk); refine hk _ ?_; omega))))
set_option maxHeartbeats 2000000 in
theorem put_3a (x : Nat) (hx : 2048 ≤ x) (hx2 : x < 55296) : Pe 83 [.int .u32 (x : Int)] (.str [UInt8.ofNat (224 + x / 4096), UInt8.ofNat (128 + x / 64 % 64), UInt8.ofNat (128 + x % 64)]) := by
 intro h hf K hk
 obtain ⟨hu, hut, hX⟩ := fx4 hf
 obtain ⟨yl, hyl⟩ : ∃ q : Nat, x / 4096 = q := ⟨_, rfl⟩
 have fl : Int.fdiv (x : Int) 4096 = (yl : Int) := zB0 hyl
 obtain ⟨wl, hwl⟩ : ∃ q : Nat, 224 + yl = q := ⟨_, rfl⟩
 have ol : zAp .or .u32 224 (yl : Int) = some (.int .u32 (wl : Int)) := or32 (c := 7) (s := 5) 224 rfl (by omega) (by decide) (by decide) hwl
 obtain ⟨y6, hy6⟩ : ∃ q : Nat, x / 64 = q := ⟨_, rfl⟩
 have f6 : Int.fdiv (x : Int) 64 = (y6 : Int) := zB0 hy6
 obtain ⟨z6, hz6⟩ : ∃ q : Nat, y6 % 64 = q := ⟨_, rfl⟩
 have a6 : zAp .and .u32 (y6 : Int) 63 = some (.int .u32 (z6 : Int)) := and63 (by omega) hz6
 obtain ⟨w6, hw6⟩ : ∃ q : Nat, 128 + z6 = q := ⟨_, rfl⟩
 have o6 : zAp .or .u32 128 (z6 : Int) = some (.int .u32 (w6 : Int)) := or32 (c := 2) (s := 6) 128 rfl (by omega) (by decide) (by decide) hw6
 have f0 : Int.fdiv (x : Int) 1 = (x : Int) := zB0 (k := 1) (Nat.div_one x)
 obtain ⟨z0, hz0⟩ : ∃ q : Nat, x % 64 = q := ⟨_, rfl⟩
 have a0 : zAp .and .u32 (x : Int) 63 = some (.int .u32 (z0 : Int)) := and63 (by omega) hz0
 obtain ⟨w0, hw0⟩ : ∃ q : Nat, 128 + z0 = q := ⟨_, rfl⟩
 have o0 : zAp .or .u32 128 (z0 : Int) = some (.int .u32 (w0 : Int)) := or32 (c := 2) (s := 6) 128 rfl (by omega) (by decide) (by decide) hw0
 have hres : [UInt8.ofNat (224 + x / 4096), UInt8.ofNat (128 + x / 64 % 64), UInt8.ofNat (128 + x % 64)] = [UInt8.ofNat wl, UInt8.ofNat w6, UInt8.ofNat w0] := by rw [← hwl, ← hyl, ← hw6, ← hz6, ← hy6, ← hw0, ← hz0]
 exact wUQ1
set_option maxHeartbeats 2000000 in
theorem put_3b (x : Nat) (hx : 57344 ≤ x) (hx2 : x < 65536) : Pe 83 [.int .u32 (x : Int)] (.str [UInt8.ofNat (224 + x / 4096), UInt8.ofNat (128 + x / 64 % 64), UInt8.ofNat (128 + x % 64)]) := by
 intro h hf K hk
 obtain ⟨hu, hut, hX⟩ := fx4 hf
 obtain ⟨yl, hyl⟩ : ∃ q : Nat, x / 4096 = q := ⟨_, rfl⟩
 have fl : Int.fdiv (x : Int) 4096 = (yl : Int) := zB0 hyl
 obtain ⟨wl, hwl⟩ : ∃ q : Nat, 224 + yl = q := ⟨_, rfl⟩
 have ol : zAp .or .u32 224 (yl : Int) = some (.int .u32 (wl : Int)) := or32 (c := 7) (s := 5) 224 rfl (by omega) (by decide) (by decide) hwl
 obtain ⟨y6, hy6⟩ : ∃ q : Nat, x / 64 = q := ⟨_, rfl⟩
 have f6 : Int.fdiv (x : Int) 64 = (y6 : Int) := zB0 hy6
 obtain ⟨z6, hz6⟩ : ∃ q : Nat, y6 % 64 = q := ⟨_, rfl⟩
 have a6 : zAp .and .u32 (y6 : Int) 63 = some (.int .u32 (z6 : Int)) := and63 (by omega) hz6
 obtain ⟨w6, hw6⟩ : ∃ q : Nat, 128 + z6 = q := ⟨_, rfl⟩
 have o6 : zAp .or .u32 128 (z6 : Int) = some (.int .u32 (w6 : Int)) := or32 (c := 2) (s := 6) 128 rfl (by omega) (by decide) (by decide) hw6
 have f0 : Int.fdiv (x : Int) 1 = (x : Int) := zB0 (k := 1) (Nat.div_one x)
 obtain ⟨z0, hz0⟩ : ∃ q : Nat, x % 64 = q := ⟨_, rfl⟩
 have a0 : zAp .and .u32 (x : Int) 63 = some (.int .u32 (z0 : Int)) := and63 (by omega) hz0
 obtain ⟨w0, hw0⟩ : ∃ q : Nat, 128 + z0 = q := ⟨_, rfl⟩
 have o0 : zAp .or .u32 128 (z0 : Int) = some (.int .u32 (w0 : Int)) := or32 (c := 2) (s := 6) 128 rfl (by omega) (by decide) (by decide) hw0
 have hres : [UInt8.ofNat (224 + x / 4096), UInt8.ofNat (128 + x / 64 % 64), UInt8.ofNat (128 + x % 64)] = [UInt8.ofNat wl, UInt8.ofNat w6, UInt8.ofNat w0] := by rw [← hwl, ← hyl, ← hw6, ← hz6, ← hy6, ← hw0, ← hz0]
 exact wUQ1
set_option maxHeartbeats 2000000 in
theorem put_4 (x : Nat) (hx : 65536 ≤ x) (hx2 : x ≤ 1114111) : Pe 83 [.int .u32 (x : Int)] (.str [UInt8.ofNat (240 + x / 262144), UInt8.ofNat (128 + x / 4096 % 64), UInt8.ofNat (128 + x / 64 % 64), UInt8.ofNat (128 + x % 64)]) := by
 intro h hf K hk
 obtain ⟨hu, hut, hX⟩ := fx4 hf
 obtain ⟨yl, hyl⟩ : ∃ q : Nat, x / 262144 = q := ⟨_, rfl⟩
 have fl : Int.fdiv (x : Int) 262144 = (yl : Int) := zB0 hyl
 obtain ⟨wl, hwl⟩ : ∃ q : Nat, 240 + yl = q := ⟨_, rfl⟩
 have ol : zAp .or .u32 240 (yl : Int) = some (.int .u32 (wl : Int)) := or32 (c := 15) (s := 4) 240 rfl (by omega) (by decide) (by decide) hwl
 obtain ⟨y12, hy12⟩ : ∃ q : Nat, x / 4096 = q := ⟨_, rfl⟩
 have f12 : Int.fdiv (x : Int) 4096 = (y12 : Int) := zB0 hy12
 obtain ⟨z12, hz12⟩ : ∃ q : Nat, y12 % 64 = q := ⟨_, rfl⟩
 have a12 : zAp .and .u32 (y12 : Int) 63 = some (.int .u32 (z12 : Int)) := and63 (by omega) hz12
 obtain ⟨w12, hw12⟩ : ∃ q : Nat, 128 + z12 = q := ⟨_, rfl⟩
 have o12 : zAp .or .u32 128 (z12 : Int) = some (.int .u32 (w12 : Int)) := or32 (c := 2) (s := 6) 128 rfl (by omega) (by decide) (by decide) hw12
 obtain ⟨y6, hy6⟩ : ∃ q : Nat, x / 64 = q := ⟨_, rfl⟩
 have f6 : Int.fdiv (x : Int) 64 = (y6 : Int) := zB0 hy6
 obtain ⟨z6, hz6⟩ : ∃ q : Nat, y6 % 64 = q := ⟨_, rfl⟩
 have a6 : zAp .and .u32 (y6 : Int) 63 = some (.int .u32 (z6 : Int)) := and63 (by omega) hz6
 obtain ⟨w6, hw6⟩ : ∃ q : Nat, 128 + z6 = q := ⟨_, rfl⟩
 have o6 : zAp .or .u32 128 (z6 : Int) = some (.int .u32 (w6 : Int)) := or32 (c := 2) (s := 6) 128 rfl (by omega) (by decide) (by decide) hw6
 have f0 : Int.fdiv (x : Int) 1 = (x : Int) := zB0 (k := 1) (Nat.div_one x)
 obtain ⟨z0, hz0⟩ : ∃ q : Nat, x % 64 = q := ⟨_, rfl⟩
 have a0 : zAp .and .u32 (x : Int) 63 = some (.int .u32 (z0 : Int)) := and63 (by omega) hz0
 obtain ⟨w0, hw0⟩ : ∃ q : Nat, 128 + z0 = q := ⟨_, rfl⟩
 have o0 : zAp .or .u32 128 (z0 : Int) = some (.int .u32 (w0 : Int)) := or32 (c := 2) (s := 6) 128 rfl (by omega) (by decide) (by decide) hw0
 have hres : [UInt8.ofNat (240 + x / 262144), UInt8.ofNat (128 + x / 4096 % 64), UInt8.ofNat (128 + x / 64 % 64), UInt8.ofNat (128 + x % 64)] = [UInt8.ofNat wl, UInt8.ofNat w12, UInt8.ofNat w6, UInt8.ofNat w0] := by rw [← hwl, ← hyl, ← hw12, ← hz12, ← hy12, ← hw6, ← hz6, ← hy6, ← hw0, ← hz0]
 refine Wc.mkG 83 c83 (by kernel_rfl) rfl ?_
 generalize e : zAa _ _ _ = r
 simp (disch := omega) [hX, fl, ol, f12, a12, o12, f6, a6, o6, f0, a0, o0, zAn, zAi, zB2, hbits8, c83] at e
 subst e
 repeat (first | refine sq_ ?_ | refine bl_ ?_ | ((first | refine rg_ ?_ | refine go_ ?_); generalize e : goR _ _ _ _ _ _ _ _ = r; simp (disch := omega) [hX, fl, ol, f12, a12, o12, f6, a6, o6, f0, a0, o0, zAn, zAi, zB2, hbits8, c93, c83] at e; replace e : some _ = _ := e; subst e; (try dsimp only [goW])) | refine ct_ rfl ?_ | refine cf_ rfl ?_ | refine sk_ ?_ | refine ex_ ?_ | (refine W.loop ?_; try (generalize e : dropped _ _ _ = r; simp (disch := omega) [hX, fl, ol, f12, a12, o12, f6, a6, o6, f0, a0, o0, zAn, zAi, zB2, hbits8, c93, c83] at e; subst e; try dsimp only)) | (refine Wc.mkG 93 c93 (by kernel_rfl) rfl ?_; generalize e : zAa _ _ _ = r; simp (disch := omega) [hX, fl, ol, f12, a12, o12, f6, a6, o6, f0, a0, o0, zAn, zAi, zB2, hbits8, c93, c83] at e; subst e) | ((first | (refine W.ret ?_; (try simp only [zAl, zA3, zAf]); refine endW.of (.inl rfl) rfl ?_) | refine endW.of (.inr rfl) rfl ?_); generalize e : zAo _ _ _ = r; simp (disch := omega) [hX, fl, ol, f12, a12, o12, f6, a6, o6, f0, a0, o0, zAn, zAi, zB2, hbits8, c93, c83] at e; subst e; (try dsimp only [goW]); (first | refine ⟨rfl, ?_⟩ | ((try simp only [hres] at hk); refine hk _ ?_; omega))))
theorem put_s (x : Nat) (hx : 55296 ≤ x) (hx2 : x < 57344) : Pe 83 [.int .u32 (x : Int)] (.str [239, 191, 189]) := by
 intro h hf K hk
 obtain ⟨hu, hut, hX⟩ := fx4 hf
 exact wUQ2
theorem put_g (x : Nat) (hx : 1114111 < x) (hx2 : x < 4294967296) : Pe 83 [.int .u32 (x : Int)] (.str [239, 191, 189]) := by
 intro h hf K hk
 obtain ⟨hu, hut, hX⟩ := fx4 hf
 exact wUQ2
theorem put_F (x : Nat) (hx : x < 4294967296) : Pe 83 [.int .u32 (x : Int)] (.str (putB x)) := by
 unfold putB
 split
 · exact put_1 x (by omega)
 · split
   · exact put_2 x (by omega) (by omega)
   · split
     · rename_i h
       rcases h with h | h
       · exact put_s x h.1 h.2
       · exact put_g x h hx
     · split
       · rcases Nat.lt_or_ge x 55296 with h | h
         · exact put_3a x (by omega) h
         · exact put_3b x (by omega) (by omega)
       · exact put_4 x (by omega) (by omega)
end Go.Proofs.YtjecpdnjpggcoaaGreatDoor.IrM
