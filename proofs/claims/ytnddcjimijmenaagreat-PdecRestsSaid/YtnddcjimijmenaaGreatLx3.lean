/- What the functions of the law 'PdecRests' do: part 3 of 3. -/
import Derived.Test.YtnddcjimijmenaaGreatLx2
namespace Go.Proofs.YtnddcjimijmenaaGreat.IrR
open Go Go.CI
set_option maxRecDepth 100000
set_option maxHeartbeats 4000000
set_option linter.unusedVariables false
set_option linter.unusedSimpArgs false
attribute [local irreducible] W Wo Wc WoR

/-- What is told of messages that were read. -/
def mW : List (List UInt8) → List CVal
  | [] => [.nils, .str []]
  | r :: t => [if t = [] then .nils else .imm .none 2 [.agg [.int .i64 1, .imm .full 4 [.agg (.int .u64 0 :: .str [] :: mW t)]]], .str r]
def DC (c : List (List UInt8)) : Prop := ∀ (q : Nat) (h : CHeap) (ids : List Nat) (K : CVal → CHeap → Prop), Fit h → SR c q h.ents h.tys ids → ids.Nodup → flen c < 90000 →
  (∀ h', Fit h' → h.next ≤ h'.next → (∀ m, m < h.next → m ∉ ids → getEnt h'.ents m = getEnt h.ents m) → (∀ m, m < h.next → lookupN h'.tys m = lookupN h.tys m) → K (.agg (mW c)) h') → Wc tree.getF 21 [.ptr q SD 0] h K
theorem byteVals_bv : ∀ x : List UInt8, byteVals (x.map bv) = some x
  | [] => rfl
  | c :: x => by
    have h1 := byteVals_bv x
    have h2 : c.toNat < 256 := c.toNat_lt
    simp only [List.map_cons, byteVals, h1]
    rw [if_pos (by simp; omega)]
    simp
theorem str_F {q a b : Nat} {r : List UInt8} {b0 b1 : CVal} {bi : List Nat} (hrl : r.length < 90000) {h : CHeap} (hf : Fit h) (hq : getEnt h.ents q = some (staO a b b0 b1)) (hbr : BR r q b0 b1 h.ents h.tys bi) {K : CVal → CHeap → Prop}
    (hk : ∀ h', Fit h' → h'.next = h.next → h'.tys = h.tys → (∀ m, m ∉ bi → getEnt h'.ents m = getEnt h.ents m) → K (.str r) h') : Wc tree.getF 37 [.ptr q SD 5] h K := by
  rcases hbr with ⟨rfl, rfl, rfl, rfl⟩ | ⟨hr0, w, v, rfl, rfl, rfl, hw, hwt⟩
  · refine Wc.primM (f := 37) (p := (pBString 5)) (by kernel_rfl) ?_
    generalize e : ((pBString 5)) _ _ = z
    simp [pBString, hq] at e
    subst e
    exact hk _ hf rfl rfl fun _ _ => rfl
  · have hpos : 0 < r.length := List.length_pos_iff.2 hr0
    have htk : List.take r.length (r.map bv) = r.map bv := List.take_of_length_le (by simp)
    have hbv := byteVals_bv r
    have hlb : (r.map bv).length = r.length := by simp
    refine Wc.primM (f := 37) (p := (pBString 5)) (by kernel_rfl) ?_
    generalize e : ((pBString 5)) _ _ = z
    generalize r.map bv = RB at *
    simp (disch := omega) [pBString, rowOf, CHeap.ty, hq, hw, hwt, hpos, htk, hbv, hlb] at e
    subst e
    exact hk ⟨_, _, _⟩ ⟨hf.1.set, hf.2⟩ rfl rfl fun m hm => getEnt_setEnt_ne (fun e => hm (by simp [e]))
abbrev dnL : CCode := (.loop true (.seq (.region [.g (.ext .nxt [(.var 1)]), .g (.extract 0 (.loc 0))] [(2, 1)] [] []) (.seq (.cond (.var 2) .skip (.exit 0)) (.block 1 (.seq (.region [.g (.extl .ent [(.var 1)]), .g (.extract 0 (.loc 0)), .g (.extract 1 (.loc 1)), .m (.loc 1), .m (.loc 1)] [(3, 3), (4, 4)] [] []) (.region [.v 0, .n 0, .f 3 0, .l 0, .v 3, .v 4, .g (.call false 21 [(.loc 0)]), .g (.build [(.int .u64 0), (.str []), .nils, (.str [])] [(2, 2, (.loc 0))]), .g (.lit .imm true [(.int .u64 0), (.str []), .nils, (.str [])] 1 [(0, (.loc 0))]), .g (.ext (.mset (.int .i64)) [(.loc 5), (.loc 4), (.loc 0)])] [] [(3, 0, 1)] []))))))
theorem done_F (r : List UInt8) (t : List (List UInt8)) (IH : t ≠ [] → DC t) : DC (r :: t) := by
  intro q h ids K hf hsr hnd hfl hk
  obtain ⟨a, b, b0, b1, bi, si, rfl, hq, ha, hbr, hsub⟩ := hsr
  obtain ⟨hu, hut, hX⟩ := fx4 hf
  have lq := in_under hu hq
  have la := in_under hu ha
  have lb : b < h.next := by rcases hsub with ⟨_, h1, _⟩ | ⟨_, _, h1, _⟩ <;> exact in_under hu h1
  have lbi : ∀ m ∈ bi, m < h.next := fun m hm => by
    rcases hbr with ⟨_, _, _, rfl⟩ | ⟨_, w, v, _, _, rfl, hw, _⟩
    · cases hm
    · simp at hm; subst hm; exact in_under hu hw
  have hrl : r.length < 90000 := by simp [flen] at hfl; omega
  simp only [List.nodup_cons, List.mem_cons, List.mem_append, not_or] at hnd
  obtain ⟨⟨qa, qb, qbi, qsi⟩, ⟨ab, abi, asi⟩, ⟨bbi, bsi⟩, hn2⟩ := hnd
  have S1 : ∀ (cs : List CVal) (n1 n2 : Nat), h.next ≤ n1 → n1 < n2 → ∀ K : CVal → CHeap → Prop, (∀ h2 : CHeap, Fit h2 → h2.next = n2 → h2.tys = h.tys → getEnt h2.ents n1 = some (.cells cs) → (∀ m, m < h.next → m ∉ bi → getEnt h2.ents m = getEnt h.ents m) → (∀ m, h.next ≤ m → m ≠ n1 → getEnt h2.ents m = none) → K (.str r) h2) → Wc tree.getF 37 [.ptr q SD 5] ⟨(n1, .cells cs) :: h.ents, n2, h.tys⟩ K := by
    intro cs n1 n2 g1 g2 K hK
    refine str_F (h := ⟨(n1, .cells cs) :: h.ents, n2, h.tys⟩) (a := a) (b := b) hrl ⟨Under.cons g2 (hu.le (by (try dsimp only); omega)), hut.le (by (try dsimp only); omega)⟩ (by simp (disch := omega) [getEnt, hq]) (hbr.frame (fun m hm => ?_) (fun _ _ => rfl)) fun h' k1 k2 k3 k4 => hK h' k1 k2 k3 ?_ (fun m hm hmb => ?_) (fun m hm hmn => ?_)
    · have := lbi m hm; simp (disch := omega) [getEnt]
    · rw [k4 n1 (fun hh => by have := lbi _ hh; omega)]; simp [getEnt]
    · rw [k4 m hmb]; simp (disch := omega) [getEnt]
    · have : (n1 == m) = false := by simp; omega
      rw [k4 m (fun hh => by have := lbi _ hh; omega), getEnt, this]
      exact getEnt_under hu hm
  refine mk_ 21 c21 (s_ ?_)
  have hZ := j2_ hX hq
  repeat ((fail_if_success (show Wc tree.getF 37 _ _ _)); first
    | refine st_ rfl ?_
    | ((first | refine W.regG ?_ | refine WoR.go ?_); generalize e : goR .. = r; simp (disch := omega) [hZ] at e; replace e : some _ = _ := e; subst e; (try dsimp only [goW]))
    | refine W.loop ?_
    | (refine dk_ ?_; refine W.loop ?_)
    | (simp only [outOf, thenW_ret, thenW_exit, thenW_normal, roundW, reduceIte]))
  refine S1 _ _ _ ?_ ?_ _ fun h2 f2 k2 k3 k4 k5 k6 => ⟨rfl, ?_⟩
  · exact om_
  · exact om_
  have hq2 := (k5 q lq qbi).trans hq
  have ha2 := (k5 a la abi).trans ha
  rw [show h2 = ⟨h2.ents, h2.next, h2.tys⟩ from rfl, k2, k3]
  obtain ⟨hu2, hut2, hX2⟩ := fx4 f2
  rw [k2] at hu2 hut2 hX2
  rcases hsub with ⟨e1, hb, hsi⟩ | ⟨e1, q2, hb, hs⟩
  · subst e1
    subst hsi
    have hb2 := (k5 b lb bbi).trans hb
    have hZ := j6_ hX2 hq2 ha2 hb2 k4 k6
    repeat ((fail_if_success (show W tree.getF dnT _ _)); first
      | refine st_ rfl ?_
      | ((first | refine W.regG ?_ | refine WoR.go ?_); generalize e : goR .. = r; simp (disch := omega) [hZ] at e; replace e : some _ = _ := e; subst e; (try dsimp only [goW]))
      | refine W.loop ?_
      | (refine dk_ ?_; refine W.loop ?_)
      | (simp only [outOf, thenW_ret, thenW_exit, thenW_normal, roundW, reduceIte]))
    show W tree.getF dnT _ _
    refine dn_t0 (a := a) (b := b) (b0 := b0) (b1 := b1) (r := r) ?_ ?_ ?_ ?_ ?_ ?_ ?_ ?_ _ _ _ _ _ _ _ _ _ _ _ _ ?_
    · exact ⟨Under.cons (by (try dsimp only); omega) (Under.cons (by (try dsimp only); omega) (hu2.le (by (try dsimp only); omega))), hut.le (by (try dsimp only); omega)⟩
    · simp (disch := omega) [getEnt, hq2]
    · simp (disch := omega) [getEnt, ha2]
    · simp (disch := omega) [getEnt]
    · simp (disch := omega) [getEnt, k4]
    · omega
    · omega
    · omega
    · intro h' y1 y2 y3 y4
      refine hk h' y1 (by dsimp only at y2; omega) (fun m hm hmi => ?_) (fun m hm => y4 m hm)
      rw [y3 m hm]
      simp (disch := omega) [getEnt]
      simp only [List.mem_cons, List.mem_append, not_or] at hmi
      exact k5 m hm hmi.2.2.2.1
  · have hb2 := (k5 b lb bbi).trans hb
    have hZ := j6_ hX2 hq2 ha2 hb2 k4 k6
    repeat ((fail_if_success (show Wc tree.getF 21 _ _ _)); first
      | refine st_ rfl ?_
      | ((first | refine W.regG ?_ | refine WoR.go ?_); generalize e : goR .. = r; simp (disch := omega) [hZ] at e; replace e : some _ = _ := e; subst e; (try dsimp only [goW]))
      | refine W.loop ?_
      | (refine dk_ ?_; refine W.loop ?_)
      | (simp only [outOf, thenW_ret, thenW_exit, thenW_normal, roundW, reduceIte]))
    have hdis : ∀ m ∈ bi, ∀ m' ∈ si, m ≠ m' := (List.nodup_append.1 hn2).2.2
    have lsi : ∀ m ∈ si, m < h.next := fun m hm => hs.lt hu m hm
    have nbs : ∀ m, m ∈ si → m ∉ bi := fun m hm hh => hdis m hh m hm rfl
    refine IH e1 q2 _ si _ ⟨Under.cons (by (try dsimp only); omega) (Under.cons (by (try dsimp only); omega) (hu2.le (by (try dsimp only); omega))), hut.le (by (try dsimp only); omega)⟩ (hs.frame (fun m hm => ?_) (fun _ _ => rfl)) (List.nodup_append.1 hn2).2.1 (by simp [flen] at hfl ⊢; omega) fun h4 f4 m1 m2 m3 => ⟨rfl, ?_⟩
    · have := lsi m hm
      simp (disch := omega) [getEnt]
      exact k5 m this (nbs m hm)
    dsimp only at m1 m2 m3
    have nis : ∀ m, h.next ≤ m → m ∉ si := fun m hm hh => by have := lsi m hh; omega
    have gq : getEnt h4.ents q = some (staO a b b0 b1) := by rw [m2 q (by omega) qsi]; simp (disch := omega) [getEnt, hq2]
    have ga : getEnt h4.ents a = some (.map 0 []) := by rw [m2 a (by omega) asi]; simp (disch := omega) [getEnt, ha2]
    have gb : getEnt h4.ents b = some (.map 1 [(0, .int .i64 1, .ptr q2 SD 0)]) := by rw [m2 b (by omega) bsi]; simp (disch := omega) [getEnt, hb2]
    have g14 : getEnt h4.ents h.next = some (.cells [.nils, .str []]) := by rw [m2 _ (by omega) (nis _ (by omega))]; simp (disch := omega) [getEnt, k4]
    have g13 : getEnt h4.ents (h.next + 1 + 1 + 1 + 1 + 1 + 1) = some (.cells [.nils, .str r]) := by rw [m2 _ (by omega) (nis _ (by omega))]; simp (disch := omega) [getEnt]
    have gi : getEnt h4.ents (h.next + 1 + 7 + 1 + 1 + 1 + 1) = some (.map b [(1, .undef, .undef), (0, .int .i64 1, .undef)]) := by rw [m2 _ (by omega) (nis _ (by omega))]; simp (disch := omega) [getEnt]
    obtain ⟨hu4, hut4, hX4⟩ := fx4 f4
    obtain ⟨z1, rt, hz, hs1⟩ : ∃ z1 rt, mW t = [z1, .str rt] ∧ z1.strip = z1 := by
      cases t with
      | nil => exact ⟨_, _, rfl, rfl⟩
      | cons x t => refine ⟨_, _, rfl, ?_⟩; split <;> rfl
    simp only [CVal.strip] at hs1
    rw [hz]
    have hZ := j9_ hX4 gq ga gb g14 g13 gi hq2 hs1
    repeat ((fail_if_success (show W tree.getF _ (dropped true _ _) _)); first
      | refine st_ rfl ?_
      | ((first | refine W.regG ?_ | refine WoR.go ?_); generalize e : goR .. = r; simp (disch := omega) [hZ] at e; replace e : some _ = _ := e; subst e; (try dsimp only [goW]))
      | refine W.loop ?_
      | (refine dk_ ?_; refine W.loop ?_)
      | (simp only [outOf, thenW_ret, thenW_exit, thenW_normal, roundW, reduceIte]))
    show W tree.getF _ (dropped true _ _) _
    simp only [dropped, if_true]
    obtain ⟨X, hX⟩ : ∃ X : CObj, X = .map 1 [(0, .int .i64 1, .imm .full 4 [.agg (.int .u64 0 :: .str [] :: [z1, .str rt])])] := ⟨_, rfl⟩
    obtain ⟨h5, e5⟩ : ∃ h5 : CHeap, h5 = ⟨dropCells (setEnt h4.ents a X) (h.next + 1 + 7 + 5), h4.next, h4.tys⟩ := ⟨_, rfl⟩
    have f5 : Fit h5 := by rw [e5]; exact ⟨un_dropC hu4.set, hut4⟩
    have n5 : h5.next = h4.next := by rw [e5]
    have t5 : h5.tys = h4.tys := by rw [e5]
    have v5 : ∀ m, m < h.next + 1 + 7 + 5 → m ≠ a → getEnt h5.ents m = getEnt h4.ents m := fun m hm hma => by rw [e5]; dsimp only; rw [ge_dropC hm, getEnt_setEnt_ne hma]
    have va : getEnt h5.ents a = some X := by rw [e5]; dsimp only; rw [ge_dropC (by omega)]; exact sy_getEnt_setEnt ga
    have vq := (v5 q (by omega) qa).trans gq
    have vb := (v5 b (by omega) (Ne.symm ab)).trans gb
    have v14 := (v5 _ (by omega) (by omega)).trans g14
    have v13 := (v5 _ (by omega) (by omega)).trans g13
    have vi := (v5 _ (by omega) (by omega)).trans gi
    rw [← hX, ← e5, show h5 = ⟨h5.ents, h5.next, h5.tys⟩ from rfl]
    rw [hX] at va
    obtain ⟨hu5, hut5, hX5⟩ := fx4 f5
    have l5 : h.next + 1 + 7 + 5 + 2 + 5 + 10 ≤ h5.next := by omega
    refine W.loop ?_
    have hZ := j7_ hX5 vq va vb v14 v13 vi
    repeat ((fail_if_success (show W tree.getF dnT _ _)); first
      | refine st_ rfl ?_
      | ((first | refine W.regG ?_ | refine WoR.go ?_); generalize e : goR .. = r; simp (disch := omega) [hZ] at e; replace e : some _ = _ := e; subst e; (try dsimp only [goW]))
      | (simp only [outOf, thenW_ret, thenW_exit, thenW_normal, roundW, reduceIte]))
    show W tree.getF dnT _ _
    refine dn_t1 (a := a) (b := b) (b0 := b0) (b1 := b1) (r := r) (es := [.agg (.int .u64 0 :: .str [] :: [z1, .str rt])]) rfl ?_ ?_ ?_ ?_ ?_ ?_ ?_ ?_ _ _ _ _ _ _ _ _ _ _ _ _ ?_
    · exact ⟨hu5.le (by (try dsimp only); omega), hut5.le (by (try dsimp only); omega)⟩
    · exact vq
    · exact va
    · exact v13
    · exact v14
    · omega
    · omega
    · omega
    · intro h' y1 y2 y3 y4
      dsimp only at y2 y3 y4
      have hm1 : mW (r :: t) = [.imm .none 2 [.agg [.int .i64 1, .imm .full 4 [.agg (.int .u64 0 :: .str [] :: [z1, .str rt])]]], .str r] := by
        rw [mW, if_neg e1, hz]
      rw [hm1] at hk
      refine hk h' y1 (by omega) (fun m hm hmi => ?_) (fun m hm => ?_)
      · simp only [List.mem_cons, List.mem_append, not_or] at hmi
        rw [y3 m hm, v5 m (by omega) hmi.2.1, m2 m (by omega) hmi.2.2.2.2]
        simp (disch := omega) [getEnt]
        exact k5 m hm hmi.2.2.2.1
      · rw [y4 m hm, t5, m3 m (by omega)]
theorem done_all : ∀ c : List (List UInt8), c ≠ [] → DC c
  | [], h => absurd rfl h
  | r :: t, _ => done_F r t (fun h => done_all t h)
end Go.Proofs.YtnddcjimijmenaaGreat.IrR
namespace Go.Proofs.YtnddcjimijmenaaGreat.IrR
open Go Go.CI
set_option maxRecDepth 100000
set_option maxHeartbeats 4000000
set_option linter.unusedVariables false
set_option linter.unusedSimpArgs false
attribute [local irreducible] W Wo Wc WoR

def decV (x : DS) : CVal := if x.2.2 = 0 then .tup [.agg (mW x.1), .int .i64 0] else .tup [.agg [.nils, .str []], .int .i64 x.2.2]
theorem bytesOf_bv : ∀ x : List UInt8, bytesOf (x.map bv) = some x
  | [] => rfl
  | c :: x => by
    have h1 := bytesOf_bv x
    simp only [List.map_cons, bytesOf, h1]
    simp
theorem decode_F (b : List UInt8) (hb : b.length < 80000) {h : CHeap} (hf : Fit h) {K : CVal → CHeap → Prop} (hk : ∀ h', Fit h' → h.next ≤ h'.next → (∀ m, m < h.next → getEnt h'.ents m = getEnt h.ents m) → K (decV (feedC 20 b ([[]], 0, 0))) h') : Wc tree.getF 10 [.agg schA, .str [65], .imm .none 1 (b.map bv)] h K := by
  obtain ⟨hu, hut, hX⟩ := fx4 hf
  have hbo := bytesOf_bv b
  generalize b.map bv = bs at *
  refine mk_ 10 c10 (s_ ?_)
  have hZ := j2_ hX hbo
  repeat ((fail_if_success (show Wc tree.getF 19 _ _ _)); first
    | refine st_ rfl ?_
    | ((first | refine W.regG ?_ | refine WoR.go ?_); generalize e : goR .. = r; simp (disch := omega) [hZ] at e; replace e : some _ = _ := e; subst e; (try dsimp only [goW]))
    | refine W.loop ?_
    | (refine dk_ ?_; refine W.loop ?_)
    | (simp only [outOf, thenW_ret, thenW_exit, thenW_normal, roundW, reduceIte])
    | (refine pe_ (message_A) fun m1 hm1 => ⟨rfl, ?_⟩; (try dsimp only at hm1)))
  refine fre_F (n := 0) (e := 0) fit_ (by simp (disch := omega) [getEnt]) fun z a2 b2 q n1 cs p1 p2 p3 p4 p5 => ⟨rfl, ?_⟩
  dsimp only at p1 p5
  repeat ((fail_if_success (show Wc tree.getF 20 _ _ _)); first
    | refine st_ rfl ?_
    | ((first | refine W.regG ?_ | refine WoR.go ?_); generalize e : goR .. = r; simp (disch := omega) [hZ] at e; replace e : some _ = _ := e; subst e; (try dsimp only [goW]))
    | refine W.loop ?_
    | (refine dk_ ?_; refine W.loop ?_)
    | (simp only [outOf, thenW_ret, thenW_exit, thenW_normal, roundW, reduceIte]))
  have inv := feedC_inv 20 b ([[]], 0, 0) (by simp) (by simp) (by simp) (by simp)
  have fl := feedC_len 20 b ([[]], 0, 0)
  refine feed_F 20 ([[]], 0, 0) 1 _ q b (m1 + 2 + 1 + 1) _ [q, a2, b2] _ rfl rfl ⟨?_, ?_, ?_, ?_, ?_⟩ (by simp) (by simp) (by simp) (by simp [flen]; omega) fun h2 ids2 y1 y2 => ⟨rfl, ?_⟩
  · exact fit_
  · simp (disch := omega) [getEnt]
  · refine ⟨a2, b2, .nilp, .nils, [], [], rfl, ?_, ?_, .inl ⟨rfl, rfl, rfl, rfl⟩, .inl ⟨rfl, ?_, rfl⟩⟩ <;> simp (disch := omega) [getEnt, setEnt]
  · simp; omega
  · simp; omega
  have y2n := y2.nx
  have y2e := y2.en
  dsimp only at y2n y2e
  have hd2 := y1.dec
  have hs2 := y1.sr
  have f2 := y1.fit
  have g5 : getEnt h2.ents (h.next + 1) = some (.cells [.nils, .str []]) := by rw [y2e _ (by omega) (by simp; omega) (by omega)]; simp (disch := omega) [getEnt]
  have hnd2 := y1.nd
  have hnm2 := y1.nm
  have y2i := y2.id
  dsimp only at y2i
  have c5n : h.next + 1 ∉ ids2 := fun hh => by have := y2i _ hh; simp at this; omega
  have nin : ∀ m, m < h.next → m ∉ ids2 := fun m hm hh => by have := y2i _ hh; simp at this; omega
  have fr2 : ∀ m, m < h.next → getEnt h2.ents m = getEnt h.ents m := fun m hm => by rw [y2e _ (by omega) (by simp; omega) (by omega)]; simp (disch := omega) [getEnt]
  clear y1 y2 y2e y2i
  generalize feedC 20 b ([[]], 0, 0) = x at *
  obtain ⟨c, n, e⟩ := x
  dsimp only at hd2 hs2 inv fl
  obtain ⟨hu2, hut2, hX2⟩ := fx4 f2
  have l5 := in_under hu2 g5
  have ld := in_under hu2 hd2
  have lq := hs2.lt hu2
  have hc0 : c ≠ [] := inv.2.2.2
  have hY := fx5 f2 g5
  by_cases he : e = 0
  · subst he
    rw [show decV (c, n, 0) = .tup [.agg (mW c), .int .i64 0] from rfl] at hk
    have hZ := j3_ hX2 hd2 g5
    repeat ((fail_if_success (show Wc tree.getF 21 _ _ _)); first
      | refine st_ rfl ?_
      | ((first | refine W.regG ?_ | refine WoR.go ?_); generalize e : goR .. = r; simp (disch := omega) [hZ] at e; replace e : some _ = _ := e; subst e; (try dsimp only [goW]))
      | refine W.loop ?_
      | (refine dk_ ?_; refine W.loop ?_)
      | (simp only [outOf, thenW_ret, thenW_exit, thenW_normal, roundW, reduceIte]))
    have D1 := done_all c hc0
    refine D1 q _ ids2 _ ?_ (hs2.frame (fun _ _ => rfl) (fun _ _ => rfl)) hnd2 (by simp [flen] at fl ⊢; omega) fun h3 f3 m1 m2 m3 => ⟨rfl, ?_⟩
    · exact ⟨hu2.le (by (try dsimp only); omega), hut2.le (by (try dsimp only); omega)⟩
    obtain ⟨z1, rt, hz, hs1⟩ : ∃ z1 rt, mW c = [z1, .str rt] ∧ z1.strip = z1 := by
      cases c with
      | nil => exact ⟨_, _, rfl, rfl⟩
      | cons x t => refine ⟨_, _, rfl, ?_⟩; split <;> rfl
    dsimp only at m1 m2 m3
    have g3 : getEnt h3.ents (h.next + 1) = some (.cells [.nils, .str []]) := by rw [m2 _ (by omega) c5n]; exact g5
    obtain ⟨hu3, hut3, hX3⟩ := fx4 f3
    have hY3 := fx5 f3 g3
    simp only [CVal.strip] at hs1
    rw [hz] at hk ⊢
    have hZ := j4_ hX3 g3 hY3 hs1
    repeat (first
      | refine vk_ ?_)
    refine rk_ ?_
    refine hk ⟨_, _, _⟩ ⟨(un_dropC hu3.set).le (by (try dsimp only); omega), hut3.le (by (try dsimp only); omega)⟩ (by (try dsimp only); omega) fun m hm => ?_
    dsimp only
    rw [ge_dropC hm, getEnt_setEnt_ne (by omega), m2 m (by omega) (nin m hm), fr2 m hm]
  · have he' : ((e : Int) != 0) = true := by simp; omega
    rw [show decV (c, n, e) = .tup [.agg [.nils, .str []], .int .i64 e] from by simp [decV, he]] at hk
    have hdd : ∀ x, getEnt (setEnt h2.ents (h.next + 1) x) (m1 + 2 + 1 + 1) = some (decO n e) := fun x => by rw [getEnt_setEnt_ne (by omega)]; exact hd2
    have hZ := j6_ hX2 hd2 g5 he' hY hdd
    repeat (first
      | refine vk_ ?_)
    refine rk_ ?_
    refine hk ⟨_, _, _⟩ ⟨(un_dropC hu2.set).le (by (try dsimp only); omega), hut2.le (by (try dsimp only); omega)⟩ (by (try dsimp only); omega) fun m hm => ?_
    dsimp only
    rw [ge_dropC hm, getEnt_setEnt_ne (by omega), fr2 m hm]
end Go.Proofs.YtnddcjimijmenaaGreat.IrR
namespace Go.Proofs.YtnddcjimijmenaaGreat.IrR
open Go Go.CI
set_option maxRecDepth 100000
set_option maxHeartbeats 4000000
set_option linter.unusedVariables false
set_option linter.unusedSimpArgs false
attribute [local irreducible] W Wo Wc WoR

abbrev tT1 : List UInt8 := [115, 121, 110, 116, 97, 120, 61, 39, 112, 114, 111, 116, 111, 51, 39, 59, 32, 109, 101, 115, 115, 97, 103, 101, 32, 65, 32, 123, 32, 65, 32, 97, 32, 61, 32, 49, 59, 32, 125]
theorem iu_ {l : List (Nat × CObj)} {n p : Nat} {o : CObj} (h : Under l n) (hg : getEnt l p = some o) : p < n := by
  rcases Nat.lt_or_ge p n with h1 | h1
  · exact h1
  · rw [getEnt_under h h1] at hg; cases hg
abbrev lxT (i : Int) : CObj := .cells [.str [115, 121, 110, 116, 97, 120, 61, 39, 112, 114, 111, 116, 111, 51, 39, 59, 32, 109, 101, 115, 115, 97, 103, 101, 32, 65, 32, 123, 32, 65, 32, 97, 32, 61, 32, 49, 59, 32, 125], .int .i64 i, .int .i64 0, .int .i64 0]
theorem sp_0 {p : Nat} {h : CHeap} (hf : Fit h) (hg : getEnt h.ents p = some (lxT 0)) {K : CVal → CHeap → Prop} (hk : ∀ n', h.next ≤ n' → K (.tup []) ⟨setEnt h.ents p (lxT 0), n', h.tys⟩) : Wc tree.getF 90 [.ptr p 203423748 0] h K := by
  obtain ⟨hu, hut, hX⟩ := fx4 hf
  have hY := fx5 hf hg; have ⟨hG, hD, hC, hN⟩ := hY
  have hna : ∀ a b : Nat, h.next + a + b = h.next + (a + b) := fun a b => Nat.add_assoc _ _ _
  have lp := iu_ hu hg
  have hse : setEnt h.ents p (lxT 0) = h.ents := setEnt_same hg
  rw [hse] at hk
  refine mk_ 90 c90 (s_ ?_)
  have hZ := j5_ hX hg hY hna hse
  repeat (first
    | refine vk_ ?_
    | refine W.loop ?_
    | (refine dk_ ?_; refine W.loop ?_)
    | (refine mk_ 7 c7 (s_ ?_))
    | (refine mk_ 9 c9 (s_ ?_))
    | (refine mk_ 12 c12 (s_ ?_))
    | (refine mk_ 13 c13 (s_ ?_))
    | (refine mk_ 16 c16 (s_ ?_))
    | (refine mk_ 17 c17 (s_ ?_))
    | (refine mk_ 49 c49 (s_ ?_))
    | (refine mk_ 121 c121 (s_ ?_))
    | (refine mk_ 122 c122 (s_ ?_))
    | (refine mk_ 123 c123 (s_ ?_))
    | (refine mk_ 124 c124 (s_ ?_))
    | (refine mk_ 125 c125 (s_ ?_))
    | (refine mk_ 126 c126 (s_ ?_))
    | (refine mk_ 127 c127 (s_ ?_))
    | (refine mk_ 129 c129 (s_ ?_))
    | (refine mk_ 142 c142 (s_ ?_))
    | (refine mk_ 143 c143 (s_ ?_))
    | (refine mk_ 149 c149 (s_ ?_))
    | (refine rk_ ?_; refine ⟨rfl, ?_⟩))
  refine rk_ ?_
  refine hk _ ?_; exact om_
theorem wd_0 {p : Nat} {h : CHeap} (hf : Fit h) (hg : getEnt h.ents p = some (lxT 0)) {K : CVal → CHeap → Prop} (hk : ∀ n', h.next ≤ n' → K (.agg [.int .i64 1, .str [115, 121, 110, 116, 97, 120], .int .u64 0, .int .i64 0]) ⟨setEnt h.ents p (lxT 6), n', h.tys⟩) : Wc tree.getF 91 [.ptr p 203423748 0] h K := by
  obtain ⟨hu, hut, hX⟩ := fx4 hf
  have hY := fx5 hf hg; have ⟨hG, hD, hC, hN⟩ := hY
  have hna : ∀ a b : Nat, h.next + a + b = h.next + (a + b) := fun a b => Nat.add_assoc _ _ _
  have lp := iu_ hu hg
  have hse : setEnt h.ents p (lxT 0) = h.ents := setEnt_same hg
  skip
  refine mk_ 91 c91 (s_ ?_)
  have hZ := j5_ hX hg hY hna hse
  repeat (first
    | refine vk_ ?_
    | refine W.loop ?_
    | (refine dk_ ?_; refine W.loop ?_)
    | (refine mk_ 7 c7 (s_ ?_))
    | (refine mk_ 9 c9 (s_ ?_))
    | (refine mk_ 12 c12 (s_ ?_))
    | (refine mk_ 13 c13 (s_ ?_))
    | (refine mk_ 16 c16 (s_ ?_))
    | (refine mk_ 17 c17 (s_ ?_))
    | (refine mk_ 49 c49 (s_ ?_))
    | (refine mk_ 121 c121 (s_ ?_))
    | (refine mk_ 122 c122 (s_ ?_))
    | (refine mk_ 123 c123 (s_ ?_))
    | (refine mk_ 124 c124 (s_ ?_))
    | (refine mk_ 125 c125 (s_ ?_))
    | (refine mk_ 126 c126 (s_ ?_))
    | (refine mk_ 127 c127 (s_ ?_))
    | (refine mk_ 129 c129 (s_ ?_))
    | (refine mk_ 142 c142 (s_ ?_))
    | (refine mk_ 143 c143 (s_ ?_))
    | (refine mk_ 149 c149 (s_ ?_))
    | (refine rk_ ?_; refine ⟨rfl, ?_⟩))
  refine rk_ ?_
  refine hk _ ?_; exact om_
theorem sp_1 {p : Nat} {h : CHeap} (hf : Fit h) (hg : getEnt h.ents p = some (lxT 6)) {K : CVal → CHeap → Prop} (hk : ∀ n', h.next ≤ n' → K (.tup []) ⟨setEnt h.ents p (lxT 6), n', h.tys⟩) : Wc tree.getF 90 [.ptr p 203423748 0] h K := by
  obtain ⟨hu, hut, hX⟩ := fx4 hf
  have hY := fx5 hf hg; have ⟨hG, hD, hC, hN⟩ := hY
  have hna : ∀ a b : Nat, h.next + a + b = h.next + (a + b) := fun a b => Nat.add_assoc _ _ _
  have lp := iu_ hu hg
  have hse : setEnt h.ents p (lxT 6) = h.ents := setEnt_same hg
  rw [hse] at hk
  refine mk_ 90 c90 (s_ ?_)
  have hZ := j5_ hX hg hY hna hse
  repeat (first
    | refine vk_ ?_
    | refine W.loop ?_
    | (refine dk_ ?_; refine W.loop ?_)
    | (refine mk_ 7 c7 (s_ ?_))
    | (refine mk_ 9 c9 (s_ ?_))
    | (refine mk_ 12 c12 (s_ ?_))
    | (refine mk_ 13 c13 (s_ ?_))
    | (refine mk_ 16 c16 (s_ ?_))
    | (refine mk_ 17 c17 (s_ ?_))
    | (refine mk_ 49 c49 (s_ ?_))
    | (refine mk_ 121 c121 (s_ ?_))
    | (refine mk_ 122 c122 (s_ ?_))
    | (refine mk_ 123 c123 (s_ ?_))
    | (refine mk_ 124 c124 (s_ ?_))
    | (refine mk_ 125 c125 (s_ ?_))
    | (refine mk_ 126 c126 (s_ ?_))
    | (refine mk_ 127 c127 (s_ ?_))
    | (refine mk_ 129 c129 (s_ ?_))
    | (refine mk_ 142 c142 (s_ ?_))
    | (refine mk_ 143 c143 (s_ ?_))
    | (refine mk_ 149 c149 (s_ ?_))
    | (refine rk_ ?_; refine ⟨rfl, ?_⟩))
  refine rk_ ?_
  refine hk _ ?_; exact om_
theorem wd_1 {p : Nat} {h : CHeap} (hf : Fit h) (hg : getEnt h.ents p = some (lxT 6)) {K : CVal → CHeap → Prop} (hk : ∀ n', h.next ≤ n' → K (.agg [.int .i64 4, .str [61], .int .u64 0, .int .i64 6]) ⟨setEnt h.ents p (lxT 7), n', h.tys⟩) : Wc tree.getF 91 [.ptr p 203423748 0] h K := by
  obtain ⟨hu, hut, hX⟩ := fx4 hf
  have hY := fx5 hf hg; have ⟨hG, hD, hC, hN⟩ := hY
  have hna : ∀ a b : Nat, h.next + a + b = h.next + (a + b) := fun a b => Nat.add_assoc _ _ _
  have lp := iu_ hu hg
  have hse : setEnt h.ents p (lxT 6) = h.ents := setEnt_same hg
  skip
  refine mk_ 91 c91 (s_ ?_)
  have hZ := j5_ hX hg hY hna hse
  repeat (first
    | refine vk_ ?_
    | refine W.loop ?_
    | (refine dk_ ?_; refine W.loop ?_)
    | (refine mk_ 7 c7 (s_ ?_))
    | (refine mk_ 9 c9 (s_ ?_))
    | (refine mk_ 12 c12 (s_ ?_))
    | (refine mk_ 13 c13 (s_ ?_))
    | (refine mk_ 16 c16 (s_ ?_))
    | (refine mk_ 17 c17 (s_ ?_))
    | (refine mk_ 49 c49 (s_ ?_))
    | (refine mk_ 121 c121 (s_ ?_))
    | (refine mk_ 122 c122 (s_ ?_))
    | (refine mk_ 123 c123 (s_ ?_))
    | (refine mk_ 124 c124 (s_ ?_))
    | (refine mk_ 125 c125 (s_ ?_))
    | (refine mk_ 126 c126 (s_ ?_))
    | (refine mk_ 127 c127 (s_ ?_))
    | (refine mk_ 129 c129 (s_ ?_))
    | (refine mk_ 142 c142 (s_ ?_))
    | (refine mk_ 143 c143 (s_ ?_))
    | (refine mk_ 149 c149 (s_ ?_))
    | (refine rk_ ?_; refine ⟨rfl, ?_⟩))
  refine rk_ ?_
  refine hk _ ?_; exact om_
theorem sp_2 {p : Nat} {h : CHeap} (hf : Fit h) (hg : getEnt h.ents p = some (lxT 7)) {K : CVal → CHeap → Prop} (hk : ∀ n', h.next ≤ n' → K (.tup []) ⟨setEnt h.ents p (lxT 7), n', h.tys⟩) : Wc tree.getF 90 [.ptr p 203423748 0] h K := by
  obtain ⟨hu, hut, hX⟩ := fx4 hf
  have hY := fx5 hf hg; have ⟨hG, hD, hC, hN⟩ := hY
  have hna : ∀ a b : Nat, h.next + a + b = h.next + (a + b) := fun a b => Nat.add_assoc _ _ _
  have lp := iu_ hu hg
  have hse : setEnt h.ents p (lxT 7) = h.ents := setEnt_same hg
  rw [hse] at hk
  refine mk_ 90 c90 (s_ ?_)
  have hZ := j5_ hX hg hY hna hse
  repeat (first
    | refine vk_ ?_
    | refine W.loop ?_
    | (refine dk_ ?_; refine W.loop ?_)
    | (refine mk_ 7 c7 (s_ ?_))
    | (refine mk_ 9 c9 (s_ ?_))
    | (refine mk_ 12 c12 (s_ ?_))
    | (refine mk_ 13 c13 (s_ ?_))
    | (refine mk_ 16 c16 (s_ ?_))
    | (refine mk_ 17 c17 (s_ ?_))
    | (refine mk_ 49 c49 (s_ ?_))
    | (refine mk_ 121 c121 (s_ ?_))
    | (refine mk_ 122 c122 (s_ ?_))
    | (refine mk_ 123 c123 (s_ ?_))
    | (refine mk_ 124 c124 (s_ ?_))
    | (refine mk_ 125 c125 (s_ ?_))
    | (refine mk_ 126 c126 (s_ ?_))
    | (refine mk_ 127 c127 (s_ ?_))
    | (refine mk_ 129 c129 (s_ ?_))
    | (refine mk_ 142 c142 (s_ ?_))
    | (refine mk_ 143 c143 (s_ ?_))
    | (refine mk_ 149 c149 (s_ ?_))
    | (refine rk_ ?_; refine ⟨rfl, ?_⟩))
  refine rk_ ?_
  refine hk _ ?_; exact om_
theorem wd_2 {p : Nat} {h : CHeap} (hf : Fit h) (hg : getEnt h.ents p = some (lxT 7)) {K : CVal → CHeap → Prop} (hk : ∀ n', h.next ≤ n' → K (.agg [.int .i64 3, .str [112, 114, 111, 116, 111, 51], .int .u64 0, .int .i64 7]) ⟨setEnt h.ents p (lxT 15), n', h.tys⟩) : Wc tree.getF 91 [.ptr p 203423748 0] h K := by
  obtain ⟨hu, hut, hX⟩ := fx4 hf
  have hY := fx5 hf hg; have ⟨hG, hD, hC, hN⟩ := hY
  have hna : ∀ a b : Nat, h.next + a + b = h.next + (a + b) := fun a b => Nat.add_assoc _ _ _
  have lp := iu_ hu hg
  have hse : setEnt h.ents p (lxT 7) = h.ents := setEnt_same hg
  skip
  refine mk_ 91 c91 (s_ ?_)
  have hZ := j5_ hX hg hY hna hse
  repeat (first
    | refine vk_ ?_
    | refine W.loop ?_
    | (refine dk_ ?_; refine W.loop ?_)
    | (refine mk_ 7 c7 (s_ ?_))
    | (refine mk_ 9 c9 (s_ ?_))
    | (refine mk_ 12 c12 (s_ ?_))
    | (refine mk_ 13 c13 (s_ ?_))
    | (refine mk_ 16 c16 (s_ ?_))
    | (refine mk_ 17 c17 (s_ ?_))
    | (refine mk_ 49 c49 (s_ ?_))
    | (refine mk_ 121 c121 (s_ ?_))
    | (refine mk_ 122 c122 (s_ ?_))
    | (refine mk_ 123 c123 (s_ ?_))
    | (refine mk_ 124 c124 (s_ ?_))
    | (refine mk_ 125 c125 (s_ ?_))
    | (refine mk_ 126 c126 (s_ ?_))
    | (refine mk_ 127 c127 (s_ ?_))
    | (refine mk_ 129 c129 (s_ ?_))
    | (refine mk_ 142 c142 (s_ ?_))
    | (refine mk_ 143 c143 (s_ ?_))
    | (refine mk_ 149 c149 (s_ ?_))
    | (refine rk_ ?_; refine ⟨rfl, ?_⟩))
  refine rk_ ?_
  refine hk _ ?_; exact om_
theorem sp_3 {p : Nat} {h : CHeap} (hf : Fit h) (hg : getEnt h.ents p = some (lxT 15)) {K : CVal → CHeap → Prop} (hk : ∀ n', h.next ≤ n' → K (.tup []) ⟨setEnt h.ents p (lxT 15), n', h.tys⟩) : Wc tree.getF 90 [.ptr p 203423748 0] h K := by
  obtain ⟨hu, hut, hX⟩ := fx4 hf
  have hY := fx5 hf hg; have ⟨hG, hD, hC, hN⟩ := hY
  have hna : ∀ a b : Nat, h.next + a + b = h.next + (a + b) := fun a b => Nat.add_assoc _ _ _
  have lp := iu_ hu hg
  have hse : setEnt h.ents p (lxT 15) = h.ents := setEnt_same hg
  rw [hse] at hk
  refine mk_ 90 c90 (s_ ?_)
  have hZ := j5_ hX hg hY hna hse
  repeat (first
    | refine vk_ ?_
    | refine W.loop ?_
    | (refine dk_ ?_; refine W.loop ?_)
    | (refine mk_ 7 c7 (s_ ?_))
    | (refine mk_ 9 c9 (s_ ?_))
    | (refine mk_ 12 c12 (s_ ?_))
    | (refine mk_ 13 c13 (s_ ?_))
    | (refine mk_ 16 c16 (s_ ?_))
    | (refine mk_ 17 c17 (s_ ?_))
    | (refine mk_ 49 c49 (s_ ?_))
    | (refine mk_ 121 c121 (s_ ?_))
    | (refine mk_ 122 c122 (s_ ?_))
    | (refine mk_ 123 c123 (s_ ?_))
    | (refine mk_ 124 c124 (s_ ?_))
    | (refine mk_ 125 c125 (s_ ?_))
    | (refine mk_ 126 c126 (s_ ?_))
    | (refine mk_ 127 c127 (s_ ?_))
    | (refine mk_ 129 c129 (s_ ?_))
    | (refine mk_ 142 c142 (s_ ?_))
    | (refine mk_ 143 c143 (s_ ?_))
    | (refine mk_ 149 c149 (s_ ?_))
    | (refine rk_ ?_; refine ⟨rfl, ?_⟩))
  refine rk_ ?_
  refine hk _ ?_; exact om_
theorem wd_3 {p : Nat} {h : CHeap} (hf : Fit h) (hg : getEnt h.ents p = some (lxT 15)) {K : CVal → CHeap → Prop} (hk : ∀ n', h.next ≤ n' → K (.agg [.int .i64 4, .str [59], .int .u64 0, .int .i64 15]) ⟨setEnt h.ents p (lxT 16), n', h.tys⟩) : Wc tree.getF 91 [.ptr p 203423748 0] h K := by
  obtain ⟨hu, hut, hX⟩ := fx4 hf
  have hY := fx5 hf hg; have ⟨hG, hD, hC, hN⟩ := hY
  have hna : ∀ a b : Nat, h.next + a + b = h.next + (a + b) := fun a b => Nat.add_assoc _ _ _
  have lp := iu_ hu hg
  have hse : setEnt h.ents p (lxT 15) = h.ents := setEnt_same hg
  skip
  refine mk_ 91 c91 (s_ ?_)
  have hZ := j5_ hX hg hY hna hse
  repeat (first
    | refine vk_ ?_
    | refine W.loop ?_
    | (refine dk_ ?_; refine W.loop ?_)
    | (refine mk_ 7 c7 (s_ ?_))
    | (refine mk_ 9 c9 (s_ ?_))
    | (refine mk_ 12 c12 (s_ ?_))
    | (refine mk_ 13 c13 (s_ ?_))
    | (refine mk_ 16 c16 (s_ ?_))
    | (refine mk_ 17 c17 (s_ ?_))
    | (refine mk_ 49 c49 (s_ ?_))
    | (refine mk_ 121 c121 (s_ ?_))
    | (refine mk_ 122 c122 (s_ ?_))
    | (refine mk_ 123 c123 (s_ ?_))
    | (refine mk_ 124 c124 (s_ ?_))
    | (refine mk_ 125 c125 (s_ ?_))
    | (refine mk_ 126 c126 (s_ ?_))
    | (refine mk_ 127 c127 (s_ ?_))
    | (refine mk_ 129 c129 (s_ ?_))
    | (refine mk_ 142 c142 (s_ ?_))
    | (refine mk_ 143 c143 (s_ ?_))
    | (refine mk_ 149 c149 (s_ ?_))
    | (refine rk_ ?_; refine ⟨rfl, ?_⟩))
  refine rk_ ?_
  refine hk _ ?_; exact om_
theorem sp_4 {p : Nat} {h : CHeap} (hf : Fit h) (hg : getEnt h.ents p = some (lxT 16)) {K : CVal → CHeap → Prop} (hk : ∀ n', h.next ≤ n' → K (.tup []) ⟨setEnt h.ents p (lxT 17), n', h.tys⟩) : Wc tree.getF 90 [.ptr p 203423748 0] h K := by
  obtain ⟨hu, hut, hX⟩ := fx4 hf
  have hY := fx5 hf hg; have ⟨hG, hD, hC, hN⟩ := hY
  have hna : ∀ a b : Nat, h.next + a + b = h.next + (a + b) := fun a b => Nat.add_assoc _ _ _
  have lp := iu_ hu hg
  have hse : setEnt h.ents p (lxT 16) = h.ents := setEnt_same hg
  skip
  refine mk_ 90 c90 (s_ ?_)
  have hZ := j5_ hX hg hY hna hse
  repeat (first
    | refine vk_ ?_
    | refine W.loop ?_
    | (refine dk_ ?_; refine W.loop ?_)
    | (refine mk_ 7 c7 (s_ ?_))
    | (refine mk_ 9 c9 (s_ ?_))
    | (refine mk_ 12 c12 (s_ ?_))
    | (refine mk_ 13 c13 (s_ ?_))
    | (refine mk_ 16 c16 (s_ ?_))
    | (refine mk_ 17 c17 (s_ ?_))
    | (refine mk_ 49 c49 (s_ ?_))
    | (refine mk_ 121 c121 (s_ ?_))
    | (refine mk_ 122 c122 (s_ ?_))
    | (refine mk_ 123 c123 (s_ ?_))
    | (refine mk_ 124 c124 (s_ ?_))
    | (refine mk_ 125 c125 (s_ ?_))
    | (refine mk_ 126 c126 (s_ ?_))
    | (refine mk_ 127 c127 (s_ ?_))
    | (refine mk_ 129 c129 (s_ ?_))
    | (refine mk_ 142 c142 (s_ ?_))
    | (refine mk_ 143 c143 (s_ ?_))
    | (refine mk_ 149 c149 (s_ ?_))
    | (refine rk_ ?_; refine ⟨rfl, ?_⟩))
  refine rk_ ?_
  refine hk _ ?_; exact om_
theorem wd_4 {p : Nat} {h : CHeap} (hf : Fit h) (hg : getEnt h.ents p = some (lxT 17)) {K : CVal → CHeap → Prop} (hk : ∀ n', h.next ≤ n' → K (.agg [.int .i64 1, .str [109, 101, 115, 115, 97, 103, 101], .int .u64 0, .int .i64 17]) ⟨setEnt h.ents p (lxT 24), n', h.tys⟩) : Wc tree.getF 91 [.ptr p 203423748 0] h K := by
  obtain ⟨hu, hut, hX⟩ := fx4 hf
  have hY := fx5 hf hg; have ⟨hG, hD, hC, hN⟩ := hY
  have hna : ∀ a b : Nat, h.next + a + b = h.next + (a + b) := fun a b => Nat.add_assoc _ _ _
  have lp := iu_ hu hg
  have hse : setEnt h.ents p (lxT 17) = h.ents := setEnt_same hg
  skip
  refine mk_ 91 c91 (s_ ?_)
  have hZ := j5_ hX hg hY hna hse
  repeat (first
    | refine vk_ ?_
    | refine W.loop ?_
    | (refine dk_ ?_; refine W.loop ?_)
    | (refine mk_ 7 c7 (s_ ?_))
    | (refine mk_ 9 c9 (s_ ?_))
    | (refine mk_ 12 c12 (s_ ?_))
    | (refine mk_ 13 c13 (s_ ?_))
    | (refine mk_ 16 c16 (s_ ?_))
    | (refine mk_ 17 c17 (s_ ?_))
    | (refine mk_ 49 c49 (s_ ?_))
    | (refine mk_ 121 c121 (s_ ?_))
    | (refine mk_ 122 c122 (s_ ?_))
    | (refine mk_ 123 c123 (s_ ?_))
    | (refine mk_ 124 c124 (s_ ?_))
    | (refine mk_ 125 c125 (s_ ?_))
    | (refine mk_ 126 c126 (s_ ?_))
    | (refine mk_ 127 c127 (s_ ?_))
    | (refine mk_ 129 c129 (s_ ?_))
    | (refine mk_ 142 c142 (s_ ?_))
    | (refine mk_ 143 c143 (s_ ?_))
    | (refine mk_ 149 c149 (s_ ?_))
    | (refine rk_ ?_; refine ⟨rfl, ?_⟩))
  refine rk_ ?_
  refine hk _ ?_; exact om_
theorem sp_5 {p : Nat} {h : CHeap} (hf : Fit h) (hg : getEnt h.ents p = some (lxT 24)) {K : CVal → CHeap → Prop} (hk : ∀ n', h.next ≤ n' → K (.tup []) ⟨setEnt h.ents p (lxT 25), n', h.tys⟩) : Wc tree.getF 90 [.ptr p 203423748 0] h K := by
  obtain ⟨hu, hut, hX⟩ := fx4 hf
  have hY := fx5 hf hg; have ⟨hG, hD, hC, hN⟩ := hY
  have hna : ∀ a b : Nat, h.next + a + b = h.next + (a + b) := fun a b => Nat.add_assoc _ _ _
  have lp := iu_ hu hg
  have hse : setEnt h.ents p (lxT 24) = h.ents := setEnt_same hg
  skip
  refine mk_ 90 c90 (s_ ?_)
  have hZ := j5_ hX hg hY hna hse
  repeat (first
    | refine vk_ ?_
    | refine W.loop ?_
    | (refine dk_ ?_; refine W.loop ?_)
    | (refine mk_ 7 c7 (s_ ?_))
    | (refine mk_ 9 c9 (s_ ?_))
    | (refine mk_ 12 c12 (s_ ?_))
    | (refine mk_ 13 c13 (s_ ?_))
    | (refine mk_ 16 c16 (s_ ?_))
    | (refine mk_ 17 c17 (s_ ?_))
    | (refine mk_ 49 c49 (s_ ?_))
    | (refine mk_ 121 c121 (s_ ?_))
    | (refine mk_ 122 c122 (s_ ?_))
    | (refine mk_ 123 c123 (s_ ?_))
    | (refine mk_ 124 c124 (s_ ?_))
    | (refine mk_ 125 c125 (s_ ?_))
    | (refine mk_ 126 c126 (s_ ?_))
    | (refine mk_ 127 c127 (s_ ?_))
    | (refine mk_ 129 c129 (s_ ?_))
    | (refine mk_ 142 c142 (s_ ?_))
    | (refine mk_ 143 c143 (s_ ?_))
    | (refine mk_ 149 c149 (s_ ?_))
    | (refine rk_ ?_; refine ⟨rfl, ?_⟩))
  refine rk_ ?_
  refine hk _ ?_; exact om_
theorem wd_5 {p : Nat} {h : CHeap} (hf : Fit h) (hg : getEnt h.ents p = some (lxT 25)) {K : CVal → CHeap → Prop} (hk : ∀ n', h.next ≤ n' → K (.agg [.int .i64 1, .str [65], .int .u64 0, .int .i64 25]) ⟨setEnt h.ents p (lxT 26), n', h.tys⟩) : Wc tree.getF 91 [.ptr p 203423748 0] h K := by
  obtain ⟨hu, hut, hX⟩ := fx4 hf
  have hY := fx5 hf hg; have ⟨hG, hD, hC, hN⟩ := hY
  have hna : ∀ a b : Nat, h.next + a + b = h.next + (a + b) := fun a b => Nat.add_assoc _ _ _
  have lp := iu_ hu hg
  have hse : setEnt h.ents p (lxT 25) = h.ents := setEnt_same hg
  skip
  refine mk_ 91 c91 (s_ ?_)
  have hZ := j5_ hX hg hY hna hse
  repeat (first
    | refine vk_ ?_
    | refine W.loop ?_
    | (refine dk_ ?_; refine W.loop ?_)
    | (refine mk_ 7 c7 (s_ ?_))
    | (refine mk_ 9 c9 (s_ ?_))
    | (refine mk_ 12 c12 (s_ ?_))
    | (refine mk_ 13 c13 (s_ ?_))
    | (refine mk_ 16 c16 (s_ ?_))
    | (refine mk_ 17 c17 (s_ ?_))
    | (refine mk_ 49 c49 (s_ ?_))
    | (refine mk_ 121 c121 (s_ ?_))
    | (refine mk_ 122 c122 (s_ ?_))
    | (refine mk_ 123 c123 (s_ ?_))
    | (refine mk_ 124 c124 (s_ ?_))
    | (refine mk_ 125 c125 (s_ ?_))
    | (refine mk_ 126 c126 (s_ ?_))
    | (refine mk_ 127 c127 (s_ ?_))
    | (refine mk_ 129 c129 (s_ ?_))
    | (refine mk_ 142 c142 (s_ ?_))
    | (refine mk_ 143 c143 (s_ ?_))
    | (refine mk_ 149 c149 (s_ ?_))
    | (refine rk_ ?_; refine ⟨rfl, ?_⟩))
  refine rk_ ?_
  refine hk _ ?_; exact om_
theorem sp_6 {p : Nat} {h : CHeap} (hf : Fit h) (hg : getEnt h.ents p = some (lxT 26)) {K : CVal → CHeap → Prop} (hk : ∀ n', h.next ≤ n' → K (.tup []) ⟨setEnt h.ents p (lxT 27), n', h.tys⟩) : Wc tree.getF 90 [.ptr p 203423748 0] h K := by
  obtain ⟨hu, hut, hX⟩ := fx4 hf
  have hY := fx5 hf hg; have ⟨hG, hD, hC, hN⟩ := hY
  have hna : ∀ a b : Nat, h.next + a + b = h.next + (a + b) := fun a b => Nat.add_assoc _ _ _
  have lp := iu_ hu hg
  have hse : setEnt h.ents p (lxT 26) = h.ents := setEnt_same hg
  skip
  refine mk_ 90 c90 (s_ ?_)
  have hZ := j5_ hX hg hY hna hse
  repeat (first
    | refine vk_ ?_
    | refine W.loop ?_
    | (refine dk_ ?_; refine W.loop ?_)
    | (refine mk_ 7 c7 (s_ ?_))
    | (refine mk_ 9 c9 (s_ ?_))
    | (refine mk_ 12 c12 (s_ ?_))
    | (refine mk_ 13 c13 (s_ ?_))
    | (refine mk_ 16 c16 (s_ ?_))
    | (refine mk_ 17 c17 (s_ ?_))
    | (refine mk_ 49 c49 (s_ ?_))
    | (refine mk_ 121 c121 (s_ ?_))
    | (refine mk_ 122 c122 (s_ ?_))
    | (refine mk_ 123 c123 (s_ ?_))
    | (refine mk_ 124 c124 (s_ ?_))
    | (refine mk_ 125 c125 (s_ ?_))
    | (refine mk_ 126 c126 (s_ ?_))
    | (refine mk_ 127 c127 (s_ ?_))
    | (refine mk_ 129 c129 (s_ ?_))
    | (refine mk_ 142 c142 (s_ ?_))
    | (refine mk_ 143 c143 (s_ ?_))
    | (refine mk_ 149 c149 (s_ ?_))
    | (refine rk_ ?_; refine ⟨rfl, ?_⟩))
  refine rk_ ?_
  refine hk _ ?_; exact om_
theorem wd_6 {p : Nat} {h : CHeap} (hf : Fit h) (hg : getEnt h.ents p = some (lxT 27)) {K : CVal → CHeap → Prop} (hk : ∀ n', h.next ≤ n' → K (.agg [.int .i64 4, .str [123], .int .u64 0, .int .i64 27]) ⟨setEnt h.ents p (lxT 28), n', h.tys⟩) : Wc tree.getF 91 [.ptr p 203423748 0] h K := by
  obtain ⟨hu, hut, hX⟩ := fx4 hf
  have hY := fx5 hf hg; have ⟨hG, hD, hC, hN⟩ := hY
  have hna : ∀ a b : Nat, h.next + a + b = h.next + (a + b) := fun a b => Nat.add_assoc _ _ _
  have lp := iu_ hu hg
  have hse : setEnt h.ents p (lxT 27) = h.ents := setEnt_same hg
  skip
  refine mk_ 91 c91 (s_ ?_)
  have hZ := j5_ hX hg hY hna hse
  repeat (first
    | refine vk_ ?_
    | refine W.loop ?_
    | (refine dk_ ?_; refine W.loop ?_)
    | (refine mk_ 7 c7 (s_ ?_))
    | (refine mk_ 9 c9 (s_ ?_))
    | (refine mk_ 12 c12 (s_ ?_))
    | (refine mk_ 13 c13 (s_ ?_))
    | (refine mk_ 16 c16 (s_ ?_))
    | (refine mk_ 17 c17 (s_ ?_))
    | (refine mk_ 49 c49 (s_ ?_))
    | (refine mk_ 121 c121 (s_ ?_))
    | (refine mk_ 122 c122 (s_ ?_))
    | (refine mk_ 123 c123 (s_ ?_))
    | (refine mk_ 124 c124 (s_ ?_))
    | (refine mk_ 125 c125 (s_ ?_))
    | (refine mk_ 126 c126 (s_ ?_))
    | (refine mk_ 127 c127 (s_ ?_))
    | (refine mk_ 129 c129 (s_ ?_))
    | (refine mk_ 142 c142 (s_ ?_))
    | (refine mk_ 143 c143 (s_ ?_))
    | (refine mk_ 149 c149 (s_ ?_))
    | (refine rk_ ?_; refine ⟨rfl, ?_⟩))
  refine rk_ ?_
  refine hk _ ?_; exact om_
theorem sp_7 {p : Nat} {h : CHeap} (hf : Fit h) (hg : getEnt h.ents p = some (lxT 28)) {K : CVal → CHeap → Prop} (hk : ∀ n', h.next ≤ n' → K (.tup []) ⟨setEnt h.ents p (lxT 29), n', h.tys⟩) : Wc tree.getF 90 [.ptr p 203423748 0] h K := by
  obtain ⟨hu, hut, hX⟩ := fx4 hf
  have hY := fx5 hf hg; have ⟨hG, hD, hC, hN⟩ := hY
  have hna : ∀ a b : Nat, h.next + a + b = h.next + (a + b) := fun a b => Nat.add_assoc _ _ _
  have lp := iu_ hu hg
  have hse : setEnt h.ents p (lxT 28) = h.ents := setEnt_same hg
  skip
  refine mk_ 90 c90 (s_ ?_)
  have hZ := j5_ hX hg hY hna hse
  repeat (first
    | refine vk_ ?_
    | refine W.loop ?_
    | (refine dk_ ?_; refine W.loop ?_)
    | (refine mk_ 7 c7 (s_ ?_))
    | (refine mk_ 9 c9 (s_ ?_))
    | (refine mk_ 12 c12 (s_ ?_))
    | (refine mk_ 13 c13 (s_ ?_))
    | (refine mk_ 16 c16 (s_ ?_))
    | (refine mk_ 17 c17 (s_ ?_))
    | (refine mk_ 49 c49 (s_ ?_))
    | (refine mk_ 121 c121 (s_ ?_))
    | (refine mk_ 122 c122 (s_ ?_))
    | (refine mk_ 123 c123 (s_ ?_))
    | (refine mk_ 124 c124 (s_ ?_))
    | (refine mk_ 125 c125 (s_ ?_))
    | (refine mk_ 126 c126 (s_ ?_))
    | (refine mk_ 127 c127 (s_ ?_))
    | (refine mk_ 129 c129 (s_ ?_))
    | (refine mk_ 142 c142 (s_ ?_))
    | (refine mk_ 143 c143 (s_ ?_))
    | (refine mk_ 149 c149 (s_ ?_))
    | (refine rk_ ?_; refine ⟨rfl, ?_⟩))
  refine rk_ ?_
  refine hk _ ?_; exact om_
theorem wd_7 {p : Nat} {h : CHeap} (hf : Fit h) (hg : getEnt h.ents p = some (lxT 29)) {K : CVal → CHeap → Prop} (hk : ∀ n', h.next ≤ n' → K (.agg [.int .i64 1, .str [65], .int .u64 0, .int .i64 29]) ⟨setEnt h.ents p (lxT 30), n', h.tys⟩) : Wc tree.getF 91 [.ptr p 203423748 0] h K := by
  obtain ⟨hu, hut, hX⟩ := fx4 hf
  have hY := fx5 hf hg; have ⟨hG, hD, hC, hN⟩ := hY
  have hna : ∀ a b : Nat, h.next + a + b = h.next + (a + b) := fun a b => Nat.add_assoc _ _ _
  have lp := iu_ hu hg
  have hse : setEnt h.ents p (lxT 29) = h.ents := setEnt_same hg
  skip
  refine mk_ 91 c91 (s_ ?_)
  have hZ := j5_ hX hg hY hna hse
  repeat (first
    | refine vk_ ?_
    | refine W.loop ?_
    | (refine dk_ ?_; refine W.loop ?_)
    | (refine mk_ 7 c7 (s_ ?_))
    | (refine mk_ 9 c9 (s_ ?_))
    | (refine mk_ 12 c12 (s_ ?_))
    | (refine mk_ 13 c13 (s_ ?_))
    | (refine mk_ 16 c16 (s_ ?_))
    | (refine mk_ 17 c17 (s_ ?_))
    | (refine mk_ 49 c49 (s_ ?_))
    | (refine mk_ 121 c121 (s_ ?_))
    | (refine mk_ 122 c122 (s_ ?_))
    | (refine mk_ 123 c123 (s_ ?_))
    | (refine mk_ 124 c124 (s_ ?_))
    | (refine mk_ 125 c125 (s_ ?_))
    | (refine mk_ 126 c126 (s_ ?_))
    | (refine mk_ 127 c127 (s_ ?_))
    | (refine mk_ 129 c129 (s_ ?_))
    | (refine mk_ 142 c142 (s_ ?_))
    | (refine mk_ 143 c143 (s_ ?_))
    | (refine mk_ 149 c149 (s_ ?_))
    | (refine rk_ ?_; refine ⟨rfl, ?_⟩))
  refine rk_ ?_
  refine hk _ ?_; exact om_
theorem sp_8 {p : Nat} {h : CHeap} (hf : Fit h) (hg : getEnt h.ents p = some (lxT 30)) {K : CVal → CHeap → Prop} (hk : ∀ n', h.next ≤ n' → K (.tup []) ⟨setEnt h.ents p (lxT 31), n', h.tys⟩) : Wc tree.getF 90 [.ptr p 203423748 0] h K := by
  obtain ⟨hu, hut, hX⟩ := fx4 hf
  have hY := fx5 hf hg; have ⟨hG, hD, hC, hN⟩ := hY
  have hna : ∀ a b : Nat, h.next + a + b = h.next + (a + b) := fun a b => Nat.add_assoc _ _ _
  have lp := iu_ hu hg
  have hse : setEnt h.ents p (lxT 30) = h.ents := setEnt_same hg
  skip
  refine mk_ 90 c90 (s_ ?_)
  have hZ := j5_ hX hg hY hna hse
  repeat (first
    | refine vk_ ?_
    | refine W.loop ?_
    | (refine dk_ ?_; refine W.loop ?_)
    | (refine mk_ 7 c7 (s_ ?_))
    | (refine mk_ 9 c9 (s_ ?_))
    | (refine mk_ 12 c12 (s_ ?_))
    | (refine mk_ 13 c13 (s_ ?_))
    | (refine mk_ 16 c16 (s_ ?_))
    | (refine mk_ 17 c17 (s_ ?_))
    | (refine mk_ 49 c49 (s_ ?_))
    | (refine mk_ 121 c121 (s_ ?_))
    | (refine mk_ 122 c122 (s_ ?_))
    | (refine mk_ 123 c123 (s_ ?_))
    | (refine mk_ 124 c124 (s_ ?_))
    | (refine mk_ 125 c125 (s_ ?_))
    | (refine mk_ 126 c126 (s_ ?_))
    | (refine mk_ 127 c127 (s_ ?_))
    | (refine mk_ 129 c129 (s_ ?_))
    | (refine mk_ 142 c142 (s_ ?_))
    | (refine mk_ 143 c143 (s_ ?_))
    | (refine mk_ 149 c149 (s_ ?_))
    | (refine rk_ ?_; refine ⟨rfl, ?_⟩))
  refine rk_ ?_
  refine hk _ ?_; exact om_
theorem wd_8 {p : Nat} {h : CHeap} (hf : Fit h) (hg : getEnt h.ents p = some (lxT 31)) {K : CVal → CHeap → Prop} (hk : ∀ n', h.next ≤ n' → K (.agg [.int .i64 1, .str [97], .int .u64 0, .int .i64 31]) ⟨setEnt h.ents p (lxT 32), n', h.tys⟩) : Wc tree.getF 91 [.ptr p 203423748 0] h K := by
  obtain ⟨hu, hut, hX⟩ := fx4 hf
  have hY := fx5 hf hg; have ⟨hG, hD, hC, hN⟩ := hY
  have hna : ∀ a b : Nat, h.next + a + b = h.next + (a + b) := fun a b => Nat.add_assoc _ _ _
  have lp := iu_ hu hg
  have hse : setEnt h.ents p (lxT 31) = h.ents := setEnt_same hg
  skip
  refine mk_ 91 c91 (s_ ?_)
  have hZ := j5_ hX hg hY hna hse
  repeat (first
    | refine vk_ ?_
    | refine W.loop ?_
    | (refine dk_ ?_; refine W.loop ?_)
    | (refine mk_ 7 c7 (s_ ?_))
    | (refine mk_ 9 c9 (s_ ?_))
    | (refine mk_ 12 c12 (s_ ?_))
    | (refine mk_ 13 c13 (s_ ?_))
    | (refine mk_ 16 c16 (s_ ?_))
    | (refine mk_ 17 c17 (s_ ?_))
    | (refine mk_ 49 c49 (s_ ?_))
    | (refine mk_ 121 c121 (s_ ?_))
    | (refine mk_ 122 c122 (s_ ?_))
    | (refine mk_ 123 c123 (s_ ?_))
    | (refine mk_ 124 c124 (s_ ?_))
    | (refine mk_ 125 c125 (s_ ?_))
    | (refine mk_ 126 c126 (s_ ?_))
    | (refine mk_ 127 c127 (s_ ?_))
    | (refine mk_ 129 c129 (s_ ?_))
    | (refine mk_ 142 c142 (s_ ?_))
    | (refine mk_ 143 c143 (s_ ?_))
    | (refine mk_ 149 c149 (s_ ?_))
    | (refine rk_ ?_; refine ⟨rfl, ?_⟩))
  refine rk_ ?_
  refine hk _ ?_; exact om_
theorem sp_9 {p : Nat} {h : CHeap} (hf : Fit h) (hg : getEnt h.ents p = some (lxT 32)) {K : CVal → CHeap → Prop} (hk : ∀ n', h.next ≤ n' → K (.tup []) ⟨setEnt h.ents p (lxT 33), n', h.tys⟩) : Wc tree.getF 90 [.ptr p 203423748 0] h K := by
  obtain ⟨hu, hut, hX⟩ := fx4 hf
  have hY := fx5 hf hg; have ⟨hG, hD, hC, hN⟩ := hY
  have hna : ∀ a b : Nat, h.next + a + b = h.next + (a + b) := fun a b => Nat.add_assoc _ _ _
  have lp := iu_ hu hg
  have hse : setEnt h.ents p (lxT 32) = h.ents := setEnt_same hg
  skip
  refine mk_ 90 c90 (s_ ?_)
  have hZ := j5_ hX hg hY hna hse
  repeat (first
    | refine vk_ ?_
    | refine W.loop ?_
    | (refine dk_ ?_; refine W.loop ?_)
    | (refine mk_ 7 c7 (s_ ?_))
    | (refine mk_ 9 c9 (s_ ?_))
    | (refine mk_ 12 c12 (s_ ?_))
    | (refine mk_ 13 c13 (s_ ?_))
    | (refine mk_ 16 c16 (s_ ?_))
    | (refine mk_ 17 c17 (s_ ?_))
    | (refine mk_ 49 c49 (s_ ?_))
    | (refine mk_ 121 c121 (s_ ?_))
    | (refine mk_ 122 c122 (s_ ?_))
    | (refine mk_ 123 c123 (s_ ?_))
    | (refine mk_ 124 c124 (s_ ?_))
    | (refine mk_ 125 c125 (s_ ?_))
    | (refine mk_ 126 c126 (s_ ?_))
    | (refine mk_ 127 c127 (s_ ?_))
    | (refine mk_ 129 c129 (s_ ?_))
    | (refine mk_ 142 c142 (s_ ?_))
    | (refine mk_ 143 c143 (s_ ?_))
    | (refine mk_ 149 c149 (s_ ?_))
    | (refine rk_ ?_; refine ⟨rfl, ?_⟩))
  refine rk_ ?_
  refine hk _ ?_; exact om_
theorem wd_9 {p : Nat} {h : CHeap} (hf : Fit h) (hg : getEnt h.ents p = some (lxT 33)) {K : CVal → CHeap → Prop} (hk : ∀ n', h.next ≤ n' → K (.agg [.int .i64 4, .str [61], .int .u64 0, .int .i64 33]) ⟨setEnt h.ents p (lxT 34), n', h.tys⟩) : Wc tree.getF 91 [.ptr p 203423748 0] h K := by
  obtain ⟨hu, hut, hX⟩ := fx4 hf
  have hY := fx5 hf hg; have ⟨hG, hD, hC, hN⟩ := hY
  have hna : ∀ a b : Nat, h.next + a + b = h.next + (a + b) := fun a b => Nat.add_assoc _ _ _
  have lp := iu_ hu hg
  have hse : setEnt h.ents p (lxT 33) = h.ents := setEnt_same hg
  skip
  refine mk_ 91 c91 (s_ ?_)
  have hZ := j5_ hX hg hY hna hse
  repeat (first
    | refine vk_ ?_
    | refine W.loop ?_
    | (refine dk_ ?_; refine W.loop ?_)
    | (refine mk_ 7 c7 (s_ ?_))
    | (refine mk_ 9 c9 (s_ ?_))
    | (refine mk_ 12 c12 (s_ ?_))
    | (refine mk_ 13 c13 (s_ ?_))
    | (refine mk_ 16 c16 (s_ ?_))
    | (refine mk_ 17 c17 (s_ ?_))
    | (refine mk_ 49 c49 (s_ ?_))
    | (refine mk_ 121 c121 (s_ ?_))
    | (refine mk_ 122 c122 (s_ ?_))
    | (refine mk_ 123 c123 (s_ ?_))
    | (refine mk_ 124 c124 (s_ ?_))
    | (refine mk_ 125 c125 (s_ ?_))
    | (refine mk_ 126 c126 (s_ ?_))
    | (refine mk_ 127 c127 (s_ ?_))
    | (refine mk_ 129 c129 (s_ ?_))
    | (refine mk_ 142 c142 (s_ ?_))
    | (refine mk_ 143 c143 (s_ ?_))
    | (refine mk_ 149 c149 (s_ ?_))
    | (refine rk_ ?_; refine ⟨rfl, ?_⟩))
  refine rk_ ?_
  refine hk _ ?_; exact om_
theorem sp_10 {p : Nat} {h : CHeap} (hf : Fit h) (hg : getEnt h.ents p = some (lxT 34)) {K : CVal → CHeap → Prop} (hk : ∀ n', h.next ≤ n' → K (.tup []) ⟨setEnt h.ents p (lxT 35), n', h.tys⟩) : Wc tree.getF 90 [.ptr p 203423748 0] h K := by
  obtain ⟨hu, hut, hX⟩ := fx4 hf
  have hY := fx5 hf hg; have ⟨hG, hD, hC, hN⟩ := hY
  have hna : ∀ a b : Nat, h.next + a + b = h.next + (a + b) := fun a b => Nat.add_assoc _ _ _
  have lp := iu_ hu hg
  have hse : setEnt h.ents p (lxT 34) = h.ents := setEnt_same hg
  skip
  refine mk_ 90 c90 (s_ ?_)
  have hZ := j5_ hX hg hY hna hse
  repeat (first
    | refine vk_ ?_
    | refine W.loop ?_
    | (refine dk_ ?_; refine W.loop ?_)
    | (refine mk_ 7 c7 (s_ ?_))
    | (refine mk_ 9 c9 (s_ ?_))
    | (refine mk_ 12 c12 (s_ ?_))
    | (refine mk_ 13 c13 (s_ ?_))
    | (refine mk_ 16 c16 (s_ ?_))
    | (refine mk_ 17 c17 (s_ ?_))
    | (refine mk_ 49 c49 (s_ ?_))
    | (refine mk_ 121 c121 (s_ ?_))
    | (refine mk_ 122 c122 (s_ ?_))
    | (refine mk_ 123 c123 (s_ ?_))
    | (refine mk_ 124 c124 (s_ ?_))
    | (refine mk_ 125 c125 (s_ ?_))
    | (refine mk_ 126 c126 (s_ ?_))
    | (refine mk_ 127 c127 (s_ ?_))
    | (refine mk_ 129 c129 (s_ ?_))
    | (refine mk_ 142 c142 (s_ ?_))
    | (refine mk_ 143 c143 (s_ ?_))
    | (refine mk_ 149 c149 (s_ ?_))
    | (refine rk_ ?_; refine ⟨rfl, ?_⟩))
  refine rk_ ?_
  refine hk _ ?_; exact om_
theorem wd_10 {p : Nat} {h : CHeap} (hf : Fit h) (hg : getEnt h.ents p = some (lxT 35)) {K : CVal → CHeap → Prop} (hk : ∀ n', h.next ≤ n' → K (.agg [.int .i64 2, .str [], .int .u64 1, .int .i64 35]) ⟨setEnt h.ents p (lxT 36), n', h.tys⟩) : Wc tree.getF 91 [.ptr p 203423748 0] h K := by
  obtain ⟨hu, hut, hX⟩ := fx4 hf
  have hY := fx5 hf hg; have ⟨hG, hD, hC, hN⟩ := hY
  have hna : ∀ a b : Nat, h.next + a + b = h.next + (a + b) := fun a b => Nat.add_assoc _ _ _
  have lp := iu_ hu hg
  have hse : setEnt h.ents p (lxT 35) = h.ents := setEnt_same hg
  skip
  refine mk_ 91 c91 (s_ ?_)
  have hZ := j5_ hX hg hY hna hse
  repeat (first
    | refine vk_ ?_
    | refine W.loop ?_
    | (refine dk_ ?_; refine W.loop ?_)
    | (refine mk_ 7 c7 (s_ ?_))
    | (refine mk_ 9 c9 (s_ ?_))
    | (refine mk_ 12 c12 (s_ ?_))
    | (refine mk_ 13 c13 (s_ ?_))
    | (refine mk_ 16 c16 (s_ ?_))
    | (refine mk_ 17 c17 (s_ ?_))
    | (refine mk_ 49 c49 (s_ ?_))
    | (refine mk_ 121 c121 (s_ ?_))
    | (refine mk_ 122 c122 (s_ ?_))
    | (refine mk_ 123 c123 (s_ ?_))
    | (refine mk_ 124 c124 (s_ ?_))
    | (refine mk_ 125 c125 (s_ ?_))
    | (refine mk_ 126 c126 (s_ ?_))
    | (refine mk_ 127 c127 (s_ ?_))
    | (refine mk_ 129 c129 (s_ ?_))
    | (refine mk_ 142 c142 (s_ ?_))
    | (refine mk_ 143 c143 (s_ ?_))
    | (refine mk_ 149 c149 (s_ ?_))
    | (refine rk_ ?_; refine ⟨rfl, ?_⟩))
  refine rk_ ?_
  refine hk _ ?_; exact om_
theorem sp_11 {p : Nat} {h : CHeap} (hf : Fit h) (hg : getEnt h.ents p = some (lxT 36)) {K : CVal → CHeap → Prop} (hk : ∀ n', h.next ≤ n' → K (.tup []) ⟨setEnt h.ents p (lxT 36), n', h.tys⟩) : Wc tree.getF 90 [.ptr p 203423748 0] h K := by
  obtain ⟨hu, hut, hX⟩ := fx4 hf
  have hY := fx5 hf hg; have ⟨hG, hD, hC, hN⟩ := hY
  have hna : ∀ a b : Nat, h.next + a + b = h.next + (a + b) := fun a b => Nat.add_assoc _ _ _
  have lp := iu_ hu hg
  have hse : setEnt h.ents p (lxT 36) = h.ents := setEnt_same hg
  rw [hse] at hk
  refine mk_ 90 c90 (s_ ?_)
  have hZ := j5_ hX hg hY hna hse
  repeat (first
    | refine vk_ ?_
    | refine W.loop ?_
    | (refine dk_ ?_; refine W.loop ?_)
    | (refine mk_ 7 c7 (s_ ?_))
    | (refine mk_ 9 c9 (s_ ?_))
    | (refine mk_ 12 c12 (s_ ?_))
    | (refine mk_ 13 c13 (s_ ?_))
    | (refine mk_ 16 c16 (s_ ?_))
    | (refine mk_ 17 c17 (s_ ?_))
    | (refine mk_ 49 c49 (s_ ?_))
    | (refine mk_ 121 c121 (s_ ?_))
    | (refine mk_ 122 c122 (s_ ?_))
    | (refine mk_ 123 c123 (s_ ?_))
    | (refine mk_ 124 c124 (s_ ?_))
    | (refine mk_ 125 c125 (s_ ?_))
    | (refine mk_ 126 c126 (s_ ?_))
    | (refine mk_ 127 c127 (s_ ?_))
    | (refine mk_ 129 c129 (s_ ?_))
    | (refine mk_ 142 c142 (s_ ?_))
    | (refine mk_ 143 c143 (s_ ?_))
    | (refine mk_ 149 c149 (s_ ?_))
    | (refine rk_ ?_; refine ⟨rfl, ?_⟩))
  refine rk_ ?_
  refine hk _ ?_; exact om_
theorem wd_11 {p : Nat} {h : CHeap} (hf : Fit h) (hg : getEnt h.ents p = some (lxT 36)) {K : CVal → CHeap → Prop} (hk : ∀ n', h.next ≤ n' → K (.agg [.int .i64 4, .str [59], .int .u64 0, .int .i64 36]) ⟨setEnt h.ents p (lxT 37), n', h.tys⟩) : Wc tree.getF 91 [.ptr p 203423748 0] h K := by
  obtain ⟨hu, hut, hX⟩ := fx4 hf
  have hY := fx5 hf hg; have ⟨hG, hD, hC, hN⟩ := hY
  have hna : ∀ a b : Nat, h.next + a + b = h.next + (a + b) := fun a b => Nat.add_assoc _ _ _
  have lp := iu_ hu hg
  have hse : setEnt h.ents p (lxT 36) = h.ents := setEnt_same hg
  skip
  refine mk_ 91 c91 (s_ ?_)
  have hZ := j5_ hX hg hY hna hse
  repeat (first
    | refine vk_ ?_
    | refine W.loop ?_
    | (refine dk_ ?_; refine W.loop ?_)
    | (refine mk_ 7 c7 (s_ ?_))
    | (refine mk_ 9 c9 (s_ ?_))
    | (refine mk_ 12 c12 (s_ ?_))
    | (refine mk_ 13 c13 (s_ ?_))
    | (refine mk_ 16 c16 (s_ ?_))
    | (refine mk_ 17 c17 (s_ ?_))
    | (refine mk_ 49 c49 (s_ ?_))
    | (refine mk_ 121 c121 (s_ ?_))
    | (refine mk_ 122 c122 (s_ ?_))
    | (refine mk_ 123 c123 (s_ ?_))
    | (refine mk_ 124 c124 (s_ ?_))
    | (refine mk_ 125 c125 (s_ ?_))
    | (refine mk_ 126 c126 (s_ ?_))
    | (refine mk_ 127 c127 (s_ ?_))
    | (refine mk_ 129 c129 (s_ ?_))
    | (refine mk_ 142 c142 (s_ ?_))
    | (refine mk_ 143 c143 (s_ ?_))
    | (refine mk_ 149 c149 (s_ ?_))
    | (refine rk_ ?_; refine ⟨rfl, ?_⟩))
  refine rk_ ?_
  refine hk _ ?_; exact om_
theorem sp_12 {p : Nat} {h : CHeap} (hf : Fit h) (hg : getEnt h.ents p = some (lxT 37)) {K : CVal → CHeap → Prop} (hk : ∀ n', h.next ≤ n' → K (.tup []) ⟨setEnt h.ents p (lxT 38), n', h.tys⟩) : Wc tree.getF 90 [.ptr p 203423748 0] h K := by
  obtain ⟨hu, hut, hX⟩ := fx4 hf
  have hY := fx5 hf hg; have ⟨hG, hD, hC, hN⟩ := hY
  have hna : ∀ a b : Nat, h.next + a + b = h.next + (a + b) := fun a b => Nat.add_assoc _ _ _
  have lp := iu_ hu hg
  have hse : setEnt h.ents p (lxT 37) = h.ents := setEnt_same hg
  skip
  refine mk_ 90 c90 (s_ ?_)
  have hZ := j5_ hX hg hY hna hse
  repeat (first
    | refine vk_ ?_
    | refine W.loop ?_
    | (refine dk_ ?_; refine W.loop ?_)
    | (refine mk_ 7 c7 (s_ ?_))
    | (refine mk_ 9 c9 (s_ ?_))
    | (refine mk_ 12 c12 (s_ ?_))
    | (refine mk_ 13 c13 (s_ ?_))
    | (refine mk_ 16 c16 (s_ ?_))
    | (refine mk_ 17 c17 (s_ ?_))
    | (refine mk_ 49 c49 (s_ ?_))
    | (refine mk_ 121 c121 (s_ ?_))
    | (refine mk_ 122 c122 (s_ ?_))
    | (refine mk_ 123 c123 (s_ ?_))
    | (refine mk_ 124 c124 (s_ ?_))
    | (refine mk_ 125 c125 (s_ ?_))
    | (refine mk_ 126 c126 (s_ ?_))
    | (refine mk_ 127 c127 (s_ ?_))
    | (refine mk_ 129 c129 (s_ ?_))
    | (refine mk_ 142 c142 (s_ ?_))
    | (refine mk_ 143 c143 (s_ ?_))
    | (refine mk_ 149 c149 (s_ ?_))
    | (refine rk_ ?_; refine ⟨rfl, ?_⟩))
  refine rk_ ?_
  refine hk _ ?_; exact om_
theorem wd_12 {p : Nat} {h : CHeap} (hf : Fit h) (hg : getEnt h.ents p = some (lxT 38)) {K : CVal → CHeap → Prop} (hk : ∀ n', h.next ≤ n' → K (.agg [.int .i64 4, .str [125], .int .u64 0, .int .i64 38]) ⟨setEnt h.ents p (lxT 39), n', h.tys⟩) : Wc tree.getF 91 [.ptr p 203423748 0] h K := by
  obtain ⟨hu, hut, hX⟩ := fx4 hf
  have hY := fx5 hf hg; have ⟨hG, hD, hC, hN⟩ := hY
  have hna : ∀ a b : Nat, h.next + a + b = h.next + (a + b) := fun a b => Nat.add_assoc _ _ _
  have lp := iu_ hu hg
  have hse : setEnt h.ents p (lxT 38) = h.ents := setEnt_same hg
  skip
  refine mk_ 91 c91 (s_ ?_)
  have hZ := j5_ hX hg hY hna hse
  repeat (first
    | refine vk_ ?_
    | refine W.loop ?_
    | (refine dk_ ?_; refine W.loop ?_)
    | (refine mk_ 7 c7 (s_ ?_))
    | (refine mk_ 9 c9 (s_ ?_))
    | (refine mk_ 12 c12 (s_ ?_))
    | (refine mk_ 13 c13 (s_ ?_))
    | (refine mk_ 16 c16 (s_ ?_))
    | (refine mk_ 17 c17 (s_ ?_))
    | (refine mk_ 49 c49 (s_ ?_))
    | (refine mk_ 121 c121 (s_ ?_))
    | (refine mk_ 122 c122 (s_ ?_))
    | (refine mk_ 123 c123 (s_ ?_))
    | (refine mk_ 124 c124 (s_ ?_))
    | (refine mk_ 125 c125 (s_ ?_))
    | (refine mk_ 126 c126 (s_ ?_))
    | (refine mk_ 127 c127 (s_ ?_))
    | (refine mk_ 129 c129 (s_ ?_))
    | (refine mk_ 142 c142 (s_ ?_))
    | (refine mk_ 143 c143 (s_ ?_))
    | (refine mk_ 149 c149 (s_ ?_))
    | (refine rk_ ?_; refine ⟨rfl, ?_⟩))
  refine rk_ ?_
  refine hk _ ?_; exact om_
theorem sp_13 {p : Nat} {h : CHeap} (hf : Fit h) (hg : getEnt h.ents p = some (lxT 39)) {K : CVal → CHeap → Prop} (hk : ∀ n', h.next ≤ n' → K (.tup []) ⟨setEnt h.ents p (lxT 39), n', h.tys⟩) : Wc tree.getF 90 [.ptr p 203423748 0] h K := by
  obtain ⟨hu, hut, hX⟩ := fx4 hf
  have hY := fx5 hf hg; have ⟨hG, hD, hC, hN⟩ := hY
  have hna : ∀ a b : Nat, h.next + a + b = h.next + (a + b) := fun a b => Nat.add_assoc _ _ _
  have lp := iu_ hu hg
  have hse : setEnt h.ents p (lxT 39) = h.ents := setEnt_same hg
  rw [hse] at hk
  refine mk_ 90 c90 (s_ ?_)
  have hZ := j5_ hX hg hY hna hse
  repeat (first
    | refine vk_ ?_
    | refine W.loop ?_
    | (refine dk_ ?_; refine W.loop ?_)
    | (refine mk_ 7 c7 (s_ ?_))
    | (refine mk_ 9 c9 (s_ ?_))
    | (refine mk_ 12 c12 (s_ ?_))
    | (refine mk_ 13 c13 (s_ ?_))
    | (refine mk_ 16 c16 (s_ ?_))
    | (refine mk_ 17 c17 (s_ ?_))
    | (refine mk_ 49 c49 (s_ ?_))
    | (refine mk_ 121 c121 (s_ ?_))
    | (refine mk_ 122 c122 (s_ ?_))
    | (refine mk_ 123 c123 (s_ ?_))
    | (refine mk_ 124 c124 (s_ ?_))
    | (refine mk_ 125 c125 (s_ ?_))
    | (refine mk_ 126 c126 (s_ ?_))
    | (refine mk_ 127 c127 (s_ ?_))
    | (refine mk_ 129 c129 (s_ ?_))
    | (refine mk_ 142 c142 (s_ ?_))
    | (refine mk_ 143 c143 (s_ ?_))
    | (refine mk_ 149 c149 (s_ ?_))
    | (refine rk_ ?_; refine ⟨rfl, ?_⟩))
  refine rk_ ?_
  refine hk _ ?_; exact om_
theorem wd_13 {p : Nat} {h : CHeap} (hf : Fit h) (hg : getEnt h.ents p = some (lxT 39)) {K : CVal → CHeap → Prop} (hk : ∀ n', h.next ≤ n' → K (.agg [.int .i64 5, .str [], .int .u64 0, .int .i64 39]) ⟨setEnt h.ents p (lxT 39), n', h.tys⟩) : Wc tree.getF 91 [.ptr p 203423748 0] h K := by
  obtain ⟨hu, hut, hX⟩ := fx4 hf
  have hY := fx5 hf hg; have ⟨hG, hD, hC, hN⟩ := hY
  have hna : ∀ a b : Nat, h.next + a + b = h.next + (a + b) := fun a b => Nat.add_assoc _ _ _
  have lp := iu_ hu hg
  have hse : setEnt h.ents p (lxT 39) = h.ents := setEnt_same hg
  rw [hse] at hk
  refine mk_ 91 c91 (s_ ?_)
  have hZ := j5_ hX hg hY hna hse
  repeat (first
    | refine vk_ ?_
    | refine W.loop ?_
    | (refine dk_ ?_; refine W.loop ?_)
    | (refine mk_ 7 c7 (s_ ?_))
    | (refine mk_ 9 c9 (s_ ?_))
    | (refine mk_ 12 c12 (s_ ?_))
    | (refine mk_ 13 c13 (s_ ?_))
    | (refine mk_ 16 c16 (s_ ?_))
    | (refine mk_ 17 c17 (s_ ?_))
    | (refine mk_ 49 c49 (s_ ?_))
    | (refine mk_ 121 c121 (s_ ?_))
    | (refine mk_ 122 c122 (s_ ?_))
    | (refine mk_ 123 c123 (s_ ?_))
    | (refine mk_ 124 c124 (s_ ?_))
    | (refine mk_ 125 c125 (s_ ?_))
    | (refine mk_ 126 c126 (s_ ?_))
    | (refine mk_ 127 c127 (s_ ?_))
    | (refine mk_ 129 c129 (s_ ?_))
    | (refine mk_ 142 c142 (s_ ?_))
    | (refine mk_ 143 c143 (s_ ?_))
    | (refine mk_ 149 c149 (s_ ?_))
    | (refine rk_ ?_; refine ⟨rfl, ?_⟩))
  refine rk_ ?_
  refine hk _ ?_; exact om_
end Go.Proofs.YtnddcjimijmenaaGreat.IrR
namespace Go.Proofs.YtnddcjimijmenaaGreat.IrR
open Go Go.CI
set_option maxRecDepth 100000
set_option maxHeartbeats 4000000
set_option linter.unusedVariables false
set_option linter.unusedSimpArgs false
attribute [local irreducible] W Wo Wc WoR
theorem lexT : Pe 66 [.str [115, 121, 110, 116, 97, 120, 61, 39, 112, 114, 111, 116, 111, 51, 39, 59, 32, 109, 101, 115, 115, 97, 103, 101, 32, 65, 32, 123, 32, 65, 32, 97, 32, 61, 32, 49, 59, 32, 125]] (.tup [.imm .none 4 [.agg [.int .i64 1, .str [115, 121, 110, 116, 97, 120], .int .u64 0, .int .i64 0], .agg [.int .i64 4, .str [61], .int .u64 0, .int .i64 6], .agg [.int .i64 3, .str [112, 114, 111, 116, 111, 51], .int .u64 0, .int .i64 7], .agg [.int .i64 4, .str [59], .int .u64 0, .int .i64 15], .agg [.int .i64 1, .str [109, 101, 115, 115, 97, 103, 101], .int .u64 0, .int .i64 17], .agg [.int .i64 1, .str [65], .int .u64 0, .int .i64 25], .agg [.int .i64 4, .str [123], .int .u64 0, .int .i64 27], .agg [.int .i64 1, .str [65], .int .u64 0, .int .i64 29], .agg [.int .i64 1, .str [97], .int .u64 0, .int .i64 31], .agg [.int .i64 4, .str [61], .int .u64 0, .int .i64 33], .agg [.int .i64 2, .str [], .int .u64 1, .int .i64 35], .agg [.int .i64 4, .str [59], .int .u64 0, .int .i64 36], .agg [.int .i64 4, .str [125], .int .u64 0, .int .i64 38], .agg [.int .i64 5, .str [], .int .u64 0, .int .i64 39]], .int .i64 0, .int .i64 0]) := by
  intro h hf K hk
  obtain ⟨hu, hut, hX⟩ := fx4 hf
  have hna : ∀ a b : Nat, h.next + a + b = h.next + (a + b) := fun a b => Nat.add_assoc _ _ _
  refine mk_ 66 c66 (s_ ?_)
  have hZ := j2_ hX hna
  repeat ((fail_if_success (show W tree.getF _ (dropped true _ _) _)); first
    | refine st_ rfl ?_
    | ((first | refine W.regG ?_ | refine WoR.go ?_); generalize e : goR .. = r; simp (disch := omega) [hZ] at e; replace e : some _ = _ := e; subst e; (try dsimp only [goW]))
    | refine W.loop ?_
    | (refine dk_ ?_; refine W.loop ?_)
    | (simp only [outOf, thenW_ret, thenW_exit, thenW_normal, roundW, reduceIte])
    | (refine sp_0 fit_ (by simp (disch := omega) [getEnt] <;> fail) fun n1 hn1 => ⟨rfl, ?_⟩; (try dsimp only at hn1))
    | (refine wd_0 fit_ (by simp (disch := omega) [getEnt] <;> fail) fun n1 hn1 => ⟨rfl, ?_⟩; (try dsimp only at hn1)))
  refine dk_ ?_
  repeat ((fail_if_success (show W tree.getF _ (dropped true _ _) _)); first
    | refine st_ rfl ?_
    | ((first | refine W.regG ?_ | refine WoR.go ?_); generalize e : goR .. = r; simp (disch := omega) [hZ] at e; replace e : some _ = _ := e; subst e; (try dsimp only [goW]))
    | refine W.loop ?_
    | (refine dk_ ?_; refine W.loop ?_)
    | (simp only [outOf, thenW_ret, thenW_exit, thenW_normal, roundW, reduceIte])
    | (refine sp_1 fit_ (by simp (disch := omega) [getEnt] <;> fail) fun n1 hn1 => ⟨rfl, ?_⟩; (try dsimp only at hn1))
    | (refine wd_1 fit_ (by simp (disch := omega) [getEnt] <;> fail) fun n1 hn1 => ⟨rfl, ?_⟩; (try dsimp only at hn1)))
  refine dk_ ?_
  repeat ((fail_if_success (show W tree.getF _ (dropped true _ _) _)); first
    | refine st_ rfl ?_
    | ((first | refine W.regG ?_ | refine WoR.go ?_); generalize e : goR .. = r; simp (disch := omega) [hZ] at e; replace e : some _ = _ := e; subst e; (try dsimp only [goW]))
    | refine W.loop ?_
    | (refine dk_ ?_; refine W.loop ?_)
    | (simp only [outOf, thenW_ret, thenW_exit, thenW_normal, roundW, reduceIte])
    | (refine sp_2 fit_ (by simp (disch := omega) [getEnt] <;> fail) fun n1 hn1 => ⟨rfl, ?_⟩; (try dsimp only at hn1))
    | (refine wd_2 fit_ (by simp (disch := omega) [getEnt] <;> fail) fun n1 hn1 => ⟨rfl, ?_⟩; (try dsimp only at hn1)))
  refine dk_ ?_
  repeat ((fail_if_success (show W tree.getF _ (dropped true _ _) _)); first
    | refine st_ rfl ?_
    | ((first | refine W.regG ?_ | refine WoR.go ?_); generalize e : goR .. = r; simp (disch := omega) [hZ] at e; replace e : some _ = _ := e; subst e; (try dsimp only [goW]))
    | refine W.loop ?_
    | (refine dk_ ?_; refine W.loop ?_)
    | (simp only [outOf, thenW_ret, thenW_exit, thenW_normal, roundW, reduceIte])
    | (refine sp_3 fit_ (by simp (disch := omega) [getEnt] <;> fail) fun n1 hn1 => ⟨rfl, ?_⟩; (try dsimp only at hn1))
    | (refine wd_3 fit_ (by simp (disch := omega) [getEnt] <;> fail) fun n1 hn1 => ⟨rfl, ?_⟩; (try dsimp only at hn1)))
  refine dk_ ?_
  repeat ((fail_if_success (show W tree.getF _ (dropped true _ _) _)); first
    | refine st_ rfl ?_
    | ((first | refine W.regG ?_ | refine WoR.go ?_); generalize e : goR .. = r; simp (disch := omega) [hZ] at e; replace e : some _ = _ := e; subst e; (try dsimp only [goW]))
    | refine W.loop ?_
    | (refine dk_ ?_; refine W.loop ?_)
    | (simp only [outOf, thenW_ret, thenW_exit, thenW_normal, roundW, reduceIte])
    | (refine sp_4 fit_ (by simp (disch := omega) [getEnt] <;> fail) fun n1 hn1 => ⟨rfl, ?_⟩; (try dsimp only at hn1))
    | (refine wd_4 fit_ (by simp (disch := omega) [getEnt] <;> fail) fun n1 hn1 => ⟨rfl, ?_⟩; (try dsimp only at hn1)))
  refine dk_ ?_
  repeat ((fail_if_success (show W tree.getF _ (dropped true _ _) _)); first
    | refine st_ rfl ?_
    | ((first | refine W.regG ?_ | refine WoR.go ?_); generalize e : goR .. = r; simp (disch := omega) [hZ] at e; replace e : some _ = _ := e; subst e; (try dsimp only [goW]))
    | refine W.loop ?_
    | (refine dk_ ?_; refine W.loop ?_)
    | (simp only [outOf, thenW_ret, thenW_exit, thenW_normal, roundW, reduceIte])
    | (refine sp_5 fit_ (by simp (disch := omega) [getEnt] <;> fail) fun n1 hn1 => ⟨rfl, ?_⟩; (try dsimp only at hn1))
    | (refine wd_5 fit_ (by simp (disch := omega) [getEnt] <;> fail) fun n1 hn1 => ⟨rfl, ?_⟩; (try dsimp only at hn1)))
  refine dk_ ?_
  repeat ((fail_if_success (show W tree.getF _ (dropped true _ _) _)); first
    | refine st_ rfl ?_
    | ((first | refine W.regG ?_ | refine WoR.go ?_); generalize e : goR .. = r; simp (disch := omega) [hZ] at e; replace e : some _ = _ := e; subst e; (try dsimp only [goW]))
    | refine W.loop ?_
    | (refine dk_ ?_; refine W.loop ?_)
    | (simp only [outOf, thenW_ret, thenW_exit, thenW_normal, roundW, reduceIte])
    | (refine sp_6 fit_ (by simp (disch := omega) [getEnt] <;> fail) fun n1 hn1 => ⟨rfl, ?_⟩; (try dsimp only at hn1))
    | (refine wd_6 fit_ (by simp (disch := omega) [getEnt] <;> fail) fun n1 hn1 => ⟨rfl, ?_⟩; (try dsimp only at hn1)))
  refine dk_ ?_
  repeat ((fail_if_success (show W tree.getF _ (dropped true _ _) _)); first
    | refine st_ rfl ?_
    | ((first | refine W.regG ?_ | refine WoR.go ?_); generalize e : goR .. = r; simp (disch := omega) [hZ] at e; replace e : some _ = _ := e; subst e; (try dsimp only [goW]))
    | refine W.loop ?_
    | (refine dk_ ?_; refine W.loop ?_)
    | (simp only [outOf, thenW_ret, thenW_exit, thenW_normal, roundW, reduceIte])
    | (refine sp_7 fit_ (by simp (disch := omega) [getEnt] <;> fail) fun n1 hn1 => ⟨rfl, ?_⟩; (try dsimp only at hn1))
    | (refine wd_7 fit_ (by simp (disch := omega) [getEnt] <;> fail) fun n1 hn1 => ⟨rfl, ?_⟩; (try dsimp only at hn1)))
  refine dk_ ?_
  repeat ((fail_if_success (show W tree.getF _ (dropped true _ _) _)); first
    | refine st_ rfl ?_
    | ((first | refine W.regG ?_ | refine WoR.go ?_); generalize e : goR .. = r; simp (disch := omega) [hZ] at e; replace e : some _ = _ := e; subst e; (try dsimp only [goW]))
    | refine W.loop ?_
    | (refine dk_ ?_; refine W.loop ?_)
    | (simp only [outOf, thenW_ret, thenW_exit, thenW_normal, roundW, reduceIte])
    | (refine sp_8 fit_ (by simp (disch := omega) [getEnt] <;> fail) fun n1 hn1 => ⟨rfl, ?_⟩; (try dsimp only at hn1))
    | (refine wd_8 fit_ (by simp (disch := omega) [getEnt] <;> fail) fun n1 hn1 => ⟨rfl, ?_⟩; (try dsimp only at hn1)))
  refine dk_ ?_
  repeat ((fail_if_success (show W tree.getF _ (dropped true _ _) _)); first
    | refine st_ rfl ?_
    | ((first | refine W.regG ?_ | refine WoR.go ?_); generalize e : goR .. = r; simp (disch := omega) [hZ] at e; replace e : some _ = _ := e; subst e; (try dsimp only [goW]))
    | refine W.loop ?_
    | (refine dk_ ?_; refine W.loop ?_)
    | (simp only [outOf, thenW_ret, thenW_exit, thenW_normal, roundW, reduceIte])
    | (refine sp_9 fit_ (by simp (disch := omega) [getEnt] <;> fail) fun n1 hn1 => ⟨rfl, ?_⟩; (try dsimp only at hn1))
    | (refine wd_9 fit_ (by simp (disch := omega) [getEnt] <;> fail) fun n1 hn1 => ⟨rfl, ?_⟩; (try dsimp only at hn1)))
  refine dk_ ?_
  repeat ((fail_if_success (show W tree.getF _ (dropped true _ _) _)); first
    | refine st_ rfl ?_
    | ((first | refine W.regG ?_ | refine WoR.go ?_); generalize e : goR .. = r; simp (disch := omega) [hZ] at e; replace e : some _ = _ := e; subst e; (try dsimp only [goW]))
    | refine W.loop ?_
    | (refine dk_ ?_; refine W.loop ?_)
    | (simp only [outOf, thenW_ret, thenW_exit, thenW_normal, roundW, reduceIte])
    | (refine sp_10 fit_ (by simp (disch := omega) [getEnt] <;> fail) fun n1 hn1 => ⟨rfl, ?_⟩; (try dsimp only at hn1))
    | (refine wd_10 fit_ (by simp (disch := omega) [getEnt] <;> fail) fun n1 hn1 => ⟨rfl, ?_⟩; (try dsimp only at hn1)))
  refine dk_ ?_
  repeat ((fail_if_success (show W tree.getF _ (dropped true _ _) _)); first
    | refine st_ rfl ?_
    | ((first | refine W.regG ?_ | refine WoR.go ?_); generalize e : goR .. = r; simp (disch := omega) [hZ] at e; replace e : some _ = _ := e; subst e; (try dsimp only [goW]))
    | refine W.loop ?_
    | (refine dk_ ?_; refine W.loop ?_)
    | (simp only [outOf, thenW_ret, thenW_exit, thenW_normal, roundW, reduceIte])
    | (refine sp_11 fit_ (by simp (disch := omega) [getEnt] <;> fail) fun n1 hn1 => ⟨rfl, ?_⟩; (try dsimp only at hn1))
    | (refine wd_11 fit_ (by simp (disch := omega) [getEnt] <;> fail) fun n1 hn1 => ⟨rfl, ?_⟩; (try dsimp only at hn1)))
  refine dk_ ?_
  repeat ((fail_if_success (show W tree.getF _ (dropped true _ _) _)); first
    | refine st_ rfl ?_
    | ((first | refine W.regG ?_ | refine WoR.go ?_); generalize e : goR .. = r; simp (disch := omega) [hZ] at e; replace e : some _ = _ := e; subst e; (try dsimp only [goW]))
    | refine W.loop ?_
    | (refine dk_ ?_; refine W.loop ?_)
    | (simp only [outOf, thenW_ret, thenW_exit, thenW_normal, roundW, reduceIte])
    | (refine sp_12 fit_ (by simp (disch := omega) [getEnt] <;> fail) fun n1 hn1 => ⟨rfl, ?_⟩; (try dsimp only at hn1))
    | (refine wd_12 fit_ (by simp (disch := omega) [getEnt] <;> fail) fun n1 hn1 => ⟨rfl, ?_⟩; (try dsimp only at hn1)))
  refine dk_ ?_
  repeat (first
    | refine vk_ ?_
    | refine W.loop ?_
    | (refine dk_ ?_; refine W.loop ?_)
    | (refine sp_13 fit_ (by simp (disch := omega) [getEnt] <;> fail) fun n1 hn1 => ⟨rfl, ?_⟩; (try dsimp only at hn1))
    | (refine wd_13 fit_ (by simp (disch := omega) [getEnt] <;> fail) fun n1 hn1 => ⟨rfl, ?_⟩; (try dsimp only at hn1)))
  refine rk_ ?_
  refine hk _ ?_; exact om_
end Go.Proofs.YtnddcjimijmenaaGreat.IrR
namespace Go.Proofs.YtnddcjimijmenaaGreat.IrR
open Go Go.CI
set_option maxRecDepth 100000
set_option maxHeartbeats 4000000
set_option linter.unusedVariables false
set_option linter.unusedSimpArgs false
attribute [local irreducible] W Wo Wc WoR
theorem parseT : Pe 42 [.str [115, 121, 110, 116, 97, 120, 61, 39, 112, 114, 111, 116, 111, 51, 39, 59, 32, 109, 101, 115, 115, 97, 103, 101, 32, 65, 32, 123, 32, 65, 32, 97, 32, 61, 32, 49, 59, 32, 125]] (.tup [.agg [.str [], .nils, .imm .none 7 [.agg [.str [65], .imm .none 7 [.agg [.int .i64 0, .str [65], .str [], .str [97], .int .u64 1, .int .i64 0, .int .i64 0]], .nils, .nils, .nils, .nils, .nils]], .nils], .int .i64 0, .int .i64 0]) := by
  intro h hf K hk
  obtain ⟨hu, hut, hX⟩ := fx4 hf
  have hna : ∀ a b : Nat, h.next + a + b = h.next + (a + b) := fun a b => Nat.add_assoc _ _ _
  refine mk_ 42 c42 (s_ ?_)
  have hZ := j2_ hX hna
  repeat (first
    | refine vk_ ?_
    | (refine dk_ ?_; refine W.loop ?_)
    | refine W.loop ?_
    | (refine pe_ lexT fun n1 hn1 => ⟨rfl, ?_⟩; (try dsimp only at hn1))
    | (refine mk_ 7 c7 (s_ ?_))
    | (refine mk_ 9 c9 (s_ ?_))
    | (refine mk_ 12 c12 (s_ ?_))
    | (refine mk_ 13 c13 (s_ ?_))
    | (refine mk_ 16 c16 (s_ ?_))
    | (refine mk_ 17 c17 (s_ ?_))
    | (refine mk_ 22 c22 (s_ ?_))
    | (refine mk_ 23 c23 (s_ ?_))
    | (refine mk_ 24 c24 (s_ ?_))
    | (refine mk_ 25 c25 (s_ ?_))
    | (refine mk_ 26 c26 (s_ ?_))
    | (refine mk_ 27 c27 (s_ ?_))
    | (refine mk_ 28 c28 (s_ ?_))
    | (refine mk_ 30 c30 (s_ ?_))
    | (refine mk_ 31 c31 (s_ ?_))
    | (refine mk_ 41 c41 (s_ ?_))
    | (refine mk_ 43 c43 (s_ ?_))
    | (refine mk_ 44 c44 (s_ ?_))
    | (refine mk_ 45 c45 (s_ ?_))
    | (refine mk_ 46 c46 (s_ ?_))
    | (refine mk_ 47 c47 (s_ ?_))
    | (refine mk_ 48 c48 (s_ ?_))
    | (refine mk_ 49 c49 (s_ ?_))
    | (refine mk_ 52 c52 (s_ ?_))
    | (refine mk_ 67 c67 (s_ ?_))
    | (refine mk_ 68 c68 (s_ ?_))
    | (refine mk_ 69 c69 (s_ ?_))
    | (refine mk_ 70 c70 (s_ ?_))
    | (refine mk_ 71 c71 (s_ ?_))
    | (refine mk_ 72 c72 (s_ ?_))
    | (refine mk_ 73 c73 (s_ ?_))
    | (refine mk_ 74 c74 (s_ ?_))
    | (refine mk_ 75 c75 (s_ ?_))
    | (refine mk_ 76 c76 (s_ ?_))
    | (refine mk_ 77 c77 (s_ ?_))
    | (refine mk_ 78 c78 (s_ ?_))
    | (refine mk_ 81 c81 (s_ ?_))
    | (refine mk_ 92 c92 (s_ ?_))
    | (refine mk_ 93 c93 (s_ ?_))
    | (refine mk_ 94 c94 (s_ ?_))
    | (refine mk_ 95 c95 (s_ ?_))
    | (refine mk_ 96 c96 (s_ ?_))
    | (refine mk_ 97 c97 (s_ ?_))
    | (refine mk_ 98 c98 (s_ ?_))
    | (refine mk_ 102 c102 (s_ ?_))
    | (refine mk_ 104 c104 (s_ ?_))
    | (refine mk_ 105 c105 (s_ ?_))
    | (refine mk_ 128 c128 (s_ ?_))
    | (refine mk_ 129 c129 (s_ ?_))
    | (refine mk_ 130 c130 (s_ ?_))
    | (refine mk_ 131 c131 (s_ ?_))
    | (refine mk_ 132 c132 (s_ ?_))
    | (refine mk_ 133 c133 (s_ ?_))
    | (refine mk_ 142 c142 (s_ ?_))
    | (refine mk_ 143 c143 (s_ ?_))
    | (refine mk_ 145 c145 (s_ ?_))
    | (refine mk_ 149 c149 (s_ ?_))
    | (refine rk_ ?_; refine ⟨rfl, ?_⟩))
  refine rk_ ?_
  refine hk _ ?_; exact om_
theorem loadT : Pe 14 [.imm .full 2 [.agg [.str [120], .str [115, 121, 110, 116, 97, 120, 61, 39, 112, 114, 111, 116, 111, 51, 39, 59, 32, 109, 101, 115, 115, 97, 103, 101, 32, 65, 32, 123, 32, 65, 32, 97, 32, 61, 32, 49, 59, 32, 125]]]] (.tup [.imm .none 6 [.agg [.str [120], .str [], .nils, .imm .none 7 [.agg [.str [65], .imm .none 7 [.agg [.int .i64 0, .str [65], .str [], .str [97], .int .u64 1, .int .i64 0, .int .i64 0]], .nils, .nils, .nils, .nils, .nils]], .nils, .imm .none 1 [.str [120]]]], .int .i64 0, .str [], .int .i64 0]) := by
  intro h hf K hk
  obtain ⟨hu, hut, hX⟩ := fx4 hf
  have hna : ∀ a b : Nat, h.next + a + b = h.next + (a + b) := fun a b => Nat.add_assoc _ _ _
  refine mk_ 14 c14 (s_ ?_)
  have hZ := j2_ hX hna
  repeat (first
    | refine vk_ ?_
    | (refine dk_ ?_; refine W.loop ?_)
    | refine W.loop ?_
    | (refine pe_ parseT fun n1 hn1 => ⟨rfl, ?_⟩; (try dsimp only at hn1))
    | (refine mk_ 7 c7 (s_ ?_))
    | (refine mk_ 9 c9 (s_ ?_))
    | (refine mk_ 12 c12 (s_ ?_))
    | (refine mk_ 13 c13 (s_ ?_))
    | (refine mk_ 16 c16 (s_ ?_))
    | (refine mk_ 17 c17 (s_ ?_))
    | (refine mk_ 22 c22 (s_ ?_))
    | (refine mk_ 23 c23 (s_ ?_))
    | (refine mk_ 24 c24 (s_ ?_))
    | (refine mk_ 25 c25 (s_ ?_))
    | (refine mk_ 26 c26 (s_ ?_))
    | (refine mk_ 27 c27 (s_ ?_))
    | (refine mk_ 28 c28 (s_ ?_))
    | (refine mk_ 30 c30 (s_ ?_))
    | (refine mk_ 31 c31 (s_ ?_))
    | (refine mk_ 41 c41 (s_ ?_))
    | (refine mk_ 43 c43 (s_ ?_))
    | (refine mk_ 44 c44 (s_ ?_))
    | (refine mk_ 45 c45 (s_ ?_))
    | (refine mk_ 46 c46 (s_ ?_))
    | (refine mk_ 47 c47 (s_ ?_))
    | (refine mk_ 48 c48 (s_ ?_))
    | (refine mk_ 49 c49 (s_ ?_))
    | (refine mk_ 52 c52 (s_ ?_))
    | (refine mk_ 67 c67 (s_ ?_))
    | (refine mk_ 68 c68 (s_ ?_))
    | (refine mk_ 69 c69 (s_ ?_))
    | (refine mk_ 70 c70 (s_ ?_))
    | (refine mk_ 71 c71 (s_ ?_))
    | (refine mk_ 72 c72 (s_ ?_))
    | (refine mk_ 73 c73 (s_ ?_))
    | (refine mk_ 74 c74 (s_ ?_))
    | (refine mk_ 75 c75 (s_ ?_))
    | (refine mk_ 76 c76 (s_ ?_))
    | (refine mk_ 77 c77 (s_ ?_))
    | (refine mk_ 78 c78 (s_ ?_))
    | (refine mk_ 81 c81 (s_ ?_))
    | (refine mk_ 92 c92 (s_ ?_))
    | (refine mk_ 93 c93 (s_ ?_))
    | (refine mk_ 94 c94 (s_ ?_))
    | (refine mk_ 95 c95 (s_ ?_))
    | (refine mk_ 96 c96 (s_ ?_))
    | (refine mk_ 97 c97 (s_ ?_))
    | (refine mk_ 98 c98 (s_ ?_))
    | (refine mk_ 102 c102 (s_ ?_))
    | (refine mk_ 104 c104 (s_ ?_))
    | (refine mk_ 105 c105 (s_ ?_))
    | (refine mk_ 128 c128 (s_ ?_))
    | (refine mk_ 129 c129 (s_ ?_))
    | (refine mk_ 130 c130 (s_ ?_))
    | (refine mk_ 131 c131 (s_ ?_))
    | (refine mk_ 132 c132 (s_ ?_))
    | (refine mk_ 133 c133 (s_ ?_))
    | (refine mk_ 142 c142 (s_ ?_))
    | (refine mk_ 143 c143 (s_ ?_))
    | (refine mk_ 145 c145 (s_ ?_))
    | (refine mk_ 149 c149 (s_ ?_))
    | (refine rk_ ?_; refine ⟨rfl, ?_⟩))
  refine rk_ ?_
  refine hk _ ?_; exact om_
end Go.Proofs.YtnddcjimijmenaaGreat.IrR
namespace Go.Proofs.YtnddcjimijmenaaGreat.IrR
open Go Go.CI
set_option maxRecDepth 100000
set_option maxHeartbeats 4000000
set_option linter.unusedVariables false
set_option linter.unusedSimpArgs false
attribute [local irreducible] W Wo Wc WoR
theorem schemaT : Pe 15 [.imm .none 6 [.agg [.str [120], .str [], .nils, .imm .none 7 [.agg [.str [65], .imm .none 7 [.agg [.int .i64 0, .str [65], .str [], .str [97], .int .u64 1, .int .i64 0, .int .i64 0]], .nils, .nils, .nils, .nils, .nils]], .nils, .imm .none 1 [.str [120]]]]] (.tup [.agg schA, .int .i64 0, .str []]) := by
  intro h hf K hk
  obtain ⟨hu, hut, hX⟩ := fx4 hf
  have hna : ∀ a b : Nat, h.next + a + b = h.next + (a + b) := fun a b => Nat.add_assoc _ _ _
  refine mk_ 15 c15 (s_ ?_)
  have hZ := j2_ hX hna
  repeat (first
    | refine vk_ ?_
    | (refine dk_ ?_; refine W.loop ?_)
    | refine W.loop ?_
    | (refine mk_ 7 c7 (s_ ?_))
    | (refine mk_ 9 c9 (s_ ?_))
    | (refine mk_ 12 c12 (s_ ?_))
    | (refine mk_ 13 c13 (s_ ?_))
    | (refine mk_ 16 c16 (s_ ?_))
    | (refine mk_ 17 c17 (s_ ?_))
    | (refine mk_ 22 c22 (s_ ?_))
    | (refine mk_ 23 c23 (s_ ?_))
    | (refine mk_ 24 c24 (s_ ?_))
    | (refine mk_ 25 c25 (s_ ?_))
    | (refine mk_ 26 c26 (s_ ?_))
    | (refine mk_ 27 c27 (s_ ?_))
    | (refine mk_ 28 c28 (s_ ?_))
    | (refine mk_ 30 c30 (s_ ?_))
    | (refine mk_ 31 c31 (s_ ?_))
    | (refine mk_ 41 c41 (s_ ?_))
    | (refine mk_ 43 c43 (s_ ?_))
    | (refine mk_ 44 c44 (s_ ?_))
    | (refine mk_ 45 c45 (s_ ?_))
    | (refine mk_ 46 c46 (s_ ?_))
    | (refine mk_ 47 c47 (s_ ?_))
    | (refine mk_ 48 c48 (s_ ?_))
    | (refine mk_ 49 c49 (s_ ?_))
    | (refine mk_ 52 c52 (s_ ?_))
    | (refine mk_ 67 c67 (s_ ?_))
    | (refine mk_ 68 c68 (s_ ?_))
    | (refine mk_ 69 c69 (s_ ?_))
    | (refine mk_ 70 c70 (s_ ?_))
    | (refine mk_ 71 c71 (s_ ?_))
    | (refine mk_ 72 c72 (s_ ?_))
    | (refine mk_ 73 c73 (s_ ?_))
    | (refine mk_ 74 c74 (s_ ?_))
    | (refine mk_ 75 c75 (s_ ?_))
    | (refine mk_ 76 c76 (s_ ?_))
    | (refine mk_ 77 c77 (s_ ?_))
    | (refine mk_ 78 c78 (s_ ?_))
    | (refine mk_ 81 c81 (s_ ?_))
    | (refine mk_ 92 c92 (s_ ?_))
    | (refine mk_ 93 c93 (s_ ?_))
    | (refine mk_ 94 c94 (s_ ?_))
    | (refine mk_ 95 c95 (s_ ?_))
    | (refine mk_ 96 c96 (s_ ?_))
    | (refine mk_ 97 c97 (s_ ?_))
    | (refine mk_ 98 c98 (s_ ?_))
    | (refine mk_ 102 c102 (s_ ?_))
    | (refine mk_ 104 c104 (s_ ?_))
    | (refine mk_ 105 c105 (s_ ?_))
    | (refine mk_ 128 c128 (s_ ?_))
    | (refine mk_ 129 c129 (s_ ?_))
    | (refine mk_ 130 c130 (s_ ?_))
    | (refine mk_ 131 c131 (s_ ?_))
    | (refine mk_ 132 c132 (s_ ?_))
    | (refine mk_ 133 c133 (s_ ?_))
    | (refine mk_ 142 c142 (s_ ?_))
    | (refine mk_ 143 c143 (s_ ?_))
    | (refine mk_ 145 c145 (s_ ?_))
    | (refine mk_ 149 c149 (s_ ?_))
    | (refine rk_ ?_; refine ⟨rfl, ?_⟩))
  refine rk_ ?_
  refine hk _ ?_; exact om_
theorem of_T : Pe 8 [.str [115, 121, 110, 116, 97, 120, 61, 39, 112, 114, 111, 116, 111, 51, 39, 59, 32, 109, 101, 115, 115, 97, 103, 101, 32, 65, 32, 123, 32, 65, 32, 97, 32, 61, 32, 49, 59, 32, 125]] (.tup [.agg schA, .bool true]) := by
  intro h hf K hk
  obtain ⟨hu, hut, hX⟩ := fx4 hf
  have hna : ∀ a b : Nat, h.next + a + b = h.next + (a + b) := fun a b => Nat.add_assoc _ _ _
  refine mk_ 8 c8 (s_ ?_)
  have hZ := j2_ hX hna
  repeat (first
    | refine vk_ ?_
    | (refine pe_ loadT fun n1 hn1 => ⟨rfl, ?_⟩; (try dsimp only at hn1))
    | (refine pe_ schemaT fun n1 hn1 => ⟨rfl, ?_⟩; (try dsimp only at hn1)))
  refine rk_ ?_
  refine hk _ ?_; exact om_
end Go.Proofs.YtnddcjimijmenaaGreat.IrR
namespace Go.Proofs.YtnddcjimijmenaaGreat.IrR
open Go Go.CI
set_option maxRecDepth 100000
set_option maxHeartbeats 4000000
set_option linter.unusedVariables false
set_option linter.unusedSimpArgs false
attribute [local irreducible] W Wo Wc WoR

abbrev prA : CCode := (.loop true (.seq (.seq (.region [.v 3, .v 4, .g (.len false (.loc 0)), .h .lss 2 0] [(5, 3)] [] []) (.cond (.var 5) .skip (.exit 0))) (.seq (.block 1 (.seq (.region [.v 4, .v 3, .g (.idxAddr 5 (.loc 1) (.loc 0)), .f 0 0, .l 0, .x .eql 0 (.k 1)] [(6, 5)] [] []) (.cond (.var 6) (.seq (.region [.m (.b true)] [(22, 0)] [] []) .ret) .skip))) (.region [.v 3, .x .add 0 (.k 1), .m (.loc 0)] [(3, 2)] [] []))))
abbrev prB : CCode := (.loop true (.seq (.seq (.region [.v 8, .v 9, .h .lss 1 0] [(10, 2)] [] []) (.cond (.var 10) .skip (.exit 2))) (.seq (.block 3 (.region [.v 1, .v 11, .g (.build [(.int .i64 0), (.int .i64 0), (.int .u64 0), (.str []), (.str [])] [(0, 1, (.k 1)), (1, 1, (.k 2)), (3, 1, (.loc 0))]), .g (.call false 9 [(.loc 0)]), .h .add 3 0, .v 1, .h .add 1 0, .m (.loc 0)] [(11, 7)] [] [])) (.region [.v 8, .x .add 0 (.k 1), .m (.loc 0)] [(8, 2)] [] []))))
abbrev prC : CCode := (.loop true (.seq (.seq (.region [.v 18, .v 9, .h .lss 1 0] [(19, 2)] [] []) (.cond (.var 19) .skip (.exit 4))) (.seq (.block 5 (.seq (.seq (.region [.v 16, .x .neq 0 (.k 0), .m (.loc 0), .q (.fieldAddr 1 (.var 20)) 0 false, .q (.load none (.loc 0)) 1 false, .q (.mv (.var 1)) 2 false, .q (.mv (.var 1)) 3 false, .q (.bin .add (.loc 1) (.loc 0)) 4 false, .q (.bin .neq (.loc 3) (.loc 0)) 5 false, .g (.pick (.loc 6) (.b true) (.loc 0)), .m (.loc 0), .q (.fieldAddr 0 (.var 20)) 0 false, .q (.load none (.loc 0)) 1 false, .q (.len false (.loc 0)) 2 false, .q (.bin .neq (.loc 0) (.k 1)) 3 false, .g (.pick (.loc 4) (.b true) (.loc 0)), .m (.loc 0), .q (.fieldAddr 0 (.var 20)) 0 false, .q (.load none (.loc 0)) 1 false, .q (.idxAddr 2 (.loc 0) (.k 0)) 2 false, .q (.fieldAddr 1 (.loc 0)) 3 false, .q (.load none (.loc 0)) 4 false, .q (.len false (.loc 0)) 5 false, .q (.bin .neq (.loc 0) (.k 1)) 6 false, .g (.pick (.loc 7) (.b true) (.loc 0))] [(21, 24)] [] []) (.cond (.var 21) (.seq (.region [.m (.b false)] [(22, 0)] [] []) .ret) .skip)) (.region [.g (.fieldAddr 0 (.var 20)), .l 0, .g (.idxAddr 2 (.loc 0) (.k 0)), .f 1 0, .l 0, .g (.idxAddr 4 (.loc 0) (.k 0)), .f 2 0, .g (.load (some 2) (.loc 0)), .g (.store 2 (.var 20) (.loc 0))] [] [] []))) (.region [.v 18, .x .add 0 (.k 1), .m (.loc 0)] [(18, 2)] [] []))))
theorem pr_a (w0 w1 w2 w7 w8 w9 w10 w11 w12 w13 w14 w15 w16 w17 w18 w19 w20 w21 w22 : CVal) (ty : List (Nat × Nat)) (l : List Rc) (hlen : l.length ≤ 5000) (Q : CExit → CSt → Prop) : ∀ (r pre : List Rc) (n : Nat) (w5 w6 : CVal), l = pre ++ r →
    (∀ n' w3 w5 w6, n ≤ n' → (∀ x ∈ r, x.num ≠ 1) → Q (.exit 0) ⟨[w0, w1, w2, w3, recsV l, w5, w6, w7, w8, w9, w10, w11, w12, w13, w14, w15, w16, w17, w18, w19, w20, w21, w22], ⟨[], n', ty⟩, []⟩) →
    (∀ n' w3 w5 w6, n ≤ n' → Q .ret ⟨[w0, w1, w2, w3, recsV l, w5, w6, w7, w8, w9, w10, w11, w12, w13, w14, w15, w16, w17, w18, w19, w20, w21, .bool true], ⟨[], n', ty⟩, []⟩) →
    W tree.getF prA ⟨[w0, w1, w2, .int .i64 pre.length, recsV l, w5, w6, w7, w8, w9, w10, w11, w12, w13, w14, w15, w16, w17, w18, w19, w20, w21, w22], ⟨[], n, ty⟩, []⟩ Q := by
  intro r
  induction r with
  | nil =>
    intro pre n w5 w6 hl h1 h2
    have hpl : pre.length = l.length := by rw [hl]; simp
    rw [hpl]
    have hlo : (recsV l).lenOf = some l.length := by cases l <;> simp [recsV, CVal.lenOf]
    have hu1 : (recsV l).isUndef = false := by cases l <;> rfl
    cases l with
    | nil =>
      dsimp only [recsV] at *
      repeat (first
        | refine v0_ ?_
        | refine W.loop ?_
        | (refine d0_ ?_; refine W.loop ?_))
      refine h1 _ _ _ _ ?_ (by simp); exact om_
    | cons a l =>
      dsimp only [recsV] at *
      have hlm : (l.map recV).length = l.length := by simp
      have hZ := hlm
      repeat (first
        | refine vk_ ?_
        | refine W.loop ?_
        | (refine dk_ ?_; refine W.loop ?_))
      refine h1 _ _ _ _ ?_ (by simp); exact om_
  | cons x r ih =>
    intro pre n w5 w6 hl h1 h2
    have hpl : pre.length < l.length := by rw [hl]; simp
    have hrv : recsV l = .imm .none 5 (l.map recV) := by rw [hl]; cases pre <;> rfl
    have hnth : nth (l.map recV) pre.length = recV x := nth_mapG recV l pre.length x (by rw [hl]; simp)
    have hpt : (pre.length : Int).toNat = pre.length := by omega
    have hlm : (l.map recV).length = l.length := by simp
    have hl2 : l = (pre ++ [x]) ++ r := by rw [hl]; simp
    rw [hrv] at h1 h2 ⊢
    generalize l.map recV = LV at *
    obtain ⟨rn, rw, rN, rs, rr⟩ := x
    dsimp only [recV] at hnth
    by_cases hr : rn = 1
    · subst hr
      have hZ := j3_ hnth hpt hlm
      repeat (first
        | refine vk_ ?_
        | refine W.loop ?_
        | (refine dk_ ?_; refine W.loop ?_))
      refine W.ret ?_
      simp only [outOf, thenW_ret, thenW_exit, thenW_normal, roundW, reduceIte]
      refine h2 _ _ _ _ ?_; exact om_
    · have hr' : ((rn : Int) == 1) = false := by simp; omega
      have hZ := j4_ hnth hpt hlm hr'
      repeat ((fail_if_success (show W tree.getF _ (dropped true _ _) _)); first
        | refine st_ rfl ?_
        | ((first | refine W.regG ?_ | refine WoR.go ?_); generalize e : goR .. = r; simp (disch := omega) [hZ] at e; replace e : some _ = _ := e; subst e; (try dsimp only [goW]))
        | refine W.loop ?_
        | (refine dk_ ?_; refine W.loop ?_)
        | (simp only [outOf, thenW_ret, thenW_exit, thenW_normal, roundW, reduceIte]))
      refine dk_ ?_
      rw [← hrv] at h1 h2 ⊢
      rw [show ((pre.length : Int) + 1) = ((pre ++ [⟨rn, rw, rN, rs, rr⟩] : List Rc).length : Int) from by simp]
      refine ih (pre ++ [⟨rn, rw, rN, rs, rr⟩]) _ _ _ hl2 ?_ ?_
      · intro n' w3 w5 w6 hn hx
        refine h1 n' w3 w5 w6 (by omega) (fun y hy => ?_)
        rcases List.mem_cons.1 hy with rfl | hy
        · exact hr
        · exact hx y hy
      · intro n' w3 w5 w6 hn
        exact h2 n' w3 w5 w6 (by omega)
theorem pr_b (w0 w2 w3 w4 w5 w6 w7 w12 w13 w14 w15 w16 w17 w18 w19 w20 w21 w22 : CVal) (rest : List UInt8) (hrest : rest.length ≤ 60) (k c12 : Nat) (hk : k ≤ 14) (cs : List CVal) (ty : List (Nat × Nat)) (hty : UnderT ty c12) (Q : CExit → CSt → Prop) : ∀ (m i : Nat) (n : Nat) (w10 : CVal), i + m = k → c12 < n →
    (∀ n' w8 w10, n ≤ n' → Q (.exit 2) ⟨[w0, .str rest, w2, w3, w4, w5, w6, w7, w8, .int .i64 k, w10, .str (bytC rest k), w12, w13, w14, w15, w16, w17, w18, w19, w20, w21, w22], ⟨[(c12, .cells cs)], n', ty⟩, []⟩) →
    W tree.getF prB ⟨[w0, .str rest, w2, w3, w4, w5, w6, w7, .int .i64 i, .int .i64 k, w10, .str (bytC rest i), w12, w13, w14, w15, w16, w17, w18, w19, w20, w21, w22], ⟨[(c12, .cells cs)], n, ty⟩, []⟩ Q := by
  intro m
  induction m with
  | zero =>
    intro i n w10 hi hc h1
    have hi : i = k := by omega
    subst hi
    repeat (first
      | refine v0_ ?_
      | refine W.loop ?_
      | (refine d0_ ?_; refine W.loop ?_))
    refine h1 _ _ _ ?_; exact om_
  | succ m ih =>
    intro i n w10 hi hc h1
    have hb := bytC_len rest hrest i (by omega)
    have hb1 := putC_len (bytC rest i) (by omega)
    have V1 := put_F (bytC rest i) (by omega)
    have hx : bytC rest (i + 1) = rest ++ (putC (bytC rest i) ++ rest) := rfl
    have hf : Fit (⟨[(c12, .cells cs)], n, ty⟩ : CHeap) := ⟨Under.cons hc Under.nil, hty.le (by dsimp only; omega)⟩
    obtain ⟨hu, hut, hX⟩ := fx4 hf
    dsimp only at hu hut
    clear hX
    have ih' := ih (i + 1)
    rw [hx] at ih'
    generalize bytC rest i = B at *
    generalize hP : putC B = P at *
    have hix : (i : Int) < k := by omega
    have hZ := hb1
    repeat ((fail_if_success (show W tree.getF _ (dropped true _ _) _)); first
      | refine st_ rfl ?_
      | ((first | refine W.regG ?_ | refine WoR.go ?_); generalize e : goR .. = r; simp (disch := omega) [hZ] at e; replace e : some _ = _ := e; subst e; (try dsimp only [goW]))
      | refine W.loop ?_
      | (refine dk_ ?_; refine W.loop ?_)
      | (simp only [outOf, thenW_ret, thenW_exit, thenW_normal, roundW, reduceIte])
      | (refine pe_ (V1) fun n1 hn1 => ⟨rfl, ?_⟩; (try dsimp only at hn1)))
    refine dk_ ?_
    rw [show ((i : Int) + 1) = ((i + 1 : Nat) : Int) from by omega]
    refine ih' _ _ (by omega) ?_ ?_
    · exact om_
    · intro n' w8 w10 hn
      refine h1 n' w8 w10 ?_
      exact om_
theorem mW_shape (c : List (List UInt8)) : ∃ z1 rt, mW c = [z1, .str rt] ∧ z1.strip = z1 := by
  cases c with
  | nil => exact ⟨_, _, rfl, rfl⟩
  | cons x t => refine ⟨_, _, rfl, ?_⟩; split <;> rfl
theorem pr_c (w0 w2 w3 w4 w5 w6 w7 w8 w10 w11 w12 w13 w14 w15 w17 w22 : CVal) (rest : List UInt8) (hrest : rest.length ≤ 60) (k c20 : Nat) (hk : k ≤ 14) (E : List (Nat × CObj)) (ty : List (Nat × Nat)) (Q : CExit → CSt → Prop) : ∀ (j i : Nat) (n : Nat) (w19 w21 : CVal), i + j = k → c20 < n →
    (∀ n' w18 w19 w21, n ≤ n' → Q (.exit 4) ⟨[w0, .str rest, w2, w3, w4, w5, w6, w7, w8, .int .i64 k, w10, w11, w12, w13, w14, w15, .int .i64 0, w17, w18, w19, .ptr c20 41943042 0, w21, w22], ⟨(c20, .cells [.nils, .str rest]) :: E, n', ty⟩, []⟩) →
    W tree.getF prC ⟨[w0, .str rest, w2, w3, w4, w5, w6, w7, w8, .int .i64 k, w10, w11, w12, w13, w14, w15, .int .i64 0, w17, .int .i64 i, w19, .ptr c20 41943042 0, w21, w22], ⟨(c20, .cells (mW (chC rest j))) :: E, n, ty⟩, []⟩ Q := by
  intro j
  induction j with
  | zero =>
    intro i n w19 w21 hi hc h1
    have hi : i = k := by omega
    subst hi
    rw [show mW (chC rest 0) = [.nils, .str rest] from rfl]
    repeat (first
      | refine v0_ ?_
      | refine W.loop ?_
      | (refine d0_ ?_; refine W.loop ?_))
    refine h1 _ _ _ _ ?_; exact om_
  | succ j ih =>
    intro i n w19 w21 hi hc h1
    obtain ⟨x, t, hx⟩ := chC_ne rest j
    obtain ⟨z1, rt, hz, hs1⟩ := mW_shape (chC rest j)
    have hm : mW (chC rest (j + 1)) = [.imm .none 2 [.agg [.int .i64 1, .imm .full 4 [.agg (.int .u64 0 :: .str [] :: mW (chC rest j))]]], .str (rest ++ rest)] := by
      rw [chC, mW, if_neg (by rw [hx]; simp)]
    rw [hm, hz]
    have ih' := ih (i + 1)
    rw [hz] at ih'
    have hix : (i : Int) < k := by omega
    simp only [CVal.strip] at hs1
    have hZ := hs1
    repeat ((fail_if_success (show W tree.getF _ (dropped true _ _) _)); first
      | refine st_ rfl ?_
      | ((first | refine W.regG ?_ | refine WoR.go ?_); generalize e : goR .. = r; simp (disch := omega) [hZ] at e; replace e : some _ = _ := e; subst e; (try dsimp only [goW]))
      | refine W.loop ?_
      | (refine dk_ ?_; refine W.loop ?_)
      | (simp only [outOf, thenW_ret, thenW_exit, thenW_normal, roundW, reduceIte]))
    refine dk_ ?_
    rw [show ((i : Int) + 1) = ((i + 1 : Nat) : Int) from by omega]
    refine ih' _ _ _ (by omega) ?_ ?_
    · exact om_
    · intro n' w18 w19 w21 hn
      refine h1 n' w18 w19 w21 ?_
      exact om_
theorem bg_T {K : CVal → CHeap → Prop} (hk : ∀ n' ty, 3 ≤ n' → UnderT ty n' → K (.bool true) ⟨[], n', ty⟩) : Wc tree.getF 6 [] ⟨[], 3, []⟩ K :=
  wc_start (m := 1000000) (by kernel_rfl) hk
abbrev prT : CCode := (.seq (.region [.g (.call false 8 [(.const (.str [115, 121, 110, 116, 97, 120, 61, 39, 112, 114, 111, 116, 111, 51, 39, 59, 32, 109, 101, 115, 115, 97, 103, 101, 32, 65, 32, 123, 32, 65, 32, 97, 32, 61, 32, 49, 59, 32, 125]))]), .m (.loc 0), .g (.extract 0 (.loc 0)), .g (.extract 1 (.loc 1)), .g (.lazy 35651586), .g (.init 2 (.loc 0) (.loc 2)), .m (.loc 2)] [(12, 4), (13, 6)] [] []) (.seq (.region [.v 7, .x .rem 0 (.u 15), .g (.conv .i64 (.loc 0)), .m (.loc 0)] [(9, 3)] [] []) (.seq (.region [.v 1, .m (.loc 0)] [(11, 1)] [] []) (.seq (.seq (.region [.m (.k 0)] [(8, 0)] [] []) (.block 2 (.loop true (.seq (.seq (.region [.v 8, .v 9, .h .lss 1 0] [(10, 2)] [] []) (.cond (.var 10) .skip (.exit 2))) (.seq (.block 3 (.region [.v 1, .v 11, .g (.build [(.int .i64 0), (.int .i64 0), (.int .u64 0), (.str []), (.str [])] [(0, 1, (.k 1)), (1, 1, (.k 2)), (3, 1, (.loc 0))]), .g (.call false 9 [(.loc 0)]), .h .add 3 0, .v 1, .h .add 1 0, .m (.loc 0)] [(11, 7)] [] [])) (.region [.v 8, .x .add 0 (.k 1), .m (.loc 0)] [(8, 2)] [] [])))))) (.seq (.region [.g (.load (some 2) (.var 12)), .v 11, .g (.s2b .imm (.loc 0)), .g (.call false 10 [(.loc 2), (.const (.str [65])), (.loc 0)]), .m (.loc 0), .g (.extract 0 (.loc 0)), .g (.extract 1 (.loc 1)), .g (.lazy 41943042), .g (.init 2 (.loc 0) (.loc 2)), .m (.loc 2)] [(16, 9), (20, 7)] [] []) (.seq (.seq (.region [.v 13, .g (.not (.loc 0)), .m (.loc 0), .q (.mv (.var 14)) 0 false, .q (.bin .neq (.loc 0) (.k 0)) 1 false, .g (.pick (.loc 2) (.b true) (.loc 0))] [(15, 5)] [] []) (.cond (.var 15) (.seq (.region [.v 13, .m (.loc 0), .q (.mv (.var 9)) 0 true, .q (.bin .gtr (.loc 0) (.k 0)) 1 true, .q (.mv (.loc 0)) 2 true, .q (.mv (.var 16)) 0 false, .q (.bin .neq (.loc 0) (.k 0)) 1 false, .q (.pick (.loc 2) (.b true) (.loc 0)) 5 true, .g (.pick (.loc 6) (.loc 0) (.b false)), .m (.loc 0)] [(22, 9)] [] []) .ret) .skip)) (.seq (.seq (.region [.v 16, .x .eql 0 (.k 3)] [(17, 1)] [] []) (.cond (.var 17) (.seq (.region [.v 11, .g (.len true (.loc 0)), .x .gtr 0 (.k 5000), .m (.loc 0)] [(22, 3)] [] []) .ret) .skip)) (.seq (.seq (.region [.m (.k 0)] [(18, 0)] [] []) (.block 4 (.loop true (.seq (.seq (.region [.v 18, .v 9, .h .lss 1 0] [(19, 2)] [] []) (.cond (.var 19) .skip (.exit 4))) (.seq (.block 5 (.seq (.seq (.region [.v 16, .x .neq 0 (.k 0), .m (.loc 0), .q (.fieldAddr 1 (.var 20)) 0 false, .q (.load none (.loc 0)) 1 false, .q (.mv (.var 1)) 2 false, .q (.mv (.var 1)) 3 false, .q (.bin .add (.loc 1) (.loc 0)) 4 false, .q (.bin .neq (.loc 3) (.loc 0)) 5 false, .g (.pick (.loc 6) (.b true) (.loc 0)), .m (.loc 0), .q (.fieldAddr 0 (.var 20)) 0 false, .q (.load none (.loc 0)) 1 false, .q (.len false (.loc 0)) 2 false, .q (.bin .neq (.loc 0) (.k 1)) 3 false, .g (.pick (.loc 4) (.b true) (.loc 0)), .m (.loc 0), .q (.fieldAddr 0 (.var 20)) 0 false, .q (.load none (.loc 0)) 1 false, .q (.idxAddr 2 (.loc 0) (.k 0)) 2 false, .q (.fieldAddr 1 (.loc 0)) 3 false, .q (.load none (.loc 0)) 4 false, .q (.len false (.loc 0)) 5 false, .q (.bin .neq (.loc 0) (.k 1)) 6 false, .g (.pick (.loc 7) (.b true) (.loc 0))] [(21, 24)] [] []) (.cond (.var 21) (.seq (.region [.m (.b false)] [(22, 0)] [] []) .ret) .skip)) (.region [.g (.fieldAddr 0 (.var 20)), .l 0, .g (.idxAddr 2 (.loc 0) (.k 0)), .f 1 0, .l 0, .g (.idxAddr 4 (.loc 0) (.k 0)), .f 2 0, .g (.load (some 2) (.loc 0)), .g (.store 2 (.var 20) (.loc 0))] [] [] []))) (.region [.v 18, .x .add 0 (.k 1), .m (.loc 0)] [(18, 2)] [] [])))))) (.seq (.region [.v 16, .x .eql 0 (.k 0), .m (.loc 0), .q (.fieldAddr 1 (.var 20)) 0 true, .q (.load none (.loc 0)) 1 true, .q (.mv (.var 1)) 2 true, .q (.bin .eql (.loc 1) (.loc 0)) 3 true, .g (.pick (.loc 4) (.loc 0) (.b false)), .m (.loc 0), .q (.fieldAddr 0 (.var 20)) 0 true, .q (.load none (.loc 0)) 1 true, .q (.len false (.loc 0)) 2 true, .q (.bin .eql (.loc 0) (.k 0)) 3 true, .g (.pick (.loc 4) (.loc 0) (.b false)), .m (.loc 0)] [(22, 14)] [] []) .ret)))))))))
theorem pr_t (rest : List UInt8) (hr : rest.length ≤ 60) (k0 : Int) (k : Nat) (hk0 : Int.tmod k0 15 = (k : Int)) (hk : k ≤ 14) (e : Int) (he : (e = 2 ∧ splitF rest = none) ∨ (e = 0 ∧ ∃ l, splitF rest = some l ∧ ∀ r ∈ l, r.num ≠ 1)) (n : Nat) (ty : List (Nat × Nat)) (hty : UnderT ty n) (w0 w2 w3 w4 w5 w6 w8 w9 w10 w11 w12 w13 w15 w16 w17 w18 w19 w20 w21 : CVal) :
    W tree.getF prT ⟨[w0, .str rest, w2, w3, w4, w5, w6, .int .u8 k0, w8, w9, w10, w11, w12, w13, .int .i64 e, w15, w16, w17, w18, w19, w20, w21, .bool false], ⟨[], n, ty⟩, []⟩ (endW c3 0 fun v _ => v = .bool true) := by
  have hu : Under ([] : List (Nat × CObj)) n := Under.nil
  have hut := hty
  have ekw : IntKind.i64.wrap (k : Int) = (k : Int) := by rw [sy_wrap64 (by omega) (by omega)]
  have hZ := j2_ hk0 ekw
  repeat ((fail_if_success (show W tree.getF prB _ _)); first
    | refine st_ rfl ?_
    | ((first | refine W.regG ?_ | refine WoR.go ?_); generalize e : goR .. = r; simp (disch := omega) [hZ] at e; replace e : some _ = _ := e; subst e; (try dsimp only [goW]))
    | (simp only [outOf, thenW_ret, thenW_exit, thenW_normal, roundW, reduceIte])
    | (refine pe_ of_T fun n1 hn1 => ⟨rfl, ?_⟩; (try dsimp only at hn1)))
  refine pr_b _ _ _ _ _ _ _ _ _ _ _ _ _ _ _ _ _ _ rest hr k _ hk _ ty (hty.le ?_) _ k 0 _ _ (by omega) ?_ ?_
  · exact om_
  · exact om_
  intro n2 w8 w10 hn2
  have hbl := bytC_len rest hr k hk
  have hut := hty
  have D0 := fun {h : CHeap} (hf : Fit h) {K : CVal → CHeap → Prop} => decode_F (bytC rest k) (by omega) (h := h) hf (K := K)
  rcases he with ⟨rfl, hsp⟩ | ⟨rfl, l, hsp, hnum⟩
  · by_cases hx : (feedC 20 (bytC rest k) ([[]], 0, 0)).2.2 = 0
    · have hk1 : 0 < k := by
        rcases Nat.eq_zero_or_pos k with h | h
        · subst h
          exfalso
          have : feedC 20 (bytC rest 0) ([[]], 0, 0) = ([[]], 0, 2) := by
            show feedC 20 rest ([[]], 0, 0) = _
            unfold feedC
            rw [if_neg (by simp), if_neg (by omega), hsp]
          rw [this] at hx
          cases hx
        · exact h
      have hk1' : (0 : Int) < k := by omega
      obtain ⟨z1, rt, hz, hs1⟩ := mW_shape (feedC 20 (bytC rest k) ([[]], 0, 0)).1
      rw [show decV (feedC 20 (bytC rest k) ([[]], 0, 0)) = .tup [.agg [z1, .str rt], .int .i64 0] from by rw [decV, if_pos hx, hz]] at D0
      simp only [CVal.strip] at hs1
      generalize bytC rest k = B at *
      have hZ := j2_ hs1 hk1'
      repeat ((fail_if_success (show Wc tree.getF 10 _ _ _)); first
        | refine st_ rfl ?_
        | ((first | refine W.regG ?_ | refine WoR.go ?_); generalize e : goR .. = r; simp (disch := omega) [hZ] at e; replace e : some _ = _ := e; subst e; (try dsimp only [goW]))
        | (simp only [outOf, thenW_ret, thenW_exit, thenW_normal, roundW, reduceIte]))
      refine D0 fit_ fun h3 f3 g3 e3 => ⟨rfl, ?_⟩
      dsimp only at g3 e3
      have hZ := j3_ hs1 hk1' e3
      repeat (first
        | refine vk_ ?_)
      refine r0_ ?_
      rfl
    · rw [show decV (feedC 20 (bytC rest k) ([[]], 0, 0)) = .tup [.agg [.nils, .str []], .int .i64 (feedC 20 (bytC rest k) ([[]], 0, 0)).2.2] from by rw [decV, if_neg hx]] at D0
      generalize (feedC 20 (bytC rest k) ([[]], 0, 0)).2.2 = f at *
      generalize bytC rest k = B at *
      have hf' : ((f : Int) != 0) = true := by simp; omega
      by_cases hk1 : 0 < k
      · have hk1' : (0 : Int) < k := by omega
        have hZ := hk1'
        repeat ((fail_if_success (show Wc tree.getF 10 _ _ _)); first
          | refine st_ rfl ?_
          | ((first | refine W.regG ?_ | refine WoR.go ?_); generalize e : goR .. = r; simp (disch := omega) [hZ] at e; replace e : some _ = _ := e; subst e; (try dsimp only [goW]))
          | (simp only [outOf, thenW_ret, thenW_exit, thenW_normal, roundW, reduceIte]))
        refine D0 fit_ fun h3 f3 g3 e3 => ⟨rfl, ?_⟩
        dsimp only at g3 e3
        have hZ := j2_ hk1' e3
        repeat (first
          | refine vk_ ?_)
        refine r0_ ?_
        rfl
      · have hk1' : ¬ (0 : Int) < k := by omega
        have hZ := hk1'
        repeat ((fail_if_success (show Wc tree.getF 10 _ _ _)); first
          | refine st_ rfl ?_
          | ((first | refine W.regG ?_ | refine WoR.go ?_); generalize e : goR .. = r; simp (disch := omega) [hZ] at e; replace e : some _ = _ := e; subst e; (try dsimp only [goW]))
          | (simp only [outOf, thenW_ret, thenW_exit, thenW_normal, roundW, reduceIte]))
        refine D0 fit_ fun h3 f3 g3 e3 => ⟨rfl, ?_⟩
        dsimp only at g3 e3
        have hZ := j3_ hk1' e3 hf'
        repeat (first
          | refine vk_ ?_)
        refine r0_ ?_
        rfl
  · have hfd := feedC_byt rest hr l hsp hnum k 20 0 (by omega) hk (by omega)
    rw [hfd] at D0
    obtain ⟨z1, rt, hz, hs1⟩ := mW_shape (chC rest k)
    rw [show decV (chC rest k, 0 + k, 0) = .tup [.agg [z1, .str rt], .int .i64 0] from by rw [decV, if_pos rfl, hz]] at D0
    simp only [CVal.strip] at hs1
    clear hfd
    generalize bytC rest k = B at *
    have hZ := hs1
    repeat ((fail_if_success (show Wc tree.getF 10 _ _ _)); first
      | refine st_ rfl ?_
      | ((first | refine W.regG ?_ | refine WoR.go ?_); generalize e : goR .. = r; simp (disch := omega) [hZ] at e; replace e : some _ = _ := e; subst e; (try dsimp only [goW]))
      | (simp only [outOf, thenW_ret, thenW_exit, thenW_normal, roundW, reduceIte]))
    refine D0 fit_ fun h3 f3 g3 e3 => ⟨rfl, ?_⟩
    dsimp only at g3 e3
    have hZ := j2_ hs1 e3
    repeat ((fail_if_success (show W tree.getF prC _ _)); first
      | refine st_ rfl ?_
      | ((first | refine W.regG ?_ | refine WoR.go ?_); generalize e : goR .. = r; simp (disch := omega) [hZ] at e; replace e : some _ = _ := e; subst e; (try dsimp only [goW]))
      | (simp only [outOf, thenW_ret, thenW_exit, thenW_normal, roundW, reduceIte]))
    rw [← hz]
    refine pr_c _ _ _ _ _ _ _ _ _ _ _ _ _ _ _ _ rest hr k _ hk _ _ _ k 0 _ _ _ (by omega) ?_ ?_
    · exact om_
    intro n4 w18 w19 w21 hn4
    repeat (first
      | refine v0_ ?_)
    refine r0_ ?_
    rfl
theorem lawPR (rest : List UInt8) (k0 : Int) (h0 : 0 ≤ k0 ∧ k0 < 256) : Wc tree.getF 3 [.str rest, .int .u8 k0] noHeap fun v _ => v = .bool true := by
  unfold noHeap
  refine mk_ 3 c3 (s_ ?_)
  repeat ((fail_if_success (show Wc tree.getF 6 _ _ _)); first
    | refine st_ rfl ?_
    | ((first | refine W.regG ?_ | refine WoR.go ?_); generalize e : goR .. = r; simp (disch := omega) at e; replace e : some _ = _ := e; subst e; (try dsimp only [goW]))
    | refine W.loop ?_
    | (refine d0_ ?_; refine W.loop ?_)
    | (simp only [outOf, thenW_ret, thenW_exit, thenW_normal, roundW, reduceIte]))
  refine bg_T fun n1 ty hn1 hty => ⟨rfl, ?_⟩
  by_cases hr : 60 < rest.length
  · have hr' : (60 : Int) < rest.length := by omega
    repeat (first
      | refine v0_ ?_)
    refine r0_ ?_
    rfl
  have hr' : ¬ (60 : Int) < rest.length := by omega
  repeat ((fail_if_success (show Wc tree.getF 7 _ _ _)); first
    | refine st_ rfl ?_
    | ((first | refine W.regG ?_ | refine WoR.go ?_); generalize e : goR .. = r; simp (disch := omega) at e; replace e : some _ = _ := e; subst e; (try dsimp only [goW]))
    | (simp only [outOf, thenW_ret, thenW_exit, thenW_normal, roundW, reduceIte]))
  have R1 := rsplit_F rest
  unfold splitV at R1
  rw [if_neg (by omega)] at R1
  have hf1 : Fit (⟨[], n1, ty⟩ : CHeap) := ⟨Under.nil, hty⟩
  obtain ⟨hu, hut, hX⟩ := fx4 hf1
  dsimp only at hu hut
  clear hX
  obtain ⟨k, hk0, hk⟩ : ∃ k : Nat, Int.tmod k0 15 = (k : Int) ∧ k ≤ 14 := ⟨(Int.tmod k0 15).toNat, by rw [Int.tmod_eq_emod_of_nonneg h0.1]; omega, by rw [Int.tmod_eq_emod_of_nonneg h0.1]; omega⟩
  cases hsp : splitF rest with
  | none =>
    rw [hsp] at R1
    dsimp only at R1
    repeat ((fail_if_success (show W tree.getF prT _ _)); first
      | refine st_ rfl ?_
      | ((first | refine W.regG ?_ | refine WoR.go ?_); generalize e : goR .. = r; simp (disch := omega) at e; replace e : some _ = _ := e; subst e; (try dsimp only [goW]))
      | refine W.loop ?_
      | (refine d0_ ?_; refine W.loop ?_)
      | (simp only [outOf, thenW_ret, thenW_exit, thenW_normal, roundW, reduceIte])
      | (refine pe_ (R1) fun n1 hn1 => ⟨rfl, ?_⟩; (try dsimp only at hn1)))
    refine pr_t rest (by omega) k0 k hk0 hk 2 (.inl ⟨rfl, hsp⟩) _ ty (hty.le ?_) _ _ _ _ _ _ _ _ _ _ _ _ _ _ _ _ _ _ _
    exact om_
  | some l =>
    rw [hsp] at R1
    dsimp only at R1
    have hlen := splitF_many _ rest l (Nat.le_refl _) hsp
    have hu1 : (recsV l).isUndef = false := by cases l <;> rfl
    have hu2 : (recsV l).whole = true := by cases l <;> rfl
    have hu3 : (recsV l).bare = recsV l := by cases l <;> rfl
    cases l with
    | nil =>
      dsimp only [recsV] at *
      repeat ((fail_if_success (show W tree.getF prT _ _)); first
        | refine st_ rfl ?_
        | ((first | refine W.regG ?_ | refine WoR.go ?_); generalize e : goR .. = r; simp (disch := omega) at e; replace e : some _ = _ := e; subst e; (try dsimp only [goW]))
        | refine W.loop ?_
        | (refine d0_ ?_; refine W.loop ?_)
        | (simp only [outOf, thenW_ret, thenW_exit, thenW_normal, roundW, reduceIte])
        | (refine pe_ (R1) fun n1 hn1 => ⟨rfl, ?_⟩; (try dsimp only at hn1)))
      refine pr_t rest (by omega) k0 k hk0 hk 0 (.inr ⟨rfl, [], hsp, by simp⟩) _ ty (hty.le ?_) _ _ _ _ _ _ _ _ _ _ _ _ _ _ _ _ _ _ _
      exact om_
    | cons a l =>
      have hu4 : (recsV (a :: l)).isUndef = false := rfl
      dsimp only [recsV] at R1
      repeat ((fail_if_success (show W tree.getF prA _ _)); first
        | refine st_ rfl ?_
        | ((first | refine W.regG ?_ | refine WoR.go ?_); generalize e : goR .. = r; simp (disch := omega) at e; replace e : some _ = _ := e; subst e; (try dsimp only [goW]))
        | (simp only [outOf, thenW_ret, thenW_exit, thenW_normal, roundW, reduceIte])
        | (refine pe_ (R1) fun n1 hn1 => ⟨rfl, ?_⟩; (try dsimp only at hn1)))
      refine pr_a _ _ _ _ _ _ _ _ _ _ _ _ _ _ _ _ _ _ _ ty (a :: l) (by omega) _ (a :: l) [] _ _ _ rfl ?_ ?_
      · intro n' w3 w5 w6 hn hx
        (try dsimp only at hn)
        simp only [outOf, thenW_ret, thenW_exit, thenW_normal, roundW, reduceIte]
        refine pr_t rest (by omega) k0 k hk0 hk 0 (.inr ⟨rfl, a :: l, hsp, hx⟩) _ ty (hty.le ?_) _ _ _ _ _ _ _ _ _ _ _ _ _ _ _ _ _ _ _
        exact om_
      · intro n' w3 w5 w6 hn
        simp only [outOf, thenW_ret, thenW_exit, thenW_normal, roundW, reduceIte]
        refine r0_ ?_
        rfl
end Go.Proofs.YtnddcjimijmenaaGreat.IrR
