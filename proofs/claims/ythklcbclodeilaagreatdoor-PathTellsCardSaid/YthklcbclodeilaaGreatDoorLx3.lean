/- What the functions of the law 'PathTells' do: part 3 of 4. -/
import Derived.Test.YthklcbclodeilaaGreatDoorLx2
namespace Go.Proofs.YthklcbclodeilaaGreatDoor.IrT
open Go Go.CI
set_option maxRecDepth 100000
set_option maxHeartbeats 4000000
set_option linter.unusedVariables false
set_option linter.unusedSimpArgs false
attribute [local irreducible] W Wo Wc WoR

theorem cl1_F {a va L : Nat} {e0 : CVal} {es : List CVal} (hb : e0.bare = e0) (hbs : es.map CVal.bare = es) (hL : es.length + 1 = L) (hl2 : L < 5000) {h : CHeap} (hf : Fit h) (hg : getEnt h.ents a = some (.row va (e0 :: es))) {K : CVal → CHeap → Prop} (hk : ∀ i n', h.next ≤ i → i < n' → K (.ref i 0 1 0 L) ⟨(i, .row 0 (e0 :: es)) :: h.ents, n', h.tys⟩) : Wc tree.getF 33 [.ref a va 1 0 L] h K := by
  obtain ⟨hu, hut, hX⟩ := fx4 hf
  have hcut : List.take L (e0 :: es) = e0 :: es := by simp [← hL]
  have hsz : es.length + 1 ≤ sizeMost := by unfold sizeMost; omega
  have hL2 : L ≤ es.length + 1 := by omega
  refine Wc.mkG 33 c33 (by kernel_rfl) rfl ?_
  generalize e : entryC .. = r
  simp (disch := omega) [c33] at e
  subst e
  repeat (first
    | refine st_ rfl ?_
    | ((first | refine W.regG ?_ | refine WoR.go ?_); generalize e : goR .. = r; simp (disch := omega) [hX, hg, hcut, hsz, hL2, hb, hbs, hL, c33, -CVal.bare] at e; replace e : some _ = _ := e; subst e; (try dsimp only [goW]))
    | ((first | (refine W.ret ?_; (try simp only [outOf, thenW_ret, thenW_exit, roundW, reduceIte]); refine endW.of (.inl rfl) rfl ?_) | refine endW.of (.inl rfl) rfl ?_ | refine endW.of (.inr rfl) rfl ?_); generalize e : endsC .. = r; simp (disch := omega) [hX, hg, hcut, hsz, hL2, hb, hbs, hL, c33, -CVal.bare] at e; subst e; refine hk _ _ ?_ ?_; omega; omega))

theorem cl2_F {a va L : Nat} {e0 : CVal} {es : List CVal} (hb : e0.bare = e0) (hbs : es.map CVal.bare = es) (hL : es.length + 1 = L) (hl2 : L < 5000) {h : CHeap} (hf : Fit h) (hg : getEnt h.ents a = some (.row va (e0 :: es))) {K : CVal → CHeap → Prop} (hk : ∀ i n', h.next ≤ i → i < n' → K (.ref i 0 1 0 L) ⟨(i, .row 0 (e0 :: es)) :: h.ents, n', h.tys⟩) : Wc tree.getF 34 [.ref a va 1 0 L] h K := by
  obtain ⟨hu, hut, hX⟩ := fx4 hf
  have hcut : List.take L (e0 :: es) = e0 :: es := by simp [← hL]
  have hsz : es.length + 1 ≤ sizeMost := by unfold sizeMost; omega
  have hL2 : L ≤ es.length + 1 := by omega
  refine Wc.mkG 34 c34 (by kernel_rfl) rfl ?_
  generalize e : entryC .. = r
  simp (disch := omega) [c34] at e
  subst e
  repeat (first
    | refine st_ rfl ?_
    | ((first | refine W.regG ?_ | refine WoR.go ?_); generalize e : goR .. = r; simp (disch := omega) [hX, hg, hcut, hsz, hL2, hb, hbs, hL, c34, -CVal.bare] at e; replace e : some _ = _ := e; subst e; (try dsimp only [goW]))
    | ((first | (refine W.ret ?_; (try simp only [outOf, thenW_ret, thenW_exit, roundW, reduceIte]); refine endW.of (.inl rfl) rfl ?_) | refine endW.of (.inl rfl) rfl ?_ | refine endW.of (.inr rfl) rfl ?_); generalize e : endsC .. = r; simp (disch := omega) [hX, hg, hcut, hsz, hL2, hb, hbs, hL, c34, -CVal.bare] at e; subst e; refine hk _ _ ?_ ?_; omega; omega))

theorem cl3_F {a va L : Nat} {e0 : CVal} {es : List CVal} (hb : e0.bare = e0) (hbs : es.map CVal.bare = es) (hL : es.length + 1 = L) (hl2 : L < 5000) {h : CHeap} (hf : Fit h) (hg : getEnt h.ents a = some (.row va (e0 :: es))) {K : CVal → CHeap → Prop} (hk : ∀ i n', h.next ≤ i → i < n' → K (.ref i 0 3 0 L) ⟨(i, .row 0 (e0 :: es)) :: h.ents, n', h.tys⟩) : Wc tree.getF 35 [.ref a va 3 0 L] h K := by
  obtain ⟨hu, hut, hX⟩ := fx4 hf
  have hcut : List.take L (e0 :: es) = e0 :: es := by simp [← hL]
  have hsz : es.length + 1 ≤ sizeMost := by unfold sizeMost; omega
  have hL2 : L ≤ es.length + 1 := by omega
  refine Wc.mkG 35 c35 (by kernel_rfl) rfl ?_
  generalize e : entryC .. = r
  simp (disch := omega) [c35] at e
  subst e
  repeat (first
    | refine st_ rfl ?_
    | ((first | refine W.regG ?_ | refine WoR.go ?_); generalize e : goR .. = r; simp (disch := omega) [hX, hg, hcut, hsz, hL2, hb, hbs, hL, c35, -CVal.bare] at e; replace e : some _ = _ := e; subst e; (try dsimp only [goW]))
    | ((first | (refine W.ret ?_; (try simp only [outOf, thenW_ret, thenW_exit, roundW, reduceIte]); refine endW.of (.inl rfl) rfl ?_) | refine endW.of (.inl rfl) rfl ?_ | refine endW.of (.inr rfl) rfl ?_); generalize e : endsC .. = r; simp (disch := omega) [hX, hg, hcut, hsz, hL2, hb, hbs, hL, c35, -CVal.bare] at e; subst e; refine hk _ _ ?_ ?_; omega; omega))

theorem cl1_n  : Pe 33 [.nils] (.nils) := by
  intro h hf K hk
  obtain ⟨hu, hut, hX⟩ := fx4 hf
  refine Wc.mkG 33 c33 (by kernel_rfl) rfl ?_
  generalize e : entryC .. = r
  simp (disch := omega) [c33] at e
  subst e
  repeat (first
    | refine st_ rfl ?_
    | ((first | refine W.regG ?_ | refine WoR.go ?_); generalize e : goR .. = r; simp (disch := omega) [hX, c33] at e; replace e : some _ = _ := e; subst e; (try dsimp only [goW]))
    | ((first | (refine W.ret ?_; (try simp only [outOf, thenW_ret, thenW_exit, roundW, reduceIte]); refine endW.of (.inl rfl) rfl ?_) | refine endW.of (.inl rfl) rfl ?_ | refine endW.of (.inr rfl) rfl ?_); generalize e : endsC .. = r; simp (disch := omega) [hX, c33] at e; subst e; refine hk _ ?_; omega))

theorem cl2_n  : Pe 34 [.nils] (.nils) := by
  intro h hf K hk
  obtain ⟨hu, hut, hX⟩ := fx4 hf
  refine Wc.mkG 34 c34 (by kernel_rfl) rfl ?_
  generalize e : entryC .. = r
  simp (disch := omega) [c34] at e
  subst e
  repeat (first
    | refine st_ rfl ?_
    | ((first | refine W.regG ?_ | refine WoR.go ?_); generalize e : goR .. = r; simp (disch := omega) [hX, c34] at e; replace e : some _ = _ := e; subst e; (try dsimp only [goW]))
    | ((first | (refine W.ret ?_; (try simp only [outOf, thenW_ret, thenW_exit, roundW, reduceIte]); refine endW.of (.inl rfl) rfl ?_) | refine endW.of (.inl rfl) rfl ?_ | refine endW.of (.inr rfl) rfl ?_); generalize e : endsC .. = r; simp (disch := omega) [hX, c34] at e; subst e; refine hk _ ?_; omega))

theorem cl3_n  : Pe 35 [.nils] (.nils) := by
  intro h hf K hk
  obtain ⟨hu, hut, hX⟩ := fx4 hf
  refine Wc.mkG 35 c35 (by kernel_rfl) rfl ?_
  generalize e : entryC .. = r
  simp (disch := omega) [c35] at e
  subst e
  repeat (first
    | refine st_ rfl ?_
    | ((first | refine W.regG ?_ | refine WoR.go ?_); generalize e : goR .. = r; simp (disch := omega) [hX, c35] at e; replace e : some _ = _ := e; subst e; (try dsimp only [goW]))
    | ((first | (refine W.ret ?_; (try simp only [outOf, thenW_ret, thenW_exit, roundW, reduceIte]); refine endW.of (.inl rfl) rfl ?_) | refine endW.of (.inl rfl) rfl ?_ | refine endW.of (.inr rfl) rfl ?_); generalize e : endsC .. = r; simp (disch := omega) [hX, c35] at e; subst e; refine hk _ ?_; omega))
end Go.Proofs.YthklcbclodeilaaGreatDoor.IrT
namespace Go.Proofs.YthklcbclodeilaaGreatDoor.IrT
open Go Go.CI
set_option maxRecDepth 100000
set_option maxHeartbeats 4000000
set_option linter.unusedVariables false
set_option linter.unusedSimpArgs false
attribute [local irreducible] W Wo Wc WoR

/-- What twin leaves, of the memory before it. -/
structure TR (n : Nat) (m : MT n) (h : CHeap) (v : CVal) (h' : CHeap) : Prop where
  fit : Fit h'
  nx : h.next ≤ h'.next
  ty : h'.tys = h.tys
  mr : ∃ ids', MR n m v h'.ents ids' ∧ ∀ q ∈ ids', h.next ≤ q
  fr : ∀ q, q < h.next → getEnt h'.ents q = getEnt h.ents q
def TW (n : Nat) : Prop := ∀ (m : MT n) (v : CVal) (h : CHeap) (ids : List Nat), MR n m v h.ents ids → Fit h → mayT n m → (v = nil3 ∨ neT n m) → ∀ K : CVal → CHeap → Prop, (∀ v' h', TR n m h v' h' → K v' h') → Wc tree.getF 17 [v] h K
abbrev twL : CCode := (.loop true (.seq (.region [.g (.bin .lss (.var 2) (.var 3))] [(4, 0)] [] []) (.seq (.cond (.var 4) .skip (.exit 0)) (.seq (.block 1 (.seq (.region [.v 2, .m (.loc 0)] [(5, 1)] [] []) (.region [.g (.fieldAddr 2 (.var 1)), .l 0, .v 5, .g (.fieldAddr 2 (.var 1)), .l 0, .v 5, .g (.idxAddr 3 (.loc 1) (.loc 0)), .g (.load (some 3) (.loc 0)), .g (.call false 17 [(.loc 0)]), .g (.idxAddr 3 (.loc 7) (.loc 6)), .g (.store 3 (.loc 0) (.loc 1))] [] [(1, 0, 1)] []))) (.region [.g (.bin .add (.var 2) (.k 1)), .m (.loc 0)] [(2, 1)] [] [])))))

theorem tw_nil0  : Pe 17 [nil3] (nil3) := by
  intro h hf K hk
  obtain ⟨hu, hut, hX⟩ := fx4 hf
  refine Wc.mkG 17 c17 (by kernel_rfl) rfl ?_
  generalize e : entryC .. = r
  simp (disch := omega) [c17] at e
  subst e
  repeat (first
    | refine st_ rfl ?_
    | ((first | refine W.regG ?_ | refine WoR.go ?_); generalize e : goR .. = r; simp (disch := omega) [hX, c17] at e; replace e : some _ = _ := e; subst e; (try dsimp only [goW]))
    | (refine W.loop ?_; try (generalize e : dropped .. = r; simp (disch := omega) [hX, c17] at e; subst e; try dsimp only))
    | (refine pe_ (cl1_n) fun _ g => ⟨rfl, ?_⟩; (try dsimp only at g))
    | (refine pe_ (cl2_n) fun _ g => ⟨rfl, ?_⟩; (try dsimp only at g))
    | (refine pe_ (cl3_n) fun _ g => ⟨rfl, ?_⟩; (try dsimp only at g))
    | ((first | (refine W.ret ?_; (try simp only [outOf, thenW_ret, thenW_exit, roundW, reduceIte]); refine endW.of (.inl rfl) rfl ?_) | refine endW.of (.inl rfl) rfl ?_ | refine endW.of (.inr rfl) rfl ?_); generalize e : endsC .. = r; simp (disch := omega) [hX, c17] at e; subst e; refine hk _ ?_; omega))

theorem tw_go {n : Nat} {A B : List (Zr (MT n))} {z : Zr (MT n)} {L : Nat} (hL : (A ++ z :: B).length = L) (hlen : L < 2000) {p r c : Nat} {R0 R1 : CVal} {h : CHeap} (hf : Fit h)
    (hgp : getEnt h.ents p = some (.cells [R0, R1, .ref c 0 3 0 L])) (hgc : getEnt h.ents c = some (.row 0 (A.map (·.v) ++ z.v :: B.map (·.v)))) {q0 q1 q2 : CVal} (hv : z.v = .agg [q0, q1, q2]) (y0 : NR q0) (y1 : NR q1) (y2 : NR q2)
    (HC : ∀ (h2 : CHeap), h2.ents = h.ents → h2.tys = h.tys → h.next ≤ h2.next → Fit h2 → ∀ K : CVal → CHeap → Prop, (∀ w0 w1 w2 h1, NR w0 → NR w1 → NR w2 → (∃ ids', ZR n h1.ents ⟨z.nm, z.o, .agg [w0, w1, w2], ids'⟩ ∧ ∀ q ∈ ids', h2.next ≤ q) → Fit h1 → h2.next ≤ h1.next → h1.tys = h2.tys → (∀ q, q < h2.next → getEnt h1.ents q = getEnt h2.ents q) → K (.agg [w0, w1, w2]) h1) → Wc tree.getF 17 [.agg [q0, q1, q2]] h2 K)
    (v0 v4 v5 : CVal) {Q : CExit → CSt → Prop}
    (hk : ∀ (v4 v5 : CVal) z' h', z'.nm = z.nm → z'.o = z.o → ZR n h'.ents z' → (∀ q ∈ z'.ids, h.next ≤ q) → Fit h' → h.next ≤ h'.next → h'.tys = h.tys → getEnt h'.ents c = some (.row 0 (A.map (·.v) ++ z'.v :: B.map (·.v))) → (∀ q, q < h.next → q ≠ c → getEnt h'.ents q = getEnt h.ents q) →
      W tree.getF twL ⟨[v0, .ptr p 31457283 0, .int .i64 ((A.length : Int) + 1), .int .i64 (L : Int), v4, v5, .ptr r 31457283 0], h', []⟩ Q) : W tree.getF twL ⟨[v0, .ptr p 31457283 0, .int .i64 (A.length : Int), .int .i64 (L : Int), v4, v5, .ptr r 31457283 0], h, []⟩ Q := by
  obtain ⟨hu, hut, hX⟩ := fx4 hf
  have e0 := y0.strip
  have e1 := y1.strip
  have e2 := y2.strip
  simp only [CVal.strip] at e0 e1 e2
  have hal : A.length < L := by rw [← hL]; simp
  have hil : (A.length : Int) < (L : Int) := by omega
  have hi2 : (A.length : Int).toNat = A.length := by omega
  have hnv : nth (A.map (·.v) ++ .agg [q0, q1, q2] :: B.map (·.v)) A.length = .agg [q0, q1, q2] := by
    have := nth_mid (A.map (·.v)) (B.map (·.v)) (.agg [q0, q1, q2])
    simpa using this
  have hsv : ∀ y, setNth (A.map (·.v) ++ .agg [q0, q1, q2] :: B.map (·.v)) A.length y = A.map (·.v) ++ y :: B.map (·.v) := fun y => by
    have := setNth_mid (A.map (·.v)) (B.map (·.v)) (.agg [q0, q1, q2]) y
    simpa using this
  have hll : A.length < A.length + (B.length + 1) := by omega
  have hLL : L ≤ A.length + (B.length + 1) := by rw [← hL]; simp
  have lc := in_under hf.1 hgc
  have lp := in_under hf.1 hgp
  have hcp : c ≠ p := fun e => by rw [e, hgp] at hgc; cases hgc
  rw [hv] at hgc
  refine W.loop ?_
  repeat (first
    | refine st_ rfl ?_
    | ((first | refine W.regG ?_ | refine WoR.go ?_); generalize e : goR .. = r; simp (disch := omega) [hX, hgp, hgc, hnv, hil, hi2, hal, hll, hLL, e0, e1, e2] at e; replace e : some _ = _ := e; subst e; (try dsimp only [goW])))
  refine HC ⟨_, _, _⟩ ?_ ?_ ?_ ?_ _ fun w0 w1 w2 h1 x0 x1 x2 hz' hf1 hn1 ht1 hq1 => ⟨rfl, ?_⟩
  · rfl
  · rfl
  · (try dsimp only); omega
  · exact ft_
  dsimp only at hn1 ht1 hq1
  have f0 := x0.strip
  have f1 := x1.strip
  have f2 := x2.strip
  simp only [CVal.strip] at f0 f1 f2
  have gp : getEnt h1.ents p = _ := (hq1 p (by omega)).trans hgp
  have gc : getEnt h1.ents c = _ := (hq1 c (by omega)).trans hgc
  obtain ⟨hu1, hut1, hX1⟩ := fx4 hf1
  repeat (first
    | refine st_ rfl ?_
    | ((first | refine W.regG ?_ | refine WoR.go ?_); generalize e : goR .. = r; simp (disch := omega) [hX1, gp, gc, hgp, hgc, hnv, hsv, hil, hi2, hal, hll, hLL, f0, f1, f2] at e; replace e : some _ = _ := e; subst e; (try dsimp only [goW])))
  show W tree.getF twL (dropped true _ _) Q; generalize e : dropped _ _ _ = r; simp (disch := omega) [hX1] at e; subst e
  obtain ⟨ids', hz1, hz2⟩ := hz'
  refine hk _ _ ⟨z.nm, z.o, .agg [w0, w1, w2], ids'⟩ _ rfl rfl ?_ ?_ ?_ ?_ ?_ ?_ ?_
  · refine hz1.rows fun q hq va es h9 => ?_
    have := hz2 q hq
    dsimp only at this
    exact dc_row (by rw [getEnt_setEnt_ne (by omega)]; exact h9)
  · intro q hq
    have := hz2 q hq
    dsimp only at this; omega
  · exact ⟨dc_under (hu1.set.le (by (try dsimp only); omega)), hut1.le (by (try dsimp only); omega)⟩
  · (try dsimp only); omega
  · exact ht1
  · exact dc_row (sy_getEnt_setEnt gc)
  · intro q h1 h2
    dsimp only
    rw [dc_lt h1, getEnt_setEnt_ne h2]; exact hq1 q (by omega)
end Go.Proofs.YthklcbclodeilaaGreatDoor.IrT
namespace Go.Proofs.YthklcbclodeilaaGreatDoor.IrT
open Go Go.CI
set_option maxRecDepth 100000
set_option maxHeartbeats 4000000
set_option linter.unusedVariables false
set_option linter.unusedSimpArgs false
attribute [local irreducible] W Wo Wc WoR

theorem tw_loop {n : Nat} (IH : TW n) {zs : List (Zr (MT n))} {L N1 p r c : Nat} (hlen : L < 2000) {E1 : List (Nat × CObj)} {T0 : List (Nat × Nat)} {R0 R1 : CVal} (hgp : getEnt E1 p = some (.cells [R0, R1, .ref c 0 3 0 L])) (hpc : p ≠ c) (hpN : p < N1) (hcN : c < N1) (v0 : CVal) {Q : CExit → CSt → Prop}
    (hk : ∀ (v4 v5 : CVal) (zs' : List (Zr (MT n))) h', zs'.map (fun z => (z.nm, z.o)) = zs.map (fun z => (z.nm, z.o)) → (∀ z ∈ zs', ZR n h'.ents z ∧ ∀ q ∈ z.ids, N1 ≤ q) → Fit h' → N1 ≤ h'.next → h'.tys = T0 → getEnt h'.ents c = some (.row 0 (zs'.map (·.v))) → (∀ q, q < N1 → q ≠ c → getEnt h'.ents q = getEnt E1 q) → Q (.exit 0) ⟨[v0, .ptr p 31457283 0, .int .i64 (L : Int), .int .i64 (L : Int), v4, v5, .ptr r 31457283 0], h', []⟩) :
    ∀ (B A : List (Zr (MT n))) (h : CHeap) (v4 v5 : CVal), (A ++ B).map (fun z => (z.nm, z.o)) = zs.map (fun z => (z.nm, z.o)) → (A ++ B).length = L → (∀ z ∈ A, ZR n h.ents z ∧ ∀ q ∈ z.ids, N1 ≤ q) → (∀ z ∈ B, ZR n E1 z ∧ (∀ q ∈ z.ids, q ≠ c ∧ q < N1) ∧ ∀ t, z.o = some t → neT n t ∧ mayT n t) → Fit h → N1 ≤ h.next → h.tys = T0 →
      getEnt h.ents c = some (.row 0 (A.map (·.v) ++ B.map (·.v))) → (∀ q, q < N1 → q ≠ c → getEnt h.ents q = getEnt E1 q) → W tree.getF twL ⟨[v0, .ptr p 31457283 0, .int .i64 (A.length : Int), .int .i64 (L : Int), v4, v5, .ptr r 31457283 0], h, []⟩ Q := by
  intro B
  induction B with
  | nil =>
    intro A h v4 v5 e1 e2 hA _ hf hn ht hc hF
    rw [List.append_nil] at e1 e2
    simp only [List.map_nil, List.append_nil] at hc
    rw [e2]
    have hA9 := hk
    obtain ⟨hu, hut, hX⟩ := fx4 hf
    refine W.loop ?_
    repeat (first
      | refine st_ rfl ?_
      | ((first | refine W.regG ?_ | refine WoR.go ?_); generalize e : goR .. = r; simp (disch := omega) [hX] at e; replace e : some _ = _ := e; subst e; (try dsimp only [goW])))
    all_goals ((try simp only [outOf, thenW_ret, thenW_exit, roundW, reduceIte]))
    all_goals (refine hk _ _ A _ e1 (fun z hz => ⟨(hA z hz).1, (hA z hz).2⟩) ?_ ?_ ht hc hF)
    all_goals first | exact ft_ | ((try dsimp only); omega)
  | cons z B ih =>
    intro A h v4 v5 e1 e2 hA hB hf hn ht hc hF
    obtain ⟨hz1, hz2, hz3⟩ := hB z (by simp)
    have hzh : ZR n h.ents z := hz1.rows fun q hq va es h9 => by rw [hF q (hz2 q hq).2 (hz2 q hq).1]; exact h9
    have hq0 : ∀ q ∈ z.ids, q < h.next := fun q hq => Nat.lt_of_lt_of_le (hz2 q hq).2 hn
    have hq : ∃ q0 q1 q2, z.v = .agg [q0, q1, q2] ∧ NR q0 ∧ NR q1 ∧ NR q2 := by
      unfold ZR at hzh
      cases ho : z.o with
      | none => simp only [ho] at hzh; exact ⟨_, _, _, hzh.1, .inl rfl, .inl rfl, .inl rfl⟩
      | some t => simp only [ho] at hzh; exact hzh.nr
    obtain ⟨q0, q1, q2, hv, y0, y1, y2⟩ := hq
    refine tw_go e2 hlen hf (by rw [hF p hpN hpc]; exact hgp) hc hv y0 y1 y2 (fun h2 e1 e2 hn2 hf2 K hk2 => ?_) v0 v4 v5 fun v4 v5 z' h' f1 f2 f3 f4 f5 f6 f7 f8 f9 => ?_
    · cases ho : z.o with
      | none =>
        have hv0 : z.v = nil3 := by unfold ZR at hzh; simp only [ho] at hzh; exact hzh.1
        rw [hv] at hv0
        cases hv0
        refine tw_nil0 h2 hf2 K fun n' g => ?_
        exact hk2 _ _ _ ⟨h2.ents, n', h2.tys⟩ (.inl rfl) (.inl rfl) (.inl rfl) ⟨[], by unfold ZR; simp [ho], fun q hq => by cases hq⟩ ⟨hf2.1.le g, hf2.2.le g⟩ g rfl fun q _ => rfl
      | some t =>
        have hM : MR n t (.agg [q0, q1, q2]) h2.ents z.ids := by
          unfold ZR at hzh; simp only [ho] at hzh
          rw [hv, ← e1] at hzh; exact hzh
        have hnt := hz3 t ho
        refine IH t _ h2 z.ids hM hf2 hnt.2 (.inr hnt.1) K fun v' h1 T => ?_
        obtain ⟨ids', M', hid⟩ := T.mr
        obtain ⟨w0, w1, w2, rfl, x0, x1, x2⟩ := M'.nr
        exact hk2 w0 w1 w2 h1 x0 x1 x2 ⟨ids', by unfold ZR; simp only [ho]; exact M', hid⟩ T.fit T.nx T.ty T.fr
    · have e9 : ((A.length : Int) + 1) = ((A ++ [z']).length : Int) := by simp
      rw [e9]
      refine ih (A ++ [z']) h' v4 v5 ?_ ?_ ?_ ?_ f5 (by omega) (f7.trans ht) ?_ ?_
      · rw [← e1]; simp [f1, f2]
      · rw [← e2]; simp
      · intro y hy
        rcases List.mem_append.1 hy with hy | hy
        · refine ⟨(hA y hy).1.rows fun q hq va es h9 => ?_, (hA y hy).2⟩
          have h8 := (hA y hy).2 q hq
          rw [f9 q (in_under hf.1 h9) (by omega)]; exact h9
        · simp at hy; subst hy
          exact ⟨f3, fun q hq => by have := f4 q hq; omega⟩
      · intro y hy
        exact hB y (by simp [hy])
      · rw [f8]; simp
      · intro q h1 h2
        rw [f9 q (by omega) h2]; exact hF q h1 h2
end Go.Proofs.YthklcbclodeilaaGreatDoor.IrT
namespace Go.Proofs.YthklcbclodeilaaGreatDoor.IrT
open Go Go.CI
set_option maxRecDepth 100000
set_option maxHeartbeats 4000000
set_option linter.unusedVariables false
set_option linter.unusedSimpArgs false
attribute [local irreducible] W Wo Wc WoR

theorem getEnt_hd {i : Nat} {o : CObj} {l : List (Nat × CObj)} : getEnt ((i, o) :: l) i = some o := by simp [getEnt]
theorem cons_of {α : Type} {l : List α} {L : Nat} (h : l.length = L) (h0 : 0 < L) : ∃ x r, l = x :: r ∧ r.length + 1 = L := by
  cases l with
  | nil => simp at h; omega
  | cons x r => exact ⟨x, r, rfl, by simpa using h⟩
theorem bare_all {l : List CVal} (h : ∀ x ∈ l, x.bare = x) : l.map CVal.bare = l := by
  induction l with
  | nil => rfl
  | cons a l ih => rw [List.map_cons, h a (by simp), ih fun x hx => h x (by simp [hx])]
theorem tw_rows {n : Nat} (IH : TW n) {zs : List (Zr (MT n))} {L : Nat} (hL : zs.length = L) (h0 : 0 < L) (hlen : L < 2000) {a va b vb c vc : Nat} {h : CHeap} (hf : Fit h)
    (hga : getEnt h.ents a = some (.row va (zs.map fun z => .str z.nm))) (hgb : getEnt h.ents b = some (.row vb (zs.map Zr.wh))) (hgc : getEnt h.ents c = some (.row vc (zs.map (·.v)))) (hz : ∀ z ∈ zs, ZR n h.ents z) (hm : mayT (n + 1) (zs.map (fun z => (z.nm, z.o)))) {K : CVal → CHeap → Prop}
    (hk : ∀ v' h', TR (n + 1) (zs.map (fun z => (z.nm, z.o))) h v' h' → K v' h') : Wc tree.getF 17 [.agg [.ref a va 1 0 L, .ref b vb 1 0 L, .ref c vc 3 0 L]] h K := by
  obtain ⟨hu, hut, hX⟩ := fx4 hf
  have la := in_under hu hga
  have lb := in_under hu hgb
  have lc := in_under hu hgc
  obtain ⟨A, hA⟩ : ∃ A, A = zs.map (fun z => CVal.str z.nm) := ⟨_, rfl⟩
  obtain ⟨Bb, hBb⟩ : ∃ A, A = zs.map Zr.wh := ⟨_, rfl⟩
  obtain ⟨C, hC⟩ : ∃ A, A = zs.map (·.v) := ⟨_, rfl⟩
  rw [← hA] at hga
  rw [← hBb] at hgb
  rw [← hC] at hgc
  have bA : ∀ x ∈ A, x.bare = x := by
    rw [hA]; intro x hx
    obtain ⟨z, _, rfl⟩ := List.mem_map.1 hx; rfl
  have bB : ∀ x ∈ Bb, x.bare = x := by
    rw [hBb]; intro x hx
    obtain ⟨z, _, rfl⟩ := List.mem_map.1 hx; rfl
  have bC : ∀ x ∈ C, x.bare = x := by
    rw [hC]; intro x hx
    obtain ⟨z, hzz, rfl⟩ := List.mem_map.1 hx
    have h8 := hz z hzz
    unfold ZR at h8
    cases ho : z.o with
    | none => simp only [ho] at h8; rw [h8.1]; rfl
    | some t =>
      simp only [ho] at h8
      obtain ⟨q0, q1, q2, hv, y0, y1, y2⟩ := h8.nr
      rw [hv]
      show CVal.agg [q0.strip, q1.strip, q2.strip] = _
      rw [y0.strip, y1.strip, y2.strip]
  obtain ⟨a0, A1, eA, lA⟩ := cons_of (l := A) (L := L) (by rw [hA]; simpa using hL) h0
  obtain ⟨b0, B1, eB, lB⟩ := cons_of (l := Bb) (L := L) (by rw [hBb]; simpa using hL) h0
  obtain ⟨c0, C1, eC, lC⟩ := cons_of (l := C) (L := L) (by rw [hC]; simpa using hL) h0
  rw [eA] at hga bA
  rw [eB] at hgb bB
  rw [eC] at hgc bC
  refine Wc.mkG 17 c17 (by kernel_rfl) rfl ?_
  generalize e : entryC .. = r
  simp (disch := omega) [c17] at e
  subst e
  repeat ((fail_if_success (show W tree.getF twL _ _)); first
    | refine st_ rfl ?_
    | ((first | refine W.regG ?_ | refine WoR.go ?_); generalize e : goR .. = r; simp (disch := omega) [hX, hga, hgb, hgc, c17] at e; replace e : some _ = _ := e; subst e; (try dsimp only [goW]))
    | (refine cl1_F (e0 := a0) (es := A1) (bA _ (by simp)) (bare_all fun x hx => bA x (by simp [hx])) lA (by omega) ft_ (by simp (disch := omega) [getEnt, hga]) fun ia0 na0 ga0 ka0 => ⟨rfl, ?_⟩; (try dsimp only at ga0 ka0))
    | (refine cl2_F (e0 := b0) (es := B1) (bB _ (by simp)) (bare_all fun x hx => bB x (by simp [hx])) lB (by omega) ft_ (by simp (disch := omega) [getEnt, hgb]) fun ib0 nb0 gb0 kb0 => ⟨rfl, ?_⟩; (try dsimp only at gb0 kb0))
    | (refine cl3_F (e0 := c0) (es := C1) (bC _ (by simp)) (bare_all fun x hx => bC x (by simp [hx])) lC (by omega) ft_ (by simp (disch := omega) [getEnt, hgc]) fun ic0 nc0 gc0 kc0 => ⟨rfl, ?_⟩; (try dsimp only at gc0 kc0)))
  have hzl : ∀ z ∈ zs, ∀ q ∈ z.ids, q < h.next := fun z hzz q hq => by
    have h8 := hz z hzz
    unfold ZR at h8
    cases ho : z.o with
    | none => simp only [ho] at h8; rw [h8.2] at hq; cases hq
    | some t => simp only [ho] at h8; obtain ⟨va, es, h9⟩ := h8.row q hq; exact in_under hu h9
  refine tw_loop IH (zs := zs) (N1 := nc0 + 4) (p := h.next) (r := h.next + 1) (c := ic0) (T0 := h.tys) (R0 := .ref ia0 0 1 0 L) (R1 := .ref ib0 0 1 0 L) hlen ?_ ?_ ?_ ?_ _ (fun v4 v5 zs' h' f1 f2 f3 f4 f5 f6 f7 => ?_) zs [] ⟨_, _, _⟩ _ _ rfl hL (fun z hz => by cases hz) (fun z hzz => ⟨?_, fun q hq => ?_, fun t ht => ?_⟩) ?_ ?_ rfl ?_ (fun q _ _ => rfl)
  · rw [getEnt_skip (by omega), getEnt_skip (by omega), getEnt_skip (by omega), getEnt_skip (by omega)]; simp [getEnt]
  · omega
  · omega
  · omega
  · have hL' : zs'.length = L := by have := congrArg List.length f1; simpa [hL] using this
    have gp := f7 h.next (by omega) (by omega)
    rw [getEnt_skip (by omega), getEnt_skip (by omega), getEnt_skip (by omega), getEnt_skip (by omega)] at gp
    replace gp := gp.trans getEnt_hd
    have gr := f7 (h.next + 1) (by omega) (by omega)
    rw [getEnt_skip (by omega), getEnt_skip (by omega), getEnt_skip (by omega)] at gr
    replace gr := gr.trans getEnt_hd
    have ga := f7 ia0 (by omega) (by omega)
    rw [getEnt_skip (by omega), getEnt_skip (by omega)] at ga
    replace ga := ga.trans getEnt_hd
    have gb := f7 ib0 (by omega) (by omega)
    rw [getEnt_skip (by omega)] at gb
    replace gb := gb.trans getEnt_hd
    obtain ⟨hu', hut', hX'⟩ := fx4 f3
    have hnm : zs'.map (fun z => CVal.str z.nm) = zs.map (fun z => CVal.str z.nm) := by
      have := congrArg (List.map fun e : List UInt8 × Option (MT n) => CVal.str e.1) f1
      simpa [List.map_map, Function.comp_def] using this
    have hwh : zs'.map Zr.wh = zs.map Zr.wh := by
      have := congrArg (List.map fun e : List UInt8 × Option (MT n) => CVal.bool e.2.isNone) f1
      simp only [List.map_map, Function.comp_def] at this; exact this
    (try simp only [outOf, thenW_ret, thenW_exit, roundW, reduceIte])
    repeat (first
      | refine st_ rfl ?_
      | ((first | refine W.regG ?_ | refine WoR.go ?_); generalize e : goR .. = r; simp (disch := omega) [hX', gp, gr, sy_getEnt_setEnt gr, c17] at e; replace e : some _ = _ := e; subst e; (try dsimp only [goW]))
      | ((first | (refine W.ret ?_; (try simp only [outOf, thenW_ret, thenW_exit, roundW, reduceIte]); refine endW.of (.inl rfl) rfl ?_) | refine endW.of (.inl rfl) rfl ?_ | refine endW.of (.inr rfl) rfl ?_); generalize e : endsC .. = r; simp (disch := omega) [hX', gp, gr, sy_getEnt_setEnt gr, c17] at e; subst e; refine hk _ _ ⟨?_, ?_, ?_, ⟨ia0 :: ib0 :: ic0 :: zids zs', ?_, ?_⟩, fun q hq => ?_⟩))
    · exact ⟨dc_under (hu'.set.le (by (try dsimp only); omega)), hut'.le (by (try dsimp only); omega)⟩
    · (try dsimp only); omega
    · exact f5
    · have keep : ∀ q va es, getEnt h'.ents q = some (.row va es) → getEnt (dropCells (setEnt h'.ents (h.next + 1) (.cells [.ref ia0 0 1 0 L, .ref ib0 0 1 0 L, .ref ic0 0 3 0 L])) h.next) q = some (.row va es) := fun q va es h9 =>
        dc_row (by rw [getEnt_setEnt_ne (fun e => by subst e; rw [gr] at h9; cases h9)]; exact h9)
      refine .inr ⟨ia0, 0, ib0, 0, ic0, 0, zs', f1.symm, by rw [hL'], keep _ _ _ ?_, keep _ _ _ ?_, keep _ _ _ f6, rfl, fun z hzz => ?_⟩
      · rw [ga, hnm, ← hA, eA]
      · rw [gb, hwh, ← hBb, eB]
      · exact (f2 z hzz).1.rows fun q _ va es h9 => keep q va es h9
    · intro q hq
      rcases List.mem_cons.1 hq with rfl | hq
      · omega
      rcases List.mem_cons.1 hq with rfl | hq
      · omega
      rcases List.mem_cons.1 hq with rfl | hq
      · omega
      obtain ⟨z, hzz, hq2⟩ := List.mem_flatMap.1 hq
      have := (f2 z hzz).2 q hq2
      omega
    · dsimp only
      rw [dc_lt hq, getEnt_setEnt_ne (by omega), f7 q (by omega) (by omega), getEnt_skip (by omega), getEnt_skip (by omega), getEnt_skip (by omega), getEnt_skip (by omega), getEnt_skip (by omega)]
  · refine (hz z hzz).rows fun q hq va es h9 => ?_
    have := hzl z hzz q hq
    rw [getEnt_skip (by omega), getEnt_skip (by omega), getEnt_skip (by omega), getEnt_skip (by omega), getEnt_skip (by omega)]; exact h9
  · have := hzl z hzz q hq
    omega
  · exact (hm.2.1 (z.nm, z.o) (List.mem_map.2 ⟨z, hzz, rfl⟩)).2 t ht
  · exact ft_
  · (try dsimp only); omega
  · dsimp only; rw [← eC, hC]; simp [getEnt]
theorem twin_C : ∀ n, TW n
  | 0 => fun m v h ids hM hf _ _ K hk => by
    obtain ⟨rfl, rfl⟩ := hM
    exact tw_nil0 h hf K fun n' g => hk _ ⟨h.ents, n', h.tys⟩ ⟨⟨hf.1.le g, hf.2.le g⟩, g, rfl, ⟨[], MR.emp 0 _, fun q hq => by cases hq⟩, fun q _ => rfl⟩
  | n + 1 => fun m v h ids hM hf hm hn K hk => by
    rcases hM with ⟨rfl, rfl, rfl⟩ | ⟨a, va, b, vb, c, vc, zs, rfl, rfl, h3, h4, h5, rfl, h7⟩
    · exact tw_nil0 h hf K fun n' g => hk _ ⟨h.ents, n', h.tys⟩ ⟨⟨hf.1.le g, hf.2.le g⟩, g, rfl, ⟨[], MR.emp (n + 1) _, fun q hq => by cases hq⟩, fun q _ => rfl⟩
    · have hl : zs.length < 2000 := by simpa using hm.1
      have h0 : 0 < zs.length := by
        rcases hn with hn | hn
        · cases hn
        · cases zs with
          | nil => exact absurd rfl hn
          | cons _ _ => simp
      exact tw_rows (twin_C n) rfl h0 hl hf h3 h4 h5 h7 hm hk
end Go.Proofs.YthklcbclodeilaaGreatDoor.IrT
namespace Go.Proofs.YthklcbclodeilaaGreatDoor.IrT
open Go Go.CI
set_option maxRecDepth 100000
set_option maxHeartbeats 4000000
set_option linter.unusedVariables false
set_option linter.unusedSimpArgs false
attribute [local irreducible] W Wo Wc WoR
/- PathTells' plain law: what is added is found, and stays found. -/
theorem bl_irr : ∀ a : List UInt8, bytesLt a a = false
  | [] => rfl
  | c :: a => by simp [bytesLt, bl_irr a]
theorem bl_tri2 : ∀ (a b : List UInt8), bytesLt b a = false → a ≠ b → bytesLt a b = true
  | [], [], _, h => absurd rfl h
  | [], _ :: _, _, _ => rfl
  | _ :: _, [], h, _ => by simp [bytesLt] at h
  | c :: a, d :: b, h, hn => by
    simp only [bytesLt, Bool.or_eq_false_iff, decide_eq_false_iff_not, Bool.and_eq_false_iff, beq_eq_false_iff_ne, ne_eq] at h
    simp only [bytesLt, Bool.or_eq_true, decide_eq_true_eq, Bool.and_eq_true, beq_iff_eq]
    by_cases hcd : c = d
    · subst hcd
      refine .inr ⟨rfl, bl_tri2 a b ?_ fun e => hn (by rw [e])⟩
      exact h.2.resolve_left fun k => k rfl
    · left
      have h1 : ¬ d.toNat < c.toNat := fun k => h.1 (UInt8.lt_iff_toNat_lt.2 k)
      have h2 : c.toNat ≠ d.toNat := fun e => hcd (UInt8.toNat_inj.1 e)
      exact UInt8.lt_iff_toNat_lt.2 (by omega)
theorem bl_trans : ∀ (a b c : List UInt8), bytesLt a b = true → bytesLt b c = true → bytesLt a c = true
  | _, [], _, h, _ => by cases ‹List UInt8› <;> simp [bytesLt] at h
  | _, _ :: _, [], _, h => by simp [bytesLt] at h
  | [], _ :: _, _ :: _, _, _ => rfl
  | x :: a, y :: b, z :: c, h, k => by
    simp only [bytesLt, Bool.or_eq_true, decide_eq_true_eq, Bool.and_eq_true, beq_iff_eq] at h k ⊢
    rcases h with h | ⟨rfl, h⟩
    · rcases k with k | ⟨rfl, k⟩
      · exact .inl (UInt8.lt_iff_toNat_lt.2 (Nat.lt_trans (UInt8.lt_iff_toNat_lt.1 h) (UInt8.lt_iff_toNat_lt.1 k)))
      · exact .inl h
    · rcases k with k | ⟨rfl, k⟩
      · exact .inl k
      · exact .inr ⟨rfl, bl_trans a b c h k⟩
def lk {M : Type} (x : List UInt8) : List (List UInt8 × Option M) → Option (Option M)
  | [] => none
  | (y, o) :: r => if y = x then some o else lk x r
def walkT : (n : Nat) → MT n → List (List UInt8) → Bool
  | 0, _, _ => false
  | _ + 1, _, [] => false
  | n + 1, m, x :: ps => match lk x (lsT m) with | none => false | some none => true | some (some t) => walkT n t ps
def Good : (n : Nat) → Nat → MT n → Prop
  | 0, _, _ => True
  | n + 1, k, m => List.length m ≤ k ∧ (lsT m).Pairwise (fun a b => bytesLt a.1 b.1 = true) ∧ ∀ e ∈ lsT m, PV e.1 ∧ ∀ t, e.2 = some t → neT n t ∧ Good n k t
def upT (n : Nat) (ps : List (List UInt8)) (t : MT n) : Option (MT n) := if ps.isEmpty then none else some (addT n t ps)
theorem add_cases (n : Nat) (m : MT (n + 1)) (x : List UInt8) (ps : List (List UInt8)) : ∃ A R : List (List UInt8 × Option (MT n)), lsT m = A ++ R ∧ (∀ a ∈ A, bytesLt a.1 x = true) ∧
    ((R = [] ∧ addT (n + 1) m (x :: ps) = (A ++ [(x, upT n ps (empT n))] : List (List UInt8 × Option (MT n)))) ∨
     (∃ B, R = (x, none) :: B ∧ addT (n + 1) m (x :: ps) = m) ∨
     (∃ t B, R = (x, some t) :: B ∧ addT (n + 1) m (x :: ps) = (A ++ (x, upT n ps t) :: B : List (List UInt8 × Option (MT n)))) ∨
     ∃ y o B, R = (y, o) :: B ∧ y ≠ x ∧ bytesLt y x = false ∧ addT (n + 1) m (x :: ps) = (A ++ (x, upT n ps (empT n)) :: (y, o) :: B : List (List UInt8 × Option (MT n)))) := by
  refine ⟨(lsT m).takeWhile (fun e => bytesLt e.1 x), (lsT m).dropWhile (fun e => bytesLt e.1 x), List.takeWhile_append_dropWhile.symm, fun a ha => ?_, ?_⟩
  · exact tw_all _ _ a ha
  · cases hR : (lsT m).dropWhile (fun e => bytesLt e.1 x) with
    | nil =>
      refine .inl ⟨rfl, ?_⟩
      have hR' : List.dropWhile (fun e : List UInt8 × Option (MT n) => bytesLt e.1 x) m = [] := hR
      simp only [addT, hR', upT]; rfl
    | cons p B =>
      obtain ⟨y, o⟩ := p
      have hR' : List.dropWhile (fun e : List UInt8 × Option (MT n) => bytesLt e.1 x) m = (y, o) :: B := hR
      have hy : bytesLt y x = false := by
        have := List.head_dropWhile_not (fun e : List UInt8 × Option (MT n) => bytesLt e.1 x) (l := lsT m) (by rw [hR]; simp)
        simpa [hR] using this
      right
      by_cases e : y = x
      · subst e
        cases o with
        | none => refine .inl ⟨B, rfl, ?_⟩; simp only [addT, hR', beq_self_eq_true, ↓reduceIte]
        | some t => refine .inr (.inl ⟨t, B, rfl, ?_⟩); simp only [addT, hR', beq_self_eq_true, ↓reduceIte, upT]; rfl
      · refine .inr (.inr ⟨y, o, B, rfl, e, hy, ?_⟩)
        have : (y == x) = false := by simpa using e
        simp only [addT, hR', this, upT]; rfl
theorem lk_app {M : Type} {x : List UInt8} : ∀ {A R : List (List UInt8 × Option M)}, (∀ a ∈ A, a.1 ≠ x) → lk x (A ++ R) = lk x R
  | [], _, _ => rfl
  | (y, o) :: A, R, h => by
    have h1 := h (y, o) (by simp)
    simp only [List.cons_append, lk, if_neg h1]
    exact lk_app fun a ha => h a (by simp [ha])
theorem lk_skip {M : Type} {x z : List UInt8} (hz : z ≠ x) {u : Option M} : ∀ {A R : List (List UInt8 × Option M)}, lk z (A ++ (x, u) :: R) = lk z (A ++ R)
  | [], _ => by simp only [List.nil_append, lk, if_neg (Ne.symm hz)]
  | (y, o) :: A, R => by simp only [List.cons_append, lk, lk_skip hz]
theorem ne_of_lt {a x : List UInt8} (h : bytesLt a x = true) : a ≠ x := fun e => by rw [e, bl_irr] at h; cases h
theorem emp_good : ∀ n k, Good n k (empT n)
  | 0, _ => trivial
  | n + 1, k => ⟨Nat.zero_le _, List.Pairwise.nil, fun e he => by cases he⟩
theorem Good.le : ∀ {n k k' : Nat} {m : MT n}, Good n k m → k ≤ k' → Good n k' m
  | 0, _, _, _, _, _ => trivial
  | n + 1, k, k', m, h, hk => ⟨Nat.le_trans h.1 hk, h.2.1, fun e he => ⟨(h.2.2 e he).1, fun t ht => ⟨((h.2.2 e he).2 t ht).1, ((h.2.2 e he).2 t ht).2.le hk⟩⟩⟩
theorem pw_mid {M : Type} {A R : List (List UInt8 × Option M)} {x : List UInt8} {u : Option M} (h : (A ++ R).Pairwise (fun a b => bytesLt a.1 b.1 = true)) (hA : ∀ a ∈ A, bytesLt a.1 x = true) (hR : ∀ a ∈ R, bytesLt x a.1 = true) : (A ++ (x, u) :: R).Pairwise (fun a b => bytesLt a.1 b.1 = true) := by
  rw [List.pairwise_append] at h ⊢
  refine ⟨h.1, List.pairwise_cons.2 ⟨hR, h.2.1⟩, fun a ha b hb => ?_⟩
  rcases List.mem_cons.1 hb with rfl | hb
  · exact hA a ha
  · exact h.2.2 a ha b hb
theorem behind {M : Type} {y : List UInt8} {o : Option M} {A B : List (List UInt8 × Option M)} {x : List UInt8} (h : (A ++ (y, o) :: B).Pairwise (fun a b => bytesLt a.1 b.1 = true)) (hn : y ≠ x) (hy : bytesLt y x = false) : ∀ a ∈ (y, o) :: B, bytesLt x a.1 = true := fun a ha => by
  have h1 := bl_tri2 x y hy (Ne.symm hn)
  rcases List.mem_cons.1 ha with rfl | ha
  · exact h1
  · exact bl_trans _ _ _ h1 ((List.pairwise_cons.1 (List.pairwise_append.1 h).2.1).1 a ha)
theorem up_good {n k : Nat} {ps : List (List UInt8)} {t : MT n} (ih : ps ≠ [] → Good n (k + 1) (addT n t ps) ∧ neT n (addT n t ps)) : ∀ s, upT n ps t = some s → neT n s ∧ Good n (k + 1) s := fun s hs => by
  unfold upT at hs
  cases hp : ps.isEmpty with
  | true => rw [hp] at hs; cases hs
  | false =>
    rw [hp] at hs; cases hs
    have := ih (by intro e; rw [e] at hp; cases hp)
    exact ⟨this.2, this.1⟩
theorem add_good : ∀ {n k : Nat} {m : MT n} {ps : List (List UInt8)}, Good n k m → ps ≠ [] → ps.length ≤ n → (∀ x ∈ ps, PV x) → Good n (k + 1) (addT n m ps) ∧ neT n (addT n m ps)
  | 0, _, _, [], _, h, _, _ => absurd rfl h
  | 0, _, _, _ :: _, _, _, h, _ => absurd h (by simp)
  | n + 1, _, _, [], _, h, _, _ => absurd rfl h
  | n + 1, k, m, x :: ps, hm, _, hl, hv => by
    obtain ⟨g1, g2, g3⟩ := hm
    have hl' : ps.length ≤ n := by simpa using hl
    have hx := hv x (by simp)
    have hv' : ∀ y ∈ ps, PV y := fun y hy => hv y (by simp [hy])
    have ihE : ∀ t : MT n, Good n k t → ps ≠ [] → Good n (k + 1) (addT n t ps) ∧ neT n (addT n t ps) := fun t ht hp => add_good ht hp hl' hv'
    have up := fun (e : List UInt8 × Option (MT n)) (he : e ∈ lsT m) => (show PV e.1 ∧ ∀ t, e.2 = some t → neT n t ∧ Good n (k + 1) t from ⟨(g3 e he).1, fun t ht => ⟨((g3 e he).2 t ht).1, ((g3 e he).2 t ht).2.le (Nat.le_succ k)⟩⟩)
    obtain ⟨A, R, e1, hA, h⟩ := add_cases n m x ps
    have g1' : (A ++ R).length ≤ k := by rw [← e1]; exact g1
    rw [e1] at g2
    have inA : ∀ a ∈ A, a ∈ lsT m := fun a ha => by rw [e1]; simp [ha]
    have inR : ∀ a ∈ R, a ∈ lsT m := fun a ha => by rw [e1]; simp [ha]
    rcases h with ⟨rfl, e⟩ | ⟨B, rfl, e⟩ | ⟨t, B, rfl, e⟩ | ⟨y, o, B, rfl, hn, hy, e⟩
    · rw [e]
      refine ⟨⟨?_, pw_mid g2 hA (fun a ha => by cases ha), fun z hz => ?_⟩, by show A ++ _ ≠ []; simp⟩
      · simp at g1' ⊢; omega
      · rcases List.mem_append.1 hz with hz | hz
        · exact up z (inA z hz)
        · rcases List.mem_cons.1 hz with rfl | hz
          · exact ⟨hx, up_good (ihE _ (emp_good n k))⟩
          · cases hz
    · rw [e]
      refine ⟨Good.le (n := n + 1) ⟨g1, by rw [e1]; exact g2, g3⟩ (Nat.le_succ k), fun e0 => ?_⟩
      have : lsT m = [] := e0
      rw [e1] at this; simp at this
    · rw [e]
      have gt := (g3 (x, some t) (inR _ (by simp))).2 t rfl
      refine ⟨⟨?_, ?_, fun z hz => ?_⟩, by show A ++ _ ≠ []; simp⟩
      · simp at g1' ⊢; omega
      · have := List.pairwise_append.1 g2
        refine pw_mid (List.pairwise_append.2 ⟨this.1, (List.pairwise_cons.1 this.2.1).2, fun a ha b hb => this.2.2 a ha b (by simp [hb])⟩) hA fun a ha => (List.pairwise_cons.1 this.2.1).1 a ha
      · rcases List.mem_append.1 hz with hz | hz
        · exact up z (inA z hz)
        · rcases List.mem_cons.1 hz with rfl | hz
          · exact ⟨hx, up_good (ihE t gt.2)⟩
          · exact up z (inR z (by simp [hz]))
    · rw [e]
      refine ⟨⟨?_, pw_mid g2 hA (behind g2 hn hy), fun z hz => ?_⟩, by show A ++ _ ≠ []; simp⟩
      · simp at g1' ⊢; omega
      · rcases List.mem_append.1 hz with hz | hz
        · exact up z (inA z hz)
        · rcases List.mem_cons.1 hz with rfl | hz
          · exact ⟨hx, up_good (ihE _ (emp_good n k))⟩
          · exact up z (inR z hz)
theorem Good.ok : ∀ {n k : Nat} {m : MT n} {ps : List (List UInt8)}, Good n k m → k < 1000 → n < 50 → ps ≠ [] → ps.length ≤ n → okT n m ps = true
  | 0, _, _, [], _, _, _, h, _ => absurd rfl h
  | 0, _, _, _ :: _, _, _, _, _, h => absurd h (by simp)
  | n + 1, _, _, [], _, _, _, h, _ => absurd rfl h
  | n + 1, k, m, x :: ps, hm, hk, hn, _, hl => by
    obtain ⟨g1, g2, g3⟩ := hm
    have hl' : ps.length ≤ n := by simpa using hl
    have sub : ∀ t : MT n, Good n k t → (ps.isEmpty || okT n t ps) = true := fun t ht => by
      cases hp : ps.isEmpty with
      | true => rfl
      | false => exact ht.ok hk (by omega) (by intro e; rw [e] at hp; cases hp) hl'
    have hD : ∀ e ∈ List.dropWhile (fun e : List UInt8 × Option (MT n) => bytesLt e.1 x) m, bytesLt e.1 x = false := by
      intro e he
      cases hR : List.dropWhile (fun e : List UInt8 × Option (MT n) => bytesLt e.1 x) m with
      | nil => rw [hR] at he; cases he
      | cons p B =>
        rw [hR] at he
        have hp : bytesLt p.1 x = false := by
          have := List.head_dropWhile_not (fun e : List UInt8 × Option (MT n) => bytesLt e.1 x) (l := lsT m) (by show List.dropWhile _ m ≠ []; rw [hR]; simp)
          have h2 : (List.dropWhile (fun e : List UInt8 × Option (MT n) => bytesLt e.1 x) (lsT m)) = p :: B := hR
          simpa [h2] using this
        rcases List.mem_cons.1 he with rfl | he
        · exact hp
        · cases hb : bytesLt e.1 x with
          | false => rfl
          | true =>
            have g2' : (p :: B).Pairwise (fun a b => bytesLt a.1 b.1 = true) := by
              have := List.Pairwise.sublist (List.dropWhile_sublist (fun e : List UInt8 × Option (MT n) => bytesLt e.1 x)) g2
              have h2 : (List.dropWhile (fun e : List UInt8 × Option (MT n) => bytesLt e.1 x) (lsT m)) = p :: B := hR
              rwa [h2] at this
            have := bl_trans _ _ _ ((List.pairwise_cons.1 g2').1 e he) hb
            rw [hp] at this; cases this
    have hin : ∀ e ∈ List.dropWhile (fun e : List UInt8 × Option (MT n) => bytesLt e.1 x) m, e ∈ lsT m := fun e he => List.Sublist.mem he (List.dropWhile_sublist _)
    simp only [okT, Bool.and_eq_true, decide_eq_true_eq, List.all_eq_true]
    refine ⟨⟨⟨Nat.lt_of_le_of_lt g1 hk, by omega⟩, fun e he => by rw [hD e he]; rfl⟩, ?_⟩
    cases hR : List.dropWhile (fun e : List UInt8 × Option (MT n) => bytesLt e.1 x) m with
    | nil => exact sub _ (emp_good n k)
    | cons p B =>
      obtain ⟨y, o⟩ := p
      dsimp only
      split
      · cases o with
        | none => rfl
        | some t => exact sub t ((g3 (y, some t) (hin _ (by rw [hR]; simp))).2 t rfl).2
      · exact sub _ (emp_good n k)
theorem Good.may : ∀ {n k : Nat} {m : MT n}, Good n k m → k < 2000 → mayT n m
  | 0, _, _, _, _ => trivial
  | n + 1, k, m, h, hk => ⟨Nat.lt_of_le_of_lt h.1 hk, fun e he => ⟨(h.2.2 e he).1, fun t ht => ⟨((h.2.2 e he).2 t ht).1, ((h.2.2 e he).2 t ht).2.may hk⟩⟩, fun i x y hx hy => by
      have h1 := (List.getElem?_eq_some_iff.1 hx)
      have h2 := (List.getElem?_eq_some_iff.1 hy)
      obtain ⟨l1, rfl⟩ := h1
      obtain ⟨l2, rfl⟩ := h2
      exact List.pairwise_iff_getElem.1 h.2.1 i (i + 1) l1 l2 (by omega)⟩
theorem lk_new {M : Type} {x : List UInt8} {A B : List (List UInt8 × Option M)} {u : Option M} (hA : ∀ a ∈ A, bytesLt a.1 x = true) : lk x (A ++ (x, u) :: B) = some u := by
  rw [lk_app fun a ha => ne_of_lt (hA a ha)]; simp [lk]
theorem walk_add : ∀ {n k : Nat} {m : MT n} {ps : List (List UInt8)}, Good n k m → ps ≠ [] → ps.length ≤ n → walkT n (addT n m ps) ps = true
  | 0, _, _, [], _, h, _ => absurd rfl h
  | 0, _, _, _ :: _, _, _, h => absurd h (by simp)
  | n + 1, _, _, [], _, h, _ => absurd rfl h
  | n + 1, k, m, x :: ps, hm, _, hl => by
    have hl' : ps.length ≤ n := by simpa using hl
    have fin : ∀ (u : Option (MT n)), (∀ t, u = some t → walkT n t ps = true) → ∀ l : List (List UInt8 × Option (MT n)), lk x l = some u → walkT (n + 1) l (x :: ps) = true := fun u hu l hL => by
      have hL' : lk x (lsT l) = some u := hL
      simp only [walkT, hL']
      cases u with
      | none => rfl
      | some t => exact hu t rfl
    have up : ∀ t : MT n, Good n k t → ∀ s, upT n ps t = some s → walkT n s ps = true := fun t ht s hs => by
      unfold upT at hs
      cases hp : ps.isEmpty with
      | true => rw [hp] at hs; cases hs
      | false => rw [hp] at hs; cases hs; exact walk_add ht (by intro e; rw [e] at hp; cases hp) hl'
    obtain ⟨A, R, e1, hA, h⟩ := add_cases n m x ps
    rcases h with ⟨rfl, e⟩ | ⟨B, rfl, e⟩ | ⟨t, B, rfl, e⟩ | ⟨y, o, B, rfl, hn, hy, e⟩
    · rw [e]; exact fin _ (up _ (emp_good n k)) _ (lk_new hA)
    · rw [e]; exact fin none (fun t ht => by cases ht) _ (by rw [show (m : List _) = A ++ (x, none) :: B from e1]; exact lk_new hA)
    · rw [e]; exact fin _ (up _ ((hm.2.2 (x, some t) (by rw [e1]; simp)).2 t rfl).2) _ (lk_new hA)
    · rw [e]; exact fin _ (up _ (emp_good n k)) _ (lk_new hA)
theorem lk_none {M : Type} {x : List UInt8} : ∀ {l : List (List UInt8 × Option M)}, (∀ a ∈ l, a.1 ≠ x) → lk x l = none
  | [], _ => rfl
  | (y, o) :: l, h => by
    simp only [lk, if_neg (h (y, o) (by simp))]
    exact lk_none fun a ha => h a (by simp [ha])
theorem walk_keep : ∀ {n k : Nat} {m : MT n} {ps q : List (List UInt8)}, Good n k m → ps ≠ [] → ps.length ≤ n → walkT n m q = true → walkT n (addT n m ps) q = true
  | 0, _, _, _, _, _, _, _, h => by cases h
  | n + 1, _, _, [], _, _, h, _, _ => absurd rfl h
  | n + 1, _, _, _, [], _, _, _, h => by cases h
  | n + 1, k, m, x :: ps, z :: q, hm, _, hl, hw => by
    have hl' : ps.length ≤ n := by simpa using hl
    obtain ⟨A, R, e1, hA, h⟩ := add_cases n m x ps
    have hlA : ∀ L : List (List UInt8 × Option (MT n)), z = x → lk z (A ++ L) = lk z L := fun L e => lk_app fun a ha => by rw [e]; exact ne_of_lt (hA a ha)
    have hw' : (match lk z (A ++ R) with | none => false | some none => true | some (some t) => walkT n t q) = true := by rw [← e1]; exact hw
    have same : ∀ l : List (List UInt8 × Option (MT n)), lk z l = lk z (A ++ R) → walkT (n + 1) l (z :: q) = true := fun l hL => by
      show (match lk z l with | none => false | some none => true | some (some t) => walkT n t q) = true
      rw [hL]; exact hw'
    rcases h with ⟨rfl, e⟩ | ⟨B, rfl, e⟩ | ⟨t, B, rfl, e⟩ | ⟨y, o, B, rfl, hn, hy, e⟩
    · rw [e]
      by_cases hz : z = x
      · rw [hlA _ hz] at hw'; simp [lk] at hw'
      · exact same _ (lk_skip hz)
    · rw [e]; exact hw
    · rw [e]
      by_cases hz : z = x
      · subst hz
        rw [hlA _ rfl] at hw'
        simp only [lk, if_true] at hw'
        show (match lk z (A ++ (z, upT n ps t) :: B) with | none => false | some none => true | some (some t) => walkT n t q) = true
        rw [lk_new hA]
        cases hp : ps.isEmpty with
        | true => simp [upT, hp]
        | false =>
          simp only [upT, hp]
          exact walk_keep ((hm.2.2 (z, some t) (by rw [e1]; simp)).2 t rfl).2 (by intro e; rw [e] at hp; cases hp) hl' hw'
      · refine same _ ?_
        rw [lk_skip hz, lk_skip hz]
    · rw [e]
      by_cases hz : z = x
      · subst hz
        have g2 := hm.2.1
        rw [e1] at g2
        rw [hlA _ rfl, lk_none fun a ha => Ne.symm (ne_of_lt (behind g2 hn hy a ha))] at hw'
        cases hw'
      · exact same _ (lk_skip hz)

end Go.Proofs.YthklcbclodeilaaGreatDoor.IrT
namespace Go.Proofs.YthklcbclodeilaaGreatDoor.IrT
open Go Go.CI
set_option maxRecDepth 100000
set_option maxHeartbeats 4000000
set_option linter.unusedVariables false
set_option linter.unusedSimpArgs false
attribute [local irreducible] W Wo Wc WoR

theorem lk_split {n : Nat} {x : List UInt8} {o : Option (MT n)} : ∀ {zs : List (Zr (MT n))}, lk x (zs.map (fun z => (z.nm, z.o))) = some o → ∃ A z B, zs = A ++ z :: B ∧ (∀ y ∈ A, y.nm ≠ x) ∧ z.nm = x ∧ z.o = o
  | [], h => by simp [lk] at h
  | z :: zs, h => by
    by_cases e : z.nm = x
    · simp [lk, e] at h
      exact ⟨[], z, zs, rfl, fun y hy => (by cases hy), e, h⟩
    · simp only [List.map_cons, lk, if_neg e] at h
      obtain ⟨A, z', B, e1, e2, e3, e4⟩ := lk_split h
      exact ⟨z :: A, z', B, by rw [e1]; rfl, fun y hy => by rcases List.mem_cons.1 hy with rfl | hy; exact e; exact e2 y hy, e3, e4⟩
theorem ixZ {n : Nat} {A B : List (Zr (MT n))} {z : Zr (MT n)} {L : Nat} (hL : (A ++ z :: B).length = L) (hlen : L < 2000) {x : List UInt8} (hA : ∀ y ∈ A, y.nm ≠ x) (hx : z.nm = x) {a va : Nat} {h : CHeap} (hf : Fit h) (hg : getEnt h.ents a = some (.row va ((A ++ z :: B).map fun z => .str z.nm))) {K : CVal → CHeap → Prop} (hk : ∀ n', h.next ≤ n' → K (.int .i64 (A.length : Int)) ⟨h.ents, n', h.tys⟩) : Wc tree.getF 16 [.ref a va 1 0 L, .str x] h K := by
  have := ix_F (l := (A ++ z :: B).map (·.nm)) (t := x) (va := va) (a := a) (by rw [List.length_map, hL]; omega) hf (by rw [hg, List.map_map]; rfl) (pos := A.length) (by rw [List.getElem?_map, List.getElem?_append_right (Nat.le_refl _)]; simp [hx]) (fun k y hk hy => by
    rw [List.getElem?_map, List.getElem?_append_left hk] at hy
    cases hq : A[k]? with
    | none => rw [hq] at hy; cases hy
    | some y' => rw [hq] at hy; cases hy; exact hA y' (List.mem_of_getElem? hq)) hk
  rwa [List.length_map, hL] at this
theorem Sub_F {n : Nat} {m : MT (n + 1)} {v : CVal} {h : CHeap} {ids : List Nat} (hM : MR (n + 1) m v h.ents ids) (hf : Fit h) (hm : mayT (n + 1) m) {x : List UInt8} {ob : Option (MT n)} (ho : lk x (lsT m) = some ob) {K : CVal → CHeap → Prop}
    (hk : ∀ v' h', TR n (ob.getD (empT n)) h v' h' → K (.tup [.bool ob.isNone, v', .bool true]) h') : Wc tree.getF 7 [v, .str x] h K := by
  rcases hM with ⟨rfl, rfl, rfl⟩ | ⟨a, va, b, vb, c, vc, zs, rfl, rfl, hga, hgb, hgc, rfl, h7⟩
  · simp [lk] at ho
  have hl : zs.length < 2000 := by simpa using hm.1
  obtain ⟨A, z, B, e1, hA, hzx, hzo⟩ := lk_split ho
  obtain ⟨L, hL⟩ : ∃ L, zs.length = L := ⟨_, rfl⟩
  have hzm : z ∈ zs := by rw [e1]; simp
  have hzr : ZR n h.ents z := h7 z hzm
  have hmz := (hm.2.1 (z.nm, z.o) (List.mem_map.2 ⟨z, hzm, rfl⟩)).2
  clear h7 hm ho
  rw [hL] at hl ⊢
  rw [e1] at hga hgb hgc hL
  obtain ⟨hu, hut, hX⟩ := fx4 hf
  have la := in_under hu hga
  have lb := in_under hu hgb
  have lc := in_under hu hgc
  have hq : ∃ q0 q1 q2, z.v = .agg [q0, q1, q2] ∧ NR q0 ∧ NR q1 ∧ NR q2 := by
    unfold ZR at hzr
    cases ho : z.o with
    | none => simp only [ho] at hzr; exact ⟨_, _, _, hzr.1, .inl rfl, .inl rfl, .inl rfl⟩
    | some t => simp only [ho] at hzr; exact hzr.nr
  obtain ⟨q0, q1, q2, hv, y0, y1, y2⟩ := hq
  have e0 := y0.strip
  have e1' := y1.strip
  have e2 := y2.strip
  simp only [CVal.strip] at e0 e1' e2
  have hal : A.length < L := by rw [← hL]; simp
  have hil : (A.length : Int) < (L : Int) := by omega
  have hi0 : ¬ (A.length : Int) < 0 := by omega
  have hi1 : ¬ (L : Int) ≤ (A.length : Int) := by omega
  have hi2 : (A.length : Int).toNat = A.length := by omega
  have hnw : nth ((A ++ z :: B).map Zr.wh) A.length = .bool ob.isNone := by
    have := nth_mid (A.map Zr.wh) (B.map Zr.wh) z.wh
    rw [← hzo]; simpa [Zr.wh] using this
  have hnv : nth ((A ++ z :: B).map (·.v)) A.length = .agg [q0, q1, q2] := by
    have := nth_mid (A.map (·.v)) (B.map (·.v)) z.v
    rw [← hv]; simpa using this
  have hlw : ((A ++ z :: B).map Zr.wh).length = L := by rw [List.length_map]; exact hL
  have hlv : ((A ++ z :: B).map (·.v)).length = L := by rw [List.length_map]; exact hL
  generalize hW : (A ++ z :: B).map Zr.wh = Ws at *
  generalize hV : (A ++ z :: B).map (·.v) = Vs at *
  have HC : ∀ (h2 : CHeap), (∀ q va es, getEnt h.ents q = some (.row va es) → getEnt h2.ents q = some (.row va es)) → h.next ≤ h2.next → h2.tys = h.tys → Fit h2 → ∀ K : CVal → CHeap → Prop, (∀ w0 w1 w2 h1, NR w0 → NR w1 → NR w2 → TR n (ob.getD (empT n)) h2 (.agg [w0, w1, w2]) h1 → K (.agg [w0, w1, w2]) h1) → Wc tree.getF 17 [.agg [q0, q1, q2]] h2 K := fun h2 hr hn ht hf2 K hk2 => by
    unfold ZR at hzr
    cases ho : z.o with
    | none =>
      simp only [ho] at hzr
      rw [hv] at hzr
      cases hzr.1
      rw [← hzo, ho] at hk2
      refine tw_nil0 h2 hf2 K fun n' g => ?_
      exact hk2 _ _ _ ⟨h2.ents, n', h2.tys⟩ (.inl rfl) (.inl rfl) (.inl rfl) ⟨⟨hf2.1.le g, hf2.2.le g⟩, g, rfl, ⟨[], MR.emp n _, fun q hq => by cases hq⟩, fun q _ => rfl⟩
    | some t =>
      simp only [ho] at hzr
      rw [hv] at hzr
      rw [← hzo, ho] at hk2
      have hnt := hmz t ho
      refine twin_C n t _ h2 z.ids (hzr.rows fun q _ va es h9 => hr q va es h9) hf2 hnt.2 (.inr hnt.1) K fun v' h1 T => ?_
      obtain ⟨ids', M', hid⟩ := id T.mr
      obtain ⟨w0, w1, w2, rfl, x0, x1, x2⟩ := M'.nr
      exact hk2 w0 w1 w2 h1 x0 x1 x2 T
  refine Wc.mkG 7 c7 (by kernel_rfl) rfl ?_
  generalize e : entryC .. = r
  simp (disch := omega) [c7] at e
  subst e
  repeat (first
    | refine st_ rfl ?_
    | ((first | refine W.regG ?_ | refine WoR.go ?_); generalize e : goR .. = r; simp (disch := omega) [hX, hga, hgb, hgc, hnw, hnv, hlw, hlv, hil, hi0, hi1, hi2, hal, e0, e1', e2, c7] at e; replace e : some _ = _ := e; subst e; (try dsimp only [goW]))
    | (refine ixZ hL (by omega) hA hzx ft_ (by simp (disch := omega) [getEnt, hga]) fun _ g => ⟨rfl, ?_⟩; (try dsimp only at g)))
  refine HC ⟨_, _, _⟩ ?_ ?_ ?_ ?_ _ fun w0 w1 w2 h1 x0 x1 x2 T => ⟨rfl, ?_⟩
  · intro q va es h9
    have := in_under hu h9
    dsimp only
    rw [getEnt_skip (by omega), getEnt_skip (by omega)]; exact h9
  · (try dsimp only); omega
  · rfl
  · exact ft_
  have f0 := x0.strip
  have f1 := x1.strip
  have f2 := x2.strip
  simp only [CVal.strip] at f0 f1 f2
  have hn1 := T.nx
  have hq1 := T.fr
  have ht1 := T.ty
  dsimp only at hn1 hq1 ht1
  have gp := (hq1 h.next (by omega)).trans ((getEnt_skip (by omega)).trans getEnt_hd)
  have gr := (hq1 (h.next + 1 + 1) (by omega)).trans getEnt_hd
  have gb1 := (hq1 b (by omega)).trans ((getEnt_skip (by omega)).trans ((getEnt_skip (by omega)).trans hgb))
  obtain ⟨hu1, hut1, hX1⟩ := fx4 T.fit
  repeat (first
    | refine st_ rfl ?_
    | ((first | refine W.regG ?_ | refine WoR.go ?_); generalize e : goR .. = r; simp (disch := omega) [hX, hX1, gp, gr, hgb, gb1, hnw, hlw, hal, sy_getEnt_setEnt gr, f0, f1, f2, ht1, c7] at e; replace e : some _ = _ := e; subst e; (try dsimp only [goW]))
    | ((first | (refine W.ret ?_; (try simp only [outOf, thenW_ret, thenW_exit, roundW, reduceIte]); refine endW.of (.inl rfl) rfl ?_) | refine endW.of (.inl rfl) rfl ?_ | refine endW.of (.inr rfl) rfl ?_); generalize e : endsC .. = r; simp (disch := omega) [hX, hX1, gp, gr, hgb, gb1, hnw, hlw, hal, sy_getEnt_setEnt gr, f0, f1, f2, ht1, c7] at e; subst e; refine hk _ _ ⟨?_, ?_, ?_, ?_, fun q hq => ?_⟩))
  · exact ⟨dc_under (hu1.set.le (by (try dsimp only); omega)), by rw [← ht1]; exact hut1.le (by (try dsimp only); omega)⟩
  · (try dsimp only); omega
  · rfl
  · obtain ⟨ids', M, hid⟩ := T.mr
    refine ⟨ids', M.rows fun q hq va es h9 => dc_row (by rw [getEnt_setEnt_ne (fun e => by subst e; rw [gr] at h9; cases h9)]; exact h9), fun q hq => ?_⟩
    have := hid q hq
    dsimp only at this; omega
  · dsimp only
    rw [dc_lt hq, getEnt_setEnt_ne (by omega), hq1 q (by omega), getEnt_skip (by omega), getEnt_skip (by omega)]
end Go.Proofs.YthklcbclodeilaaGreatDoor.IrT
namespace Go.Proofs.YthklcbclodeilaaGreatDoor.IrT
open Go Go.CI
set_option maxRecDepth 100000
set_option maxHeartbeats 4000000
set_option linter.unusedVariables false
set_option linter.unusedSimpArgs false
attribute [local irreducible] W Wo Wc WoR
theorem split_one (c : UInt8) : ∀ (x : List UInt8), (∀ b ∈ x, b ≠ c) → splitF c x = [x]
  | [], _ => rfl
  | b :: x, h => by
    have h1 : b ≠ c := h b (by simp)
    have h2 := split_one c x fun a ha => h a (by simp [ha])
    simp [splitF, h1, h2]
theorem split_more (c : UInt8) (r : List UInt8) : ∀ (x : List UInt8), (∀ b ∈ x, b ≠ c) → splitF c (x ++ c :: r) = x :: splitF c r
  | [], _ => by simp [splitF]
  | b :: x, h => by
    have h1 : b ≠ c := h b (by simp)
    have h2 := split_more c r x fun a ha => h a (by simp [ha])
    simp [splitF, h1, h2]
def pvB (s : List UInt8) : Bool := !s.isEmpty && (Nat.blt s.length 1000 && (s.all (fun c => CVal.beq (nth (marks marks0 csP) c.toNat) (.bool true) && (c != 46 && c != 44)) && match s with | [] => false | c :: _ => decide (0 ≤ idxFrom c ltP 0)))
theorem cbeq_true {v : CVal} (h : CVal.beq v (.bool true) = true) : v = .bool true := by
  cases v <;> simp [CVal.beq] at h
  rw [h]
theorem pvB_ok {s : List UInt8} (h : pvB s = true) : PV s := by
  unfold pvB at h
  cases s with
  | nil => simp at h
  | cons c s =>
    simp only [Bool.and_eq_true, List.all_eq_true, bne_iff_ne, ne_eq, decide_eq_true_eq] at h
    exact ⟨by simp, by simpa [Nat.blt_eq] using h.2.1, fun d hd => cbeq_true (h.2.2.1 d hd).1, fun d hd => by simp at hd; subst hd; exact h.2.2.2, fun d hd => (h.2.2.1 d hd).2⟩

/-- Joined with a sign between. -/
def jn (c : UInt8) : List (List UInt8) → List UInt8
  | [] => []
  | x :: R => x ++ R.flatMap fun y => c :: y
theorem split_jn (c : UInt8) : ∀ (R : List (List UInt8)) (x : List UInt8), (∀ b ∈ x, b ≠ c) → (∀ y ∈ R, ∀ b ∈ y, b ≠ c) → splitF c (jn c (x :: R)) = x :: R
  | [], x, hx, _ => by simp only [jn, List.flatMap_nil, List.append_nil]; exact split_one c x hx
  | y :: R, x, hx, hR => by
    have h2 := split_jn c R y (hR y (by simp)) fun z hz => hR z (by simp [hz])
    have h3 : jn c (x :: y :: R) = x ++ c :: jn c (y :: R) := by simp [jn]
    rw [h3, split_more c _ x hx, h2]
theorem jn_one (c : UInt8) (x : List UInt8) : jn c [x] = x := by simp [jn]
theorem jn_snoc (c : UInt8) (x : List UInt8) : ∀ (A : List (List UInt8)), A ≠ [] → jn c (A ++ [x]) = jn c A ++ c :: x
  | [], h => absurd rfl h
  | a :: A, _ => by simp [jn]
theorem jn_len (c : UInt8) (m : Nat) : ∀ (A : List (List UInt8)), (∀ x ∈ A, x.length ≤ m) → (jn c A).length ≤ A.length * (m + 1)
  | [], _ => by simp [jn]
  | a :: A, h => by
    have h1 := h a (by simp)
    have : ∀ (B : List (List UInt8)), (∀ x ∈ B, x.length ≤ m) → (B.flatMap fun y => c :: y).length ≤ B.length * (m + 1) := by
      intro B
      induction B with
      | nil => intro _; simp
      | cons b B ih =>
        intro hB
        have := ih fun x hx => hB x (by simp [hx])
        have := hB b (by simp)
        simp only [List.flatMap_cons, List.length_append, List.length_cons, Nat.succ_mul]
        omega
    have := this A fun x hx => h x (by simp [hx])
    simp only [jn, List.length_append, List.length_cons, Nat.succ_mul]
    omega
/-- A name by a number. -/
def nmK (k : Nat) : List UInt8 := [UInt8.ofNat (97 + k % 3)]
theorem nm_cases (k : Nat) : nmK k = [97] ∨ nmK k = [98] ∨ nmK k = [99] := by
  have : k % 3 < 3 := Nat.mod_lt _ (by omega)
  unfold nmK
  rcases (show k % 3 = 0 ∨ k % 3 = 1 ∨ k % 3 = 2 by omega) with h | h | h <;> rw [h]
  · exact .inl rfl
  · exact .inr (.inl rfl)
  · exact .inr (.inr rfl)
theorem nm_pv (k : Nat) : PV (nmK k) := by
  rcases nm_cases k with h | h | h <;> rw [h] <;> exact pvB_ok (by kernel_rfl)
theorem nm_c {c : UInt8} (hc : c = 44 ∨ c = 46) (k : Nat) : ∀ b ∈ nmK k, b ≠ c := fun b hb e => by
  rcases nm_cases k with h | h | h <;> rw [h] at hb <;> simp at hb <;> subst hb <;> rcases hc with rfl | rfl <;> cases e
def pN (r : List Nat) : List (List UInt8) := r.map nmK
def pT (r : List Nat) : List UInt8 := jn 46 (pN r)
def tT (l : List (List Nat)) : List UInt8 := jn 44 (l.map pT)
theorem pT_split {r : List Nat} (h : r ≠ []) : splitF 46 (pT r) = pN r := by
  cases r with
  | nil => exact absurd rfl h
  | cons k r => exact split_jn 46 (r.map nmK) (nmK k) (nm_c (.inr rfl) k) fun y hy => by obtain ⟨j, _, rfl⟩ := List.mem_map.1 hy; exact nm_c (.inr rfl) j
theorem pT_len {r : List Nat} (h : r.length ≤ 5) : (pT r).length ≤ 10 := by
  have := jn_len 46 1 (pN r) fun x hx => by obtain ⟨j, _, rfl⟩ := List.mem_map.1 hx; exact Nat.le_refl _
  have h2 : (pN r).length = r.length := List.length_map ..
  rw [h2] at this; exact Nat.le_trans this (by omega)
theorem pT_c {r : List Nat} : ∀ b ∈ pT r, b ≠ 44 := by
  intro b hb e
  have key : ∀ (A : List (List UInt8)), (∀ x ∈ A, ∀ b ∈ x, b ≠ 44) → ∀ b ∈ jn 46 A, b ≠ 44 := by
    intro A hA b hb
    cases A with
    | nil => cases hb
    | cons a A =>
      simp only [jn, List.mem_append, List.mem_flatMap, List.mem_cons] at hb
      rcases hb with hb | ⟨y, hy, rfl | hb⟩
      · exact hA a (by simp) b hb
      · decide
      · exact hA y (by simp [hy]) b hb
  exact key (pN r) (fun x hx => by obtain ⟨j, _, rfl⟩ := List.mem_map.1 hx; exact nm_c (.inl rfl) j) b hb e
theorem tT_split {l : List (List Nat)} (h : l ≠ []) : splitF 44 (tT l) = l.map pT := by
  cases l with
  | nil => exact absurd rfl h
  | cons r l => exact split_jn 44 (l.map pT) (pT r) pT_c fun y hy => by obtain ⟨j, _, rfl⟩ := List.mem_map.1 hy; exact pT_c
theorem tT_len {l : List (List Nat)} (hl : l.length ≤ 10) (h : ∀ r ∈ l, r.length ≤ 5) : (tT l).length ≤ 110 := by
  have := jn_len 44 10 (l.map pT) fun x hx => by obtain ⟨j, hj, rfl⟩ := List.mem_map.1 hx; exact pT_len (h j hj)
  rw [List.length_map] at this; exact Nat.le_trans this (by omega)
def foldN (n : Nat) (m : MT n) (l : List (List Nat)) : MT n := l.foldl (fun m r => addT n m (pN r)) m
theorem foldT_N {n : Nat} : ∀ {l : List (List Nat)} {m : MT n}, (∀ r ∈ l, r ≠ []) → (l.map pT).foldl (fun m t => addT n m (splitF 46 t)) m = foldN n m l
  | [], _, _ => rfl
  | r :: l, m, h => by
    simp only [List.map_cons, List.foldl_cons, foldN]
    rw [pT_split (h r (by simp))]
    exact foldT_N fun x hx => h x (by simp [hx])
theorem fold_ok {n : Nat} : ∀ {l : List (List Nat)} {m : MT n} {k : Nat}, Good n k m → (∀ r ∈ l, r ≠ [] ∧ r.length ≤ n) → Good n (k + l.length) (foldN n m l) ∧ (∀ q, walkT n m q = true → walkT n (foldN n m l) q = true) ∧ ∀ r ∈ l, walkT n (foldN n m l) (pN r) = true
  | [], m, k, hm, _ => ⟨hm, fun q h => h, fun r hr => by cases hr⟩
  | r :: l, m, k, hm, h => by
    have h1 := h r (by simp)
    have hne : pN r ≠ [] := by simpa [pN] using h1.1
    have hle : (pN r).length ≤ n := by simpa [pN] using h1.2
    have hpv : ∀ x ∈ pN r, PV x := fun x hx => by obtain ⟨j, _, rfl⟩ := List.mem_map.1 hx; exact nm_pv j
    have g := (add_good hm hne hle hpv).1
    obtain ⟨a1, a2, a3⟩ := fold_ok (l := l) g fun x hx => h x (by simp [hx])
    refine ⟨a1.le (by simp; omega), fun q hq => a2 q (walk_keep hm hne hle hq), fun x hx => ?_⟩
    rcases List.mem_cons.1 hx with rfl | hx
    · exact a2 _ (walk_add hm hne hle)
    · exact a3 x hx
theorem take_ok {l : List (List Nat)} (hl : l.length ≤ 10) (h : ∀ r ∈ l, r ≠ [] ∧ r.length ≤ 5) : ∀ (k : Nat) t, (l.map pT)[k]? = some t → okT 5 (foldT 5 ((l.map pT).take k)) (splitF 46 t) = true := by
  intro k t ht
  rw [List.getElem?_map] at ht
  cases hr : l[k]? with
  | none => rw [hr] at ht; cases ht
  | some r =>
    rw [hr] at ht; cases ht
    have hm := h r (List.mem_of_getElem? hr)
    rw [pT_split hm.1, ← List.map_take]
    have e : foldT 5 ((l.take k).map pT) = foldN 5 (empT 5) (l.take k) := foldT_N fun x hx => (h x (List.mem_of_mem_take hx)).1
    rw [e]
    have g := (fold_ok (l := l.take k) (emp_good 5 0) fun x hx => h x (List.mem_of_mem_take hx)).1
    have hlt : (l.take k).length ≤ 10 := by rw [List.length_take]; omega
    exact Good.ok g (by omega) (by omega) (by simpa [pN] using hm.1) (by simpa [pN] using hm.2)
/-- What Parse gives for the text of some paths. -/
def mT (l : List (List Nat)) : MT 5 := foldN 5 (empT 5) l
theorem mT_good {l : List (List Nat)} (h : ∀ r ∈ l, r ≠ [] ∧ r.length ≤ 5) : Good 5 (0 + l.length) (mT l) := (fold_ok (emp_good 5 0) h).1
theorem mT_may {l : List (List Nat)} (hl : l.length ≤ 10) (h : ∀ r ∈ l, r ≠ [] ∧ r.length ≤ 5) : mayT 5 (mT l) := (mT_good h).may (by omega)
theorem mT_walk {l : List (List Nat)} (h : ∀ r ∈ l, r ≠ [] ∧ r.length ≤ 5) : ∀ r ∈ l, walkT 5 (mT l) (pN r) = true := (fold_ok (emp_good 5 0) h).2.2
theorem parse_T {l : List (List Nat)} (hl : l.length ≤ 10) (hne : l ≠ []) (h : ∀ r ∈ l, r ≠ [] ∧ r.length ≤ 5) {H : CHeap} (hf : Fit H) {K : CVal → CHeap → Prop} (hk : ∀ v' h', AR 5 (mT l) H [] v' h' → K (.tup [v', .int .i64 0]) h') : Wc tree.getF 5 [.str (tT l)] H K := by
  have hs := tT_split hne
  have hlen := tT_len hl fun r hr => (h r hr).2
  have e : foldT 5 (l.map pT) = mT l := foldT_N fun x hx => (h x hx).1
  refine ps_F 5 (tT l) (by omega) (fun e => ?_) (by rw [hs, List.length_map]; omega) ?_ ?_ hf ?_
  · rw [e] at hs
    cases l with
    | nil => exact hne rfl
    | cons r l =>
      have h1 := congrArg (·[0]?) hs
      simp only [splitF, List.map_cons, List.getElem?_cons_zero] at h1
      have h2 := pT_split (h r (by simp)).1
      rw [← Option.some.inj h1] at h2
      have h3 := congrArg (·[0]?) h2
      cases hr : r with
      | nil => exact (h r (by simp)).1 hr
      | cons k r' => rw [hr] at h3; simp [splitF, pN, nmK] at h3
  · rw [hs]
    intro t ht
    obtain ⟨r, hr, rfl⟩ := List.mem_map.1 ht
    have h1 := h r hr
    have h2 := pT_len h1.2
    rw [pT_split h1.1]
    refine ⟨by omega, by rw [pN, List.length_map]; omega, fun x hx => by obtain ⟨j, _, rfl⟩ := List.mem_map.1 hx; exact nm_pv j⟩
  · rw [hs]; exact take_ok hl h
  · rw [hs, e]; exact hk
end Go.Proofs.YthklcbclodeilaaGreatDoor.IrT
namespace Go.Proofs.YthklcbclodeilaaGreatDoor.IrT
open Go Go.CI
set_option maxRecDepth 100000
set_option maxHeartbeats 4000000
set_option linter.unusedVariables false
set_option linter.unusedSimpArgs false
attribute [local irreducible] W Wo Wc WoR

/-- A row of numbers below 256. -/
def rowV (r : List Nat) : CVal := .imm .none 1 (r.map fun a : Nat => .int .u8 (a : Int))
/-- What stands behind a name more. -/
def nxS (k : Nat) (S : List UInt8) (a : Nat) : List UInt8 := if k = 0 then S ++ nmK a else (S ++ [46]) ++ nmK a
abbrev bL1 : CCode := (.loop true (.seq (.seq (.region [.v 3, .v 1, .g (.len false (.loc 0)), .h .lss 2 0] [(4, 3)] [] []) (.cond (.var 4) .skip (.exit 0))) (.seq (.block 1 (.seq (.seq (.region [.v 1, .v 3, .g (.idxAddr 1 (.loc 1) (.loc 0)), .l 0, .g (.len false (.loc 0)), .x .gtr 0 (.k 5), .m (.loc 0), .q (.mv (.var 1)) 0 false, .q (.mv (.var 3)) 1 false, .q (.idxAddr 1 (.loc 1) (.loc 0)) 2 false, .q (.load none (.loc 0)) 3 false, .q (.len false (.loc 0)) 4 false, .q (.bin .eql (.loc 0) (.k 0)) 5 false, .g (.pick (.loc 6) (.b true) (.loc 0))] [(5, 13)] [] []) (.cond (.var 5) (.seq (.region [.m (.b true)] [(25, 0)] [] []) .ret) .skip)) (.seq (.seq (.region [.v 3, .x .gtr 0 (.k 0)] [(6, 1)] [] []) (.cond (.var 6) (.region [.v 7, .g (.bin .add (.loc 0) (.const (.str [44]))), .m (.loc 0)] [(7, 2)] [] []) .skip)) (.seq (.region [.m (.k 0)] [(8, 0)] [] []) (.block 2 (.loop true (.seq (.seq (.region [.v 8, .v 1, .v 3, .g (.idxAddr 1 (.loc 1) (.loc 0)), .l 0, .g (.len false (.loc 0)), .h .lss 5 0] [(9, 6)] [] []) (.cond (.var 9) .skip (.exit 2))) (.seq (.block 3 (.seq (.seq (.region [.v 8, .x .gtr 0 (.k 0)] [(10, 1)] [] []) (.cond (.var 10) (.region [.v 7, .g (.bin .add (.loc 0) (.const (.str [46]))), .m (.loc 0)] [(7, 2)] [] []) .skip)) (.region [.v 7, .v 1, .v 3, .g (.idxAddr 1 (.loc 1) (.loc 0)), .l 0, .v 8, .g (.idxAddr 1 (.loc 1) (.loc 0)), .l 0, .x .rem 0 (.u 3), .g (.bin .add (.u 97) (.loc 0)), .g (.lit .imm false [(.int .u8 0)] 1 [(0, (.loc 0))]), .g (.b2s (.loc 0)), .h .add 11 0, .m (.loc 0)] [(7, 13)] [] []))) (.region [.v 8, .x .add 0 (.k 1), .m (.loc 0)] [(8, 2)] [] []))))))))) (.region [.v 3, .x .add 0 (.k 1), .m (.loc 0)] [(3, 2)] [] []))))
abbrev bL2 : CCode := (.loop true (.seq (.seq (.region [.v 8, .v 1, .v 3, .g (.idxAddr 1 (.loc 1) (.loc 0)), .l 0, .g (.len false (.loc 0)), .h .lss 5 0] [(9, 6)] [] []) (.cond (.var 9) .skip (.exit 2))) (.seq (.block 3 (.seq (.seq (.region [.v 8, .x .gtr 0 (.k 0)] [(10, 1)] [] []) (.cond (.var 10) (.region [.v 7, .g (.bin .add (.loc 0) (.const (.str [46]))), .m (.loc 0)] [(7, 2)] [] []) .skip)) (.region [.v 7, .v 1, .v 3, .g (.idxAddr 1 (.loc 1) (.loc 0)), .l 0, .v 8, .g (.idxAddr 1 (.loc 1) (.loc 0)), .l 0, .x .rem 0 (.u 3), .g (.bin .add (.u 97) (.loc 0)), .g (.lit .imm false [(.int .u8 0)] 1 [(0, (.loc 0))]), .g (.b2s (.loc 0)), .h .add 11 0, .m (.loc 0)] [(7, 13)] [] []))) (.region [.v 8, .x .add 0 (.k 1), .m (.loc 0)] [(8, 2)] [] []))))
abbrev bL3 : CCode := (.loop true (.seq (.seq (.region [.v 14, .v 1, .g (.len false (.loc 0)), .h .lss 2 0] [(15, 3)] [] []) (.cond (.var 15) .skip (.exit 4))) (.seq (.block 5 (.seq (.region [.g (.load (some 3) (.var 12)), .g (.lazy 31457283), .g (.init 3 (.loc 0) (.loc 1))] [(19, 1)] [] []) (.seq (.region [.m (.b false)] [(17, 0)] [] []) (.seq (.seq (.region [.m (.k 0)] [(16, 0)] [] []) (.block 6 (.loop true (.seq (.seq (.region [.v 16, .v 1, .v 14, .g (.idxAddr 1 (.loc 1) (.loc 0)), .l 0, .g (.len false (.loc 0)), .h .lss 5 0, .m (.loc 0), .q (.mv (.var 17)) 0 true, .q (.not (.loc 0)) 1 true, .g (.pick (.loc 2) (.loc 0) (.b false))] [(18, 10)] [] []) (.cond (.var 18) .skip (.exit 6))) (.seq (.block 7 (.seq (.region [.g (.load (some 3) (.var 19)), .v 1, .v 14, .g (.idxAddr 1 (.loc 1) (.loc 0)), .l 0, .v 16, .g (.idxAddr 1 (.loc 1) (.loc 0)), .l 0, .x .rem 0 (.u 3), .g (.bin .add (.u 97) (.loc 0)), .g (.lit .imm false [(.int .u8 0)] 1 [(0, (.loc 0))]), .g (.b2s (.loc 0)), .g (.call false 7 [(.loc 11), (.loc 0)]), .m (.loc 0), .g (.extract 0 (.loc 0)), .g (.extract 1 (.loc 1)), .g (.extract 2 (.loc 2)), .g (.lazy 31457283), .m (.loc 3), .g (.init 3 (.loc 1) (.loc 3)), .m (.loc 3)] [(20, 20), (22, 18), (23, 17)] [] []) (.seq (.seq (.region [.v 20, .g (.not (.loc 0))] [(21, 1)] [] []) (.cond (.var 21) (.seq (.region [.m (.b false)] [(25, 0)] [] []) .ret) .skip)) (.region [.v 22, .g (.load (some 3) (.var 23)), .m (.loc 1), .g (.store 3 (.var 19) (.loc 1))] [(17, 2)] [] [])))) (.region [.v 16, .x .add 0 (.k 1), .m (.loc 0)] [(16, 2)] [] [])))))) (.seq (.region [.v 17, .g (.not (.loc 0))] [(24, 1)] [] []) (.cond (.var 24) (.seq (.region [.m (.b false)] [(25, 0)] [] []) .ret) .skip)))))) (.region [.v 14, .x .add 0 (.k 1), .m (.loc 0)] [(14, 2)] [] []))))
abbrev bL4 : CCode := (.loop true (.seq (.seq (.region [.v 16, .v 1, .v 14, .g (.idxAddr 1 (.loc 1) (.loc 0)), .l 0, .g (.len false (.loc 0)), .h .lss 5 0, .m (.loc 0), .q (.mv (.var 17)) 0 true, .q (.not (.loc 0)) 1 true, .g (.pick (.loc 2) (.loc 0) (.b false))] [(18, 10)] [] []) (.cond (.var 18) .skip (.exit 6))) (.seq (.block 7 (.seq (.region [.g (.load (some 3) (.var 19)), .v 1, .v 14, .g (.idxAddr 1 (.loc 1) (.loc 0)), .l 0, .v 16, .g (.idxAddr 1 (.loc 1) (.loc 0)), .l 0, .x .rem 0 (.u 3), .g (.bin .add (.u 97) (.loc 0)), .g (.lit .imm false [(.int .u8 0)] 1 [(0, (.loc 0))]), .g (.b2s (.loc 0)), .g (.call false 7 [(.loc 11), (.loc 0)]), .m (.loc 0), .g (.extract 0 (.loc 0)), .g (.extract 1 (.loc 1)), .g (.extract 2 (.loc 2)), .g (.lazy 31457283), .m (.loc 3), .g (.init 3 (.loc 1) (.loc 3)), .m (.loc 3)] [(20, 20), (22, 18), (23, 17)] [] []) (.seq (.seq (.region [.v 20, .g (.not (.loc 0))] [(21, 1)] [] []) (.cond (.var 21) (.seq (.region [.m (.b false)] [(25, 0)] [] []) .ret) .skip)) (.region [.v 22, .g (.load (some 3) (.var 23)), .m (.loc 1), .g (.store 3 (.var 19) (.loc 1))] [(17, 2)] [] [])))) (.region [.v 16, .x .add 0 (.k 1), .m (.loc 0)] [(16, 2)] [] []))))
theorem mod3 (a : Nat) : (Int.tmod (a : Int) 3 = 0 ∧ nmK a = [97]) ∨ (Int.tmod (a : Int) 3 = 1 ∧ nmK a = [98]) ∨ (Int.tmod (a : Int) 3 = 2 ∧ nmK a = [99]) := by
  have h : a % 3 < 3 := Nat.mod_lt _ (by omega)
  have e : Int.tmod (a : Int) 3 = ((a % 3 : Nat) : Int) := by rw [Int.tmod_eq_emod_of_nonneg (by omega)]; omega
  unfold nmK
  rcases (show a % 3 = 0 ∨ a % 3 = 1 ∨ a % 3 = 2 by omega) with q | q | q <;> rw [e, q]
  · exact .inl ⟨rfl, rfl⟩
  · exact .inr (.inl ⟨rfl, rfl⟩)
  · exact .inr (.inr ⟨rfl, rfl⟩)
theorem b2_go {ys : List CVal} {i : Nat} {r : List Nat} (hyl : ys.length ≤ 10) (hi : i < ys.length) (hye : nth ys i = rowV r) (hr : r.length ≤ 5) (k : Nat) {a : Nat} (ha : r[k]? = some a) {S : List UInt8} (hS : S.length < 1000) {h : CHeap} (hf : Fit h) (v0 v2 v4 v5 v6 v9 v10 : CVal) (u11 u12 u13 u14 u15 u16 u17 u18 u19 u20 u21 u22 u23 u24 u25 : CVal) {Q : CExit → CSt → Prop}
    (hk : ∀ (v9 v10 : CVal) n', h.next ≤ n' → W tree.getF bL2 ⟨[v0, .imm .none 1 ys, v2, .int .i64 (i : Int), v4, v5, v6, .str (nxS k S a), .int .i64 ((k + 1 : Nat) : Int), v9, v10, u11, u12, u13, u14, u15, u16, u17, u18, u19, u20, u21, u22, u23, u24, u25], ⟨h.ents, n', h.tys⟩, []⟩ Q) : W tree.getF bL2 ⟨[v0, .imm .none 1 ys, v2, .int .i64 (i : Int), v4, v5, v6, .str S, .int .i64 (k : Int), v9, v10, u11, u12, u13, u14, u15, u16, u17, u18, u19, u20, u21, u22, u23, u24, u25], h, []⟩ Q := by
  obtain ⟨hu, hut, hX⟩ := fx4 hf
  unfold rowV at hye
  have hkl := (List.getElem?_eq_some_iff.1 ha).1
  have hil : (i : Int) < (ys.length : Int) := by omega
  have hi2 : (i : Int).toNat = i := by omega
  have hrl : (r.map fun a : Nat => CVal.int .u8 (a : Int)).length = r.length := List.length_map ..
  have hkl2 : (k : Int) < (r.length : Int) := by omega
  have hk2 : (k : Int).toNat = k := by omega
  have hne : nth (r.map fun a : Nat => CVal.int .u8 (a : Int)) k = .int .u8 (a : Int) := nth_mapG (fun a : Nat => CVal.int .u8 (a : Int)) r k _ ha
  generalize (r.map fun a : Nat => CVal.int .u8 (a : Int)) = R at *
  have hc : ((k + 1 : Nat) : Int) = (k : Int) + 1 := by omega
  rw [hc] at hk
  rcases mod3 a with ⟨m1, m2⟩ | ⟨m1, m2⟩ | ⟨m1, m2⟩
  all_goals
    rcases Nat.eq_zero_or_pos k with h0 | h0
    · simp only [nxS, m2, h0, if_true] at hk
      have hz : ¬ (0 : Int) < (k : Int) := by omega
      have hk0 : (k : Int) + 1 = 0 + 1 := by omega
      refine W.loop ?_
      repeat (first
        | refine st_ rfl ?_
        | ((first | refine W.regG ?_ | refine WoR.go ?_); generalize e : goR .. = r; simp (disch := omega) [hX, hye, hyl, hi, hil, hi2, hrl, hkl, hkl2, hk2, hne, m1, hz] at e; replace e : some _ = _ := e; subst e; (try dsimp only [goW])))
      show W tree.getF bL2 (dropped true _ _) Q; generalize e : dropped _ _ _ = r; simp (disch := omega) [hX] at e; subst e
      rw [h0]
      exact hk _ _ _ (by (try dsimp only); omega)
    · simp only [nxS, m2, Nat.ne_of_gt h0, if_false] at hk
      have hz : (0 : Int) < (k : Int) := by omega
      refine W.loop ?_
      repeat (first
        | refine st_ rfl ?_
        | ((first | refine W.regG ?_ | refine WoR.go ?_); generalize e : goR .. = r; simp (disch := omega) [hX, hye, hyl, hi, hil, hi2, hrl, hkl, hkl2, hk2, hne, m1, hz] at e; replace e : some _ = _ := e; subst e; (try dsimp only [goW])))
      show W tree.getF bL2 (dropped true _ _) Q; generalize e : dropped _ _ _ = r; simp (disch := omega) [hX] at e; subst e
      simp only [List.append_assoc, List.cons_append, List.nil_append] at hk
      exact hk _ _ _ (by (try dsimp only); omega)
end Go.Proofs.YthklcbclodeilaaGreatDoor.IrT
namespace Go.Proofs.YthklcbclodeilaaGreatDoor.IrT
open Go Go.CI
set_option maxRecDepth 100000
set_option maxHeartbeats 4000000
set_option linter.unusedVariables false
set_option linter.unusedSimpArgs false
attribute [local irreducible] W Wo Wc WoR

def bld : Nat → List UInt8 → List Nat → List UInt8
  | _, S, [] => S
  | k, S, a :: r => bld (k + 1) (nxS k S a) r
theorem bld_more : ∀ (r : List Nat) (k : Nat) (S : List UInt8), bld (k + 1) S r = S ++ (r.map nmK).flatMap fun y => 46 :: y
  | [], _, S => by simp [bld]
  | a :: r, k, S => by
    simp only [bld, bld_more r (k + 1), nxS, Nat.succ_ne_zero, if_false, List.map_cons, List.flatMap_cons, List.append_assoc, List.cons_append, List.nil_append]
theorem bld_all (S : List UInt8) {r : List Nat} (h : r ≠ []) : bld 0 S r = S ++ pT r := by
  cases r with
  | nil => exact absurd rfl h
  | cons a r => simp only [bld, bld_more, nxS, if_true, pT, pN, jn, List.map_cons, List.append_assoc]
theorem nm_len (a : Nat) : (nmK a).length = 1 := rfl
theorem nxS_len (k : Nat) (S : List UInt8) (a : Nat) : (nxS k S a).length ≤ S.length + 2 := by
  unfold nxS
  split <;> simp [nm_len]
theorem b2_end {ys : List CVal} {i : Nat} {r : List Nat} (hyl : ys.length ≤ 10) (hi : i < ys.length) (hye : nth ys i = rowV r) (hr : r.length ≤ 5) {S : List UInt8} {h : CHeap} (hf : Fit h) (v0 v2 v4 v5 v6 v9 v10 : CVal) (u11 u12 u13 u14 u15 u16 u17 u18 u19 u20 u21 u22 u23 u24 u25 : CVal) {Q : CExit → CSt → Prop}
    (hk : ∀ (v9 v10 : CVal) n', h.next ≤ n' → Q (.exit 2) ⟨[v0, .imm .none 1 ys, v2, .int .i64 (i : Int), v4, v5, v6, .str S, .int .i64 (r.length : Int), v9, v10, u11, u12, u13, u14, u15, u16, u17, u18, u19, u20, u21, u22, u23, u24, u25], ⟨h.ents, n', h.tys⟩, []⟩) : W tree.getF bL2 ⟨[v0, .imm .none 1 ys, v2, .int .i64 (i : Int), v4, v5, v6, .str S, .int .i64 (r.length : Int), v9, v10, u11, u12, u13, u14, u15, u16, u17, u18, u19, u20, u21, u22, u23, u24, u25], h, []⟩ Q := by
  obtain ⟨hu, hut, hX⟩ := fx4 hf
  unfold rowV at hye
  have hil : (i : Int) < (ys.length : Int) := by omega
  have hi2 : (i : Int).toNat = i := by omega
  have hrl : (r.map fun a : Nat => CVal.int .u8 (a : Int)).length = r.length := List.length_map ..
  generalize (r.map fun a : Nat => CVal.int .u8 (a : Int)) = R at *
  refine W.loop ?_
  repeat (first
    | refine st_ rfl ?_
    | ((first | refine W.regG ?_ | refine WoR.go ?_); generalize e : goR .. = r; simp (disch := omega) [hX, hye, hyl, hi, hil, hi2, hrl] at e; replace e : some _ = _ := e; subst e; (try dsimp only [goW])))
  all_goals ((try simp only [outOf, thenW_ret, thenW_exit, roundW, reduceIte]))
  all_goals (exact hk _ _ _ (by (try dsimp only); omega))
theorem b2_loop {ys : List CVal} {i : Nat} {r : List Nat} (hyl : ys.length ≤ 10) (hi : i < ys.length) (hye : nth ys i = rowV r) (hr : r.length ≤ 5) {h : CHeap} (hf : Fit h) (v0 v2 v4 v5 v6 : CVal) (u11 u12 u13 u14 u15 u16 u17 u18 u19 u20 u21 u22 u23 u24 u25 : CVal) {Q : CExit → CSt → Prop} (Z : List UInt8)
    (hk : ∀ (v9 v10 : CVal) n', h.next ≤ n' → Q (.exit 2) ⟨[v0, .imm .none 1 ys, v2, .int .i64 (i : Int), v4, v5, v6, .str Z, .int .i64 (r.length : Int), v9, v10, u11, u12, u13, u14, u15, u16, u17, u18, u19, u20, u21, u22, u23, u24, u25], ⟨h.ents, n', h.tys⟩, []⟩) :
    ∀ (R A : List Nat) (S : List UInt8) (nx : Nat) (v9 v10 : CVal), A ++ R = r → S.length ≤ 500 + 2 * A.length → bld A.length S R = Z → h.next ≤ nx → W tree.getF bL2 ⟨[v0, .imm .none 1 ys, v2, .int .i64 (i : Int), v4, v5, v6, .str S, .int .i64 (A.length : Int), v9, v10, u11, u12, u13, u14, u15, u16, u17, u18, u19, u20, u21, u22, u23, u24, u25], ⟨h.ents, nx, h.tys⟩, []⟩ Q := by
  intro R
  induction R with
  | nil =>
    intro A S nx v9 v10 e hS hZ hn
    rw [List.append_nil] at e
    subst e
    have hZ : S = Z := hZ
    subst hZ
    exact b2_end (h := ⟨h.ents, nx, h.tys⟩) hyl hi hye hr ⟨hf.1.le hn, hf.2.le hn⟩ v0 v2 v4 v5 v6 v9 v10 u11 u12 u13 u14 u15 u16 u17 u18 u19 u20 u21 u22 u23 u24 u25 fun v9 v10 n' g => hk v9 v10 n' (Nat.le_trans hn g)
  | cons a R ih =>
    intro A S nx v9 v10 e hS hZ hn
    have hA : A.length + 1 ≤ r.length := by rw [← e]; simp
    refine b2_go (h := ⟨h.ents, nx, h.tys⟩) hyl hi hye hr A.length (a := a) (by rw [← e]; simp) (by omega) ⟨hf.1.le hn, hf.2.le hn⟩ v0 v2 v4 v5 v6 v9 v10 u11 u12 u13 u14 u15 u16 u17 u18 u19 u20 u21 u22 u23 u24 u25 fun v9 v10 n' g => ?_
    have := ih (A ++ [a]) (nxS A.length S a) n' v9 v10 (by rw [← e]; simp) (by have := nxS_len A.length S a; simp; omega) (by simpa [bld] using hZ) (Nat.le_trans hn g)
    simpa using this
/-- A row, as the interpreter has it. -/
def RC (e : CVal) (r : List Nat) : Prop := (e = .nils ∧ r = []) ∨ (e = .imm .none 0 [] ∧ r = []) ∨ (e = rowV r ∧ r ≠ [])
def okR (r : List Nat) : Prop := r ≠ [] ∧ r.length ≤ 5
theorem b1_bad {ys : List CVal} {i : Nat} {r : List Nat} (hyl : ys.length ≤ 10) (hi : i < ys.length) (hye : RC (nth ys i) r) (hr : ¬ okR r) {S : List UInt8} {h : CHeap} (hf : Fit h) (v0 v2 v4 v5 v6 v8 v9 v10 : CVal) (u11 u12 u13 u14 u15 u16 u17 u18 u19 u20 u21 u22 u23 u24 u25 : CVal) {Q : CExit → CSt → Prop}
    (hk : ∀ (v4 v5 : CVal) n', h.next ≤ n' → Q .ret ⟨[v0, .imm .none 1 ys, v2, .int .i64 (i : Int), v4, v5, v6, .str S, v8, v9, v10, u11, u12, u13, u14, u15, u16, u17, u18, u19, u20, u21, u22, u23, u24, .bool true], ⟨h.ents, n', h.tys⟩, []⟩) : W tree.getF bL1 ⟨[v0, .imm .none 1 ys, v2, .int .i64 (i : Int), v4, v5, v6, .str S, v8, v9, v10, u11, u12, u13, u14, u15, u16, u17, u18, u19, u20, u21, u22, u23, u24, u25], h, []⟩ Q := by
  obtain ⟨hu, hut, hX⟩ := fx4 hf
  have hil : (i : Int) < (ys.length : Int) := by omega
  have hi2 : (i : Int).toNat = i := by omega
  refine W.loop ?_
  rcases hye with ⟨hye, rfl⟩ | ⟨hye, rfl⟩ | ⟨hye, hne⟩
  · skip
    repeat (first
      | refine st_ rfl ?_
      | ((first | refine W.regG ?_ | refine WoR.go ?_); generalize e : goR .. = r; simp (disch := omega) [hX, hye, hyl, hi, hil, hi2] at e; replace e : some _ = _ := e; subst e; (try dsimp only [goW])))
    all_goals (refine W.ret ?_)
    all_goals ((try simp only [outOf, thenW_ret, thenW_exit, roundW, reduceIte]))
    all_goals (exact hk _ _ _ (by (try dsimp only); omega))
  · skip
    repeat (first
      | refine st_ rfl ?_
      | ((first | refine W.regG ?_ | refine WoR.go ?_); generalize e : goR .. = r; simp (disch := omega) [hX, hye, hyl, hi, hil, hi2] at e; replace e : some _ = _ := e; subst e; (try dsimp only [goW])))
    all_goals (refine W.ret ?_)
    all_goals ((try simp only [outOf, thenW_ret, thenW_exit, roundW, reduceIte]))
    all_goals (exact hk _ _ _ (by (try dsimp only); omega))
  · have h5 : (5 : Int) < (r.length : Int) := by
      have : ¬ r.length ≤ 5 := fun h => hr ⟨hne, h⟩
      omega
    unfold rowV at hye
    have hrl : (r.map fun a : Nat => CVal.int .u8 (a : Int)).length = r.length := List.length_map ..
    generalize (r.map fun a : Nat => CVal.int .u8 (a : Int)) = R at *
    repeat (first
      | refine st_ rfl ?_
      | ((first | refine W.regG ?_ | refine WoR.go ?_); generalize e : goR .. = r; simp (disch := omega) [hX, hye, hyl, hi, hil, hi2, hrl, h5] at e; replace e : some _ = _ := e; subst e; (try dsimp only [goW])))
    all_goals (refine W.ret ?_)
    all_goals ((try simp only [outOf, thenW_ret, thenW_exit, roundW, reduceIte]))
    all_goals (exact hk _ _ _ (by (try dsimp only); omega))
end Go.Proofs.YthklcbclodeilaaGreatDoor.IrT
namespace Go.Proofs.YthklcbclodeilaaGreatDoor.IrT
open Go Go.CI
set_option maxRecDepth 100000
set_option maxHeartbeats 4000000
set_option linter.unusedVariables false
set_option linter.unusedSimpArgs false
attribute [local irreducible] W Wo Wc WoR

def preS (i : Nat) (S : List UInt8) : List UInt8 := if i = 0 then S else S ++ [44]
theorem b1_go {ys : List CVal} {i : Nat} {r : List Nat} (hyl : ys.length ≤ 10) (hi : i < ys.length) (hye : nth ys i = rowV r) (hr : okR r) {S : List UInt8} (hS : S.length < 400) {h : CHeap} (hf : Fit h) (v0 v2 v4 v5 v6 v8 v9 v10 : CVal) (u11 u12 u13 u14 u15 u16 u17 u18 u19 u20 u21 u22 u23 u24 u25 : CVal) {Q : CExit → CSt → Prop}
    (hk : ∀ (v4 v5 v6 v8 v9 v10 : CVal) n', h.next ≤ n' → W tree.getF bL1 ⟨[v0, .imm .none 1 ys, v2, .int .i64 ((i + 1 : Nat) : Int), v4, v5, v6, .str (preS i S ++ pT r), v8, v9, v10, u11, u12, u13, u14, u15, u16, u17, u18, u19, u20, u21, u22, u23, u24, u25], ⟨h.ents, n', h.tys⟩, []⟩ Q) : W tree.getF bL1 ⟨[v0, .imm .none 1 ys, v2, .int .i64 (i : Int), v4, v5, v6, .str S, v8, v9, v10, u11, u12, u13, u14, u15, u16, u17, u18, u19, u20, u21, u22, u23, u24, u25], h, []⟩ Q := by
  obtain ⟨hu, hut, hX⟩ := fx4 hf
  have hye0 := hye
  obtain ⟨hne, h5⟩ := hr
  have hrp : 0 < r.length := List.length_pos_iff.2 hne
  unfold rowV at hye
  have hil : (i : Int) < (ys.length : Int) := by omega
  have hi2 : (i : Int).toNat = i := by omega
  have hrl : (r.map fun a : Nat => CVal.int .u8 (a : Int)).length = r.length := List.length_map ..
  have h51 : ¬ (5 : Int) < (r.length : Int) := by omega
  have h52 : ((r.length : Int) == 0) = false := beq_eq_false_iff_ne.2 (by omega)
  generalize (r.map fun a : Nat => CVal.int .u8 (a : Int)) = R at *
  have hc : ((i + 1 : Nat) : Int) = (i : Int) + 1 := by omega
  rw [hc] at hk
  rcases Nat.eq_zero_or_pos i with h0 | h0
  · have hz : ¬ (0 : Int) < (i : Int) := by omega
    have hp : preS i S = S := by simp [preS, h0]
    rw [hp] at hk
    refine W.loop ?_
    repeat ((fail_if_success (show W tree.getF bL2 _ _)); first
      | refine st_ rfl ?_
      | ((first | refine W.regG ?_ | refine WoR.go ?_); generalize e : goR .. = r; simp (disch := omega) [hX, hye, hyl, hi, hil, hi2, hrl, h51, h52, hz] at e; replace e : some _ = _ := e; subst e; (try dsimp only [goW])))
    refine b2_loop (h := h) hyl hi hye0 h5 hf _ _ _ _ _ _ _ _ _ _ _ _ _ _ _ _ _ _ _ _ _ (fun v9 v10 n' g => ?_) r [] _ _ _ _ rfl (by simp; omega) (bld_all _ hne) (by (try dsimp only); omega)
    (try dsimp only at g)
    (try simp only [outOf, thenW_ret, thenW_exit, roundW, reduceIte])
    repeat (first
      | refine st_ rfl ?_
      | ((first | refine W.regG ?_ | refine WoR.go ?_); generalize e : goR .. = r; simp (disch := omega) [hX, hye, hyl] at e; replace e : some _ = _ := e; subst e; (try dsimp only [goW])))
    show W tree.getF bL1 (dropped true _ _) Q; generalize e : dropped _ _ _ = q; simp (disch := omega) [hX] at e; subst e
    exact hk _ _ _ _ _ _ _ (by (try dsimp only); omega)
  · have hz : (0 : Int) < (i : Int) := by omega
    have hp : preS i S = S ++ [44] := by simp [preS, Nat.ne_of_gt h0]
    rw [hp] at hk
    simp only [List.append_assoc, List.cons_append, List.nil_append] at hk
    refine W.loop ?_
    repeat ((fail_if_success (show W tree.getF bL2 _ _)); first
      | refine st_ rfl ?_
      | ((first | refine W.regG ?_ | refine WoR.go ?_); generalize e : goR .. = r; simp (disch := omega) [hX, hye, hyl, hi, hil, hi2, hrl, h51, h52, hz] at e; replace e : some _ = _ := e; subst e; (try dsimp only [goW])))
    refine b2_loop (h := h) hyl hi hye0 h5 hf _ _ _ _ _ _ _ _ _ _ _ _ _ _ _ _ _ _ _ _ _ (fun v9 v10 n' g => ?_) r [] _ _ _ _ rfl (by simp; omega) (bld_all _ hne) (by (try dsimp only); omega)
    (try dsimp only at g)
    (try simp only [outOf, thenW_ret, thenW_exit, roundW, reduceIte])
    repeat (first
      | refine st_ rfl ?_
      | ((first | refine W.regG ?_ | refine WoR.go ?_); generalize e : goR .. = r; simp (disch := omega) [hX, hye, hyl] at e; replace e : some _ = _ := e; subst e; (try dsimp only [goW])))
    show W tree.getF bL1 (dropped true _ _) Q; generalize e : dropped _ _ _ = q; simp (disch := omega) [hX] at e; subst e
    exact hk _ _ _ _ _ _ _ (by (try dsimp only); omega)
end Go.Proofs.YthklcbclodeilaaGreatDoor.IrT
namespace Go.Proofs.YthklcbclodeilaaGreatDoor.IrT
open Go Go.CI
set_option maxRecDepth 100000
set_option maxHeartbeats 4000000
set_option linter.unusedVariables false
set_option linter.unusedSimpArgs false
attribute [local irreducible] W Wo Wc WoR

theorem tT_snoc (A : List (List Nat)) (r : List Nat) : tT (A ++ [r]) = preS A.length (tT A) ++ pT r := by
  cases A with
  | nil => simp [tT, preS, jn]
  | cons x A =>
    have h : (x :: A).map pT ≠ [] := by simp
    simp only [tT, List.map_append, List.map_cons, List.map_nil] at *
    rw [jn_snoc 44 (pT r) (pT x :: A.map pT) (by simp)]
    simp [preS]
theorem b1_end {ys : List CVal} (hyl : ys.length ≤ 10) {S : List UInt8} {h : CHeap} (hf : Fit h) (v0 v2 v4 v5 v6 v8 v9 v10 : CVal) (u11 u12 u13 u14 u15 u16 u17 u18 u19 u20 u21 u22 u23 u24 u25 : CVal) {Q : CExit → CSt → Prop}
    (hk : ∀ (v4 : CVal) n', h.next ≤ n' → Q (.exit 0) ⟨[v0, .imm .none 1 ys, v2, .int .i64 (ys.length : Int), v4, v5, v6, .str S, v8, v9, v10, u11, u12, u13, u14, u15, u16, u17, u18, u19, u20, u21, u22, u23, u24, u25], ⟨h.ents, n', h.tys⟩, []⟩) : W tree.getF bL1 ⟨[v0, .imm .none 1 ys, v2, .int .i64 (ys.length : Int), v4, v5, v6, .str S, v8, v9, v10, u11, u12, u13, u14, u15, u16, u17, u18, u19, u20, u21, u22, u23, u24, u25], h, []⟩ Q := by
  obtain ⟨hu, hut, hX⟩ := fx4 hf
  refine W.loop ?_
  repeat (first
    | refine st_ rfl ?_
    | ((first | refine W.regG ?_ | refine WoR.go ?_); generalize e : goR .. = r; simp (disch := omega) [hX, hyl] at e; replace e : some _ = _ := e; subst e; (try dsimp only [goW])))
  all_goals ((try simp only [outOf, thenW_ret, thenW_exit, roundW, reduceIte]))
  all_goals (exact hk _ _ (by (try dsimp only); omega))
theorem b1_loop {ys : List CVal} {D : List (List Nat)} (hyl : ys.length ≤ 10) (hyD : ys.length = D.length) (hye : ∀ i r, D[i]? = some r → RC (nth ys i) r) {h : CHeap} (hf : Fit h) (v0 v2 : CVal) (u11 u12 u13 u14 u15 u16 u17 u18 u19 u20 u21 u22 u23 u24 u25 : CVal) {Q : CExit → CSt → Prop}
    (hbad : ∀ (i : Nat) (S : List UInt8) (v4 v5 v6 v8 v9 v10 : CVal) n', h.next ≤ n' → Q .ret ⟨[v0, .imm .none 1 ys, v2, .int .i64 (i : Int), v4, v5, v6, .str S, v8, v9, v10, u11, u12, u13, u14, u15, u16, u17, u18, u19, u20, u21, u22, u23, u24, .bool true], ⟨h.ents, n', h.tys⟩, []⟩)
    (hk : (∀ r ∈ D, okR r) → ∀ (v4 v5 v6 v8 v9 v10 : CVal) n', h.next ≤ n' → Q (.exit 0) ⟨[v0, .imm .none 1 ys, v2, .int .i64 (ys.length : Int), v4, v5, v6, .str (tT D), v8, v9, v10, u11, u12, u13, u14, u15, u16, u17, u18, u19, u20, u21, u22, u23, u24, u25], ⟨h.ents, n', h.tys⟩, []⟩) :
    ∀ (R A : List (List Nat)) (nx : Nat) (v4 v5 v6 v8 v9 v10 : CVal), A ++ R = D → (∀ r ∈ A, okR r) → h.next ≤ nx → W tree.getF bL1 ⟨[v0, .imm .none 1 ys, v2, .int .i64 (A.length : Int), v4, v5, v6, .str (tT A), v8, v9, v10, u11, u12, u13, u14, u15, u16, u17, u18, u19, u20, u21, u22, u23, u24, u25], ⟨h.ents, nx, h.tys⟩, []⟩ Q := by
  intro R
  induction R with
  | nil =>
    intro A nx v4 v5 v6 v8 v9 v10 e hA hn
    rw [List.append_nil] at e
    subst e
    rw [← hyD]
    exact b1_end (h := ⟨h.ents, nx, h.tys⟩) hyl ⟨hf.1.le hn, hf.2.le hn⟩ v0 v2 v4 v5 v6 v8 v9 v10 u11 u12 u13 u14 u15 u16 u17 u18 u19 u20 u21 u22 u23 u24 u25 fun v4 n' g => hk hA v4 v5 v6 v8 v9 v10 n' (Nat.le_trans hn g)
  | cons r R ih =>
    intro A nx v4 v5 v6 v8 v9 v10 e hA hn
    have hi : A.length < ys.length := by rw [hyD, ← e]; simp
    have hr := hye A.length r (by rw [← e]; simp)
    by_cases hok : okR r
    · have hr2 : nth ys A.length = rowV r := by
        rcases hr with ⟨_, h0⟩ | ⟨_, h0⟩ | ⟨h0, _⟩
        · exact absurd h0 hok.1
        · exact absurd h0 hok.1
        · exact h0
      have hS := tT_len (l := A) (by omega) fun r hr => (hA r hr).2
      refine b1_go (h := ⟨h.ents, nx, h.tys⟩) hyl hi hr2 hok (S := tT A) (by omega) ⟨hf.1.le hn, hf.2.le hn⟩ v0 v2 v4 v5 v6 v8 v9 v10 u11 u12 u13 u14 u15 u16 u17 u18 u19 u20 u21 u22 u23 u24 u25 fun v4 v5 v6 v8 v9 v10 n' g => ?_
      have := ih (A ++ [r]) n' v4 v5 v6 v8 v9 v10 (by rw [← e]; simp) (fun x hx => by
        rcases List.mem_append.1 hx with hx | hx
        · exact hA x hx
        · simp at hx; rw [hx]; exact hok) (Nat.le_trans hn g)
      rw [tT_snoc, List.length_append, List.length_singleton] at this
      exact this
    · exact b1_bad (h := ⟨h.ents, nx, h.tys⟩) hyl hi hr hok ⟨hf.1.le hn, hf.2.le hn⟩ v0 v2 v4 v5 v6 v8 v9 v10 u11 u12 u13 u14 u15 u16 u17 u18 u19 u20 u21 u22 u23 u24 u25 fun v4 v5 n' g => hbad A.length (tT A) v4 v5 v6 v8 v9 v10 n' (Nat.le_trans hn g)
end Go.Proofs.YthklcbclodeilaaGreatDoor.IrT
namespace Go.Proofs.YthklcbclodeilaaGreatDoor.IrT
open Go Go.CI
set_option maxRecDepth 100000
set_option maxHeartbeats 4000000
set_option linter.unusedVariables false
set_option linter.unusedSimpArgs false
attribute [local irreducible] W Wo Wc WoR

theorem b4_end {ys : List CVal} {i p q : Nat} {r : List Nat} (hyl : ys.length ≤ 10) (hi : i < ys.length) (hye : nth ys i = rowV r) (hr : r.length ≤ 5) (k : Nat) {h : CHeap} (hf : Fit h) (v0 v2 v3 v4 v5 v6 v7 v8 v9 v10 v11 v13 v25 w15 w24 : CVal) (w18 w20 w21 w22 w23 : CVal) {Q : CExit → CSt → Prop}
    (hk : ∀ (w18 : CVal) n', h.next ≤ n' → Q (.exit 6) ⟨[v0, .imm .none 1 ys, v2, v3, v4, v5, v6, v7, v8, v9, v10, v11, .ptr p 31457283 0, v13, .int .i64 (i : Int), w15, .int .i64 (k : Int), .bool true, w18, .ptr q 31457283 0, w20, w21, w22, w23, w24, v25], ⟨h.ents, n', h.tys⟩, []⟩) : W tree.getF bL4 ⟨[v0, .imm .none 1 ys, v2, v3, v4, v5, v6, v7, v8, v9, v10, v11, .ptr p 31457283 0, v13, .int .i64 (i : Int), w15, .int .i64 (k : Int), .bool true, w18, .ptr q 31457283 0, w20, w21, w22, w23, w24, v25], h, []⟩ Q := by
  obtain ⟨hu, hut, hX⟩ := fx4 hf
  unfold rowV at hye
  have hil : (i : Int) < (ys.length : Int) := by omega
  have hi2 : (i : Int).toNat = i := by omega
  have hrl : (r.map fun a : Nat => CVal.int .u8 (a : Int)).length = r.length := List.length_map ..
  generalize (r.map fun a : Nat => CVal.int .u8 (a : Int)) = R at *
  refine W.loop ?_
  rcases Nat.lt_or_ge k r.length with h0 | h0
  · have hz : (k : Int) < (r.length : Int) := by omega
    repeat (first
      | refine st_ rfl ?_
      | ((first | refine W.regG ?_ | refine WoR.go ?_); generalize e : goR .. = r; simp (disch := omega) [hX, hye, hyl, hi, hil, hi2, hrl, hz] at e; replace e : some _ = _ := e; subst e; (try dsimp only [goW])))
    all_goals ((try simp only [outOf, thenW_ret, thenW_exit, roundW, reduceIte]))
    all_goals (exact hk _ _ (by (try dsimp only); omega))
  · have hz : ¬ (k : Int) < (r.length : Int) := by omega
    repeat (first
      | refine st_ rfl ?_
      | ((first | refine W.regG ?_ | refine WoR.go ?_); generalize e : goR .. = r; simp (disch := omega) [hX, hye, hyl, hi, hil, hi2, hrl, hz] at e; replace e : some _ = _ := e; subst e; (try dsimp only [goW])))
    all_goals ((try simp only [outOf, thenW_ret, thenW_exit, roundW, reduceIte]))
    all_goals (exact hk _ _ (by (try dsimp only); omega))
theorem b4_go {n : Nat} {m : MT (n + 1)} {ob : Option (MT n)} {ys : List CVal} {i p q : Nat} {r : List Nat} (hyl : ys.length ≤ 10) (hi : i < ys.length) (hye : nth ys i = rowV r) (hr : r.length ≤ 5) (k : Nat) {a : Nat} (ha : r[k]? = some a) (hlk : lk (nmK a) (lsT m) = some ob) (hm : mayT (n + 1) m) {h : CHeap} (hf : Fit h)
    {c0 c1 c2 : CVal} (y0 : NR c0) (y1 : NR c1) (y2 : NR c2) {ids : List Nat} (hM : MR (n + 1) m (.agg [c0, c1, c2]) h.ents ids) (hg : getEnt h.ents q = some (.cells [c0, c1, c2])) (v0 v2 v3 v4 v5 v6 v7 v8 v9 v10 v11 v13 v25 w15 w24 : CVal) (w18 w20 w21 w22 w23 : CVal) {Q : CExit → CSt → Prop}
    (hk : ∀ (w18 w20 w21 w22 w23 : CVal) (x0 x1 x2 : CVal) H, NR x0 → NR x1 → NR x2 → (∃ ids', MR n (ob.getD (empT n)) (.agg [x0, x1, x2]) H.ents ids') → Fit H → h.next ≤ H.next → H.tys = h.tys → getEnt H.ents q = some (.cells [x0, x1, x2]) → (∀ j, j < h.next → j ≠ q → getEnt H.ents j = getEnt h.ents j) →
      W tree.getF bL4 ⟨[v0, .imm .none 1 ys, v2, v3, v4, v5, v6, v7, v8, v9, v10, v11, .ptr p 31457283 0, v13, .int .i64 (i : Int), w15, .int .i64 ((k + 1 : Nat) : Int), .bool ob.isNone, w18, .ptr q 31457283 0, w20, w21, w22, w23, w24, v25], H, []⟩ Q) : W tree.getF bL4 ⟨[v0, .imm .none 1 ys, v2, v3, v4, v5, v6, v7, v8, v9, v10, v11, .ptr p 31457283 0, v13, .int .i64 (i : Int), w15, .int .i64 (k : Int), .bool false, w18, .ptr q 31457283 0, w20, w21, w22, w23, w24, v25], h, []⟩ Q := by
  obtain ⟨hu, hut, hX⟩ := fx4 hf
  unfold rowV at hye
  have hkl := (List.getElem?_eq_some_iff.1 ha).1
  have hil : (i : Int) < (ys.length : Int) := by omega
  have hi2 : (i : Int).toNat = i := by omega
  have hrl : (r.map fun a : Nat => CVal.int .u8 (a : Int)).length = r.length := List.length_map ..
  have hkl2 : (k : Int) < (r.length : Int) := by omega
  have hk2 : (k : Int).toNat = k := by omega
  have hne : nth (r.map fun a : Nat => CVal.int .u8 (a : Int)) k = .int .u8 (a : Int) := nth_mapG (fun a : Nat => CVal.int .u8 (a : Int)) r k _ ha
  generalize (r.map fun a : Nat => CVal.int .u8 (a : Int)) = R at *
  have hc : ((k + 1 : Nat) : Int) = (k : Int) + 1 := by omega
  rw [hc] at hk
  have lq := in_under hu hg
  have e0 := y0.strip
  have e1 := y1.strip
  have e2 := y2.strip
  simp only [CVal.strip] at e0 e1 e2
  rcases mod3 a with ⟨m1, m2⟩ | ⟨m1, m2⟩ | ⟨m1, m2⟩
  all_goals
    rw [m2] at hlk
    refine W.loop ?_
    repeat (first
      | refine st_ rfl ?_
      | ((first | refine W.regG ?_ | refine WoR.go ?_); generalize e : goR .. = r; simp (disch := omega) [hX, hg, hye, hyl, hi, hil, hi2, hrl, hkl, hkl2, hk2, hne, m1, e0, e1, e2] at e; replace e : some _ = _ := e; subst e; (try dsimp only [goW])))
    refine Sub_F (h := ⟨_, _, _⟩) (ids := ids) ?_ ?_ hm hlk fun v' h1 T => ?_
    exact hM
    exact ft_
    obtain ⟨ids', M', hid⟩ := T.mr
    obtain ⟨x0, x1, x2, rfl, z0, z1, z2⟩ := M'.nr
    refine ⟨rfl, ?_⟩
    have f0 := z0.strip
    have f1 := z1.strip
    have f2 := z2.strip
    simp only [CVal.strip] at f0 f1 f2
    have hn1 := T.nx
    have hq1 := T.fr
    have ht1 := T.ty
    dsimp only at hn1 hq1 ht1
    have gq := (hq1 q (by omega)).trans hg
    have gz : ∀ j, h.next ≤ j → j < h.next + 11 + 21 → getEnt h1.ents j = none := fun j h8 h9 => (hq1 j (by omega)).trans (hX.2.2.1 j h8)
    obtain ⟨hu1, hut1, hX1⟩ := fx4 T.fit
    repeat (first
      | refine st_ rfl ?_
      | ((first | refine W.regG ?_ | refine WoR.go ?_); generalize e : goR .. = r; simp (disch := omega) [hX1, gz, gq, sy_getEnt_setEnt gq, f0, f1, f2, ht1, hyl] at e; replace e : some _ = _ := e; subst e; (try dsimp only [goW])))
    show W tree.getF bL4 (dropped true _ _) Q; generalize e : dropped _ _ _ = u; simp (disch := omega) [hX1] at e; subst e
    refine hk _ _ _ _ _ x0 x1 x2 _ z0 z1 z2 ⟨ids', ?_⟩ ?_ ?_ ?_ ?_ ?_
    · exact M'.rows fun j hj va es h9 => dc_row (by rw [getEnt_setEnt_ne (fun e => by subst e; rw [gq] at h9; cases h9)]; exact h9)
    · exact ⟨dc_under (hu1.set.le (by (try dsimp only); omega)), by rw [← ht1]; exact hut1.le (by (try dsimp only); omega)⟩
    · (try dsimp only); omega
    · rfl
    · dsimp only; rw [dc_lt lq]; exact sy_getEnt_setEnt gq
    · intro j h8 h9
      dsimp only
      rw [dc_lt h8, getEnt_setEnt_ne h9]; exact hq1 j (by omega)
end Go.Proofs.YthklcbclodeilaaGreatDoor.IrT
namespace Go.Proofs.YthklcbclodeilaaGreatDoor.IrT
open Go Go.CI
set_option maxRecDepth 100000
set_option maxHeartbeats 4000000
set_option linter.unusedVariables false
set_option linter.unusedSimpArgs false
attribute [local irreducible] W Wo Wc WoR

theorem lk_mem {M : Type} {x : List UInt8} {o : Option M} : ∀ {l : List (List UInt8 × Option M)}, lk x l = some o → ∃ e ∈ l, e.2 = o
  | [], h => by simp [lk] at h
  | (y, o') :: l, h => by
    by_cases e : y = x
    · simp [lk, e] at h; exact ⟨(y, o'), by simp, h⟩
    · simp only [lk, if_neg e] at h
      obtain ⟨e', h1, h2⟩ := lk_mem h
      exact ⟨e', by simp [h1], h2⟩
theorem b4_loop {ys : List CVal} {i p q : Nat} {r : List Nat} (hyl : ys.length ≤ 10) (hi : i < ys.length) (hye : nth ys i = rowV r) (hr : r.length ≤ 5) (v0 v2 v3 v4 v5 v6 v7 v8 v9 v10 v11 v13 v25 w15 w24 : CVal) {Q : CExit → CSt → Prop} : ∀ (n : Nat) (qs A : List Nat) (m : MT n) (h : CHeap) (c0 c1 c2 : CVal) (ids : List Nat) (w18 w20 w21 w22 w23 : CVal), A ++ qs = r → walkT n m (pN qs) = true → mayT n m → MR n m (.agg [c0, c1, c2]) h.ents ids → getEnt h.ents q = some (.cells [c0, c1, c2]) → NR c0 → NR c1 → NR c2 → Fit h →
    (∀ (k : Nat) (w18 w20 w21 w22 w23 : CVal) H, Fit H → h.next ≤ H.next → H.tys = h.tys → (∀ j, j < h.next → j ≠ q → getEnt H.ents j = getEnt h.ents j) → Q (.exit 6) ⟨[v0, .imm .none 1 ys, v2, v3, v4, v5, v6, v7, v8, v9, v10, v11, .ptr p 31457283 0, v13, .int .i64 (i : Int), w15, .int .i64 (k : Int), .bool true, w18, .ptr q 31457283 0, w20, w21, w22, w23, w24, v25], H, []⟩) → W tree.getF bL4 ⟨[v0, .imm .none 1 ys, v2, v3, v4, v5, v6, v7, v8, v9, v10, v11, .ptr p 31457283 0, v13, .int .i64 (i : Int), w15, .int .i64 (A.length : Int), .bool false, w18, .ptr q 31457283 0, w20, w21, w22, w23, w24, v25], h, []⟩ Q := by
  intro n
  induction n with
  | zero => intro qs A m h c0 c1 c2 ids w18 w20 w21 w22 w23 _ hw; cases hw
  | succ n ih =>
    intro qs A m h c0 c1 c2 ids w18 w20 w21 w22 w23 e hw hm hM hg y0 y1 y2 hf hk
    cases qs with
    | nil => cases hw
    | cons a qs =>
      have hw' : (match lk (nmK a) (lsT m) with | none => false | some none => true | some (some t) => walkT n t (pN qs)) = true := hw
      cases hl : lk (nmK a) (lsT m) with
      | none => rw [hl] at hw'; cases hw'
      | some ob =>
        rw [hl] at hw'
        refine b4_go hyl hi hye hr A.length (a := a) (by rw [← e]; simp) hl hm hf y0 y1 y2 hM hg v0 v2 v3 v4 v5 v6 v7 v8 v9 v10 v11 v13 v25 w15 w24 w18 w20 w21 w22 w23 fun w18 w20 w21 w22 w23 x0 x1 x2 H z0 z1 z2 M' hF hn ht hg' hfr => ?_
        obtain ⟨ids', M'⟩ := M'
        cases ob with
        | none =>
          refine b4_end hyl hi hye hr (A.length + 1) hF v0 v2 v3 v4 v5 v6 v7 v8 v9 v10 v11 v13 v25 w15 w24 w18 w20 w21 w22 w23 fun w18 n' g => ?_
          exact hk (A.length + 1) _ _ _ _ _ ⟨H.ents, n', H.tys⟩ ⟨hF.1.le g, hF.2.le g⟩ (by (try dsimp only); omega) ht hfr
        | some t =>
          obtain ⟨e', he1, he2⟩ := lk_mem hl
          have hmt := ((hm.2.1 e' he1).2 t he2).2
          have hA : (A ++ [a]).length = A.length + 1 := by simp
          rw [← hA]
          refine ih qs (A ++ [a]) t H x0 x1 x2 ids' w18 w20 w21 w22 w23 (by rw [← e]; simp) hw' hmt M' hg' z0 z1 z2 hF fun k w18 w20 w21 w22 w23 H2 f1 f2 f3 f4 => ?_
          exact hk k _ _ _ _ _ H2 f1 (by omega) (f3.trans ht) fun j h8 h9 => (f4 j (by omega) h9).trans (hfr j h8 h9)
theorem b3_end {ys : List CVal} {p : Nat} (hyl : ys.length ≤ 10) {h : CHeap} (hf : Fit h) (v0 v2 v3 v4 v5 v6 v7 v8 v9 v10 v11 v13 v25 : CVal) (w15 w16 w17 w18 w19 w20 w21 w22 w23 w24 : CVal) {Q : CExit → CSt → Prop}
    (hk : ∀ (w15 w16 w17 w18 w19 w20 w21 w22 w23 w24 : CVal) n', h.next ≤ n' → Q (.exit 4) ⟨[v0, .imm .none 1 ys, v2, v3, v4, v5, v6, v7, v8, v9, v10, v11, .ptr p 31457283 0, v13, .int .i64 (ys.length : Int), w15, w16, w17, w18, w19, w20, w21, w22, w23, w24, v25], ⟨h.ents, n', h.tys⟩, []⟩) : W tree.getF bL3 ⟨[v0, .imm .none 1 ys, v2, v3, v4, v5, v6, v7, v8, v9, v10, v11, .ptr p 31457283 0, v13, .int .i64 (ys.length : Int), w15, w16, w17, w18, w19, w20, w21, w22, w23, w24, v25], h, []⟩ Q := by
  obtain ⟨hu, hut, hX⟩ := fx4 hf
  refine W.loop ?_
  repeat (first
    | refine st_ rfl ?_
    | ((first | refine W.regG ?_ | refine WoR.go ?_); generalize e : goR .. = r; simp (disch := omega) [hX, hyl] at e; replace e : some _ = _ := e; subst e; (try dsimp only [goW])))
  all_goals ((try simp only [outOf, thenW_ret, thenW_exit, roundW, reduceIte]))
  all_goals (exact hk _ _ _ _ _ _ _ _ _ _ _ (by (try dsimp only); omega))
theorem b3_go {m : MT 5} {ys : List CVal} {i p : Nat} {r : List Nat} (hyl : ys.length ≤ 10) (hi : i < ys.length) (hye : nth ys i = rowV r) (hr : r.length ≤ 5) (hw : walkT 5 m (pN r) = true) (hm : mayT 5 m) {h : CHeap} (hf : Fit h)
    {c0 c1 c2 : CVal} (y0 : NR c0) (y1 : NR c1) (y2 : NR c2) {ids : List Nat} (hM : MR 5 m (.agg [c0, c1, c2]) h.ents ids) (hg : getEnt h.ents p = some (.cells [c0, c1, c2])) (v0 v2 v3 v4 v5 v6 v7 v8 v9 v10 v11 v13 v25 : CVal) (w15 w16 w17 w18 w19 w20 w21 w22 w23 w24 : CVal) {Q : CExit → CSt → Prop}
    (hk : ∀ (w15 w16 w17 w18 w19 w20 w21 w22 w23 w24 : CVal) H, Fit H → h.next ≤ H.next → H.tys = h.tys → (∀ j, j < h.next → getEnt H.ents j = getEnt h.ents j) → W tree.getF bL3 ⟨[v0, .imm .none 1 ys, v2, v3, v4, v5, v6, v7, v8, v9, v10, v11, .ptr p 31457283 0, v13, .int .i64 ((i + 1 : Nat) : Int), w15, w16, w17, w18, w19, w20, w21, w22, w23, w24, v25], H, []⟩ Q) : W tree.getF bL3 ⟨[v0, .imm .none 1 ys, v2, v3, v4, v5, v6, v7, v8, v9, v10, v11, .ptr p 31457283 0, v13, .int .i64 (i : Int), w15, w16, w17, w18, w19, w20, w21, w22, w23, w24, v25], h, []⟩ Q := by
  obtain ⟨hu, hut, hX⟩ := fx4 hf
  have hil : (i : Int) < (ys.length : Int) := by omega
  have hi2 : (i : Int).toNat = i := by omega
  have hc : ((i + 1 : Nat) : Int) = (i : Int) + 1 := by omega
  rw [hc] at hk
  have lp := in_under hu hg
  have e0 := y0.strip
  have e1 := y1.strip
  have e2 := y2.strip
  simp only [CVal.strip] at e0 e1 e2
  refine W.loop ?_
  repeat ((fail_if_success (show W tree.getF bL4 _ _)); first
    | refine st_ rfl ?_
    | ((first | refine W.regG ?_ | refine WoR.go ?_); generalize e : goR .. = r; simp (disch := omega) [hX, hg, hyl, hi, hil, hi2, e0, e1, e2] at e; replace e : some _ = _ := e; subst e; (try dsimp only [goW])))
  refine b4_loop hyl hi hye hr _ _ _ _ _ _ _ _ _ _ _ _ _ _ _ 5 r [] m ⟨_, _, _⟩ c0 c1 c2 ids _ _ _ _ _ rfl hw hm ?_ ?_ y0 y1 y2 ?_ fun k w18 w20 w21 w22 w23 H f1 f2 f3 f4 => ?_
  · exact hM.rows fun j _ va es h9 => by rw [getEnt_skip (by have := in_under hu h9; omega)]; exact h9
  · exact getEnt_hd
  · exact ft_
  dsimp only at f2 f3 f4
  obtain ⟨hu1, hut1, hX1⟩ := fx4 f1
  (try simp only [outOf, thenW_ret, thenW_exit, roundW, reduceIte])
  repeat (first
    | refine st_ rfl ?_
    | ((first | refine W.regG ?_ | refine WoR.go ?_); generalize e : goR .. = r; simp (disch := omega) [hX1, hyl] at e; replace e : some _ = _ := e; subst e; (try dsimp only [goW])))
  show W tree.getF bL3 (dropped true _ _) Q; generalize e : dropped _ _ _ = u; simp (disch := omega) [hX1] at e; subst e
  refine hk _ _ _ _ _ _ _ _ _ _ _ ?_ ?_ ?_ ?_
  · exact ⟨dc_under (hu1.le (by (try dsimp only); omega)), hut1.le (by (try dsimp only); omega)⟩
  · (try dsimp only); omega
  · exact f3
  · intro j h8
    dsimp only
    rw [dc_lt h8, f4 j (by omega) (by omega), getEnt_skip (by omega)]
theorem b3_loop {m : MT 5} {ys : List CVal} {D : List (List Nat)} {p : Nat} (hyl : ys.length ≤ 10) (hyD : ys.length = D.length) (hye : ∀ i r, D[i]? = some r → nth ys i = rowV r ∧ r.length ≤ 5 ∧ walkT 5 m (pN r) = true) (hm : mayT 5 m)
    {c0 c1 c2 : CVal} (y0 : NR c0) (y1 : NR c1) (y2 : NR c2) {ids : List Nat} (v0 v2 v3 v4 v5 v6 v7 v8 v9 v10 v11 v13 v25 : CVal) {Q : CExit → CSt → Prop} (n0 : Nat) (hp : p < n0) (E0 : List (Nat × CObj)) (T0 : List (Nat × Nat)) (hM : MR 5 m (.agg [c0, c1, c2]) E0 ids) (hid : ∀ q ∈ ids, q < n0) (hg : getEnt E0 p = some (.cells [c0, c1, c2]))
    (hk : ∀ (w15 w16 w17 w18 w19 w20 w21 w22 w23 w24 : CVal) H, Fit H → n0 ≤ H.next → H.tys = T0 → Q (.exit 4) ⟨[v0, .imm .none 1 ys, v2, v3, v4, v5, v6, v7, v8, v9, v10, v11, .ptr p 31457283 0, v13, .int .i64 (ys.length : Int), w15, w16, w17, w18, w19, w20, w21, w22, w23, w24, v25], H, []⟩) :
    ∀ (R A : List (List Nat)) (w15 w16 w17 w18 w19 w20 w21 w22 w23 w24 : CVal) (h : CHeap), A ++ R = D → Fit h → n0 ≤ h.next → h.tys = T0 → (∀ j, j < n0 → getEnt h.ents j = getEnt E0 j) → W tree.getF bL3 ⟨[v0, .imm .none 1 ys, v2, v3, v4, v5, v6, v7, v8, v9, v10, v11, .ptr p 31457283 0, v13, .int .i64 (A.length : Int), w15, w16, w17, w18, w19, w20, w21, w22, w23, w24, v25], h, []⟩ Q := by
  intro R
  induction R with
  | nil =>
    intro A w15 w16 w17 w18 w19 w20 w21 w22 w23 w24 h e hf hn ht hfr
    rw [List.append_nil] at e
    subst e
    rw [← hyD]
    exact b3_end hyl hf v0 v2 v3 v4 v5 v6 v7 v8 v9 v10 v11 v13 v25 w15 w16 w17 w18 w19 w20 w21 w22 w23 w24 fun w15 w16 w17 w18 w19 w20 w21 w22 w23 w24 n' g => hk _ _ _ _ _ _ _ _ _ _ ⟨h.ents, n', h.tys⟩ ⟨hf.1.le g, hf.2.le g⟩ (by (try dsimp only); omega) ht
  | cons r R ih =>
    intro A w15 w16 w17 w18 w19 w20 w21 w22 w23 w24 h e hf hn ht hfr
    have hr := hye A.length r (by rw [← e]; simp)
    refine b3_go hyl (by rw [hyD, ← e]; simp) hr.1 hr.2.1 hr.2.2 hm hf y0 y1 y2 (hM.rows fun j hj va es h9 => by rw [hfr j (hid j hj)]; exact h9) (by rw [hfr p hp]; exact hg) v0 v2 v3 v4 v5 v6 v7 v8 v9 v10 v11 v13 v25 w15 w16 w17 w18 w19 w20 w21 w22 w23 w24 fun w15 w16 w17 w18 w19 w20 w21 w22 w23 w24 H f1 f2 f3 f4 => ?_
    have hA : (A ++ [r]).length = A.length + 1 := by simp
    rw [← hA]
    exact ih (A ++ [r]) w15 w16 w17 w18 w19 w20 w21 w22 w23 w24 H (by rw [← e]; simp) f1 (by omega) (f3.trans ht) fun j h8 => (f4 j (by omega)).trans (hfr j h8)
end Go.Proofs.YthklcbclodeilaaGreatDoor.IrT
namespace Go.Proofs.YthklcbclodeilaaGreatDoor.IrT
open Go Go.CI
set_option maxRecDepth 100000
set_option maxHeartbeats 4000000
set_option linter.unusedVariables false
set_option linter.unusedSimpArgs false
attribute [local irreducible] W Wo Wc WoR

theorem bgPT {K : CVal → CHeap → Prop} (hk : ∀ n' ty, 3 ≤ n' → UnderT ty n' → K (.bool true) ⟨[], n', ty⟩) : Wc tree.getF 4 [] ⟨[], 3, []⟩ K := wc_start (m := 1000000) (by kernel_rfl) hk
theorem parse_D {D : List (List Nat)} (hl : D.length ≤ 10) (h : ∀ r ∈ D, okR r) {H : CHeap} (hf : Fit H) {K : CVal → CHeap → Prop} (hk : ∀ v' h', AR 5 (mT D) H [] v' h' → K (.tup [v', .int .i64 0]) h') : Wc tree.getF 5 [.str (tT D)] H K := by
  cases D with
  | nil => exact ps_nil 5 hf fun h' A => hk _ _ A
  | cons r D => exact parse_T hl (by simp) h hf hk
theorem law_many {ys : List CVal} (hyl : 10 < ys.length) : Wc tree.getF 3 [.imm .none 1 ys] noHeap fun v _ => v = .bool true := by
  have hN0 : noHeap = ⟨[], 0, []⟩ := rfl
  have hl2 : (10 : Int) < (ys.length : Int) := by omega
  refine Wc.mkG 3 c3 (by kernel_rfl) rfl ?_
  generalize e : entryC .. = r
  simp (disch := omega) [hN0, c3] at e
  subst e
  repeat (first
    | refine st_ rfl ?_
    | ((first | refine W.regG ?_ | refine WoR.go ?_); generalize e : goR .. = r; simp (disch := omega) [hN0, hl2, c3] at e; replace e : some _ = _ := e; subst e; (try dsimp only [goW]))
    | (refine bgPT fun n1 ty1 hn1 hut1 => ⟨rfl, ?_⟩)
    | ((first | (refine W.ret ?_; (try simp only [outOf, thenW_ret, thenW_exit, roundW, reduceIte]); refine endW.of (.inl rfl) rfl ?_) | refine endW.of (.inl rfl) rfl ?_ | refine endW.of (.inr rfl) rfl ?_); generalize e : endsC .. = r; simp (disch := omega) [hN0, hl2, c3] at e; subst e; rfl))

end Go.Proofs.YthklcbclodeilaaGreatDoor.IrT
