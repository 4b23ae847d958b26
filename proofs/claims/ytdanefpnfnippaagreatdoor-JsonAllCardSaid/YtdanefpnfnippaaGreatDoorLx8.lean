/- What the functions of the law 'JsonAll' do: part 8 of 8. -/
import Derived.Test.YtdanefpnfnippaaGreatDoorLx7
namespace Go.Proofs.YtdanefpnfnippaaGreatDoor.IrJ
open Go Go.CI
open Go.LexF hiding zC3 zD5
set_option maxRecDepth 100000
set_option maxHeartbeats 4000000
set_option linter.unusedVariables false
set_option linter.unusedSimpArgs false
attribute [local irreducible] W Wo Wc WoR
theorem wHO1 {P : Prop} (h : P := by refine Wc.mkG 7 c7 (by kernel_rfl) rfl ?_; generalize e : zAa .. = r; simp (disch := omega) [c7] at e; subst e; repeat (first | refine st_ rfl ?_ | ((first | refine rg_ ?_ | refine go_ ?_); refine gw_ (by simp (disch := omega) [hX, c7]; rfl) ?_) | (refine W.loop ?_; try (generalize e : dropped .. = r; simp (disch := omega) [hX, c7] at e; subst e; try dsimp only)) | ((first | (refine W.ret ?_; (try simp only [zAb, zA0, zA8]); refine endW.of (.inl rfl) rfl ?_) | refine endW.of (.inr rfl) rfl ?_); generalize e : zAc .. = r; simp (disch := omega) [hX, c7] at e; subst e; (refine hk _ _ ?_ ?_; omega; exact ut_)))) : P := h
def SN : Nat → CVal → Prop
 | 0, _ => False
 | k + 1, v => v = nZero ∨ v = nNul ∨ (∃ b, v = nBool b) ∨ (∃ n, v = nInt n) ∨ (∃ t, v = nStr t) ∨ (∃ vs, v = nList vs ∧ vs.length < 80000 ∧ ∀ x ∈ vs, SN k x) ∨ (∃ ns vs, v = nTab ns vs ∧ ns.length = vs.length ∧ vs.length < 80000 ∧ ∀ x ∈ vs, SN k x)
theorem SN.node : ∀ {k : Nat} {v : CVal}, SN k v → Node v
 | 0, v, h => h.elim
 | k + 1, v, h => by
  rcases h with rfl | rfl | ⟨b, rfl⟩ | ⟨n, rfl⟩ | ⟨t, rfl⟩ | ⟨vs, rfl, _⟩ | ⟨ns, vs, rfl, _⟩
  · exact Node.nZero
  · exact Node.nNul
  · exact Node.nBool b
  · exact Node.nInt n
  · exact Node.nStr t
  · exact Node.nList vs
  · exact Node.nTab ns vs
def LT (T : B8 → PR) (k : Nat) : Prop := ∀ s x r, s.length < 25000 → T s = .ok x r → r.length ≤ s.length ∧ SN k x
theorem drop1_le (s : B8) : (s.drop 1).length ≤ s.length := by rw [List.length_drop]; omega
theorem listF_ok {T : B8 → PR} {k : Nat} (hT : LT T k) : ∀ (m : Nat) (vs : List CVal) (s : B8) (v : CVal) (r : B8), s.length < 25000 → (∀ x ∈ vs, SN k x) → listF T m vs s = .ok v r → r.length ≤ s.length ∧ ∃ vs', v = nList vs' ∧ vs'.length ≤ vs.length + m ∧ ∀ x ∈ vs', SN k x := by
 intro m
 induction m with
 | zero => intro vs s v r _ _ h; cases h
 | succ m ih =>
  intro vs s v r hs hv h
  unfold listF at h
  cases hx : T s with
  | err e => rw [hx] at h; cases h
  | ok x r1 =>
   rw [hx] at h
   dsimp only at h
   obtain ⟨h1, h2⟩ := hT s x r1 hs hx
   have h3 := zAf r1
   have h4 := drop1_le (zA3 r1)
   have hv' : ∀ y ∈ vs ++ [x], SN k y := fun y hy => by rcases List.mem_append.1 hy with hy | hy; exact hv y hy; rw [List.mem_singleton.1 hy]; exact h2
   split at h
   · obtain ⟨a1, vs', a2, a3, a4⟩ := ih _ _ _ _ (by omega) hv' h
     rw [List.length_append, List.length_singleton] at a3
     exact ⟨by omega, vs', a2, by omega, a4⟩
   · split at h
     · cases h
       exact ⟨by omega, _, rfl, by rw [List.length_append, List.length_singleton]; omega, hv'⟩
     · cases h
theorem tabF_ok {T : B8 → PR} {k : Nat} (hT : LT T k) : ∀ (m : Nat) (ns : List (B8)) (vs : List CVal) (s : B8) (v : CVal) (r : B8), s.length < 25000 → ns.length = vs.length → (∀ x ∈ vs, SN k x) → tabF T m ns vs s = .ok v r → r.length ≤ s.length ∧ ∃ ns' vs', v = nTab ns' vs' ∧ ns'.length = vs'.length ∧ vs'.length ≤ vs.length + m ∧ ∀ x ∈ vs', SN k x := by
 intro m
 induction m with
 | zero => intro ns vs s v r _ _ _ h; cases h
 | succ m ih =>
  intro ns vs s v r hs hl hv h
  unfold tabF at h
  have hss := zAf s
  cases hu : unqV (zA3 s) with
  | none => rw [hu] at h; cases h
  | some tq =>
   obtain ⟨t, q⟩ := tq
   rw [hu] at h
   dsimp only at h
   split at h
   · cases h
   split at h
   · have h5 := zAf ((zA3 s).drop q)
     have h6 : ((zA3 s).drop q).length ≤ (zA3 s).length := by rw [List.length_drop]; omega
     have h7 := drop1_le (zA3 ((zA3 s).drop q))
     cases hx : T ((zA3 ((zA3 s).drop q)).drop 1) with
     | err e => rw [hx] at h; cases h
     | ok x r1 =>
      rw [hx] at h
      dsimp only at h
      obtain ⟨h1, h2⟩ := hT _ x r1 (by omega) hx
      have h3 := zAf r1
      have h4 := drop1_le (zA3 r1)
      have hv' : ∀ y ∈ vs ++ [x], SN k y := fun y hy => by rcases List.mem_append.1 hy with hy | hy; exact hv y hy; rw [List.mem_singleton.1 hy]; exact h2
      have hl' : (ns ++ [t]).length = (vs ++ [x]).length := by rw [List.length_append, List.length_append, hl]; rfl
      split at h
      · obtain ⟨a1, ns', vs', a2, a0, a3, a4⟩ := ih _ _ _ _ _ (by omega) hl' hv' h
        rw [List.length_append, List.length_singleton] at a3
        exact ⟨by omega, ns', vs', a2, a0, by omega, a4⟩
      · split at h
        · cases h
          exact ⟨by omega, _, _, rfl, hl', by rw [List.length_append, List.length_singleton]; omega, hv'⟩
        · cases h
   · cases h
theorem unqV_drop (s : B8) (k : Nat) : (s.drop k).length ≤ s.length := by rw [List.length_drop]; omega
theorem tree_SN : ∀ (m d : Nat), LT (zBy m d) m := by
 intro m
 induction m with
 | zero => intro d s x r _ h; cases h
 | succ m ih =>
  intro d s x r hs h
  unfold zBy at h
  have hss := zAf s
  have h7 := drop1_le (zA3 s)
  split at h
  · cases hu : unqV (zA3 s) with
    | none => rw [hu] at h; cases h
    | some tq =>
     rw [hu] at h
     cases h
     have := unqV_drop (zA3 s) tq.2
     exact ⟨by omega, .inr (.inr (.inr (.inr (.inl ⟨_, rfl⟩))))⟩
  split at h
  · split at h
    · cases h
    · unfold zEi at h
      have h8 := zAf ((zA3 s).drop 1)
      have h9 := drop1_le (zA3 ((zA3 s).drop 1))
      split at h
      · cases h
        exact ⟨by omega, .inr (.inr (.inr (.inr (.inr (.inl ⟨[], rfl, by simp, by simp⟩)))))⟩
      · obtain ⟨a1, vs', a2, a3, a4⟩ := listF_ok (ih (d + 1)) _ _ _ _ _ (by omega) (by simp) h
        simp only [List.length_nil] at a3
        exact ⟨by omega, .inr (.inr (.inr (.inr (.inr (.inl ⟨vs', a2, by omega, a4⟩)))))⟩
  split at h
  · split at h
    · cases h
    · unfold tabR at h
      have h8 := zAf ((zA3 s).drop 1)
      have h9 := drop1_le (zA3 ((zA3 s).drop 1))
      split at h
      · cases h
        exact ⟨by omega, .inr (.inr (.inr (.inr (.inr (.inr ⟨[], [], rfl, rfl, by simp, by simp⟩)))))⟩
      · obtain ⟨a1, ns', vs', a2, a0, a3, a4⟩ := tabF_ok (ih (d + 1)) _ _ _ _ _ _ (by omega) rfl (by simp) h
        simp only [List.length_nil] at a3
        exact ⟨by omega, .inr (.inr (.inr (.inr (.inr (.inr ⟨ns', vs', a2, a0, by omega, a4⟩)))))⟩
  · unfold zEu at h
    have h4 := unqV_drop (zA3 s) 4
    have h5 := unqV_drop (zA3 s) 5
    have h6 := numR_len (zA3 s)
    split at h
    · cases h; exact ⟨by omega, .inr (.inl rfl)⟩
    split at h
    · cases h; exact ⟨by omega, .inr (.inr (.inl ⟨_, rfl⟩))⟩
    split at h
    · cases h; exact ⟨by omega, .inr (.inr (.inl ⟨_, rfl⟩))⟩
    cases hv : numV (zA3 s) with
    | none => rw [hv] at h; cases h
    | some v =>
     rw [hv] at h
     dsimp only at h
     split at h
     · cases h
     · cases h; exact ⟨by omega, .inr (.inr (.inr (.inl ⟨_, rfl⟩)))⟩
abbrev slLoop : CCode := (.loop true (.seq (.seq (.region [.v 10, .g (.fieldAddr 3 (.var 2)), .l 0, .g (.len false (.loc 0)), .h .lss 3 0] [(11, 4)] [] []) (.cond (.var 11) .skip (.exit 1))) (.seq (.block 2 (.seq (.region [.g (.fieldAddr 3 (.var 2)), .l 0, .v 10, .g (.idxAddr 5 (.loc 1) (.loc 0)), .g (.load (some 5) (.loc 0)), .g (.fieldAddr 3 (.var 3)), .l 0, .v 10, .g (.idxAddr 5 (.loc 1) (.loc 0)), .g (.load (some 5) (.loc 0)), .g (.call false 7 [(.loc 5), (.loc 0)]), .g (.not (.loc 0))] [(12, 11)] [] []) (.cond (.var 12) (.seq (.region [.m (.b false)] [(16, 0)] [] []) .ret) .skip))) (.region [.v 10, .x .add 0 (.k 1), .m (.loc 0)] [(10, 2)] [] []))))
abbrev snLoop : CCode := (.loop true (.seq (.seq (.region [.g (.fieldAddr 0 (.var 2)), .l 0, .x .eql 0 (.k 6), .m (.loc 0), .q (.mv (.var 13)) 0 true, .q (.fieldAddr 4 (.var 2)) 1 true, .q (.load none (.loc 0)) 2 true, .q (.len false (.loc 0)) 3 true, .q (.bin .lss (.loc 3) (.loc 0)) 4 true, .g (.pick (.loc 5) (.loc 0) (.b false))] [(14, 9)] [] []) (.cond (.var 14) .skip (.exit 3))) (.seq (.block 4 (.seq (.region [.g (.fieldAddr 4 (.var 2)), .l 0, .v 13, .g (.idxAddr 1 (.loc 1) (.loc 0)), .l 0, .g (.fieldAddr 4 (.var 3)), .l 0, .v 13, .g (.idxAddr 1 (.loc 1) (.loc 0)), .l 0, .h .neq 5 0] [(15, 10)] [] []) (.cond (.var 15) (.seq (.region [.m (.b false)] [(16, 0)] [] []) .ret) .skip))) (.region [.v 13, .x .add 0 (.k 1), .m (.loc 0)] [(13, 2)] [] []))))
theorem sl_go {kd : Int} (vs : List CVal) (A : CVal) (i : Nat) (hl : vs.length < 80000) {x : CVal} (hx : vs[i]? = some x) (hN : Node x) (hrec : Pu tree.getF 7 [x, x] (.bool true)) {bx bz : Nat} {h : CHeap} {n : Nat} {ty : NN} (hf : Fit h) (hbx : h.next ≤ bx) (hbr : bx < bz) (hbn : bz < n) (hty : zA9 ty n) {Q : QT} (v0 v1 v4 v5 v6 v7 v8 v9 : CVal) (v11 v12 v13 v14 v15 : CVal)
    (hk : ∀ (v11 v12 v13 v14 v15 : CVal) n' ty, n ≤ n' → zA9 ty n' → W tree.getF slLoop ⟨[v0, v1, .ptr bx 28311557 0, .ptr bz 28311557 0, v4, v5, v6, v7, v8, v9, .int .i64 ((i : Int) + 1), v11, v12, v13, v14, v15, .bool false], ⟨(bz, .cells [.int .i64 kd, .int .i64 0, .str [], .imm .none 5 vs, A]) :: (bx, .cells [.int .i64 kd, .int .i64 0, .str [], .imm .none 5 vs, A]) :: h.ents, n', ty⟩, []⟩ Q) : W tree.getF slLoop ⟨[v0, v1, .ptr bx 28311557 0, .ptr bz 28311557 0, v4, v5, v6, v7, v8, v9, .int .i64 (i : Int), v11, v12, v13, v14, v15, .bool false], ⟨(bz, .cells [.int .i64 kd, .int .i64 0, .str [], .imm .none 5 vs, A]) :: (bx, .cells [.int .i64 kd, .int .i64 0, .str [], .imm .none 5 vs, A]) :: h.ents, n, ty⟩, []⟩ Q := by
 obtain ⟨hu, hut⟩ := id hf
 have hn9 : h.next ≤ n := by omega
 obtain ⟨_, _, hX⟩ := fx4 (h := ⟨h.ents, n, ty⟩) ⟨hu.le hn9, hty⟩
 obtain ⟨k9, nn, t9, L9, N9, hv, hL1, hN1⟩ := hN
 have hLl := And.intro hL1.z hN1.z
 subst hv
 have hB : (CVal.agg [.int .i64 k9, .int .i64 nn, .str t9, L9, N9]).bare = .agg [.int .i64 k9, .int .i64 nn, .str t9, L9, N9] := by rcases hL1 with rfl | ⟨_, _, rfl⟩ <;> rcases hN1 with rfl | ⟨_, _, rfl⟩ <;> rfl
 obtain ⟨hi, hx2⟩ := List.getElem?_eq_some_iff.1 hx
 have hx5 : nth vs i = .agg [.int .i64 k9, .int .i64 nn, .str t9, L9, N9] := by have := zDo (fun x : CVal => x) vs i _ hx; simpa using this
 have hdl : (i : Int) < (vs.length : Int) := by omega
 have hi2 : (i : Int).toNat = i := by omega
 refine W.loop ?_
 repeat (first | refine st_ rfl ?_ | ((first | refine rg_ ?_ | refine go_ ?_); refine gw_ (by simp (disch := omega) [hX, hbx, hbr, hbn, hx, hx2, hx5, hi2, hdl, hi, hLl, hB, -CVal.bare, ba_i, ba_s, ba_b, ba_p]; rfl) ?_) | (refine pu_ hrec fun _ _ g _ => ⟨rfl, ?_⟩; try dsimp only at g))
 show W tree.getF slLoop (dropped true _ _) Q
 generalize e : dropped .. = r
 simp (disch := omega) [hX, hbx, hbr, hbn] at e
 subst e
 refine hk _ _ _ _ _ _ _ ?_ ?_; ((try dsimp only); omega); exact ut_
theorem sl_end {kd : Int} (vs : List CVal) (A : CVal) (i : Nat) (hl : vs.length < 80000)  (hx : vs.length ≤ i) {bx bz : Nat} {h : CHeap} {n : Nat} {ty : NN} (hf : Fit h) (hbx : h.next ≤ bx) (hbr : bx < bz) (hbn : bz < n) (hty : zA9 ty n) {Q : QT} (v0 v1 v4 v5 v6 v7 v8 v9 : CVal) (v11 v12 v13 v14 v15 : CVal)
    (hk : ∀ (v11 v12 v13 v14 v15 : CVal) n' ty, n ≤ n' → zA9 ty n' → Q (.exit 1) ⟨[v0, v1, .ptr bx 28311557 0, .ptr bz 28311557 0, v4, v5, v6, v7, v8, v9, .int .i64 (i : Int), v11, v12, v13, v14, v15, .bool false], ⟨(bz, .cells [.int .i64 kd, .int .i64 0, .str [], .imm .none 5 vs, A]) :: (bx, .cells [.int .i64 kd, .int .i64 0, .str [], .imm .none 5 vs, A]) :: h.ents, n', ty⟩, []⟩) : W tree.getF slLoop ⟨[v0, v1, .ptr bx 28311557 0, .ptr bz 28311557 0, v4, v5, v6, v7, v8, v9, .int .i64 (i : Int), v11, v12, v13, v14, v15, .bool false], ⟨(bz, .cells [.int .i64 kd, .int .i64 0, .str [], .imm .none 5 vs, A]) :: (bx, .cells [.int .i64 kd, .int .i64 0, .str [], .imm .none 5 vs, A]) :: h.ents, n, ty⟩, []⟩ Q := by
 obtain ⟨hu, hut⟩ := id hf
 have hn9 : h.next ≤ n := by omega
 obtain ⟨_, _, hX⟩ := fx4 (h := ⟨h.ents, n, ty⟩) ⟨hu.le hn9, hty⟩
 have hdl : (vs.length : Int) ≤ (i : Int) := by omega
 refine W.loop ?_
 repeat (first | refine st_ rfl ?_ | ((first | refine rg_ ?_ | refine go_ ?_); refine gw_ (by simp (disch := omega) [hX, hbx, hbr, hbn, hdl]; rfl) ?_))
 all_goals (refine hk _ _ _ _ _ _ _ ?_ ?_; ((try dsimp only); omega); exact ut_)
theorem sl_loop {kd : Int} (vs : List CVal) (A : CVal) (hl : vs.length < 80000)  (hN : ∀ x ∈ vs, Node x) (hrec : ∀ x ∈ vs, Pu tree.getF 7 [x, x] (.bool true)) {bx bz n0 : Nat} {h : CHeap} (hf : Fit h) (hbx : h.next ≤ bx) (hbr : bx < bz) {Q : QT} (v0 v1 v4 v5 v6 v7 v8 v9 : CVal)
    (hk : ∀ (i : Nat) (v11 v12 v13 v14 v15 : CVal) n' ty, n0 ≤ n' → zA9 ty n' → Q (.exit 1) ⟨[v0, v1, .ptr bx 28311557 0, .ptr bz 28311557 0, v4, v5, v6, v7, v8, v9, .int .i64 (i : Int), v11, v12, v13, v14, v15, .bool false], ⟨(bz, .cells [.int .i64 kd, .int .i64 0, .str [], .imm .none 5 vs, A]) :: (bx, .cells [.int .i64 kd, .int .i64 0, .str [], .imm .none 5 vs, A]) :: h.ents, n', ty⟩, []⟩) :
    ∀ (m i n : Nat) (ty : NN) (v11 v12 v13 v14 v15 : CVal), vs.length ≤ i + m → bz < n → zA9 ty n → n0 ≤ n → W tree.getF slLoop ⟨[v0, v1, .ptr bx 28311557 0, .ptr bz 28311557 0, v4, v5, v6, v7, v8, v9, .int .i64 (i : Int), v11, v12, v13, v14, v15, .bool false], ⟨(bz, .cells [.int .i64 kd, .int .i64 0, .str [], .imm .none 5 vs, A]) :: (bx, .cells [.int .i64 kd, .int .i64 0, .str [], .imm .none 5 vs, A]) :: h.ents, n, ty⟩, []⟩ Q := by
 intro m
 induction m with
 | zero =>
  intro i n ty v11 v12 v13 v14 v15 hi hbn hty hn2
  exact sl_end vs A i hl (by omega) hf hbx hbr hbn hty v0 v1 v4 v5 v6 v7 v8 v9 v11 v12 v13 v14 v15 fun v11 v12 v13 v14 v15 n' ty g1 g2 => hk i v11 v12 v13 v14 v15 n' ty (by omega) g2
 | succ m ih =>
  intro i n ty v11 v12 v13 v14 v15 hi hbn hty hn2
  rcases Nat.lt_or_ge i vs.length with g | g
  · have hx : vs[i]? = some vs[i] := List.getElem?_eq_getElem g
    refine sl_go vs A i hl hx (hN _ (List.getElem_mem g)) (hrec _ (List.getElem_mem g)) hf hbx hbr hbn hty v0 v1 v4 v5 v6 v7 v8 v9 v11 v12 v13 v14 v15 fun v11 v12 v13 v14 v15 n' ty g1 g2 => ?_
    have := ih (i + 1) n' ty v11 v12 v13 v14 v15 (by omega) (by omega) g2 (by omega)
    rwa [show ((i + 1 : Nat) : Int) = (i : Int) + 1 by omega] at this
  · exact sl_end vs A i hl g hf hbx hbr hbn hty v0 v1 v4 v5 v6 v7 v8 v9 v11 v12 v13 v14 v15 fun v11 v12 v13 v14 v15 n' ty g1 g2 => hk i v11 v12 v13 v14 v15 n' ty (by omega) g2
theorem sn_go (ns : List (B8)) (L : CVal) (i : Nat) (hl : ns.length < 80000) {w : B8} (hx : ns[i]? = some w) {bx bz : Nat} {h : CHeap} {n : Nat} {ty : NN} (hf : Fit h) (hbx : h.next ≤ bx) (hbr : bx < bz) (hbn : bz < n) (hty : zA9 ty n) {Q : QT} (v0 v1 v4 v5 v6 v7 v8 v9 : CVal) (v10 v11 v12 v14 v15 : CVal)
    (hk : ∀ (v10 v11 v12 v14 v15 : CVal) n' ty, n ≤ n' → zA9 ty n' → W tree.getF snLoop ⟨[v0, v1, .ptr bx 28311557 0, .ptr bz 28311557 0, v4, v5, v6, v7, v8, v9, v10, v11, v12, .int .i64 ((i : Int) + 1), v14, v15, .bool false], ⟨(bz, .cells [.int .i64 6, .int .i64 0, .str [], L, .imm .none 1 (ns.map .str)]) :: (bx, .cells [.int .i64 6, .int .i64 0, .str [], L, .imm .none 1 (ns.map .str)]) :: h.ents, n', ty⟩, []⟩ Q) : W tree.getF snLoop ⟨[v0, v1, .ptr bx 28311557 0, .ptr bz 28311557 0, v4, v5, v6, v7, v8, v9, v10, v11, v12, .int .i64 (i : Int), v14, v15, .bool false], ⟨(bz, .cells [.int .i64 6, .int .i64 0, .str [], L, .imm .none 1 (ns.map .str)]) :: (bx, .cells [.int .i64 6, .int .i64 0, .str [], L, .imm .none 1 (ns.map .str)]) :: h.ents, n, ty⟩, []⟩ Q := by
 obtain ⟨hu, hut⟩ := id hf
 have hn9 : h.next ≤ n := by omega
 obtain ⟨_, _, hX⟩ := fx4 (h := ⟨h.ents, n, ty⟩) ⟨hu.le hn9, hty⟩
 obtain ⟨hi, hx2⟩ := List.getElem?_eq_some_iff.1 hx
 have hx3 : nth (ns.map CVal.str) i = .str w := zDo CVal.str ns i _ hx
 have hdl : (i : Int) < (ns.length : Int) := by omega
 have hi2 : (i : Int).toNat = i := by omega
 refine W.loop ?_
 repeat (first | refine st_ rfl ?_ | ((first | refine rg_ ?_ | refine go_ ?_); refine gw_ (by simp (disch := omega) [hX, hbx, hbr, hbn, hx, hx2, hx3, hi2, hdl, hi]; rfl) ?_))
 show W tree.getF snLoop (dropped true _ _) Q
 generalize e : dropped .. = r
 simp (disch := omega) [hX, hbx, hbr, hbn] at e
 subst e
 refine hk _ _ _ _ _ _ _ ?_ ?_; ((try dsimp only); omega); exact ut_
theorem sn_end (ns : List (B8)) (L : CVal) (i : Nat) (hl : ns.length < 80000)  (hx : ns.length ≤ i) {bx bz : Nat} {h : CHeap} {n : Nat} {ty : NN} (hf : Fit h) (hbx : h.next ≤ bx) (hbr : bx < bz) (hbn : bz < n) (hty : zA9 ty n) {Q : QT} (v0 v1 v4 v5 v6 v7 v8 v9 : CVal) (v10 v11 v12 v14 v15 : CVal)
    (hk : ∀ (v10 v11 v12 v14 v15 : CVal) n' ty, n ≤ n' → zA9 ty n' → Q (.exit 3) ⟨[v0, v1, .ptr bx 28311557 0, .ptr bz 28311557 0, v4, v5, v6, v7, v8, v9, v10, v11, v12, .int .i64 (i : Int), v14, v15, .bool false], ⟨(bz, .cells [.int .i64 6, .int .i64 0, .str [], L, .imm .none 1 (ns.map .str)]) :: (bx, .cells [.int .i64 6, .int .i64 0, .str [], L, .imm .none 1 (ns.map .str)]) :: h.ents, n', ty⟩, []⟩) : W tree.getF snLoop ⟨[v0, v1, .ptr bx 28311557 0, .ptr bz 28311557 0, v4, v5, v6, v7, v8, v9, v10, v11, v12, .int .i64 (i : Int), v14, v15, .bool false], ⟨(bz, .cells [.int .i64 6, .int .i64 0, .str [], L, .imm .none 1 (ns.map .str)]) :: (bx, .cells [.int .i64 6, .int .i64 0, .str [], L, .imm .none 1 (ns.map .str)]) :: h.ents, n, ty⟩, []⟩ Q := by
 obtain ⟨hu, hut⟩ := id hf
 have hn9 : h.next ≤ n := by omega
 obtain ⟨_, _, hX⟩ := fx4 (h := ⟨h.ents, n, ty⟩) ⟨hu.le hn9, hty⟩
 have hdl : (ns.length : Int) ≤ (i : Int) := by omega
 refine W.loop ?_
 repeat (first | refine st_ rfl ?_ | ((first | refine rg_ ?_ | refine go_ ?_); refine gw_ (by simp (disch := omega) [hX, hbx, hbr, hbn, hdl]; rfl) ?_))
 all_goals (refine hk _ _ _ _ _ _ _ ?_ ?_; ((try dsimp only); omega); exact ut_)
theorem sn_loop (ns : List (B8)) (L : CVal) (hl : ns.length < 80000)  {bx bz n0 : Nat} {h : CHeap} (hf : Fit h) (hbx : h.next ≤ bx) (hbr : bx < bz) {Q : QT} (v0 v1 v4 v5 v6 v7 v8 v9 : CVal)
    (hk : ∀ (i : Nat) (v10 v11 v12 v14 v15 : CVal) n' ty, n0 ≤ n' → zA9 ty n' → Q (.exit 3) ⟨[v0, v1, .ptr bx 28311557 0, .ptr bz 28311557 0, v4, v5, v6, v7, v8, v9, v10, v11, v12, .int .i64 (i : Int), v14, v15, .bool false], ⟨(bz, .cells [.int .i64 6, .int .i64 0, .str [], L, .imm .none 1 (ns.map .str)]) :: (bx, .cells [.int .i64 6, .int .i64 0, .str [], L, .imm .none 1 (ns.map .str)]) :: h.ents, n', ty⟩, []⟩) :
    ∀ (m i n : Nat) (ty : NN) (v10 v11 v12 v14 v15 : CVal), ns.length ≤ i + m → bz < n → zA9 ty n → n0 ≤ n → W tree.getF snLoop ⟨[v0, v1, .ptr bx 28311557 0, .ptr bz 28311557 0, v4, v5, v6, v7, v8, v9, v10, v11, v12, .int .i64 (i : Int), v14, v15, .bool false], ⟨(bz, .cells [.int .i64 6, .int .i64 0, .str [], L, .imm .none 1 (ns.map .str)]) :: (bx, .cells [.int .i64 6, .int .i64 0, .str [], L, .imm .none 1 (ns.map .str)]) :: h.ents, n, ty⟩, []⟩ Q := by
 intro m
 induction m with
 | zero =>
  intro i n ty v10 v11 v12 v14 v15 hi hbn hty hn2
  exact sn_end ns L i hl (by omega) hf hbx hbr hbn hty v0 v1 v4 v5 v6 v7 v8 v9 v10 v11 v12 v14 v15 fun v10 v11 v12 v14 v15 n' ty g1 g2 => hk i v10 v11 v12 v14 v15 n' ty (by omega) g2
 | succ m ih =>
  intro i n ty v10 v11 v12 v14 v15 hi hbn hty hn2
  rcases Nat.lt_or_ge i ns.length with g | g
  · have hx : ns[i]? = some ns[i] := List.getElem?_eq_getElem g
    refine sn_go ns L i hl hx hf hbx hbr hbn hty v0 v1 v4 v5 v6 v7 v8 v9 v10 v11 v12 v14 v15 fun v10 v11 v12 v14 v15 n' ty g1 g2 => ?_
    have := ih (i + 1) n' ty v10 v11 v12 v14 v15 (by omega) (by omega) g2 (by omega)
    rwa [show ((i + 1 : Nat) : Int) = (i : Int) + 1 by omega] at this
  · exact sn_end ns L i hl g hf hbx hbr hbn hty v0 v1 v4 v5 v6 v7 v8 v9 v10 v11 v12 v14 v15 fun v10 v11 v12 v14 v15 n' ty g1 g2 => hk i v10 v11 v12 v14 v15 n' ty (by omega) g2
theorem sm_zero  : Pu tree.getF 7 [.agg [.int .i64 0, .int .i64 0, .str [], .nils, .nils], .agg [.int .i64 0, .int .i64 0, .str [], .nils, .nils]] (.bool true) := by
 intro h hf K hk
 obtain ⟨hu, hut, hX⟩ := fx4 hf
 exact wHO1
theorem sm_nul  : Pu tree.getF 7 [.agg [.int .i64 1, .int .i64 0, .str [], .nils, .nils], .agg [.int .i64 1, .int .i64 0, .str [], .nils, .nils]] (.bool true) := by
 intro h hf K hk
 obtain ⟨hu, hut, hX⟩ := fx4 hf
 exact wHO1
theorem sm_bool (b : Int) : Pu tree.getF 7 [.agg [.int .i64 2, .int .i64 b, .str [], .nils, .nils], .agg [.int .i64 2, .int .i64 b, .str [], .nils, .nils]] (.bool true) := by
 intro h hf K hk
 obtain ⟨hu, hut, hX⟩ := fx4 hf
 exact wHO1
theorem sm_int (n : Int) : Pu tree.getF 7 [.agg [.int .i64 3, .int .i64 n, .str [], .nils, .nils], .agg [.int .i64 3, .int .i64 n, .str [], .nils, .nils]] (.bool true) := by
 intro h hf K hk
 obtain ⟨hu, hut, hX⟩ := fx4 hf
 exact wHO1
theorem sm_str (t : B8) : Pu tree.getF 7 [.agg [.int .i64 4, .int .i64 0, .str t, .nils, .nils], .agg [.int .i64 4, .int .i64 0, .str t, .nils, .nils]] (.bool true) := by
 intro h hf K hk
 obtain ⟨hu, hut, hX⟩ := fx4 hf
 exact wHO1
theorem sm_lnil  : Pu tree.getF 7 [.agg [.int .i64 5, .int .i64 0, .str [], .nils, .nils], .agg [.int .i64 5, .int .i64 0, .str [], .nils, .nils]] (.bool true) := by
 intro h hf K hk
 obtain ⟨hu, hut, hX⟩ := fx4 hf
 exact wHO1
theorem sm_tnil  : Pu tree.getF 7 [.agg [.int .i64 6, .int .i64 0, .str [], .nils, .nils], .agg [.int .i64 6, .int .i64 0, .str [], .nils, .nils]] (.bool true) := by
 intro h hf K hk
 obtain ⟨hu, hut, hX⟩ := fx4 hf
 exact wHO1
theorem wHP1 {P : Prop} (h : P := by repeat (first | refine st_ rfl ?_ | ((first | refine rg_ ?_ | refine go_ ?_); refine gw_ (by simp (disch := omega) [hX, c7]; rfl) ?_) | (refine W.loop ?_; try (generalize e : dropped .. = r; simp (disch := omega) [hX, c7] at e; subst e; try dsimp only)) | ((first | (refine W.ret ?_; (try simp only [zAb, zA0, zA8]); refine endW.of (.inl rfl) rfl ?_) | refine endW.of (.inr rfl) rfl ?_); generalize e : zAc .. = r; simp (disch := omega) [hX, c7] at e; subst e; (refine hk _ _ ?_ ?_; omega; exact ut_)))) : P := h
theorem sm_list (vs : List CVal) (hl : vs.length < 80000) (hN : ∀ x ∈ vs, Node x) (hrec : ∀ x ∈ vs, Pu tree.getF 7 [x, x] (.bool true)) : Pu tree.getF 7 [.agg [.int .i64 5, .int .i64 0, .str [], .imm .none 5 vs, .nils], .agg [.int .i64 5, .int .i64 0, .str [], .imm .none 5 vs, .nils]] (.bool true) := by
 intro h hf K hk
 obtain ⟨hu, hut, hX⟩ := fx4 hf
 refine Wc.mkG 7 c7 (by kernel_rfl) rfl ?_
 generalize e : zAa .. = r
 simp (disch := omega) [c7] at e
 subst e
 repeat (first | refine st_ rfl ?_ | ((first | refine rg_ ?_ | refine go_ ?_); refine gw_ (by simp (disch := omega) [hX]; rfl) ?_))
 refine sl_loop vs _ hl hN hrec (n0 := h.next + 2) hf ?_ ?_ _ _ _ _ _ _ _ _ (fun i1 v11 v12 v13 v14 v15 n1 ty1 g1 g2 => ?_) vs.length 0 _ _ _ _ _ _ _ (by omega) (by (try dsimp only); omega) ut_ (by (try dsimp only); omega)
 · (try dsimp only); omega
 · (try dsimp only); omega
 (try simp only [zAb, zA0, zAh, zA8, reduceIte])
 exact wHP1
theorem sm_tab (ns : List (B8)) (vs : List CVal) (hln : ns.length = vs.length) (hl : vs.length < 80000) (hN : ∀ x ∈ vs, Node x) (hrec : ∀ x ∈ vs, Pu tree.getF 7 [x, x] (.bool true)) : Pu tree.getF 7 [.agg [.int .i64 6, .int .i64 0, .str [], .imm .none 5 vs, .imm .none 1 (ns.map .str)], .agg [.int .i64 6, .int .i64 0, .str [], .imm .none 5 vs, .imm .none 1 (ns.map .str)]] (.bool true) := by
 intro h hf K hk
 obtain ⟨hu, hut, hX⟩ := fx4 hf
 refine Wc.mkG 7 c7 (by kernel_rfl) rfl ?_
 generalize e : zAa .. = r
 simp (disch := omega) [c7] at e
 subst e
 repeat (first | refine st_ rfl ?_ | ((first | refine rg_ ?_ | refine go_ ?_); refine gw_ (by simp (disch := omega) [hX]; rfl) ?_))
 refine sl_loop vs _ hl hN hrec (n0 := h.next + 2) hf ?_ ?_ _ _ _ _ _ _ _ _ (fun i1 v11 v12 v13 v14 v15 n1 ty1 g1 g2 => ?_) vs.length 0 _ _ _ _ _ _ _ (by omega) (by (try dsimp only); omega) ut_ (by (try dsimp only); omega)
 · (try dsimp only); omega
 · (try dsimp only); omega
 (try simp only [zAb, zA0, zAh, zA8, reduceIte])
 repeat (first | refine st_ rfl ?_ | ((first | refine rg_ ?_ | refine go_ ?_); refine gw_ (by simp (disch := omega) [hX]; rfl) ?_))
 refine sn_loop ns _ (by omega) (n0 := h.next + 2) hf ?_ ?_ _ _ _ _ _ _ _ _ (fun i2 v10 v11 v12 v14 v15 n2 ty2 g3 g4 => ?_) ns.length 0 _ _ _ _ _ _ _ (by omega) (by (try dsimp only); omega) ut_ (by (try dsimp only); omega)
 · (try dsimp only); omega
 · (try dsimp only); omega
 (try simp only [zAb, zA0, zAh, zA8, reduceIte])
 exact wHP1
theorem sm_F : ∀ (k : Nat) (v : CVal), SN k v → Pu tree.getF 7 [v, v] (.bool true) := by
 intro k
 induction k with
 | zero => intro v h; exact h.elim
 | succ k ih =>
  intro v h
  rcases h with rfl | rfl | ⟨b, rfl⟩ | ⟨n, rfl⟩ | ⟨t, rfl⟩ | ⟨vs, rfl, hl, hv⟩ | ⟨ns, vs, rfl, hl2, hl, hv⟩
  · exact sm_zero
  · exact sm_nul
  · exact sm_bool b
  · exact sm_int n
  · exact sm_str t
  · cases vs with
    | nil => exact sm_lnil
    | cons a r => exact sm_list (a :: r) hl (fun x hx => (hv x hx).node) (fun x hx => ih x (hv x hx))
  · cases vs with
    | nil =>
     cases ns with
     | nil => exact sm_tnil
     | cons a r => cases hl2
    | cons a r =>
     cases ns with
     | nil => cases hl2
     | cons b q => exact sm_tab (b :: q) (a :: r) hl2 hl (fun x hx => (hv x hx).node) (fun x hx => ih x (hv x hx))
theorem par_SN (s : B8) (hl : s.length < 25000) : ∃ v e, parF s = .tup [v, .int .i64 e] ∧ SN 21 v := by
 unfold parF
 cases hx : zBy 21 0 s with
 | err e => exact ⟨nZero, e, rfl, .inl rfl⟩
 | ok v r =>
  dsimp only
  cases (zA3 r).isEmpty with
  | true => exact ⟨v, 0, rfl, (tree_SN 21 0 s v r hl hx).2⟩
  | false => exact ⟨nZero, 2, rfl, .inl rfl⟩
theorem law_long (s : B8) (hs : 200 < s.length) : Wc tree.getF 3 [.str s] zCr fun v _ => v = .bool true := by
 have hs3 : (200 : Int) < (s.length : Int) := by omega
 refine Wc.mkG 3 c3 (by kernel_rfl) rfl ?_
 generalize e : zAa .. = r
 simp (disch := omega) [c3] at e
 subst e
 repeat (first | refine st_ rfl ?_ | ((first | refine rg_ ?_ | refine go_ ?_); refine gw_ (by simp (disch := omega) [zCr, hs3, c3]; rfl) ?_) | ((refine wc_start (m := 1000000) (by kernel_rfl) fun n1 ty1 hn1 hut1 => ⟨rfl, ?_⟩)))
 all_goals ((first | (refine W.ret ?_; (try simp only [zAb, zA0, zA8]); refine endW.of (.inl rfl) rfl ?_) | refine endW.of (.inr rfl) rfl ?_); generalize e : zAc .. = r; simp (disch := omega) [zCr, c3] at e; subst e; (all_goals rfl))
theorem law_short (s : B8) (hs : s.length ≤ 200) : Wc tree.getF 3 [.str s] zCr fun v _ => v = .bool true := by
 have hs3 : (s.length : Int) ≤ 200 := by omega
 have hN0 : zCr = ⟨[], 0, []⟩ := rfl
 obtain ⟨v, ev, hpar, hSN⟩ := par_SN s (by omega)
 have P1 := pa_F s (by omega)
 have P2 := paq_F s (by omega)
 have P3 := sm_F 21 v hSN
 rw [hpar] at P1 P2
 obtain ⟨k9, nn, t9, L9, N9, hv, hL1, hN1⟩ := hSN.node
 have hLl := And.intro hL1.z hN1.z
 subst hv
 have hB : (CVal.agg [.int .i64 k9, .int .i64 nn, .str t9, L9, N9]).bare = .agg [.int .i64 k9, .int .i64 nn, .str t9, L9, N9] := by rcases hL1 with rfl | ⟨_, _, rfl⟩ <;> rcases hN1 with rfl | ⟨_, _, rfl⟩ <;> rfl
 refine Wc.mkG 3 c3 (by kernel_rfl) rfl ?_
 generalize e : zAa .. = r
 simp (disch := omega) [c3] at e
 subst e
 repeat (first | refine st_ rfl ?_ | ((first | refine rg_ ?_ | refine go_ ?_); refine gw_ (by simp (disch := omega) [hN0, -CVal.strip, st_i, st_s, st_n, st_o, st_0, st_p, -CVal.bare, ba_i, ba_s, ba_b, ba_p, hB, hLl, hs3, c3]; rfl) ?_) | ((refine wc_start (m := 1000000) (by kernel_rfl) fun n1 ty1 hn1 hut1 => ⟨rfl, ?_⟩)) | (refine P1 _ ?_ _ fun n2 ty2 g g2 => ⟨rfl, ?_⟩; (focus (((refine ⟨?_, ?_⟩; (focus ((repeat (first | refine Under.cons (by (try dsimp only); omega) ?_ | exact Under.nil)); done)); (focus ((repeat (first | refine zA9.cons (by (try dsimp only); omega) ?_ | exact zA9.nil | assumption | exact zA9.le (by assumption) (by (try dsimp only); omega))); done)))); done)); (try dsimp only at g)) | (refine P2 _ ?_ _ fun n2 ty2 g g2 => ⟨rfl, ?_⟩; (focus (((refine ⟨?_, ?_⟩; (focus ((repeat (first | refine Under.cons (by (try dsimp only); omega) ?_ | exact Under.nil)); done)); (focus ((repeat (first | refine zA9.cons (by (try dsimp only); omega) ?_ | exact zA9.nil | assumption | exact zA9.le (by assumption) (by (try dsimp only); omega))); done)))); done)); (try dsimp only at g)) | (refine P3 _ ?_ _ fun n2 ty2 g g2 => ⟨rfl, ?_⟩; (focus (((refine ⟨?_, ?_⟩; (focus ((repeat (first | refine Under.cons (by (try dsimp only); omega) ?_ | exact Under.nil)); done)); (focus ((repeat (first | refine zA9.cons (by (try dsimp only); omega) ?_ | exact zA9.nil | assumption | exact zA9.le (by assumption) (by (try dsimp only); omega))); done)))); done)); (try dsimp only at g)))
 all_goals ((first | (refine W.ret ?_; (try simp only [zAb, zA0, zA8]); refine endW.of (.inl rfl) rfl ?_) | refine endW.of (.inr rfl) rfl ?_); generalize e : zAc .. = r; simp (disch := omega) [zCr, c3] at e; subst e; (all_goals rfl))
theorem law (s : B8) : Wc tree.getF 3 [.str s] zCr fun v _ => v = .bool true := by
 rcases Nat.lt_or_ge 200 s.length with g | g
 · exact law_long s g
 · exact law_short s g
end Go.Proofs.YtdanefpnfnippaaGreatDoor.IrJ
