/- What the functions of the law 'PdecDeep' do: part 2 of 3. -/
import Derived.Test.YtnddcjimijmenaaGreatLx1
namespace Go.Proofs.YtnddcjimijmenaaGreat.IrU
open Go Go.CI
set_option maxRecDepth 100000
set_option maxHeartbeats 4000000
set_option linter.unusedVariables false
set_option linter.unusedSimpArgs false
attribute [local irreducible] W Wo Wc WoR

theorem ge_drop : ∀ {l : List (Nat × CObj)} {n m : Nat}, m < n → getEnt (dropEnts l n) m = getEnt l m
  | [], n, m, h => rfl
  | (i, o) :: r, n, m, h => by
    unfold dropEnts
    split
    · rename_i h1
      rw [ge_drop h]
      have : (i == m) = false := by simp; omega
      simp [getEnt, this]
    · rfl
theorem ge_dropC : ∀ {l : List (Nat × CObj)} {n m : Nat}, m < n → getEnt (dropCells l n) m = getEnt l m
  | [], n, m, h => rfl
  | (i, o) :: r, n, m, h => by
    have e : n ≤ i → (i == m) = false := fun _ => by simp; omega
    cases o <;> simp only [dropCells] <;> split <;> rename_i h1 <;> simp [getEnt, e, h1, ge_dropC h]
theorem un_drop : ∀ {l : List (Nat × CObj)} {n k : Nat}, Under l k → Under (dropEnts l n) k
  | [], n, k, h => h
  | (i, o) :: r, n, k, h => by
    unfold dropEnts
    split
    · exact un_drop fun x hx => h x (by simp [hx])
    · exact h
theorem un_dropC : ∀ {l : List (Nat × CObj)} {n k : Nat}, Under l k → Under (dropCells l n) k
  | [], n, k, h => h
  | (i, o) :: r, n, k, h => by
    have h1 : Under r k := fun x hx => h x (by simp [hx])
    have h2 : i < k := h (i, o) (by simp)
    unfold dropCells
    split
    · split
      · exact un_dropC h1
      · exact Under.cons h2 (un_dropC h1)
    · exact h
abbrev dnT : CCode := (.seq (.seq (.region [.v 0, .n 0, .f 3 0, .l 0, .g (.call false 39 [(.loc 0)]), .g (.call false 38 [(.loc 0)]), .g (.len false (.loc 0)), .m (.k 0)] [(5, 7), (6, 6), (8, 5)] [] []) (.block 2 (.loop true (.seq (.region [.g (.bin .lss (.var 5) (.var 6))] [(7, 0)] [] []) (.seq (.cond (.var 7) .skip (.exit 2)) (.seq (.block 3 (.seq (.region [.g (.idxAddr 1 (.var 8) (.var 5)), .l 0, .m (.loc 0)] [(9, 2)] [] []) (.seq (.region [.v 0, .n 0, .f 0 0, .g (.load (some 3) (.loc 0)), .v 9, .g (.call false 33 [(.loc 1), (.loc 0)]), .m (.loc 0), .g (.extract 0 (.loc 0)), .g (.extract 1 (.loc 1)), .g (.lazy 111149064), .g (.init 8 (.loc 0) (.loc 2)), .m (.loc 2)] [(11, 9)] [] []) (.seq (.region [.v 0, .n 0, .f 3 0, .l 0, .v 9, .g (.extl (.mlook (.int .i64) false .nils) [(.loc 1), (.loc 0)]), .m (.loc 0)] [(10, 6)] [] []) (.seq (.seq (.region [.v 10, .g (.len false (.loc 0)), .x .eql 0 (.k 0), .m (.loc 0), .q (.fieldAddr 2 (.var 11)) 0 false, .q (.load none (.loc 0)) 1 false, .q (.bin .eql (.loc 0) (.k 0)) 2 false, .q (.mv (.loc 0)) 3 false, .q (.fieldAddr 7 (.var 11)) 0 true, .q (.load none (.loc 0)) 1 true, .q (.bin .eql (.loc 0) (.k 0)) 2 true, .q (.pick (.loc 3) (.loc 0) (.b false)) 7 false, .q (.mv (.loc 0)) 8 false, .q (.fieldAddr 3 (.var 11)) 0 true, .q (.load none (.loc 0)) 1 true, .q (.bin .neq (.loc 0) (.k 16)) 2 true, .q (.pick (.loc 3) (.loc 0) (.b false)) 12 false, .q (.mv (.loc 0)) 13 false, .q (.mv (.var 10)) 0 true, .q (.idxAddr 4 (.loc 0) (.k 0)) 1 true, .q (.load (some 4) (.loc 0)) 2 true, .q (.call false 40 [(.loc 0)]) 3 true, .q (.pick (.loc 4) (.loc 0) (.b false)) 18 false, .g (.pick (.loc 19) (.b true) (.loc 0))] [(12, 23)] [] []) (.cond (.var 12) (.exit 3) .skip)) (.region [.g (.fieldAddr 0 (.var 13)), .l 0, .v 9, .v 10, .g (.build [(.int .i64 0), .nils] [(0, 1, (.loc 1)), (1, 1, (.loc 0))]), .g (.lit .imm true [(.int .i64 0), .nils] 1 [(0, (.loc 0))]), .g (.append .imm 0 2 (.loc 4) (.loc 0)), .g (.fieldAddr 0 (.var 13)), .g (.store 1 (.loc 0) (.loc 1))] [] [] [])))))) (.region [.g (.bin .add (.var 5) (.k 1)), .m (.loc 0)] [(5, 1)] [] []))))))) (.seq (.region [.g (.load (some 2) (.var 13)), .g (.store 2 (.var 14) (.loc 0))] [] [] []) .ret))
theorem dn_t0 {q a b c13 c14 n0 : Nat} {b0 b1 : CVal} {r : List UInt8} {h : CHeap} (hf : Fit h) (hq : getEnt h.ents q = some (staO a b b0 b1)) (ha : getEnt h.ents a = some (.map 0 [])) (h13 : getEnt h.ents c13 = some (.cells [.nils, .str r])) (h14 : getEnt h.ents c14 = some (.cells [.nils, .str []])) (hne : c13 ≠ c14) (l13 : n0 ≤ c13) (l14 : n0 ≤ c14) (w1 w2 w3 w4 w5 w6 w7 w8 w9 w10 w11 w12 : CVal) {K : CVal → CHeap → Prop}
    (hk : ∀ h', Fit h' → h.next ≤ h'.next → (∀ m, m < n0 → getEnt h'.ents m = getEnt h.ents m) → (∀ m, m < n0 → lookupN h'.tys m = lookupN h.tys m) → K (.agg [.nils, .str r]) h') :
    W tree.getF dnT ⟨[.ptr q SD 0, w1, w2, w3, w4, w5, w6, w7, w8, w9, w10, w11, w12, .ptr c13 41943042 0, .ptr c14 41943042 0], h, []⟩ (endW c21 n0 K) := by
  obtain ⟨hu, hut, hX⟩ := fx4 hf
  have hY14 := fx5 hf h14; have ⟨hG14, hD14, hC14, hN14⟩ := hY14
  have p13 := in_under hu h13
  have p14 := in_under hu h14
  have pa := in_under hu ha
  have pq := in_under hu hq
  have hZ := j6_ hX hq ha h13 h14 hY14
  repeat (first
    | refine vk_ ?_
    | refine W.loop ?_
    | (refine dk_ ?_; refine W.loop ?_)
    | (refine pe_ (field_1) fun n1 hn1 => ⟨rfl, ?_⟩; (try dsimp only at hn1))
    | ((refine Wc.primM (f := 38) (p := (pSortedI 65)) (by kernel_rfl) ?_; generalize e : ((pSortedI 65)) _ _ = r; simp (disch := omega) [hZ, pSortedI, keysKI, risesTo, uniqI, sortI, insI] at e; subst e; (try dsimp only); refine ⟨rfl, ?_⟩))
    | (refine mk_ 39 c39 (s_ ?_))
    | (refine rk_ ?_; refine ⟨rfl, ?_⟩))
  refine rk_ ?_
  refine hk ⟨_, _, _⟩ ⟨(un_drop hu.set).le (by (try dsimp only); omega), hut.le (by (try dsimp only); omega)⟩ (by (try dsimp only); omega) (fun m hm => ?_) (fun _ _ => rfl)
  dsimp only
  rw [ge_drop hm, getEnt_setEnt_ne (by omega)]
theorem dn_t1 {q a b c13 c14 n0 : Nat} {b0 b1 : CVal} {r : List UInt8} {es : List CVal} (hes : es.length = 1) {h : CHeap} (hf : Fit h) (hq : getEnt h.ents q = some (staO a b b0 b1)) (ha : getEnt h.ents a = some (.map 1 [(0, .int .i64 1, .imm .full 4 es)])) (h13 : getEnt h.ents c13 = some (.cells [.nils, .str r])) (h14 : getEnt h.ents c14 = some (.cells [.nils, .str []])) (hne : c13 ≠ c14) (l13 : n0 ≤ c13) (l14 : n0 ≤ c14) (w1 w2 w3 w4 w5 w6 w7 w8 w9 w10 w11 w12 : CVal) {K : CVal → CHeap → Prop}
    (hk : ∀ h', Fit h' → h.next ≤ h'.next → (∀ m, m < n0 → getEnt h'.ents m = getEnt h.ents m) → (∀ m, m < n0 → lookupN h'.tys m = lookupN h.tys m) → K (.agg [.imm .none 2 [.agg [.int .i64 1, .imm .full 4 es]], .str r]) h') :
    W tree.getF dnT ⟨[.ptr q SD 0, w1, w2, w3, w4, w5, w6, w7, w8, w9, w10, w11, w12, .ptr c13 41943042 0, .ptr c14 41943042 0], h, []⟩ (endW c21 n0 K) := by
  obtain ⟨hu, hut, hX⟩ := fx4 hf
  have hY14 := fx5 hf h14; have ⟨hG14, hD14, hC14, hN14⟩ := hY14
  have hY13 := fx5 hf h13; have ⟨hG13, hD13, hC13, hN13⟩ := hY13
  have p13 := in_under hu h13
  have p14 := in_under hu h14
  have pa := in_under hu ha
  have pq := in_under hu hq
  have s1 : ∀ x y, getEnt (setEnt (setEnt h.ents c13 x) c14 y) c13 = some x := fun x y => by rw [getEnt_setEnt_ne hne]; exact sy_getEnt_setEnt h13
  have s2 : ∀ x, getEnt (setEnt h.ents c13 x) c14 = some (.cells [.nils, .str []]) := fun x => by rw [getEnt_setEnt_ne (Ne.symm hne)]; exact h14
  have s4 : ∀ x y, getEnt (setEnt (setEnt h.ents c13 x) c14 y) c14 = some y := fun x y => sy_getEnt_setEnt (s2 x)
  have s3 : ∀ x, getEnt (setEnt h.ents c13 x) q = some (staO a b b0 b1) ∨ q = c13 := fun x => by
    by_cases e : q = c13
    · exact .inr e
    · exact .inl (by rw [getEnt_setEnt_ne e]; exact hq)
  have hZ := j11_ hX hq ha h13 h14 hY14 hY13 hes s1 s2 s4
  repeat (first
    | refine vk_ ?_
    | refine W.loop ?_
    | (refine dk_ ?_; refine W.loop ?_)
    | (refine pe_ (field_1) fun n1 hn1 => ⟨rfl, ?_⟩; (try dsimp only at hn1))
    | ((refine Wc.primM (f := 38) (p := (pSortedI 65)) (by kernel_rfl) ?_; generalize e : ((pSortedI 65)) _ _ = r; simp (disch := omega) [hZ, pSortedI, keysKI, risesTo, uniqI, sortI, insI] at e; subst e; (try dsimp only); refine ⟨rfl, ?_⟩))
    | (refine mk_ 39 c39 (s_ ?_))
    | (refine rk_ ?_; refine ⟨rfl, ?_⟩))
  refine rk_ ?_
  refine hk ⟨_, _, _⟩ ⟨(un_drop hu.set.set).le (by (try dsimp only); omega), hut.le (by (try dsimp only); omega)⟩ (by (try dsimp only); omega) (fun m hm => ?_) (fun _ _ => rfl)
  dsimp only
  rw [ge_drop hm, getEnt_setEnt_ne (by omega), getEnt_setEnt_ne (by omega)]
end Go.Proofs.YtnddcjimijmenaaGreat.IrU
namespace Go.Proofs.YtnddcjimijmenaaGreat.IrU
open Go Go.CI
set_option maxRecDepth 100000
set_option maxHeartbeats 4000000
set_option linter.unusedVariables false
set_option linter.unusedSimpArgs false
attribute [local irreducible] W Wo Wc WoR

theorem bytesOf_bv : ∀ x : List UInt8, bytesOf (x.map bv) = some x
  | [] => rfl
  | c :: x => by
    have h1 := bytesOf_bv x
    simp only [List.map_cons, bytesOf, h1]
    simp
end Go.Proofs.YtnddcjimijmenaaGreat.IrU
namespace Go.Proofs.YtnddcjimijmenaaGreat.IrU
open Go Go.CI
set_option maxRecDepth 100000
set_option maxHeartbeats 4000000
set_option linter.unusedVariables false
set_option linter.unusedSimpArgs false
attribute [local irreducible] W Wo Wc WoR

abbrev fl4B : CVal := .agg [.int .i64 2, .str [98], .int .i64 2, .int .i64 13, .str [], .int .i64 0, .bool true, .int .i64 0]
abbrev fl4C : CVal := .agg [.int .i64 3, .str [99], .int .i64 2, .int .i64 14, .str [], .int .i64 0, .bool false, .int .i64 0]
abbrev fl4D : CVal := .agg [.int .i64 4, .str [100], .int .i64 3, .int .i64 16, .str [65], .int .i64 13, .bool false, .int .i64 0]
abbrev fl4 : CVal := .imm .none 8 [fldA, fl4B, fl4C, fl4D]
abbrev msg4 : List CVal := [.str [65], fl4, .nils]
abbrev sch4 : List CVal := [.imm .none 3 [.agg msg4], .nils]
abbrev dec4 (n e : Nat) : CObj := .cells [.imm .none 3 [.agg msg4], .nils, .int .i64 n, .int .i64 e]
abbrev sta4 (a b : Nat) : CObj := .cells [.str [65], fl4, .nils, .map a, .map b, .nilp, .nils]
theorem field4_2 : Pe 33 [.agg msg4, .int .i64 2] (.tup [fl4B, .bool true]) := by
  intro h hf K hk
  obtain ⟨hu, hut, hX⟩ := fx4 hf
  refine mk_ 33 c33 (s_ ?_)
  repeat (first
    | refine vx_ ?_
    | refine W.loop ?_
    | (refine dx_ ?_; refine W.loop ?_)
    | (refine mk_ 52 c52 (s_ ?_))
    | (refine mk_ 53 c53 (s_ ?_))
    | (refine rx_ ?_; refine ⟨rfl, ?_⟩))
  refine rx_ ?_
  refine hk _ ?_; exact om_
theorem field4_3 : Pe 33 [.agg msg4, .int .i64 3] (.tup [fl4C, .bool true]) := by
  intro h hf K hk
  obtain ⟨hu, hut, hX⟩ := fx4 hf
  refine mk_ 33 c33 (s_ ?_)
  repeat (first
    | refine vx_ ?_
    | refine W.loop ?_
    | (refine dx_ ?_; refine W.loop ?_)
    | (refine mk_ 52 c52 (s_ ?_))
    | (refine mk_ 53 c53 (s_ ?_))
    | (refine rx_ ?_; refine ⟨rfl, ?_⟩))
  refine rx_ ?_
  refine hk _ ?_; exact om_
theorem wire_13 : Pe 54 [.int .i64 13] (.int .i64 0) := by
  intro h hf K hk
  obtain ⟨hu, hut, hX⟩ := fx4 hf
  refine mk_ 54 c54 (s_ ?_)
  repeat (first
    | refine vx_ ?_)
  refine rx_ ?_
  refine hk _ ?_; exact om_
theorem wire_14 : Pe 54 [.int .i64 14] (.int .i64 2) := by
  intro h hf K hk
  obtain ⟨hu, hut, hX⟩ := fx4 hf
  refine mk_ 54 c54 (s_ ?_)
  repeat (first
    | refine vx_ ?_)
  refine rx_ ?_
  refine hk _ ?_; exact om_
theorem known4_2 : Pe 34 [fl4B, .int .i64 2] (.bool true) := by
  intro h hf K hk
  obtain ⟨hu, hut, hX⟩ := fx4 hf
  refine mk_ 34 c34 (s_ ?_)
  repeat (first
    | refine vx_ ?_
    | (refine pe_ (wire_13) fun n1 hn1 => ⟨rfl, ?_⟩; (try dsimp only at hn1))
    | (refine mk_ 55 c55 (s_ ?_))
    | (refine rx_ ?_; refine ⟨rfl, ?_⟩))
  refine rx_ ?_
  refine hk _ ?_; exact om_
theorem known4_3 : Pe 34 [fl4C, .int .i64 2] (.bool true) := by
  intro h hf K hk
  obtain ⟨hu, hut, hX⟩ := fx4 hf
  refine mk_ 34 c34 (s_ ?_)
  repeat (first
    | refine vx_ ?_
    | (refine pe_ (wire_14) fun n1 hn1 => ⟨rfl, ?_⟩; (try dsimp only at hn1))
    | (refine mk_ 55 c55 (s_ ?_))
    | (refine rx_ ?_; refine ⟨rfl, ?_⟩))
  refine rx_ ?_
  refine hk _ ?_; exact om_
theorem message4 : Pe 18 [.agg sch4, .str [65]] (.tup [.agg msg4, .bool true]) := by
  intro h hf K hk
  obtain ⟨hu, hut, hX⟩ := fx4 hf
  refine mk_ 18 c18 (s_ ?_)
  repeat (first
    | refine vx_ ?_
    | refine W.loop ?_
    | (refine dx_ ?_; refine W.loop ?_)
    | (refine mk_ 28 c28 (s_ ?_))
    | (refine mk_ 29 c29 (s_ ?_))
    | (refine mk_ 30 c30 (s_ ?_))
    | (refine mk_ 31 c31 (s_ ?_))
    | (refine rx_ ?_; refine ⟨rfl, ?_⟩))
  refine rx_ ?_
  refine hk _ ?_; exact om_
theorem from_13 : Pe 85 [.int .i64 13, .int .u64 0] (.int .u64 0) := by
  intro h hf K hk
  obtain ⟨hu, hut, hX⟩ := fx4 hf
  refine mk_ 85 c85 (s_ ?_)
  repeat (first
    | refine vx_ ?_
    | refine W.loop ?_
    | (refine dx_ ?_; refine W.loop ?_)
    | (refine mk_ 54 c54 (s_ ?_))
    | (refine mk_ 84 c84 (s_ ?_))
    | (refine mk_ 108 c108 (s_ ?_))
    | (refine mk_ 109 c109 (s_ ?_))
    | (refine mk_ 135 c135 (s_ ?_))
    | (refine mk_ 147 c147 (s_ ?_))
    | (refine rx_ ?_; refine ⟨rfl, ?_⟩))
  refine rx_ ?_
  refine hk _ ?_; exact om_
theorem valid_nil : Pe 84 [.str []] (.bool true) := by
  intro h hf K hk
  obtain ⟨hu, hut, hX⟩ := fx4 hf
  refine mk_ 84 c84 (s_ ?_)
  repeat (first
    | refine vx_ ?_
    | refine W.loop ?_
    | (refine dx_ ?_; refine W.loop ?_)
    | (refine mk_ 54 c54 (s_ ?_))
    | (refine mk_ 85 c85 (s_ ?_))
    | (refine mk_ 108 c108 (s_ ?_))
    | (refine mk_ 109 c109 (s_ ?_))
    | (refine mk_ 135 c135 (s_ ?_))
    | (refine mk_ 147 c147 (s_ ?_))
    | (refine rx_ ?_; refine ⟨rfl, ?_⟩))
  refine rx_ ?_
  refine hk _ ?_; exact om_
theorem cnt4_F {d n : Nat} (hn0 : n ≤ 2001) {h : CHeap} (hf : Fit h) (hg : getEnt h.ents d = some (dec4 n 0)) {K : CVal → CHeap → Prop}
    (hk : ∀ n', h.next ≤ n' → K (.tup []) ⟨setEnt h.ents d (dec4 (n + 1) (if 2000 < n + 1 then 3 else 0)), n', h.tys⟩) : Wc tree.getF 60 [.ptr d DD 0] h K := by
  obtain ⟨hu, hut, hX⟩ := fx4 hf
  have hY := fx5 hf hg; have ⟨hG, hD, hC, hN⟩ := hY
  have lp := in_under hu hg
  by_cases h1 : 2000 < n + 1
  · rw [if_pos h1] at hk
    have h2 : (2000 : Int) < (n : Int) + 1 := by omega
    push_cast at hk
    refine mk_ 60 c60 (s_ ?_)
    have hZ := j3_ hX hg hY
    repeat (first
      | refine vk_ ?_
      | (refine mk_ 50 c50 (s_ ?_))
      | (refine rk_ ?_; refine ⟨rfl, ?_⟩))
    refine rk_ ?_
    refine hk _ ?_; exact om_
  · rw [if_neg h1] at hk
    have h2 : ¬ (2000 : Int) < (n : Int) + 1 := by omega
    push_cast at hk
    refine mk_ 60 c60 (s_ ?_)
    have hZ := j3_ hX hg hY
    repeat (first
      | refine vk_ ?_
      | (refine mk_ 50 c50 (s_ ?_))
      | (refine rk_ ?_; refine ⟨rfl, ?_⟩))
    refine rk_ ?_
    refine hk _ ?_; exact om_
abbrev VZ : CVal := .agg [.int .u64 0, .str [], .nils, .str []]
theorem sin_13 {d n : Nat} (hn0 : n ≤ 2001) {h : CHeap} (hf : Fit h) (hg : getEnt h.ents d = some (dec4 n 0)) {K : CVal → CHeap → Prop}
    (hk : ∀ n', h.next ≤ n' → K VZ ⟨setEnt h.ents d (dec4 (n + 1) (if 2000 < n + 1 then 3 else 0)), n', h.tys⟩) : Wc tree.getF 61 [.ptr d DD 0, .int .i64 13, .agg [.int .i64 0, .int .i64 0, .int .u64 0, .str [], .str []]] h K := by
  obtain ⟨hu, hut, hX⟩ := fx4 hf
  have hY := fx5 hf hg; have ⟨hG, hD, hC, hN⟩ := hY
  have lp := in_under hu hg
  refine mk_ 61 c61 (s_ ?_)
  have hZ := j3_ hX hg hY
  repeat (first
    | refine vk_ ?_
    | (refine cnt4_F hn0 fit_ (by simp (disch := omega) [getEnt, hg]) fun n1 hn1 => ⟨rfl, ?_⟩; (try dsimp only at hn1))
    | (refine pe_ (wire_13) fun n1 hn1 => ⟨rfl, ?_⟩; (try dsimp only at hn1))
    | (refine pe_ (from_13) fun n1 hn1 => ⟨rfl, ?_⟩; (try dsimp only at hn1)))
  refine rk_ ?_
  refine hk _ ?_; exact om_
theorem sin_14 {d n : Nat} (hn0 : n ≤ 2001) {h : CHeap} (hf : Fit h) (hg : getEnt h.ents d = some (dec4 n 0)) {K : CVal → CHeap → Prop}
    (hk : ∀ n', h.next ≤ n' → K VZ ⟨setEnt h.ents d (dec4 (n + 1) (if 2000 < n + 1 then 3 else 0)), n', h.tys⟩) : Wc tree.getF 61 [.ptr d DD 0, .int .i64 14, .agg [.int .i64 3, .int .i64 2, .int .u64 0, .str [], .str [26, 0]]] h K := by
  obtain ⟨hu, hut, hX⟩ := fx4 hf
  have hY := fx5 hf hg; have ⟨hG, hD, hC, hN⟩ := hY
  have lp := in_under hu hg
  refine mk_ 61 c61 (s_ ?_)
  have hZ := j3_ hX hg hY
  repeat (first
    | refine vk_ ?_
    | (refine cnt4_F hn0 fit_ (by simp (disch := omega) [getEnt, hg]) fun n1 hn1 => ⟨rfl, ?_⟩; (try dsimp only at hn1))
    | (refine pe_ (wire_14) fun n1 hn1 => ⟨rfl, ?_⟩; (try dsimp only at hn1))
    | (refine pe_ (valid_nil) fun n1 hn1 => ⟨rfl, ?_⟩; (try dsimp only at hn1))
    | (refine mk_ 50 c50 (s_ ?_))
    | (refine rk_ ?_; refine ⟨rfl, ?_⟩))
  refine rk_ ?_
  refine hk _ ?_; exact om_
theorem spt4_F {d n : Nat} {b : List UInt8} {l : List Rc} (hb : b.length ≤ 5000) (hl : splitF b = some l) {h : CHeap} (hf : Fit h) (hg : getEnt h.ents d = some (dec4 n 0)) {K : CVal → CHeap → Prop}
    (hk : ∀ n', h.next ≤ n' → K (recsV l) ⟨h.ents, n', h.tys⟩) : Wc tree.getF 32 [.ptr d DD 0, .str b, .int .i64 1] h K := by
  obtain ⟨hu, hut, hX⟩ := fx4 hf
  have V1 := split_F b
  unfold splitV at V1
  rw [if_neg (by omega), hl] at V1
  dsimp only at V1
  have hu1 : (recsV l).isUndef = false := by cases l <;> rfl
  have hu2 : (recsV l).bare = recsV l := by cases l <;> rfl
  have hu3 : (recsV l).whole = true := by cases l <;> rfl
  have hu4 : (recsV l).strip = recsV l := by cases l <;> rfl
  have hu5 : (recsV l).cells = [recsV l] := by cases l <;> rfl
  generalize recsV l = v at *
  simp only [CVal.isUndef, CVal.bare, CVal.whole, CVal.strip, CVal.cells] at hu1 hu2 hu3 hu4 hu5
  refine mk_ 32 c32 (s_ ?_)
  have hZ := j7_ hX hg hu1 hu2 hu3 hu4 hu5
  repeat (first
    | refine vk_ ?_
    | (refine pe_ (V1) fun n1 hn1 => ⟨rfl, ?_⟩; (try dsimp only at hn1))
    | (refine mk_ 50 c50 (s_ ?_))
    | (refine rk_ ?_; refine ⟨rfl, ?_⟩))
  refine rk_ ?_
  refine hk _ ?_; exact om_
theorem fre4_F {d n e : Nat} {h : CHeap} (hf : Fit h) (hg : getEnt h.ents d = some (dec4 n e)) {K : CVal → CHeap → Prop}
    (hk : ∀ z a b q n' cs, h.next ≤ z → z < a → a < b → b < q → q < n' → K (.ptr q SD 0) ⟨(q, sta4 a b) :: (b, .map 0 []) :: (a, .map 0 []) :: (z, .cells cs) :: h.ents, n', h.tys⟩) : Wc tree.getF 19 [.ptr d DD 0, .str [65]] h K := by
  obtain ⟨hu, hut, hX⟩ := fx4 hf
  have lp := in_under hu hg
  refine mk_ 19 c19 (s_ ?_)
  have hZ := j2_ hX hg
  repeat (first
    | refine vk_ ?_
    | (refine pe_ (message4) fun n1 hn1 => ⟨rfl, ?_⟩; (try dsimp only at hn1)))
  refine rk_ ?_
  refine hk _ _ _ _ _ _ ?_ ?_ ?_ ?_ ?_ <;> exact om_
end Go.Proofs.YtnddcjimijmenaaGreat.IrU
namespace Go.Proofs.YtnddcjimijmenaaGreat.IrU
open Go Go.CI
set_option maxRecDepth 100000
set_option maxHeartbeats 4000000
set_option linter.unusedVariables false
set_option linter.unusedSimpArgs false
attribute [local irreducible] W Wo Wc WoR

theorem part_0 (r : List UInt8) (hr : r.length < 90000) : Pe 86 [.int .i64 0, .str (0 :: r)] (.tup [.int .u64 0, .int .i64 1]) := by
  intro h hf K hk
  obtain ⟨hu, hut, hX⟩ := fx4 hf
  have V1 := varint_F (0 :: r) (by simp; omega)
  have e1 : varF (0 :: r) = some (0, 1) := by
    show varG 0 0 (0 :: r) = _
    unfold varG
    simp
  rw [e1] at V1
  dsimp only [varV] at V1
  refine mk_ 86 c86 (s_ ?_)
  repeat (first
    | refine vx_ ?_
    | (refine pe_ (V1) fun n1 hn1 => ⟨rfl, ?_⟩; (try dsimp only at hn1)))
  refine rx_ ?_
  refine hk _ ?_; exact om_
abbrev pkL : CCode := (.loop true (.seq (.seq (.region [.v 0, .g (.bin .neq (.loc 0) (.const (.str []))), .m (.loc 0), .q (.mv (.var 1)) 0 true, .q (.nilck (.loc 0)) 1 true, .q (.fieldAddr 3 (.loc 0)) 2 true, .q (.load none (.loc 0)) 3 true, .q (.bin .eql (.loc 0) (.k 0)) 4 true, .g (.pick (.loc 5) (.loc 0) (.b false))] [(2, 8)] [] []) (.cond (.var 2) .skip (.exit 0))) (.block 1 (.seq (.region [.v 3, .g (.call false 54 [(.loc 0)]), .v 0, .g (.call false 86 [(.loc 1), (.loc 0)]), .m (.loc 0), .g (.extract 0 (.loc 0)), .g (.extract 1 (.loc 1)), .m (.loc 1), .m (.loc 1)] [(4, 8), (7, 7)] [] []) (.seq (.seq (.region [.v 4, .x .eql 0 (.k 0)] [(5, 1)] [] []) (.cond (.var 5) (.seq (.region [.v 1, .g (.call false 50 [(.loc 0), (.b true), (.k 2)])] [] [] []) (.exit 0)) .skip)) (.seq (.region [.v 6, .v 1, .v 3, .v 7, .g (.build [(.int .i64 0), (.int .i64 0), (.int .u64 0), (.str []), (.str [])] [(2, 1, (.loc 0))]), .g (.call false 61 [(.loc 3), (.loc 2), (.loc 0)]), .g (.lit .imm true [(.int .u64 0), (.str []), .nils, (.str [])] 1 [(0, (.loc 0))]), .g (.append .imm 0 4 (.loc 6) (.loc 0)), .m (.loc 0)] [(6, 8)] [] []) (.region [.v 0, .v 4, .g (.slc 0 (.loc 1) (some (.loc 0)) none), .m (.loc 0)] [(0, 3)] [] [])))))))
theorem pk_go (base : List (Nat × CObj)) (ty : List (Nat × Nat)) (n0 d : Nat) (hb : Under base n0) (hty : UnderT ty n0) (hd : ∃ o, getEnt base d = some o) (Q : CExit → CSt → Prop) : ∀ (j m : Nat) (A : List CVal) (i u nx : Nat) (w2 w4 w5 w7 : CVal), A = List.replicate m VZ → m ≤ 2000 → j ≤ 3000 → n0 ≤ i → i < nx →
    (∀ s A i u n' w2 w4 w5 w7, A = List.replicate (min (m + j) 2001) VZ → n0 ≤ i → i < n' → Q (.exit 0) ⟨[.str s, .ptr d DD 0, w2, .int .i64 13, w4, w5, acV 4 i u A, w7], ⟨acE i u A (setEnt base d (dec4 (min (m + j) 2001) (if 2000 < m + j then 3 else 0))), n', ty⟩, []⟩) →
    W tree.getF pkL ⟨[.str (List.replicate j 0), .ptr d DD 0, w2, .int .i64 13, w4, w5, acV 4 i u A, w7], ⟨acE i u A (setEnt base d (dec4 m 0)), nx, ty⟩, []⟩ Q := by
  obtain ⟨o0, hd⟩ := hd
  have ld := in_under hb hd
  have hds : ∀ x, getEnt (setEnt base d x) d = some x := fun x => sy_getEnt_setEnt hd
  intro j
  induction j with
  | zero =>
    intro m A i u nx w2 w4 w5 w7 hA hm hj hi hx hk
    have h1 := hk [] A i u
    rw [show min (m + 0) 2001 = m from by omega, if_neg (by omega)] at h1
    repeat (first
      | refine v0_ ?_
      | refine W.loop ?_
      | (refine d0_ ?_; refine W.loop ?_))
    refine h1 _ _ _ _ _ hA hi ?_; exact om_
  | succ j ih =>
    intro m A i u nx w2 w4 w5 w7 hA hm hj hi hx hk
    have hdc : ∀ x q, n0 ≤ q → dropCells (setEnt base d x) q = setEnt base d x := fun x q hq => dropCells_under (hb.set.le hq)
    have hgn : ∀ x q, n0 ≤ q → getEnt (setEnt base d x) q = none := fun x q hq => getEnt_under hb.set hq
    have hu : Under (setEnt base d (dec4 m 0)) n0 := hb.set
    have hut := hty
    have hrj : (List.replicate j (0 : UInt8)).length = j := by simp
    have S1 : ∀ {h : CHeap} (hf : Fit h) (hg : getEnt h.ents d = some (dec4 m 0)) {K : CVal → CHeap → Prop} (hk : ∀ n', h.next ≤ n' → K VZ ⟨setEnt h.ents d (dec4 (m + 1) (if 2000 < m + 1 then 3 else 0)), n', h.tys⟩), Wc tree.getF 61 [.ptr d DD 0, .int .i64 13, .agg [.int .i64 0, .int .i64 0, .int .u64 0, .str [], .str []]] h K := fun hf hg _ hk => sin_13 (by omega) hf hg hk
    have hAl : A.length = m := by rw [hA]; simp
    have hA2 : A ++ [VZ] = List.replicate (m + 1) VZ := by rw [hA, ← List.replicate_succ']
    by_cases hm2 : m = 2000
    · rw [if_pos (by omega)] at S1
      rw [show min (m + (j + 1)) 2001 = m + 1 from by omega, if_pos (by omega)] at hk
      cases A with
      | nil => simp at hAl; omega
      | cons a A =>
        simp only [List.length_cons] at hAl
        simp only [List.cons_append] at hA2
        have hk' := fun s i u n' w2 w4 w5 w7 => hk s (a :: (A ++ [VZ])) i u n' w2 w4 w5 w7 hA2
        dsimp only [acV, acE] at hk' ⊢
        have hZ := j4_ hdc hgn hds hrj
        repeat ((fail_if_success (show W tree.getF _ (dropped true _ _) _)); first
          | refine st_ rfl ?_
          | ((first | refine W.regG ?_ | refine WoR.go ?_); generalize e : goR .. = r; simp (disch := omega) [hZ] at e; replace e : some _ = _ := e; subst e; (try dsimp only [goW]))
          | refine W.loop ?_
          | (refine dk_ ?_; refine W.loop ?_)
          | (simp only [outOf, thenW_ret, thenW_exit, thenW_normal, roundW, reduceIte])
          | (refine pe_ (wire_13) fun n1 hn1 => ⟨rfl, ?_⟩; (try dsimp only at hn1))
          | (refine pe_ (part_0 _ (by simp; omega)) fun n1 hn1 => ⟨rfl, ?_⟩; (try dsimp only at hn1))
          | (refine S1 fit_ (by simp (disch := omega) [getEnt, hds]) fun n2 hn2 => ⟨rfl, ?_⟩; (try dsimp only at hn2)))
        refine dk_ ?_
        by_cases hj0 : j = 0
        · subst hj0
          have hZ := j3_ hdc hgn hds
          repeat (first
            | refine vk_ ?_
            | refine W.loop ?_
            | (refine dk_ ?_; refine W.loop ?_))
          refine hk' _ _ _ _ _ _ _ _ ?_ ?_ <;> exact om_
        · obtain ⟨j', rfl⟩ : ∃ j', j = j' + 1 := ⟨j - 1, by omega⟩
          have hZ := j3_ hdc hgn hds
          repeat (first
            | refine vk_ ?_
            | refine W.loop ?_
            | (refine dk_ ?_; refine W.loop ?_))
          refine hk' _ _ _ _ _ _ _ _ ?_ ?_ <;> exact om_
    · rw [if_neg (by omega)] at S1
      have key := fun i u nx w2 w4 w5 w7 h1 h2 => ih (m + 1) (A ++ [VZ]) i u nx w2 w4 w5 w7 hA2 (by omega) (by omega) h1 h2 (by rw [show m + 1 + j = m + (j + 1) from by omega]; exact hk)
      cases A with
      | nil =>
        simp only [List.nil_append, acV, acE] at key
        dsimp only [acV, acE]
        have hZ := j4_ hdc hgn hds hrj
        repeat ((fail_if_success (show W tree.getF _ (dropped true _ _) _)); first
          | refine st_ rfl ?_
          | ((first | refine W.regG ?_ | refine WoR.go ?_); generalize e : goR .. = r; simp (disch := omega) [hZ] at e; replace e : some _ = _ := e; subst e; (try dsimp only [goW]))
          | refine W.loop ?_
          | (refine dk_ ?_; refine W.loop ?_)
          | (simp only [outOf, thenW_ret, thenW_exit, thenW_normal, roundW, reduceIte])
          | (refine pe_ (wire_13) fun n1 hn1 => ⟨rfl, ?_⟩; (try dsimp only at hn1))
          | (refine pe_ (part_0 _ (by simp; omega)) fun n1 hn1 => ⟨rfl, ?_⟩; (try dsimp only at hn1))
          | (refine S1 fit_ (by simp (disch := omega) [getEnt, hds]) fun n2 hn2 => ⟨rfl, ?_⟩; (try dsimp only at hn2)))
        refine dk_ ?_
        refine key _ _ _ _ _ _ _ ?_ ?_ <;> exact om_
      | cons a A =>
        simp only [List.length_cons] at hAl
        simp only [List.cons_append, acV, acE] at key
        dsimp only [acV, acE]
        have hZ := j4_ hdc hgn hds hrj
        repeat ((fail_if_success (show W tree.getF _ (dropped true _ _) _)); first
          | refine st_ rfl ?_
          | ((first | refine W.regG ?_ | refine WoR.go ?_); generalize e : goR .. = r; simp (disch := omega) [hZ] at e; replace e : some _ = _ := e; subst e; (try dsimp only [goW]))
          | refine W.loop ?_
          | (refine dk_ ?_; refine W.loop ?_)
          | (simp only [outOf, thenW_ret, thenW_exit, thenW_normal, roundW, reduceIte])
          | (refine pe_ (wire_13) fun n1 hn1 => ⟨rfl, ?_⟩; (try dsimp only at hn1))
          | (refine pe_ (part_0 _ (by simp; omega)) fun n1 hn1 => ⟨rfl, ?_⟩; (try dsimp only at hn1))
          | (refine S1 fit_ (by simp (disch := omega) [getEnt, hds]) fun n2 hn2 => ⟨rfl, ?_⟩; (try dsimp only at hn2)))
        refine dk_ ?_
        refine key _ _ _ _ _ _ _ ?_ ?_ <;> exact om_
end Go.Proofs.YtnddcjimijmenaaGreat.IrU
namespace Go.Proofs.YtnddcjimijmenaaGreat.IrU
open Go Go.CI
set_option maxRecDepth 100000
set_option maxHeartbeats 4000000
set_option linter.unusedVariables false
set_option linter.unusedSimpArgs false
attribute [local irreducible] W Wo Wc WoR

def lstA (A : List CVal) : CVal := match A with | [] => .nils | x :: l => .imm .none 4 (x :: l)
def lst4 (m : Nat) : CVal := lstA (List.replicate m VZ)
theorem packed_F (k : Nat) (hk3 : k ≤ 2300) {d : Nat} {h : CHeap} (hf : Fit h) (hg : getEnt h.ents d = some (dec4 0 0)) {K : CVal → CHeap → Prop}
    (hk : ∀ n', h.next ≤ n' → K (lst4 (min k 2001)) ⟨setEnt h.ents d (dec4 (min k 2001) (if 2000 < k then 3 else 0)), n', h.tys⟩) : Wc tree.getF 62 [.ptr d DD 0, .int .i64 13, .str (List.replicate k 0)] h K := by
  obtain ⟨hu, hut, hX⟩ := fx4 hf
  have hY := fx5 hf hg; have ⟨hG, hD, hC, hN⟩ := hY
  have hse : setEnt h.ents d (dec4 0 0) = h.ents := setEnt_same hg
  refine mk_ 62 c62 (s_ ?_)
  repeat ((fail_if_success (show W tree.getF pkL _ _)); first
    | refine st_ rfl ?_
    | ((first | refine W.regG ?_ | refine WoR.go ?_); generalize e : goR .. = r; simp (disch := omega) [hX] at e; replace e : some _ = _ := e; subst e; (try dsimp only [goW]))
    | (simp only [outOf, thenW_ret, thenW_exit, thenW_normal, roundW, reduceIte]))
  have H := pk_go h.ents h.tys h.next d hu hut ⟨_, hg⟩ (fun x st' => thenW tree.getF (.seq (.region [.v 6, .m (.loc 0)] [(6, 1)] [] []) .ret) (endW c62 h.next K) (outOf 0 x) st') k 0 [] h.next 0 (h.next + 1) .undef .undef .undef .undef rfl (by omega) (by omega) (Nat.le_refl _) (by omega) ?_
  · rw [hse] at H
    exact H
  intro s A i u n' w2 w4 w5 w7 hA hi hn
  rw [Nat.zero_add] at hA ⊢
  rw [show lst4 (min k 2001) = lstA A from by rw [hA]; rfl] at hk
  simp only [outOf, thenW_ret, thenW_exit, thenW_normal, roundW, reduceIte]
  cases A with
  | nil =>
    dsimp only [acV, acE, lstA] at hk ⊢
    have hZ := j2_ hX hY
    repeat (first
      | refine vk_ ?_)
    refine rk_ ?_
    refine hk _ ?_; exact om_
  | cons x l =>
    dsimp only [acV, acE, lstA] at hk ⊢
    have hZ := j2_ hX hY
    repeat (first
      | refine vk_ ?_)
    refine rk_ ?_
    refine hk _ ?_; exact om_
theorem dn4_n {q a b : Nat} {h : CHeap} (hf : Fit h) (hq : getEnt h.ents q = some (sta4 a b)) (ha : getEnt h.ents a = some (.map 1 [(0, .int .i64 2, .nils)])) (hb : getEnt h.ents b = some (.map 0 [])) {K : CVal → CHeap → Prop} (hk : ∀ n' E ty, Fit ⟨E, n', ty⟩ → h.next ≤ n' → (∀ m, m < h.next → getEnt E m = getEnt h.ents m) → K (.agg [.nils, .str []]) ⟨E, n', ty⟩) : Wc tree.getF 21 [.ptr q SD 0] h K := by
  obtain ⟨hu, hut, hX⟩ := fx4 hf
  have lq := in_under hu hq
  have la := in_under hu ha
  have lb := in_under hu hb
  refine mk_ 21 c21 (s_ ?_)
  have hZ := j4_ hX hq ha hb
  repeat (first
    | refine vk_ ?_
    | (refine dk_ ?_; refine W.loop ?_)
    | refine W.loop ?_
    | ((refine Wc.primM (f := 37) (p := (pBString 5)) (by kernel_rfl) ?_; generalize e : ((pBString 5)) _ _ = r; simp (disch := omega) [hZ, pBString, rowOf, CHeap.ty] at e; subst e; (try dsimp only); refine ⟨rfl, ?_⟩))
    | ((refine Wc.primM (f := 38) (p := (pSortedI 65)) (by kernel_rfl) ?_; generalize e : ((pSortedI 65)) _ _ = r; simp (disch := omega) [hZ, pSortedI, keysKI, risesTo, uniqI, sortI, insI] at e; subst e; (try dsimp only); refine ⟨rfl, ?_⟩))
    | (refine pe_ (field4_2) fun n1 hn1 => ⟨rfl, ?_⟩; (try dsimp only at hn1))
    | (refine mk_ 39 c39 (s_ ?_))
    | (refine rk_ ?_; refine ⟨rfl, ?_⟩))
  refine rk_ ?_
  refine hk _ _ _ ⟨hu.le (by (try dsimp only); omega), hut.le (by (try dsimp only); omega)⟩ ?_ (fun _ _ => rfl)
  exact om_
theorem dn4_2 {q a b : Nat} {i u : Nat} {es : List CVal} (hes : 0 < es.length) {h : CHeap} (hf : Fit h) (hq : getEnt h.ents q = some (sta4 a b)) (ha : getEnt h.ents a = some (.map 1 [(0, .int .i64 2, .imm (.own i u) 4 es)])) (hb : getEnt h.ents b = some (.map 0 [])) {K : CVal → CHeap → Prop} (hk : ∀ n' E ty, Fit ⟨E, n', ty⟩ → h.next ≤ n' → (∀ m, m < h.next → getEnt E m = getEnt h.ents m) → K (.agg [.imm .none 2 [.agg [.int .i64 2, .imm .none 4 es]], .str []]) ⟨E, n', ty⟩) : Wc tree.getF 21 [.ptr q SD 0] h K := by
  obtain ⟨hu, hut, hX⟩ := fx4 hf
  have lq := in_under hu hq
  have la := in_under hu ha
  have lb := in_under hu hb
  refine mk_ 21 c21 (s_ ?_)
  have hZ := j5_ hX hq ha hb hes
  repeat (first
    | refine vk_ ?_
    | (refine dk_ ?_; refine W.loop ?_)
    | refine W.loop ?_
    | ((refine Wc.primM (f := 37) (p := (pBString 5)) (by kernel_rfl) ?_; generalize e : ((pBString 5)) _ _ = r; simp (disch := omega) [hZ, pBString, rowOf, CHeap.ty] at e; subst e; (try dsimp only); refine ⟨rfl, ?_⟩))
    | ((refine Wc.primM (f := 38) (p := (pSortedI 65)) (by kernel_rfl) ?_; generalize e : ((pSortedI 65)) _ _ = r; simp (disch := omega) [hZ, pSortedI, keysKI, risesTo, uniqI, sortI, insI] at e; subst e; (try dsimp only); refine ⟨rfl, ?_⟩))
    | (refine pe_ (field4_2) fun n1 hn1 => ⟨rfl, ?_⟩; (try dsimp only at hn1))
    | (refine mk_ 39 c39 (s_ ?_))
    | (refine rk_ ?_; refine ⟨rfl, ?_⟩))
  refine rk_ ?_
  refine hk _ _ _ ⟨hu.le (by (try dsimp only); omega), hut.le (by (try dsimp only); omega)⟩ ?_ (fun _ _ => rfl)
  exact om_
theorem dn4_3 {q a b : Nat} {i u : Nat} {es : List CVal} (hes : 0 < es.length) {h : CHeap} (hf : Fit h) (hq : getEnt h.ents q = some (sta4 a b)) (ha : getEnt h.ents a = some (.map 1 [(0, .int .i64 3, .imm (.own i u) 4 es)])) (hb : getEnt h.ents b = some (.map 0 [])) {K : CVal → CHeap → Prop} (hk : ∀ n' E ty, Fit ⟨E, n', ty⟩ → h.next ≤ n' → (∀ m, m < h.next → getEnt E m = getEnt h.ents m) → K (.agg [.imm .none 2 [.agg [.int .i64 3, .imm .none 4 es]], .str []]) ⟨E, n', ty⟩) : Wc tree.getF 21 [.ptr q SD 0] h K := by
  obtain ⟨hu, hut, hX⟩ := fx4 hf
  have lq := in_under hu hq
  have la := in_under hu ha
  have lb := in_under hu hb
  refine mk_ 21 c21 (s_ ?_)
  have hZ := j5_ hX hq ha hb hes
  repeat (first
    | refine vk_ ?_
    | (refine dk_ ?_; refine W.loop ?_)
    | refine W.loop ?_
    | ((refine Wc.primM (f := 37) (p := (pBString 5)) (by kernel_rfl) ?_; generalize e : ((pBString 5)) _ _ = r; simp (disch := omega) [hZ, pBString, rowOf, CHeap.ty] at e; subst e; (try dsimp only); refine ⟨rfl, ?_⟩))
    | ((refine Wc.primM (f := 38) (p := (pSortedI 65)) (by kernel_rfl) ?_; generalize e : ((pSortedI 65)) _ _ = r; simp (disch := omega) [hZ, pSortedI, keysKI, risesTo, uniqI, sortI, insI] at e; subst e; (try dsimp only); refine ⟨rfl, ?_⟩))
    | (refine pe_ (field4_3) fun n1 hn1 => ⟨rfl, ?_⟩; (try dsimp only at hn1))
    | (refine mk_ 39 c39 (s_ ?_))
    | (refine rk_ ?_; refine ⟨rfl, ?_⟩))
  refine rk_ ?_
  refine hk _ _ _ ⟨hu.le (by (try dsimp only); omega), hut.le (by (try dsimp only); omega)⟩ ?_ (fun _ _ => rfl)
  exact om_
end Go.Proofs.YtnddcjimijmenaaGreat.IrU
namespace Go.Proofs.YtnddcjimijmenaaGreat.IrU
open Go Go.CI
set_option maxRecDepth 100000
set_option maxHeartbeats 4000000
set_option linter.unusedVariables false
set_option linter.unusedSimpArgs false
attribute [local irreducible] W Wo Wc WoR

theorem alo4_B {q a b : Nat} {h : CHeap} (hf : Fit h) (hq : getEnt h.ents q = some (sta4 a b)) {K : CVal → CHeap → Prop} (hk : ∀ n', h.next ≤ n' → K (.tup []) ⟨h.ents, n', h.tys⟩) : Wc tree.getF 57 [.ptr q SD 0, fl4B] h K := by
  obtain ⟨hu, hut, hX⟩ := fx4 hf
  have lq := in_under hu hq
  refine mk_ 57 c57 (s_ ?_)
  have hZ := j2_ hX hq
  repeat (first
    | refine vk_ ?_
    | (refine dk_ ?_; refine W.loop ?_)
    | refine W.loop ?_)
  refine rk_ ?_
  refine hk _ ?_; exact om_
theorem alo4_C {q a b : Nat} {h : CHeap} (hf : Fit h) (hq : getEnt h.ents q = some (sta4 a b)) {K : CVal → CHeap → Prop} (hk : ∀ n', h.next ≤ n' → K (.tup []) ⟨h.ents, n', h.tys⟩) : Wc tree.getF 57 [.ptr q SD 0, fl4C] h K := by
  obtain ⟨hu, hut, hX⟩ := fx4 hf
  have lq := in_under hu hq
  refine mk_ 57 c57 (s_ ?_)
  have hZ := j2_ hX hq
  repeat (first
    | refine vk_ ?_
    | (refine dk_ ?_; refine W.loop ?_)
    | refine W.loop ?_)
  refine rk_ ?_
  refine hk _ ?_; exact om_
abbrev R3 : CVal := .agg [.int .i64 3, .int .i64 2, .int .u64 0, .str [], .str [26, 0]]
/-- So many texts were read. -/
structure P4 (m d q a b n0 : Nat) (h0 h : CHeap) : Prop where
  fit : Fit h
  nx : n0 ≤ h.next
  dd : getEnt h.ents d = some (dec4 m 0)
  qq : getEnt h.ents q = some (sta4 a b)
  bb : getEnt h.ents b = some (.map 0 [])
  aa : (m = 0 ∧ getEnt h.ents a = some (.map 0 [])) ∨ (0 < m ∧ ∃ t u, getEnt h.ents a = some (.map 1 [(0, .int .i64 3, .imm (.own t u) 4 (List.replicate m VZ))]) ∧ getEnt h.ents t = some (.tok u) ∧ n0 ≤ t)
  fr : ∀ x, x < n0 → x ≠ d → x ≠ a → getEnt h.ents x = getEnt h0.ents x
structure E4 (d a n0 : Nat) (h0 h : CHeap) : Prop where
  fit : Fit h
  nx : n0 ≤ h.next
  dd : getEnt h.ents d = some (dec4 2001 3)
  fr : ∀ x, x < n0 → x ≠ d → x ≠ a → getEnt h.ents x = getEnt h0.ents x
theorem nth_rep : ∀ (k i : Nat), i < k → nth (List.replicate k R3) i = R3 := by
  intro k
  induction k with
  | zero => intro i hi; omega
  | succ k ihk => intro i hi; cases i with | zero => rfl | succ i => exact ihk i (by omega)
abbrev fdM : CCode := (.loop false (.seq (.region [.g (.bin .lss (.var 3) (.var 4))] [(5, 0)] [] []) (.seq (.cond (.var 5) .skip (.exit 0)) (.seq (.block 1 (.seq (.region [.g (.idxAddr 5 (.var 6) (.var 3)), .g (.load (some 5) (.loc 0)), .g (.lazy 31457285), .g (.init 5 (.loc 0) (.loc 1))] [(9, 2)] [] []) (.seq (.seq (.region [.v 0, .n 0, .f 3 0, .l 0, .x .neq 0 (.k 0)] [(7, 4)] [] []) (.cond (.var 7) .ret .skip)) (.seq (.region [.v 8, .n 0, .f 0 0, .g (.load (some 3) (.loc 0)), .g (.fieldAddr 0 (.var 9)), .l 0, .g (.call false 33 [(.loc 2), (.loc 0)]), .m (.loc 0), .g (.extract 0 (.loc 0)), .g (.extract 1 (.loc 1)), .g (.lazy 111149064), .g (.init 8 (.loc 0) (.loc 2)), .m (.loc 2)] [(10, 12), (11, 10)] [] []) (.seq (.seq (.region [.v 10, .g (.not (.loc 0)), .m (.loc 0), .q (.load (some 8) (.var 11)) 0 false, .q (.fieldAddr 1 (.var 9)) 1 false, .q (.load none (.loc 0)) 2 false, .q (.call false 34 [(.loc 2), (.loc 0)]) 3 false, .q (.not (.loc 0)) 4 false, .g (.pick (.loc 5) (.b true) (.loc 0))] [(12, 8)] [] []) (.cond (.var 12) (.seq (.region [.v 8, .n 0, .f 5 0, .g (.fieldAddr 4 (.var 9)), .l 0, .g (.call false 35 [(.loc 2), (.loc 0)])] [] [] []) (.exit 1)) .skip)) (.region [.v 0, .v 8, .g (.load (some 8) (.var 11)), .g (.load (some 5) (.var 9)), .v 2, .g (.call false 36 [(.loc 4), (.loc 3), (.loc 2), (.loc 1), (.loc 0)])] [] [] [])))))) (.region [.g (.bin .add (.var 3) (.k 1)), .m (.loc 0)] [(3, 1)] [] [])))))
theorem f2_go {d q a b n0 N : Nat} {h0 : CHeap} (hN : N ≤ 2300) (ld : d < n0) (lq : q < n0) (la : a < n0) (lb : b < n0) (dq : d ≠ q) (da : d ≠ a) (db : d ≠ b) (qa : q ≠ a) (qb : q ≠ b) (ab : a ≠ b) (b0 : List UInt8) (Q : CExit → CSt → Prop) : ∀ (j m : Nat) (h : CHeap) (w5 w7 w9 w10 w11 w12 : CVal), m + j = N → m ≤ 2000 → P4 m d q a b n0 h0 h →
    (∀ h' i w5 w7 w9 w10 w11 w12, N ≤ 2000 → P4 N d q a b n0 h0 h' → Q (.exit 0) ⟨[.ptr d DD 0, .str b0, .int .i64 1, .int .i64 i, .int .i64 N, w5, .imm .none 5 (List.replicate N R3), w7, .ptr q SD 0, w9, w10, w11, w12], h', []⟩) →
    (∀ h' i w5 w7 w9 w10 w11 w12, 2000 < N → E4 d a n0 h0 h' → Q (.exit 0) ⟨[.ptr d DD 0, .str b0, .int .i64 1, .int .i64 i, .int .i64 N, w5, .imm .none 5 (List.replicate N R3), w7, .ptr q SD 0, w9, w10, w11, w12], h', []⟩ ∧ Q .ret ⟨[.ptr d DD 0, .str b0, .int .i64 1, .int .i64 i, .int .i64 N, w5, .imm .none 5 (List.replicate N R3), w7, .ptr q SD 0, w9, w10, w11, w12], h', []⟩) →
    W tree.getF fdM ⟨[.ptr d DD 0, .str b0, .int .i64 1, .int .i64 m, .int .i64 N, w5, .imm .none 5 (List.replicate N R3), w7, .ptr q SD 0, w9, w10, w11, w12], h, []⟩ Q := by
  intro j
  induction j with
  | zero =>
    intro m h w5 w7 w9 w10 w11 w12 hm hm2 P h1 h2
    have hmN : m = N := by omega
    subst hmN
    obtain ⟨hu, hut, hX⟩ := fx4 P.fit
    repeat (first
      | refine vx_ ?_
      | (refine dx_ ?_; refine W.loop ?_)
      | refine W.loop ?_)
    refine h1 _ _ _ _ _ _ _ _ hm2 ⟨⟨hu.le ?_, hut.le ?_⟩, ?_, P.dd, P.qq, P.bb, P.aa, P.fr⟩
    · exact om_
    · exact om_
    · have := P.nx
      (try dsimp only); omega
  | succ j ih =>
    intro m h w5 w7 w9 w10 w11 w12 hm hm2 P h1 h2
    obtain ⟨hf, hnx, hd, hq, hb, haa, hfr⟩ := P
    obtain ⟨hu, hut, hX⟩ := fx4 hf
    have hrl : (List.replicate N R3).length = N := by simp
    have hnthA : ∀ i, i < N → nth (List.replicate N R3) i = R3 := fun i hi => nth_rep N i hi
    have hnth : nth (List.replicate N R3) m = R3 := hnthA m (by omega)
    have hpt : (m : Int).toNat = m := by omega
    have hmN : (m : Int) < N := by omega
    generalize List.replicate N R3 = LR at *
    have S1 : ∀ {h : CHeap} (hf : Fit h) (hg : getEnt h.ents d = some (dec4 m 0)) {K : CVal → CHeap → Prop} (hk : ∀ n', h.next ≤ n' → K VZ ⟨setEnt h.ents d (dec4 (m + 1) (if 2000 < m + 1 then 3 else 0)), n', h.tys⟩), Wc tree.getF 61 [.ptr d DD 0, .int .i64 14, .agg [.int .i64 3, .int .i64 2, .int .u64 0, .str [], .str [26, 0]]] h K := fun hf hg _ hk => sin_14 (by omega) hf hg hk
    have sq : ∀ x, getEnt (setEnt h.ents d x) q = some (sta4 a b) := fun x => by rw [getEnt_setEnt_ne (Ne.symm dq)]; exact hq
    have sb : ∀ x, getEnt (setEnt h.ents d x) b = some (.map 0 []) := fun x => by rw [getEnt_setEnt_ne (Ne.symm db)]; exact hb
    rcases haa with ⟨m0, ha⟩ | ⟨m0, t, u, ha, ht, htn⟩
    · subst m0
      rw [if_neg (by omega)] at S1
      have sa : ∀ x, getEnt (setEnt h.ents d x) a = some (.map 0 []) := fun x => by rw [getEnt_setEnt_ne (Ne.symm da)]; exact ha
      refine W.loop ?_
      have hZ := j11_ hX hd hq ha hb hrl hnth hpt sq sa sb
      repeat (first
        | refine vk_ ?_
        | (refine pe_ (field4_3) fun n1 hn1 => ⟨rfl, ?_⟩; (try dsimp only at hn1))
        | (refine pe_ (known4_3) fun n1 hn1 => ⟨rfl, ?_⟩; (try dsimp only at hn1))
        | (refine pe_ (wire_14) fun n1 hn1 => ⟨rfl, ?_⟩; (try dsimp only at hn1))
        | (refine alo4_C (a := a) (b := b) fit_ (by simp (disch := omega) [getEnt, hq]) fun n2 hn2 => ⟨rfl, ?_⟩; (try dsimp only at hn2))
        | (refine S1 fit_ (by simp (disch := omega) [getEnt, hd]) fun n2 hn2 => ⟨rfl, ?_⟩; (try dsimp only at hn2))
        | (refine mk_ 36 c36 (s_ ?_))
        | (refine rk_ ?_; refine ⟨rfl, ?_⟩))
      simp only [dropped, Bool.false_eq_true, if_false]
      have gd : ∀ x y, getEnt (setEnt (setEnt h.ents d x) a y) d = some x := fun x y => by rw [getEnt_setEnt_ne da]; exact sy_getEnt_setEnt hd
      have gq : ∀ x y, getEnt (setEnt (setEnt h.ents d x) a y) q = some (sta4 a b) := fun x y => by rw [getEnt_setEnt_ne qa]; exact sq x
      have gb : ∀ x y, getEnt (setEnt (setEnt h.ents d x) a y) b = some (.map 0 []) := fun x y => by rw [getEnt_setEnt_ne (Ne.symm ab)]; exact sb x
      have ga : ∀ x y, getEnt (setEnt (setEnt h.ents d x) a y) a = some y := fun x y => sy_getEnt_setEnt (sa x)
      have I := ih 1
      rw [show ((1 : Nat) : Int) = 1 from rfl] at I
      refine I _ _ _ _ _ _ _ (by omega) (by omega) ⟨⟨?_, ?_⟩, ?_, ?_, ?_, ?_, ?_, ?_⟩ h1 h2
      · repeat (first | refine Under.cons om_ ?_ | exact hu.set.set.le om_)
      · exact hut.le om_
      · (try dsimp only); omega
      · simp (disch := omega) [getEnt, gd]
      · simp (disch := omega) [getEnt, gq]
      · simp (disch := omega) [getEnt, gb]
      · refine .inr ⟨by omega, ?_, ?_, ?_, ?_, ?_⟩
        rotate_left 2
        · simp (disch := omega) [getEnt]
          exact ga _ _
        · simp (disch := omega) [getEnt]
        · omega
      · intro x hx hxd hxa
        have := hfr x hx hxd hxa
        simp (disch := omega) [getEnt, getEnt_setEnt_ne, this]
    · have lt := in_under hu ht
      have td : t ≠ d := by omega
      have ta : t ≠ a := by omega
      have sa : ∀ x, getEnt (setEnt h.ents d x) a = some (.map 1 [(0, .int .i64 3, .imm (.own t u) 4 (List.replicate m VZ))]) := fun x => by rw [getEnt_setEnt_ne (Ne.symm da)]; exact ha
      have st : ∀ x, getEnt (setEnt h.ents d x) t = some (.tok u) := fun x => by rw [getEnt_setEnt_ne td]; exact ht
      have hAl : (List.replicate m VZ).length = m := by simp
      have hA2 : List.replicate m VZ ++ [VZ] = List.replicate (m + 1) VZ := by rw [← List.replicate_succ']
      have gd : ∀ x y z, getEnt (setEnt (setEnt (setEnt h.ents d x) t y) a z) d = some x := fun x y z => by rw [getEnt_setEnt_ne da, getEnt_setEnt_ne (Ne.symm td)]; exact sy_getEnt_setEnt hd
      have gq : ∀ x y z, getEnt (setEnt (setEnt (setEnt h.ents d x) t y) a z) q = some (sta4 a b) := fun x y z => by rw [getEnt_setEnt_ne qa, getEnt_setEnt_ne (by omega)]; exact sq x
      have gb : ∀ x y z, getEnt (setEnt (setEnt (setEnt h.ents d x) t y) a z) b = some (.map 0 []) := fun x y z => by rw [getEnt_setEnt_ne (Ne.symm ab), getEnt_setEnt_ne (by omega)]; exact sb x
      have ga0 : ∀ x y, getEnt (setEnt (setEnt h.ents d x) t y) a = some (.map 1 [(0, .int .i64 3, .imm (.own t u) 4 (List.replicate m VZ))]) := fun x y => by rw [getEnt_setEnt_ne (Ne.symm ta)]; exact sa x
      have gq0 : ∀ x y, getEnt (setEnt (setEnt h.ents d x) t y) q = some (sta4 a b) := fun x y => by rw [getEnt_setEnt_ne (by omega)]; exact sq x
      have ga : ∀ x y z, getEnt (setEnt (setEnt (setEnt h.ents d x) t y) a z) a = some z := fun x y z => sy_getEnt_setEnt (ga0 x y)
      have gt : ∀ x y z, getEnt (setEnt (setEnt (setEnt h.ents d x) t y) a z) t = some y := fun x y z => by rw [getEnt_setEnt_ne ta]; exact sy_getEnt_setEnt (st x)
      generalize hRA : List.replicate m VZ = RA at *
      refine W.loop ?_
      have hZ := j17_ hX hd hq ha hb ht hrl hnth hpt sq sa sb st hAl ga0 gq0 gd
      repeat (first
        | refine vk_ ?_
        | (refine pe_ (field4_3) fun n1 hn1 => ⟨rfl, ?_⟩; (try dsimp only at hn1))
        | (refine pe_ (known4_3) fun n1 hn1 => ⟨rfl, ?_⟩; (try dsimp only at hn1))
        | (refine pe_ (wire_14) fun n1 hn1 => ⟨rfl, ?_⟩; (try dsimp only at hn1))
        | (refine alo4_C (a := a) (b := b) fit_ (by simp (disch := omega) [getEnt, hq]) fun n2 hn2 => ⟨rfl, ?_⟩; (try dsimp only at hn2))
        | (refine S1 fit_ (by simp (disch := omega) [getEnt, hd]) fun n2 hn2 => ⟨rfl, ?_⟩; (try dsimp only at hn2))
        | (refine mk_ 36 c36 (s_ ?_))
        | (refine rk_ ?_; refine ⟨rfl, ?_⟩))
      simp only [dropped, Bool.false_eq_true, if_false]
      by_cases hm3 : m = 2000
      · rw [if_pos (by omega)]
        have hN2 : 2000 < N := by omega
        have h2 := fun h' i w5 w7 w9 w10 w11 w12 => h2 h' i w5 w7 w9 w10 w11 w12 hN2
        have gN : ∀ x y z k, h.next ≤ k → getEnt (setEnt (setEnt (setEnt h.ents d x) t y) a z) k = none := fun x y z k hk => getEnt_under hu.set.set.set hk
        have gd2 : ∀ y z, getEnt (setEnt (setEnt (setEnt h.ents d (dec4 (m + 1) 3)) t y) a z) d = some (dec4 2001 3) := fun y z => by rw [gd, hm3]
        by_cases hj0 : j = 0
        · have hmN2 : ¬ ((m : Int) + 1 < N) := by omega
          refine W.loop ?_
          have hZ := j2_ hrl hpt
          repeat (first
            | refine vk_ ?_)
          refine (h2 _ _ _ _ _ _ _ _ ⟨⟨?_, ?_⟩, ?_, ?_, ?_⟩).1
          · repeat (first | refine Under.cons om_ ?_ | exact hu.set.set.set.le om_)
          · exact hut.le om_
          · (try dsimp only); omega
          · simp (disch := omega) [getEnt, gd2]
          · intro x hx hxd hxa
            have := hfr x hx hxd hxa
            simp (disch := omega) [getEnt, getEnt_setEnt_ne, this]
        · have hmN2 : ((m : Int) + 1 < N) := by omega
          have hpt2 : ((m : Int) + 1).toNat = m + 1 := by omega
          have hnth2 : nth LR (m + 1) = R3 := hnthA (m + 1) (by omega)
          refine W.loop ?_
          have hZ := j5_ hrl hpt2 hnth2 gd2 gN
          repeat (first
            | refine vk_ ?_)
          refine W.ret ?_
          simp only [outOf, thenW_ret, thenW_exit, thenW_normal, roundW, reduceIte]
          refine (h2 _ _ _ _ _ _ _ _ ⟨⟨?_, ?_⟩, ?_, ?_, ?_⟩).2
          · repeat (first | refine Under.cons om_ ?_ | exact hu.set.set.set.le om_)
          · exact hut.le om_
          · (try dsimp only); omega
          · simp (disch := omega) [getEnt, gd2]
          · intro x hx hxd hxa
            have := hfr x hx hxd hxa
            simp (disch := omega) [getEnt, getEnt_setEnt_ne, this]
      · rw [if_neg (by omega)]
        have I := ih (m + 1)
        rw [show ((m + 1 : Nat) : Int) = (m : Int) + 1 from by omega] at I
        refine I _ _ _ _ _ _ _ (by omega) (by omega) ⟨⟨?_, ?_⟩, ?_, ?_, ?_, ?_, ?_, ?_⟩ h1 h2
        · repeat (first | refine Under.cons om_ ?_ | exact hu.set.set.set.le om_)
        · exact hut.le om_
        · (try dsimp only); omega
        · simp (disch := omega) [getEnt, gd]
        · simp (disch := omega) [getEnt, gq]
        · simp (disch := omega) [getEnt, gb]
        · refine .inr ⟨by omega, t, u + 1, ?_, ?_, htn⟩
          · rw [← hA2]
            simp (disch := omega) [getEnt, ga]
          · simp (disch := omega) [getEnt, gt]
        · intro x hx hxd hxa
          have := hfr x hx hxd hxa
          simp (disch := omega) [getEnt, getEnt_setEnt_ne, this]
end Go.Proofs.YtnddcjimijmenaaGreat.IrU
namespace Go.Proofs.YtnddcjimijmenaaGreat.IrU
open Go Go.CI
set_option maxRecDepth 100000
set_option maxHeartbeats 4000000
set_option linter.unusedVariables false
set_option linter.unusedSimpArgs false
attribute [local irreducible] W Wo Wc WoR

theorem dn4_0 {q a b : Nat} {h : CHeap} (hf : Fit h) (hq : getEnt h.ents q = some (sta4 a b)) (ha : getEnt h.ents a = some (.map 0 [])) (hb : getEnt h.ents b = some (.map 0 [])) {K : CVal → CHeap → Prop} (hk : ∀ n' E ty, Fit ⟨E, n', ty⟩ → h.next ≤ n' → (∀ m, m < h.next → getEnt E m = getEnt h.ents m) → K (.agg [.nils, .str []]) ⟨E, n', ty⟩) : Wc tree.getF 21 [.ptr q SD 0] h K := by
  obtain ⟨hu, hut, hX⟩ := fx4 hf
  have lq := in_under hu hq
  have la := in_under hu ha
  have lb := in_under hu hb
  refine mk_ 21 c21 (s_ ?_)
  have hZ := j4_ hX hq ha hb
  repeat (first
    | refine vk_ ?_
    | (refine dk_ ?_; refine W.loop ?_)
    | refine W.loop ?_
    | ((refine Wc.primM (f := 37) (p := (pBString 5)) (by kernel_rfl) ?_; generalize e : ((pBString 5)) _ _ = r; simp (disch := omega) [hZ, pBString, rowOf, CHeap.ty] at e; subst e; (try dsimp only); refine ⟨rfl, ?_⟩))
    | ((refine Wc.primM (f := 38) (p := (pSortedI 65)) (by kernel_rfl) ?_; generalize e : ((pSortedI 65)) _ _ = r; simp (disch := omega) [hZ, pSortedI, keysKI, risesTo, uniqI, sortI, insI] at e; subst e; (try dsimp only); refine ⟨rfl, ?_⟩))
    | (refine mk_ 39 c39 (s_ ?_))
    | (refine rk_ ?_; refine ⟨rfl, ?_⟩))
  refine rk_ ?_
  refine hk _ _ _ ⟨hu.le (by (try dsimp only); omega), hut.le (by (try dsimp only); omega)⟩ ?_ (fun _ _ => rfl)
  exact om_
/-- A message was read, or there were too many values. -/
structure P5 (d q a b : Nat) (h0 h : CHeap) : Prop where
  fit : Fit h
  nx : h0.next ≤ h.next
  dd : ∃ m, getEnt h.ents d = some (dec4 m 0)
  qq : getEnt h.ents q = some (sta4 a b)
  bb : getEnt h.ents b = some (.map 0 [])
  aa : getEnt h.ents a = some (.map 0 []) ∨ getEnt h.ents a = some (.map 1 [(0, .int .i64 2, .nils)]) ∨ (∃ c i u es, (c = 2 ∨ c = 3) ∧ 0 < es.length ∧ getEnt h.ents a = some (.map 1 [(0, .int .i64 c, .imm (.own i u) 4 es)]))
  fr : ∀ x, x < h0.next → x ≠ d → x ≠ a → getEnt h.ents x = getEnt h0.ents x
theorem dn5 {d q a b : Nat} {h0 h : CHeap} (P : P5 d q a b h0 h) {n1 : Nat} (hn1 : h.next ≤ n1) {K : CVal → CHeap → Prop} (hk : ∀ z n' E ty, z.strip = z → z.flat = true → Fit ⟨E, n', ty⟩ → h.next ≤ n' → (∀ m, m < h.next → getEnt E m = getEnt h.ents m) → K (.agg [z, .str []]) ⟨E, n', ty⟩) : Wc tree.getF 21 [.ptr q SD 0] ⟨h.ents, n1, h.tys⟩ K := by
  have f1 : Fit (⟨h.ents, n1, h.tys⟩ : CHeap) := ⟨P.fit.1.le hn1, P.fit.2.le hn1⟩
  rcases P.aa with ha | ha | ⟨c, i, u, es, hc, he, ha⟩
  · exact dn4_0 f1 (by exact P.qq) (by exact ha) (by exact P.bb) fun n' E ty h1 h2 h3 => hk _ n' E ty rfl rfl h1 (Nat.le_trans hn1 h2) (fun m hm => h3 m (Nat.lt_of_lt_of_le hm hn1))
  · exact dn4_n f1 (by exact P.qq) (by exact ha) (by exact P.bb) fun n' E ty h1 h2 h3 => hk _ n' E ty rfl rfl h1 (Nat.le_trans hn1 h2) (fun m hm => h3 m (Nat.lt_of_lt_of_le hm hn1))
  · rcases hc with rfl | rfl
    · exact dn4_2 he f1 (by exact P.qq) (by exact ha) (by exact P.bb) fun n' E ty h1 h2 h3 => hk _ n' E ty rfl rfl h1 (Nat.le_trans hn1 h2) (fun m hm => h3 m (Nat.lt_of_lt_of_le hm hn1))
    · exact dn4_3 he f1 (by exact P.qq) (by exact ha) (by exact P.bb) fun n' E ty h1 h2 h3 => hk _ n' E ty rfl rfl h1 (Nat.le_trans hn1 h2) (fun m hm => h3 m (Nat.lt_of_lt_of_le hm hn1))
/-- What feed does at such bytes. -/
def F5 (bs : List UInt8) (big : Prop) : Prop := ∀ (d q a b : Nat) (h : CHeap), Fit h → getEnt h.ents d = some (dec4 0 0) → getEnt h.ents q = some (sta4 a b) → getEnt h.ents a = some (.map 0 []) → getEnt h.ents b = some (.map 0 []) → d ≠ q → d ≠ a → d ≠ b → q ≠ a → q ≠ b → a ≠ b → ∀ K : CVal → CHeap → Prop, (¬ big → ∀ h', P5 d q a b h h' → K (.tup []) h') → (big → ∀ h', (∃ m, getEnt h'.ents d = some (dec4 m 3)) → E4 d a h.next h h' → K (.tup []) h') → Wc tree.getF 20 [.ptr d DD 0, .ptr q SD 0, .str bs, .int .i64 1] h K
def b2 : Nat → List UInt8
  | 0 => []
  | k + 1 => b2 k ++ [26, 0]
theorem b2_len : ∀ k, (b2 k).length = 2 * k
  | 0 => rfl
  | k + 1 => by simp [b2, b2_len k]; omega
abbrev rc3 : Rc := ⟨3, 2, 0, [], [26, 0]⟩
theorem b2_split : ∀ k, splitF (b2 k) = some (List.replicate k rc3)
  | 0 => rfl
  | k + 1 => by
    have h1 : splitF [26, 0] = some [rc3] := by rfl
    have := splitF_app _ _ _ _ _ (Nat.le_refl _) (b2_split k) h1
    rw [b2, this, ← List.replicate_succ']
theorem f5_2 (k : Nat) (hk23 : k ≤ 2300) : F5 (b2 k) (2000 < k) := by
  intro d q a b h hf hd hq ha hb dq da db qa qb ab K h1 h2
  obtain ⟨hu, hut, hX⟩ := fx4 hf
  have ld := in_under hu hd
  have lq := in_under hu hq
  have la := in_under hu ha
  have lb := in_under hu hb
  have hbl := b2_len k
  have hsp := b2_split k
  generalize b2 k = bs at *
  have P0 : ∀ n1, h.next ≤ n1 → P4 0 d q a b h.next h ⟨h.ents, n1, h.tys⟩ := fun n1 hn => ⟨⟨hu.le hn, hut.le hn⟩, hn, hd, hq, hb, .inl ⟨rfl, ha⟩, fun _ _ _ _ => rfl⟩
  have C4 : ∀ m h', P4 m d q a b h.next h h' → P5 d q a b h h' := fun m h' P => ⟨P.fit, P.nx, ⟨_, P.dd⟩, P.qq, P.bb, by
    rcases P.aa with ⟨_, g⟩ | ⟨g0, t, u, g, _, _⟩
    · exact .inl g
    · exact .inr (.inr ⟨3, t, u, _, .inr rfl, by simpa using g0, g⟩), P.fr⟩
  refine mk_ 20 c20 (s_ ?_)
  repeat ((fail_if_success (show Wc tree.getF 32 _ _ _)); first
    | refine st_ rfl ?_
    | ((first | refine W.regG ?_ | refine WoR.go ?_); generalize e : goR .. = r; simp (disch := omega) [hX] at e; replace e : some _ = _ := e; subst e; (try dsimp only [goW]))
    | (simp only [outOf, thenW_ret, thenW_exit, thenW_normal, roundW, reduceIte]))
  cases k with
  | zero =>
    refine spt4_F (d := d) (n := 0) (by omega) hsp ?_ ?_ fun n1 hn1 => ⟨rfl, ?_⟩
    · exact fit_
    · exact hd
    dsimp only [List.replicate, recsV] at hn1 ⊢
    repeat (first
      | refine vx_ ?_
      | (refine dx_ ?_; refine W.loop ?_)
      | refine W.loop ?_)
    refine r0_ ?_
    exact h1 (by omega) _ (C4 0 _ (P0 _ (by omega)))
  | succ k =>
    have hrv : recsV (List.replicate (k + 1) rc3) = .imm .none 5 (List.replicate (k + 1) R3) := by
      show CVal.imm .none 5 ((List.replicate (k + 1) rc3).map recV) = _
      rw [List.map_replicate]; rfl
    have hrl : (List.replicate (k + 1) R3).length = k + 1 := by rw [List.length_replicate]
    refine spt4_F (d := d) (n := 0) (by omega) hsp ?_ ?_ fun n1 hn1 => ?_
    · exact fit_
    · exact hd
    rw [hrv]
    refine ⟨rfl, ?_⟩
    dsimp only at hn1
    have G := fun Q => f2_go (h0 := h) (N := k + 1) (by omega) ld lq la lb dq da db qa qb ab bs Q (k + 1) 0 ⟨h.ents, n1, h.tys⟩
    push_cast at G
    generalize List.replicate (k + 1) R3 = LR at *
    have hZ := j2_ hX hrl
    repeat ((fail_if_success (show W tree.getF fdM _ _)); first
      | refine st_ rfl ?_
      | ((first | refine W.regG ?_ | refine WoR.go ?_); generalize e : goR .. = r; simp (disch := omega) [hZ] at e; replace e : some _ = _ := e; subst e; (try dsimp only [goW]))
      | (simp only [outOf, thenW_ret, thenW_exit, thenW_normal, roundW, reduceIte]))
    refine G _ _ _ _ _ _ _ (by first | trivial | omega) (by first | trivial | omega) (P0 _ (by omega)) ?_ ?_
    · intro h' i w5 w7 w9 w10 w11 w12 hN P
      simp only [outOf, thenW_ret, thenW_exit, thenW_normal, roundW, reduceIte]
      refine r0_ ?_
      exact h1 (by omega) h' (C4 _ h' P)
    · intro h' i w5 w7 w9 w10 w11 w12 hN P
      have h3 := h2 (by omega) h' ⟨_, P.dd⟩ P
      constructor
      · simp only [outOf, thenW_ret, thenW_exit, thenW_normal, roundW, reduceIte]
        refine r0_ ?_
        exact h3
      · simp only [outOf, thenW_ret, thenW_exit, thenW_normal, roundW, reduceIte]
        refine r0_ ?_
        exact h3
end Go.Proofs.YtnddcjimijmenaaGreat.IrU
namespace Go.Proofs.YtnddcjimijmenaaGreat.IrU
open Go Go.CI
set_option maxRecDepth 100000
set_option maxHeartbeats 4000000
set_option linter.unusedVariables false
set_option linter.unusedSimpArgs false
attribute [local irreducible] W Wo Wc WoR

def b1 (k : Nat) : List UInt8 := 18 :: (vb k ++ List.replicate k 0)
theorem b1_len (k : Nat) (hk : k ≤ 2300) : (b1 k).length ≤ k + 3 := by
  have := vb_len 1 k (by omega)
  simp [b1]; omega
theorem b1_split (k : Nat) (hk : k ≤ 2300) : splitF (b1 k) = some [⟨2, 2, 0, List.replicate k 0, b1 k⟩] := by
  have e1 : varF (b1 k) = some (18, 1) := by
    show varG 0 0 (18 :: _) = _
    unfold varG; rfl
  have e2 : (b1 k).drop 1 = vb k ++ List.replicate k 0 := rfl
  have e0 : oneF (b1 k) = some ⟨2, 2, 0, List.replicate k 0, b1 k⟩ := by
    unfold oneF
    rw [e1]
    dsimp only
    rw [if_neg (by omega), if_neg (by omega), if_pos (by omega), e2, varF_vb (by omega)]
    dsimp only
    have e3 : (b1 k).drop (1 + (vb k).length) = List.replicate k 0 := by
      rw [← List.drop_drop, e2]; simp
    have e4 : (b1 k).take (1 + (vb k).length + k) = b1 k := by
      have : (b1 k).length = 1 + (vb k).length + k := by simp [b1]; omega
      rw [← this]; simp
    rw [e3, e4, if_neg (by simp)]
    have e5 : (List.replicate k (0 : UInt8)).take k = List.replicate k 0 := by rw [List.take_of_length_le (by simp)]
    rw [e5]
  rw [splitF_cons (by simp [b1]) e0]
  simp [splitF_nil]
theorem put2_F (b : List UInt8) (hb : b.length < 16384) : Pe 9 [.agg [.int .i64 2, .int .i64 2, .int .u64 0, .str b, .str []]] (.str (18 :: (vb b.length ++ b))) := by
  intro h hf K hk
  obtain ⟨hu, hut, hX⟩ := fx4 hf
  have V1 := pv_1 18 (by omega)
  rw [vb_small (by omega)] at V1
  have V1 : Pe 16 [.int .u64 18] (.str [18]) := V1
  have V2 := pv_2 b.length hb
  have hvl := vb_len_lt b.length (by omega)
  have e64 : IntKind.u64.wrap (b.length : Int) = (b.length : Int) := sy_wrapu64 (by omega) (by omega)
  have e1 : IntKind.u64.wrap 18 = 18 := rfl
  have e2 : IntKind.u64.wrap 16 = 16 := rfl
  have e3 : IntKind.u64.wrap 8 = 8 := rfl
  have e4 : IntKind.u64.wrap 2 = 2 := rfl
  refine mk_ 9 c9 (s_ ?_)
  have hZ := j6_ hX e64 e1 e2 e3 e4
  repeat (first
    | refine vk_ ?_
    | (refine pe_ (V1) fun n1 hn1 => ⟨rfl, ?_⟩; (try dsimp only at hn1))
    | (refine pe_ (V2) fun n1 hn1 => ⟨rfl, ?_⟩; (try dsimp only at hn1)))
  refine rk_ ?_
  simp only [List.cons_append, List.nil_append] at hk ⊢
  refine hk _ ?_; exact om_
theorem f5_1 (k : Nat) (hk23 : k ≤ 2300) : F5 (b1 k) (2000 < k) := by
  intro d q a b h hf hd hq ha hb dq da db qa qb ab K h1 h2
  obtain ⟨hu, hut, hX⟩ := fx4 hf
  have ld := in_under hu hd
  have lq := in_under hu hq
  have la := in_under hu ha
  have lb := in_under hu hb
  have hbl := b1_len k hk23
  have hsp := b1_split k hk23
  have P1 := fun {h : CHeap} (hf : Fit h) (hg : getEnt h.ents d = some (dec4 0 0)) {K : CVal → CHeap → Prop} => packed_F k hk23 hf hg (K := K)
  have sq : ∀ x, getEnt (setEnt h.ents d x) q = some (sta4 a b) := fun x => by rw [getEnt_setEnt_ne (Ne.symm dq)]; exact hq
  have sb : ∀ x, getEnt (setEnt h.ents d x) b = some (.map 0 []) := fun x => by rw [getEnt_setEnt_ne (Ne.symm db)]; exact hb
  have sa : ∀ x, getEnt (setEnt h.ents d x) a = some (.map 0 []) := fun x => by rw [getEnt_setEnt_ne (Ne.symm da)]; exact ha
  have gd : ∀ x y, getEnt (setEnt (setEnt h.ents d x) a y) d = some x := fun x y => by rw [getEnt_setEnt_ne da]; exact sy_getEnt_setEnt hd
  have gq : ∀ x y, getEnt (setEnt (setEnt h.ents d x) a y) q = some (sta4 a b) := fun x y => by rw [getEnt_setEnt_ne qa]; exact sq x
  have gb : ∀ x y, getEnt (setEnt (setEnt h.ents d x) a y) b = some (.map 0 []) := fun x y => by rw [getEnt_setEnt_ne (Ne.symm ab)]; exact sb x
  have ga : ∀ x y, getEnt (setEnt (setEnt h.ents d x) a y) a = some y := fun x y => sy_getEnt_setEnt (sa x)
  generalize b1 k = bs at *
  generalize hZR : List.replicate k (0 : UInt8) = ZR at *
  refine mk_ 20 c20 (s_ ?_)
  repeat ((fail_if_success (show Wc tree.getF 32 _ _ _)); first
    | refine st_ rfl ?_
    | ((first | refine W.regG ?_ | refine WoR.go ?_); generalize e : goR .. = r; simp (disch := omega) [hX] at e; replace e : some _ = _ := e; subst e; (try dsimp only [goW]))
    | (simp only [outOf, thenW_ret, thenW_exit, thenW_normal, roundW, reduceIte]))
  refine spt4_F (d := d) (n := 0) (by omega) hsp ?_ ?_ fun n1 hn1 => ⟨rfl, ?_⟩
  · exact fit_
  · exact hd
  dsimp only [recsV, List.map, recV] at hn1 ⊢
  have hrl : (0 : Nat) < 1 := by omega
  by_cases hk0 : k = 0
  · have hl0 : lst4 (min k 2001) = .nils := by subst hk0; rfl
    rw [hl0] at P1
    have hZ := j2_ hX hrl
    repeat ((fail_if_success (show W tree.getF fdM _ _)); first
      | refine st_ rfl ?_
      | ((first | refine W.regG ?_ | refine WoR.go ?_); generalize e : goR .. = r; simp (disch := omega) [hZ] at e; replace e : some _ = _ := e; subst e; (try dsimp only [goW]))
      | (simp only [outOf, thenW_ret, thenW_exit, thenW_normal, roundW, reduceIte]))
    refine W.loop ?_
    have hZ := j8_ hX hd hq ha hb sq sa sb
    repeat (first
      | refine vk_ ?_
      | (refine pe_ (field4_2) fun n1 hn1 => ⟨rfl, ?_⟩; (try dsimp only at hn1))
      | (refine pe_ (known4_2) fun n1 hn1 => ⟨rfl, ?_⟩; (try dsimp only at hn1))
      | (refine pe_ (wire_13) fun n1 hn1 => ⟨rfl, ?_⟩; (try dsimp only at hn1))
      | (refine alo4_B (a := a) (b := b) fit_ (by simp (disch := omega) [getEnt, hq]) fun n2 hn2 => ⟨rfl, ?_⟩; (try dsimp only at hn2))
      | (refine P1 fit_ (by simp (disch := omega) [getEnt, hd]) fun n2 hn2 => ⟨rfl, ?_⟩; (try dsimp only at hn2))
      | (refine mk_ 36 c36 (s_ ?_))
      | (refine rk_ ?_; refine ⟨rfl, ?_⟩))
    simp only [dropped, Bool.false_eq_true, if_false]
    refine W.loop ?_
    repeat (first
      | refine v0_ ?_)
    refine r0_ ?_
    have hk2 : ¬ 2000 < k := by omega
    refine h1 hk2 _ ⟨⟨?_, ?_⟩, ?_, ⟨min k 2001, ?_⟩, ?_, ?_, ?_, ?_⟩
    · repeat (first | refine Under.cons om_ ?_ | exact hu.set.set.le om_)
    · exact hut.le om_
    · (try dsimp only); omega
    · simp (disch := omega) [getEnt, gd]
    · simp (disch := omega) [getEnt, gq]
    · simp (disch := omega) [getEnt, gb]
    · exact .inr (.inl (by simp (disch := omega) [getEnt, ga]))
    · intro x hx hxd hxa
      simp (disch := omega) [getEnt, getEnt_setEnt_ne]
  · obtain ⟨es, hes, hle⟩ : ∃ es, lst4 (min k 2001) = .imm .none 4 es ∧ es.length = min k 2001 := by
      refine ⟨List.replicate (min k 2001) VZ, ?_, by simp⟩
      obtain ⟨m, hm⟩ : ∃ m, min k 2001 = m + 1 := ⟨min k 2001 - 1, by omega⟩
      rw [hm]; rfl
    obtain ⟨e0, es, rfl⟩ : ∃ e0 es', es = e0 :: es' := by cases es with | nil => simp at hle; omega | cons a l => exact ⟨a, l, rfl⟩
    simp only [List.length_cons] at hle
    rw [hes] at P1
    have hl1 : es.length + 1 ≤ 2001 := by omega
    have hZ := j3_ hX hrl hl1
    repeat ((fail_if_success (show W tree.getF fdM _ _)); first
      | refine st_ rfl ?_
      | ((first | refine W.regG ?_ | refine WoR.go ?_); generalize e : goR .. = r; simp (disch := omega) [hZ] at e; replace e : some _ = _ := e; subst e; (try dsimp only [goW]))
      | (simp only [outOf, thenW_ret, thenW_exit, thenW_normal, roundW, reduceIte]))
    refine W.loop ?_
    have hZ := j9_ hX hd hq ha hb sq sa sb hl1
    repeat (first
      | refine vk_ ?_
      | (refine pe_ (field4_2) fun n1 hn1 => ⟨rfl, ?_⟩; (try dsimp only at hn1))
      | (refine pe_ (known4_2) fun n1 hn1 => ⟨rfl, ?_⟩; (try dsimp only at hn1))
      | (refine pe_ (wire_13) fun n1 hn1 => ⟨rfl, ?_⟩; (try dsimp only at hn1))
      | (refine alo4_B (a := a) (b := b) fit_ (by simp (disch := omega) [getEnt, hq]) fun n2 hn2 => ⟨rfl, ?_⟩; (try dsimp only at hn2))
      | (refine P1 fit_ (by simp (disch := omega) [getEnt, hd]) fun n2 hn2 => ⟨rfl, ?_⟩; (try dsimp only at hn2))
      | (refine mk_ 36 c36 (s_ ?_))
      | (refine rk_ ?_; refine ⟨rfl, ?_⟩))
    simp only [dropped, Bool.false_eq_true, if_false]
    refine W.loop ?_
    repeat (first
      | refine v0_ ?_)
    refine r0_ ?_
    by_cases hk2 : 2000 < k
    · rw [if_pos hk2]
      refine h2 hk2 _ ⟨min k 2001, ?_⟩ ⟨⟨?_, ?_⟩, ?_, ?_, ?_⟩
      · simp (disch := omega) [getEnt, gd]
      · repeat (first | refine Under.cons om_ ?_ | exact hu.set.set.le om_)
      · exact hut.le om_
      · (try dsimp only); omega
      · rw [show min k 2001 = 2001 from by omega]; simp (disch := omega) [getEnt, gd]
      · intro x hx hxd hxa
        simp (disch := omega) [getEnt, getEnt_setEnt_ne]
    · rw [if_neg hk2]
      refine h1 hk2 _ ⟨⟨?_, ?_⟩, ?_, ⟨min k 2001, ?_⟩, ?_, ?_, ?_, ?_⟩
      · repeat (first | refine Under.cons om_ ?_ | exact hu.set.set.le om_)
      · exact hut.le om_
      · (try dsimp only); omega
      · simp (disch := omega) [getEnt, gd]
      · simp (disch := omega) [getEnt, gq]
      · simp (disch := omega) [getEnt, gb]
      · refine .inr (.inr ⟨2, ?_, ?_, ?_, .inl rfl, ?_, ?_⟩)
        rotate_left 4
        · simp (disch := omega) [getEnt]; exact ga _ _
        · simp
      · intro x hx hxd hxa
        simp (disch := omega) [getEnt, getEnt_setEnt_ne]
end Go.Proofs.YtnddcjimijmenaaGreat.IrU
namespace Go.Proofs.YtnddcjimijmenaaGreat.IrU
open Go Go.CI
set_option maxRecDepth 100000
set_option maxHeartbeats 4000000
set_option linter.unusedVariables false
set_option linter.unusedSimpArgs false
attribute [local irreducible] W Wo Wc WoR

theorem dec5_F (bs : List UInt8) (k : Nat) (hF : F5 bs (2000 < k)) {h : CHeap} (hf : Fit h) {K : CVal → CHeap → Prop} (hk : ∀ z h', z.strip = z → z.flat = true → Fit h' → h.next ≤ h'.next → (∀ m, m < h.next → getEnt h'.ents m = getEnt h.ents m) → K (.tup [.agg [z, .str []], .int .i64 (if 2000 < k then 3 else 0)]) h') : Wc tree.getF 10 [.agg sch4, .str [65], .imm .none 1 (bs.map bv)] h K := by
  obtain ⟨hu, hut, hX⟩ := fx4 hf
  have hbo := bytesOf_bv bs
  generalize bs.map bv = BS at *
  refine mk_ 10 c10 (s_ ?_)
  have hZ := j2_ hX hbo
  repeat ((fail_if_success (show Wc tree.getF 19 _ _ _)); first
    | refine st_ rfl ?_
    | ((first | refine W.regG ?_ | refine WoR.go ?_); generalize e : goR .. = r; simp (disch := omega) [hZ] at e; replace e : some _ = _ := e; subst e; (try dsimp only [goW]))
    | refine W.loop ?_
    | (refine dk_ ?_; refine W.loop ?_)
    | (simp only [outOf, thenW_ret, thenW_exit, thenW_normal, roundW, reduceIte])
    | (refine pe_ (message4) fun m1 hm1 => ⟨rfl, ?_⟩; (try dsimp only at hm1)))
  refine fre4_F (n := 0) (e := 0) fit_ (by simp (disch := omega) [getEnt]) fun z a2 b2 q n1 cs p1 p2 p3 p4 p5 => ⟨rfl, ?_⟩
  dsimp only at p1 p5
  repeat ((fail_if_success (show Wc tree.getF 20 _ _ _)); first
    | refine st_ rfl ?_
    | ((first | refine W.regG ?_ | refine WoR.go ?_); generalize e : goR .. = r; simp (disch := omega) [hZ] at e; replace e : some _ = _ := e; subst e; (try dsimp only [goW]))
    | refine W.loop ?_
    | (refine dk_ ?_; refine W.loop ?_)
    | (simp only [outOf, thenW_ret, thenW_exit, thenW_normal, roundW, reduceIte]))
  refine hF (m1 + 2 + 1 + 1) q a2 b2 _ ?_ ?_ ?_ ?_ ?_ (by omega) (by omega) (by omega) (by omega) (by omega) (by omega) _ ?_ ?_
  · exact fit_
  · simp (disch := omega) [getEnt]
  · simp (disch := omega) [getEnt]
  · simp (disch := omega) [getEnt]
  · simp (disch := omega) [getEnt]
  · intro hb h2 P
    rw [if_neg hb] at hk
    refine ⟨rfl, ?_⟩
    obtain ⟨m, hd2⟩ := P.dd
    have f2 := P.fit
    have fr := P.fr
    have nx := P.nx
    dsimp only at fr nx
    have g5 : getEnt h2.ents (h.next + 1) = some (.cells [.nils, .str []]) := by rw [fr _ (by omega) (by omega) (by omega)]; simp (disch := omega) [getEnt]
    have fr2 : ∀ x, x < h.next → getEnt h2.ents x = getEnt h.ents x := fun x hx => by rw [fr x (by omega) (by omega) (by omega)]; simp (disch := omega) [getEnt]
    obtain ⟨hu2, hut2, hX2⟩ := fx4 f2
    have hZ := j3_ hX2 hd2 g5
    repeat ((fail_if_success (show Wc tree.getF 21 _ _ _)); first
      | refine st_ rfl ?_
      | ((first | refine W.regG ?_ | refine WoR.go ?_); generalize e : goR .. = r; simp (disch := omega) [hZ] at e; replace e : some _ = _ := e; subst e; (try dsimp only [goW]))
      | refine W.loop ?_
      | (refine dk_ ?_; refine W.loop ?_)
      | (simp only [outOf, thenW_ret, thenW_exit, thenW_normal, roundW, reduceIte]))
    refine dn5 P ?_ fun z n3 E ty s1 s2 s3 s4 s5 => ⟨rfl, ?_⟩
    · exact om_
    have g3 : getEnt E (h.next + 1) = some (.cells [.nils, .str []]) := by rw [s5 _ (in_under hu2 g5)]; exact g5
    obtain ⟨hu3, hut3, hX3⟩ := fx4 s3
    dsimp only at hu3 hut3 hX3
    have hY3 := fx5 s3 g3
    dsimp only at hY3
    have hs1 := s1
    simp only [CVal.strip] at hs1
    have hZ := j4_ hX3 g3 hY3 hs1
    repeat (first
      | refine vk_ ?_)
    refine rk_ ?_
    refine hk z ⟨_, _, _⟩ s1 s2 ⟨(un_dropC hu3.set).le (by (try dsimp only); omega), hut3.le (by (try dsimp only); omega)⟩ (by (try dsimp only); omega) fun m hm => ?_
    dsimp only
    rw [ge_dropC hm, getEnt_setEnt_ne (by omega), s5 m (by omega), fr2 m hm]
  · intro hb h2 hd2 P
    rw [if_pos hb] at hk
    refine ⟨rfl, ?_⟩
    obtain ⟨m, hd2⟩ := hd2
    have f2 := P.fit
    have fr := P.fr
    have nx := P.nx
    dsimp only at fr nx
    have g5 : getEnt h2.ents (h.next + 1) = some (.cells [.nils, .str []]) := by rw [fr _ (by omega) (by omega) (by omega)]; simp (disch := omega) [getEnt]
    have fr2 : ∀ x, x < h.next → getEnt h2.ents x = getEnt h.ents x := fun x hx => by rw [fr x (by omega) (by omega) (by omega)]; simp (disch := omega) [getEnt]
    obtain ⟨hu2, hut2, hX2⟩ := fx4 f2
    have hY := fx5 f2 g5
    have hdd : ∀ x, getEnt (setEnt h2.ents (h.next + 1) x) (m1 + 2 + 1 + 1) = some (dec4 m 3) := fun x => by rw [getEnt_setEnt_ne (by omega)]; exact hd2
    have hZ := j5_ hX2 hd2 g5 hY hdd
    repeat (first
      | refine vk_ ?_)
    refine rk_ ?_
    refine hk .nils ⟨_, _, _⟩ rfl rfl ⟨(un_dropC hu2.set).le (by (try dsimp only); omega), hut2.le (by (try dsimp only); omega)⟩ (by (try dsimp only); omega) fun m hm => ?_
    dsimp only
    rw [ge_dropC hm, getEnt_setEnt_ne (by omega), fr2 m hm]
end Go.Proofs.YtnddcjimijmenaaGreat.IrU
namespace Go.Proofs.YtnddcjimijmenaaGreat.IrU
open Go Go.CI
set_option maxRecDepth 100000
set_option maxHeartbeats 4000000
set_option linter.unusedVariables false
set_option linter.unusedSimpArgs false
attribute [local irreducible] W Wo Wc WoR

abbrev TY4 : List (Nat × Nat) := [(9584, 5)]
theorem wc_conc {T : Nat → Option CFn} {m f : Nat} {args : List CVal} {h h' : CHeap} {v : CVal} {K : CVal → CHeap → Prop} (hr : crunF T m f args h = some (v, h')) (hk : K v h') : Wc T f args h K :=
  by unfold Wc; exact ⟨v, h', ⟨m, by rw [crunF_eq] at hr; exact hr⟩, hk⟩
theorem begC {K : CVal → CHeap → Prop} (hk : K (.bool true) ⟨[], 10159, TY4⟩) : Wc tree.getF 6 [] ⟨[], 3, []⟩ K := wc_conc (m := 1000000) (by kernel_rfl) hk
theorem ofC {K : CVal → CHeap → Prop} (hk : K (.tup [.agg sch4, .bool true]) ⟨[], 33982, TY4⟩) : Wc tree.getF 8 [.str [115, 121, 110, 116, 97, 120, 61, 39, 112, 114, 111, 116, 111, 51, 39, 59, 32, 109, 101, 115, 115, 97, 103, 101, 32, 65, 32, 123, 32, 65, 32, 97, 32, 61, 32, 49, 59, 32, 114, 101, 112, 101, 97, 116, 101, 100, 32, 98, 111, 111, 108, 32, 98, 32, 61, 32, 50, 59, 32, 114, 101, 112, 101, 97, 116, 101, 100, 32, 115, 116, 114, 105, 110, 103, 32, 99, 32, 61, 32, 51, 59, 32, 109, 97, 112, 60, 98, 111, 111, 108, 44, 32, 65, 62, 32, 100, 32, 61, 32, 52, 59, 32, 125]] ⟨[], 10166, TY4⟩ K := wc_conc (m := 1000000) (by kernel_rfl) hk
abbrev dpT : CCode := (.seq (.region [.g (.load (some 2) (.var 17)), .v 10, .g (.s2b .imm (.loc 0)), .g (.call false 10 [(.loc 2), (.const (.str [65])), (.loc 0)]), .m (.loc 0), .g (.extract 0 (.loc 0)), .g (.extract 1 (.loc 1)), .g (.lazy 41943042), .g (.init 2 (.loc 0) (.loc 2)), .m (.loc 2)] [(20, 9)] [] []) (.seq (.seq (.region [.v 7, .v 18, .h .gtr 1 0] [(19, 2)] [] []) (.cond (.var 19) (.seq (.region [.v 20, .x .eql 0 (.k 3), .m (.loc 0)] [(21, 2)] [] []) .ret) .skip)) (.seq (.region [.v 20, .x .eql 0 (.k 0), .m (.loc 0)] [(21, 2)] [] []) .ret)))
theorem dp_tail (n how : Int) (k : Nat) (hk23 : k < 2300) (bs : List UInt8) (hF : F5 bs (2000 < k)) (c17 nx : Nat) (hc : c17 < nx) (ty : List (Nat × Nat)) (hty : UnderT ty c17) (w0 w1 w2 w3 w4 w5 w6 w8 w9 w11 w12 w13 w14 w15 w16 w19 w20 : CVal) : W tree.getF dpT ⟨[w0, w1, w2, w3, w4, w5, w6, .int .i64 k, w8, w9, .str bs, w11, w12, w13, w14, w15, w16, .ptr c17 35651586 0, .int .i64 2000, w19, w20, .bool false], ⟨[(c17, .cells sch4)], nx, ty⟩, []⟩ (endW c4 0 fun v _ => v = .bool true) := by
  have hu : Under ([(c17, .cells sch4)] : List (Nat × CObj)) nx := Under.cons hc Under.nil
  have hut : UnderT ty nx := hty.le (by omega)
  have D0 := fun {h : CHeap} (hf : Fit h) {K : CVal → CHeap → Prop} => dec5_F bs k hF (h := h) hf (K := K)
  repeat ((fail_if_success (show Wc tree.getF 10 _ _ _)); first
    | refine st_ rfl ?_
    | ((first | refine W.regG ?_ | refine WoR.go ?_); generalize e : goR .. = r; simp (disch := omega) at e; replace e : some _ = _ := e; subst e; (try dsimp only [goW]))
    | (simp only [outOf, thenW_ret, thenW_exit, thenW_normal, roundW, reduceIte]))
  refine D0 fit_ fun z h3 s1 s2 f3 g3 e3 => ⟨rfl, ?_⟩
  dsimp only at g3 e3
  simp only [CVal.strip] at s1
  by_cases hk : 2000 < k
  · have hk' : (2000 : Int) < k := by omega
    have hZ := j3_ s1 hk' e3
    repeat (first
      | refine vk_ ?_)
    refine r0_ ?_
    rfl
  · have hk' : ¬ (2000 : Int) < k := by omega
    have hZ := j2_ s1 e3
    repeat (first
      | refine vk_ ?_)
    refine r0_ ?_
    rfl
abbrev dpB : CCode := (.loop true (.seq (.seq (.region [.v 13, .v 7, .h .lss 1 0] [(14, 2)] [] []) (.cond (.var 14) .skip (.exit 5))) (.seq (.block 6 (.region [.v 10, .g (.bin .add (.loc 0) (.const (.str [26, 0]))), .m (.loc 0)] [(10, 2)] [] [])) (.region [.v 13, .x .add 0 (.k 1), .m (.loc 0)] [(13, 2)] [] []))))
theorem dp_b (k : Nat) (hk : k < 2300) (h : CHeap) (Q : CExit → CSt → Prop) (w0 w1 w2 w3 w4 w5 w6 w8 w9 w11 w12 w15 w16 w17 w18 w19 w20 w21 : CVal) (hE : ∃ c cs, h.ents = [(c, .cells cs)] ∧ c < h.next) : ∀ (j i nx : Nat) (w14 : CVal), i + j = k → h.next ≤ nx →
    (∀ n' w13 w14, h.next ≤ n' → Q (.exit 5) ⟨[w0, w1, w2, w3, w4, w5, w6, .int .i64 k, w8, w9, .str (b2 k), w11, w12, w13, w14, w15, w16, w17, w18, w19, w20, w21], ⟨h.ents, n', h.tys⟩, []⟩) →
    W tree.getF dpB ⟨[w0, w1, w2, w3, w4, w5, w6, .int .i64 k, w8, w9, .str (b2 i), w11, w12, .int .i64 i, w14, w15, w16, w17, w18, w19, w20, w21], ⟨h.ents, nx, h.tys⟩, []⟩ Q := by
  obtain ⟨c, cs, hE, hc⟩ := hE
  rw [hE]
  intro j
  induction j with
  | zero =>
    intro i nx w14 hi hx h1
    have hi : i = k := by omega
    subst hi
    repeat (first
      | refine v0_ ?_
      | (refine d0_ ?_; refine W.loop ?_)
      | refine W.loop ?_)
    refine h1 _ _ _ ?_; exact om_
  | succ j ih =>
    intro i nx w14 hi hx h1
    have hl := b2_len i
    have ih' := ih (i + 1)
    rw [b2] at ih'
    generalize b2 i = bb at *
    have hix : (i : Int) < k := by omega
    refine W.loop ?_
    repeat (first
      | refine v0_ ?_)
    refine d0_ ?_
    rw [show ((i : Int) + 1) = ((i + 1 : Nat) : Int) from by omega]
    refine ih' _ _ (by omega) ?_ h1
    exact om_
end Go.Proofs.YtnddcjimijmenaaGreat.IrU
namespace Go.Proofs.YtnddcjimijmenaaGreat.IrU
open Go Go.CI
set_option maxRecDepth 100000
set_option maxHeartbeats 4000000
set_option linter.unusedVariables false
set_option linter.unusedSimpArgs false
attribute [local irreducible] W Wo Wc WoR

theorem Ev.block_inv {T : Nat → Option CFn} {i : Nat} {c : CCode} {st st' : CSt} {x : CExit} (h : Ev T (.block i c) st x st') : ∃ y, Ev T c st y st' ∧ x = outOf i y := by
  obtain ⟨n, hx⟩ := h
  cases n with
  | zero => cases hx
  | succ n =>
    rw [exec_succ] at hx
    simp only [execStep] at hx
    cases hc : exec T n c st with
    | none => rw [hc] at hx; cases hx
    | some p =>
      obtain ⟨y, s1⟩ := p
      rw [hc] at hx
      cases y with
      | normal => cases hx; exact ⟨_, ⟨n, hc⟩, rfl⟩
      | ret => cases hx; exact ⟨_, ⟨n, hc⟩, rfl⟩
      | exit j =>
        dsimp only at hx
        split at hx
        · rename_i e; cases hx; exact ⟨_, ⟨n, hc⟩, by simp [outOf, e]⟩
        · rename_i e; cases hx; exact ⟨_, ⟨n, hc⟩, by simp [outOf, e]⟩
theorem W.back {T : Nat → Option CFn} {i : Nat} {c t : CCode} {st : CSt} {Q : CExit → CSt → Prop} (h : W T (.seq (.block i c) t) st Q) : W T c st (fun x st' => thenW T t Q (outOf i x) st') := by
  unfold W at h
  obtain ⟨x, st', h1, h2⟩ := h
  rcases h1.seq_inv with ⟨s1, h3, h4⟩ | ⟨h3, h4⟩
  · obtain ⟨y, h5, h6⟩ := Ev.block_inv h3
    unfold W
    refine ⟨y, s1, h5, ?_⟩
    show thenW T t Q (outOf i y) s1
    rw [← h6]
    show W T t s1 Q
    unfold W
    exact ⟨x, st', h4, h2⟩
  · obtain ⟨y, h5, h6⟩ := Ev.block_inv h3
    unfold W
    refine ⟨y, st', h5, ?_⟩
    show thenW T t Q (outOf i y) st'
    rw [← h6]
    cases x with
    | normal => exact absurd rfl h4
    | ret => exact h2
    | exit j => exact h2
theorem W.of_exec' {T : Nat → Option CFn} {n : Nat} {c : CCode} {st : CSt} {Q : CExit → CSt → Prop} {chk : CSt → Bool} (h : (match execF T n c st with | some (.ret, st') => chk st' | _ => false) = true) (hq : ∀ st', chk st' = true → Q .ret st') : W T c st Q := by
  split at h
  · rename_i st' e
    rw [execF_eq] at e
    unfold W
    exact ⟨.ret, st', ⟨n, e⟩, hq _ h⟩
  · cases h
def saysC (fn : CFunc) (nx : Nat) (st : CSt) : Bool := st.defs.isEmpty && (match endsC fn nx st with | some (.bool true, _) => true | _ => false)
theorem saysC_end {fn : CFunc} {nx : Nat} (st : CSt) (h : saysC fn nx st = true) : endW fn nx (fun v _ => v = .bool true) .ret st := by
  unfold saysC at h
  have h1 : st.defs = [] := by
    cases hd : st.defs with
    | nil => rfl
    | cons a l => rw [hd] at h; cases h
  refine endW.intro h1 ?_
  rw [h1] at h
  split at h
  · rename_i e; rw [e]
  · cases h
abbrev dp0 : CCode := (.seq (.block 0 (.seq (.region [.m (.k 0)] [(8, 0)] [] []) (.block 3 (.loop true (.seq (.seq (.region [.v 8, .v 7, .h .lss 1 0] [(9, 2)] [] []) (.cond (.var 9) .skip (.exit 3))) (.seq (.block 4 (.region [.v 10, .g (.build [(.int .i64 0), (.int .i64 0), (.int .u64 0), (.str []), (.str [])] [(0, 1, (.k 1)), (1, 1, (.k 2)), (3, 1, (.loc 0))]), .g (.call false 9 [(.loc 0)]), .m (.loc 0)] [(10, 3)] [] [])) (.region [.v 8, .x .add 0 (.k 1), .m (.loc 0)] [(8, 2)] [] []))))))) (.seq (.region [.g (.load (some 2) (.var 17)), .v 10, .g (.s2b .imm (.loc 0)), .g (.call false 10 [(.loc 2), (.const (.str [65])), (.loc 0)]), .m (.loc 0), .g (.extract 0 (.loc 0)), .g (.extract 1 (.loc 1)), .g (.lazy 41943042), .g (.init 2 (.loc 0) (.loc 2)), .m (.loc 2)] [(20, 9)] [] []) (.seq (.seq (.region [.v 7, .v 18, .h .gtr 1 0] [(19, 2)] [] []) (.cond (.var 19) (.seq (.region [.v 20, .x .eql 0 (.k 3), .m (.loc 0)] [(21, 2)] [] []) .ret) .skip)) (.seq (.region [.v 20, .x .eql 0 (.k 0), .m (.loc 0)] [(21, 2)] [] []) .ret))))
abbrev dp3 : CCode := (.seq (.block 0 (.seq (.region [.m (.k 0)] [(15, 0)] [] []) (.block 1 (.loop true (.seq (.seq (.region [.v 15, .v 7, .h .lss 1 0] [(16, 2)] [] []) (.cond (.var 16) .skip (.exit 1))) (.seq (.block 2 (.region [.v 10, .g (.build [(.int .i64 0), (.int .i64 0), (.int .u64 0), (.str []), (.str [])] [(0, 1, (.k 2)), (1, 1, (.k 2)), (3, 1, (.loc 0))]), .g (.call false 9 [(.loc 0)]), .g (.build [(.int .i64 0), (.int .i64 0), (.int .u64 0), (.str []), (.str [])] [(0, 1, (.k 4)), (1, 1, (.k 2)), (3, 1, (.loc 0))]), .g (.call false 9 [(.loc 0)]), .m (.loc 0)] [(10, 5)] [] [])) (.region [.v 15, .x .add 0 (.k 1), .m (.loc 0)] [(15, 2)] [] []))))))) (.seq (.region [.g (.load (some 2) (.var 17)), .v 10, .g (.s2b .imm (.loc 0)), .g (.call false 10 [(.loc 2), (.const (.str [65])), (.loc 0)]), .m (.loc 0), .g (.extract 0 (.loc 0)), .g (.extract 1 (.loc 1)), .g (.lazy 41943042), .g (.init 2 (.loc 0) (.loc 2)), .m (.loc 2)] [(20, 9)] [] []) (.seq (.seq (.region [.v 7, .v 18, .h .gtr 1 0] [(19, 2)] [] []) (.cond (.var 19) (.seq (.region [.v 20, .x .eql 0 (.k 3), .m (.loc 0)] [(21, 2)] [] []) .ret) .skip)) (.seq (.region [.v 20, .x .eql 0 (.k 0), .m (.loc 0)] [(21, 2)] [] []) .ret))))
end Go.Proofs.YtnddcjimijmenaaGreat.IrU
namespace Go.Proofs.YtnddcjimijmenaaGreat.IrU
open Go Go.CI
set_option maxRecDepth 100000
set_option maxHeartbeats 4000000
set_option linter.unusedVariables false
set_option linter.unusedSimpArgs false
attribute [local irreducible] W Wo Wc WoR
theorem r0_0 (n how : Int) : W tree.getF dp0 ⟨[.bool false, .int .u16 n, .bool true, .bool false, .int .u8 how, .int .u8 0, .bool true, .int .i64 ((0 : Nat) : Int), .undef, .undef, .str [], .undef, .undef, .undef, .undef, .undef, .undef, .ptr 10163 35651586 0, .int .i64 19, .undef, .undef, .bool false], ⟨[(10163, .cells sch4)], 33998, TY4⟩, []⟩ (endW c4 0 fun v _ => v = .bool true) := W.of_exec' (n := 1000000) (chk := saysC c4 0) (by kernel_rfl) saysC_end
theorem r0_1 (n how : Int) : W tree.getF dp0 ⟨[.bool false, .int .u16 n, .bool true, .bool false, .int .u8 how, .int .u8 0, .bool true, .int .i64 ((1 : Nat) : Int), .undef, .undef, .str [], .undef, .undef, .undef, .undef, .undef, .undef, .ptr 10163 35651586 0, .int .i64 19, .undef, .undef, .bool false], ⟨[(10163, .cells sch4)], 33998, TY4⟩, []⟩ (endW c4 0 fun v _ => v = .bool true) := W.of_exec' (n := 1000000) (chk := saysC c4 0) (by kernel_rfl) saysC_end
theorem r0_2 (n how : Int) : W tree.getF dp0 ⟨[.bool false, .int .u16 n, .bool true, .bool false, .int .u8 how, .int .u8 0, .bool true, .int .i64 ((2 : Nat) : Int), .undef, .undef, .str [], .undef, .undef, .undef, .undef, .undef, .undef, .ptr 10163 35651586 0, .int .i64 19, .undef, .undef, .bool false], ⟨[(10163, .cells sch4)], 33998, TY4⟩, []⟩ (endW c4 0 fun v _ => v = .bool true) := W.of_exec' (n := 1000000) (chk := saysC c4 0) (by kernel_rfl) saysC_end
theorem r0_3 (n how : Int) : W tree.getF dp0 ⟨[.bool false, .int .u16 n, .bool true, .bool false, .int .u8 how, .int .u8 0, .bool true, .int .i64 ((3 : Nat) : Int), .undef, .undef, .str [], .undef, .undef, .undef, .undef, .undef, .undef, .ptr 10163 35651586 0, .int .i64 19, .undef, .undef, .bool false], ⟨[(10163, .cells sch4)], 33998, TY4⟩, []⟩ (endW c4 0 fun v _ => v = .bool true) := W.of_exec' (n := 1000000) (chk := saysC c4 0) (by kernel_rfl) saysC_end
theorem r0_4 (n how : Int) : W tree.getF dp0 ⟨[.bool false, .int .u16 n, .bool true, .bool false, .int .u8 how, .int .u8 0, .bool true, .int .i64 ((4 : Nat) : Int), .undef, .undef, .str [], .undef, .undef, .undef, .undef, .undef, .undef, .ptr 10163 35651586 0, .int .i64 19, .undef, .undef, .bool false], ⟨[(10163, .cells sch4)], 33998, TY4⟩, []⟩ (endW c4 0 fun v _ => v = .bool true) := W.of_exec' (n := 1000000) (chk := saysC c4 0) (by kernel_rfl) saysC_end
theorem r0_5 (n how : Int) : W tree.getF dp0 ⟨[.bool false, .int .u16 n, .bool true, .bool false, .int .u8 how, .int .u8 0, .bool true, .int .i64 ((5 : Nat) : Int), .undef, .undef, .str [], .undef, .undef, .undef, .undef, .undef, .undef, .ptr 10163 35651586 0, .int .i64 19, .undef, .undef, .bool false], ⟨[(10163, .cells sch4)], 33998, TY4⟩, []⟩ (endW c4 0 fun v _ => v = .bool true) := W.of_exec' (n := 1000000) (chk := saysC c4 0) (by kernel_rfl) saysC_end
theorem r0_6 (n how : Int) : W tree.getF dp0 ⟨[.bool false, .int .u16 n, .bool true, .bool false, .int .u8 how, .int .u8 0, .bool true, .int .i64 ((6 : Nat) : Int), .undef, .undef, .str [], .undef, .undef, .undef, .undef, .undef, .undef, .ptr 10163 35651586 0, .int .i64 19, .undef, .undef, .bool false], ⟨[(10163, .cells sch4)], 33998, TY4⟩, []⟩ (endW c4 0 fun v _ => v = .bool true) := W.of_exec' (n := 1000000) (chk := saysC c4 0) (by kernel_rfl) saysC_end
theorem r0_7 (n how : Int) : W tree.getF dp0 ⟨[.bool false, .int .u16 n, .bool true, .bool false, .int .u8 how, .int .u8 0, .bool true, .int .i64 ((7 : Nat) : Int), .undef, .undef, .str [], .undef, .undef, .undef, .undef, .undef, .undef, .ptr 10163 35651586 0, .int .i64 19, .undef, .undef, .bool false], ⟨[(10163, .cells sch4)], 33998, TY4⟩, []⟩ (endW c4 0 fun v _ => v = .bool true) := W.of_exec' (n := 1000000) (chk := saysC c4 0) (by kernel_rfl) saysC_end
theorem r0_8 (n how : Int) : W tree.getF dp0 ⟨[.bool false, .int .u16 n, .bool true, .bool false, .int .u8 how, .int .u8 0, .bool true, .int .i64 ((8 : Nat) : Int), .undef, .undef, .str [], .undef, .undef, .undef, .undef, .undef, .undef, .ptr 10163 35651586 0, .int .i64 19, .undef, .undef, .bool false], ⟨[(10163, .cells sch4)], 33998, TY4⟩, []⟩ (endW c4 0 fun v _ => v = .bool true) := W.of_exec' (n := 1000000) (chk := saysC c4 0) (by kernel_rfl) saysC_end
theorem r0_9 (n how : Int) : W tree.getF dp0 ⟨[.bool false, .int .u16 n, .bool true, .bool false, .int .u8 how, .int .u8 0, .bool true, .int .i64 ((9 : Nat) : Int), .undef, .undef, .str [], .undef, .undef, .undef, .undef, .undef, .undef, .ptr 10163 35651586 0, .int .i64 19, .undef, .undef, .bool false], ⟨[(10163, .cells sch4)], 33998, TY4⟩, []⟩ (endW c4 0 fun v _ => v = .bool true) := W.of_exec' (n := 1000000) (chk := saysC c4 0) (by kernel_rfl) saysC_end
theorem r0_10 (n how : Int) : W tree.getF dp0 ⟨[.bool false, .int .u16 n, .bool true, .bool false, .int .u8 how, .int .u8 0, .bool true, .int .i64 ((10 : Nat) : Int), .undef, .undef, .str [], .undef, .undef, .undef, .undef, .undef, .undef, .ptr 10163 35651586 0, .int .i64 19, .undef, .undef, .bool false], ⟨[(10163, .cells sch4)], 33998, TY4⟩, []⟩ (endW c4 0 fun v _ => v = .bool true) := W.of_exec' (n := 1000000) (chk := saysC c4 0) (by kernel_rfl) saysC_end
theorem r0_11 (n how : Int) : W tree.getF dp0 ⟨[.bool false, .int .u16 n, .bool true, .bool false, .int .u8 how, .int .u8 0, .bool true, .int .i64 ((11 : Nat) : Int), .undef, .undef, .str [], .undef, .undef, .undef, .undef, .undef, .undef, .ptr 10163 35651586 0, .int .i64 19, .undef, .undef, .bool false], ⟨[(10163, .cells sch4)], 33998, TY4⟩, []⟩ (endW c4 0 fun v _ => v = .bool true) := W.of_exec' (n := 1000000) (chk := saysC c4 0) (by kernel_rfl) saysC_end
theorem r0_12 (n how : Int) : W tree.getF dp0 ⟨[.bool false, .int .u16 n, .bool true, .bool false, .int .u8 how, .int .u8 0, .bool true, .int .i64 ((12 : Nat) : Int), .undef, .undef, .str [], .undef, .undef, .undef, .undef, .undef, .undef, .ptr 10163 35651586 0, .int .i64 19, .undef, .undef, .bool false], ⟨[(10163, .cells sch4)], 33998, TY4⟩, []⟩ (endW c4 0 fun v _ => v = .bool true) := W.of_exec' (n := 1000000) (chk := saysC c4 0) (by kernel_rfl) saysC_end
theorem r0_13 (n how : Int) : W tree.getF dp0 ⟨[.bool false, .int .u16 n, .bool true, .bool false, .int .u8 how, .int .u8 0, .bool true, .int .i64 ((13 : Nat) : Int), .undef, .undef, .str [], .undef, .undef, .undef, .undef, .undef, .undef, .ptr 10163 35651586 0, .int .i64 19, .undef, .undef, .bool false], ⟨[(10163, .cells sch4)], 33998, TY4⟩, []⟩ (endW c4 0 fun v _ => v = .bool true) := W.of_exec' (n := 1000000) (chk := saysC c4 0) (by kernel_rfl) saysC_end
theorem r0_14 (n how : Int) : W tree.getF dp0 ⟨[.bool false, .int .u16 n, .bool true, .bool false, .int .u8 how, .int .u8 0, .bool true, .int .i64 ((14 : Nat) : Int), .undef, .undef, .str [], .undef, .undef, .undef, .undef, .undef, .undef, .ptr 10163 35651586 0, .int .i64 19, .undef, .undef, .bool false], ⟨[(10163, .cells sch4)], 33998, TY4⟩, []⟩ (endW c4 0 fun v _ => v = .bool true) := W.of_exec' (n := 1000000) (chk := saysC c4 0) (by kernel_rfl) saysC_end
theorem r0_15 (n how : Int) : W tree.getF dp0 ⟨[.bool false, .int .u16 n, .bool true, .bool false, .int .u8 how, .int .u8 0, .bool true, .int .i64 ((15 : Nat) : Int), .undef, .undef, .str [], .undef, .undef, .undef, .undef, .undef, .undef, .ptr 10163 35651586 0, .int .i64 19, .undef, .undef, .bool false], ⟨[(10163, .cells sch4)], 33998, TY4⟩, []⟩ (endW c4 0 fun v _ => v = .bool true) := W.of_exec' (n := 1000000) (chk := saysC c4 0) (by kernel_rfl) saysC_end
theorem r0_16 (n how : Int) : W tree.getF dp0 ⟨[.bool false, .int .u16 n, .bool true, .bool false, .int .u8 how, .int .u8 0, .bool true, .int .i64 ((16 : Nat) : Int), .undef, .undef, .str [], .undef, .undef, .undef, .undef, .undef, .undef, .ptr 10163 35651586 0, .int .i64 19, .undef, .undef, .bool false], ⟨[(10163, .cells sch4)], 33998, TY4⟩, []⟩ (endW c4 0 fun v _ => v = .bool true) := W.of_exec' (n := 1000000) (chk := saysC c4 0) (by kernel_rfl) saysC_end
theorem r0_17 (n how : Int) : W tree.getF dp0 ⟨[.bool false, .int .u16 n, .bool true, .bool false, .int .u8 how, .int .u8 0, .bool true, .int .i64 ((17 : Nat) : Int), .undef, .undef, .str [], .undef, .undef, .undef, .undef, .undef, .undef, .ptr 10163 35651586 0, .int .i64 19, .undef, .undef, .bool false], ⟨[(10163, .cells sch4)], 33998, TY4⟩, []⟩ (endW c4 0 fun v _ => v = .bool true) := W.of_exec' (n := 1000000) (chk := saysC c4 0) (by kernel_rfl) saysC_end
theorem r0_18 (n how : Int) : W tree.getF dp0 ⟨[.bool false, .int .u16 n, .bool true, .bool false, .int .u8 how, .int .u8 0, .bool true, .int .i64 ((18 : Nat) : Int), .undef, .undef, .str [], .undef, .undef, .undef, .undef, .undef, .undef, .ptr 10163 35651586 0, .int .i64 19, .undef, .undef, .bool false], ⟨[(10163, .cells sch4)], 33998, TY4⟩, []⟩ (endW c4 0 fun v _ => v = .bool true) := W.of_exec' (n := 1000000) (chk := saysC c4 0) (by kernel_rfl) saysC_end
theorem r0_19 (n how : Int) : W tree.getF dp0 ⟨[.bool false, .int .u16 n, .bool true, .bool false, .int .u8 how, .int .u8 0, .bool true, .int .i64 ((19 : Nat) : Int), .undef, .undef, .str [], .undef, .undef, .undef, .undef, .undef, .undef, .ptr 10163 35651586 0, .int .i64 19, .undef, .undef, .bool false], ⟨[(10163, .cells sch4)], 33998, TY4⟩, []⟩ (endW c4 0 fun v _ => v = .bool true) := W.of_exec' (n := 1000000) (chk := saysC c4 0) (by kernel_rfl) saysC_end
theorem r0_20 (n how : Int) : W tree.getF dp0 ⟨[.bool false, .int .u16 n, .bool true, .bool false, .int .u8 how, .int .u8 0, .bool true, .int .i64 ((20 : Nat) : Int), .undef, .undef, .str [], .undef, .undef, .undef, .undef, .undef, .undef, .ptr 10163 35651586 0, .int .i64 19, .undef, .undef, .bool false], ⟨[(10163, .cells sch4)], 33998, TY4⟩, []⟩ (endW c4 0 fun v _ => v = .bool true) := W.of_exec' (n := 1000000) (chk := saysC c4 0) (by kernel_rfl) saysC_end
theorem r0_21 (n how : Int) : W tree.getF dp0 ⟨[.bool false, .int .u16 n, .bool true, .bool false, .int .u8 how, .int .u8 0, .bool true, .int .i64 ((21 : Nat) : Int), .undef, .undef, .str [], .undef, .undef, .undef, .undef, .undef, .undef, .ptr 10163 35651586 0, .int .i64 19, .undef, .undef, .bool false], ⟨[(10163, .cells sch4)], 33998, TY4⟩, []⟩ (endW c4 0 fun v _ => v = .bool true) := W.of_exec' (n := 1000000) (chk := saysC c4 0) (by kernel_rfl) saysC_end
end Go.Proofs.YtnddcjimijmenaaGreat.IrU
namespace Go.Proofs.YtnddcjimijmenaaGreat.IrU
open Go Go.CI
set_option maxRecDepth 100000
set_option maxHeartbeats 4000000
set_option linter.unusedVariables false
set_option linter.unusedSimpArgs false
attribute [local irreducible] W Wo Wc WoR
theorem r0_22 (n how : Int) : W tree.getF dp0 ⟨[.bool false, .int .u16 n, .bool true, .bool false, .int .u8 how, .int .u8 0, .bool true, .int .i64 ((22 : Nat) : Int), .undef, .undef, .str [], .undef, .undef, .undef, .undef, .undef, .undef, .ptr 10163 35651586 0, .int .i64 19, .undef, .undef, .bool false], ⟨[(10163, .cells sch4)], 33998, TY4⟩, []⟩ (endW c4 0 fun v _ => v = .bool true) := W.of_exec' (n := 1000000) (chk := saysC c4 0) (by kernel_rfl) saysC_end
theorem r0_23 (n how : Int) : W tree.getF dp0 ⟨[.bool false, .int .u16 n, .bool true, .bool false, .int .u8 how, .int .u8 0, .bool true, .int .i64 ((23 : Nat) : Int), .undef, .undef, .str [], .undef, .undef, .undef, .undef, .undef, .undef, .ptr 10163 35651586 0, .int .i64 19, .undef, .undef, .bool false], ⟨[(10163, .cells sch4)], 33998, TY4⟩, []⟩ (endW c4 0 fun v _ => v = .bool true) := W.of_exec' (n := 1000000) (chk := saysC c4 0) (by kernel_rfl) saysC_end
theorem r0_24 (n how : Int) : W tree.getF dp0 ⟨[.bool false, .int .u16 n, .bool true, .bool false, .int .u8 how, .int .u8 0, .bool true, .int .i64 ((24 : Nat) : Int), .undef, .undef, .str [], .undef, .undef, .undef, .undef, .undef, .undef, .ptr 10163 35651586 0, .int .i64 19, .undef, .undef, .bool false], ⟨[(10163, .cells sch4)], 33998, TY4⟩, []⟩ (endW c4 0 fun v _ => v = .bool true) := W.of_exec' (n := 1000000) (chk := saysC c4 0) (by kernel_rfl) saysC_end
theorem r0_25 (n how : Int) : W tree.getF dp0 ⟨[.bool false, .int .u16 n, .bool true, .bool false, .int .u8 how, .int .u8 0, .bool true, .int .i64 ((25 : Nat) : Int), .undef, .undef, .str [], .undef, .undef, .undef, .undef, .undef, .undef, .ptr 10163 35651586 0, .int .i64 19, .undef, .undef, .bool false], ⟨[(10163, .cells sch4)], 33998, TY4⟩, []⟩ (endW c4 0 fun v _ => v = .bool true) := W.of_exec' (n := 1000000) (chk := saysC c4 0) (by kernel_rfl) saysC_end
theorem r0_26 (n how : Int) : W tree.getF dp0 ⟨[.bool false, .int .u16 n, .bool true, .bool false, .int .u8 how, .int .u8 0, .bool true, .int .i64 ((26 : Nat) : Int), .undef, .undef, .str [], .undef, .undef, .undef, .undef, .undef, .undef, .ptr 10163 35651586 0, .int .i64 19, .undef, .undef, .bool false], ⟨[(10163, .cells sch4)], 33998, TY4⟩, []⟩ (endW c4 0 fun v _ => v = .bool true) := W.of_exec' (n := 1000000) (chk := saysC c4 0) (by kernel_rfl) saysC_end
theorem r0_27 (n how : Int) : W tree.getF dp0 ⟨[.bool false, .int .u16 n, .bool true, .bool false, .int .u8 how, .int .u8 0, .bool true, .int .i64 ((27 : Nat) : Int), .undef, .undef, .str [], .undef, .undef, .undef, .undef, .undef, .undef, .ptr 10163 35651586 0, .int .i64 19, .undef, .undef, .bool false], ⟨[(10163, .cells sch4)], 33998, TY4⟩, []⟩ (endW c4 0 fun v _ => v = .bool true) := W.of_exec' (n := 1000000) (chk := saysC c4 0) (by kernel_rfl) saysC_end
theorem r0_28 (n how : Int) : W tree.getF dp0 ⟨[.bool false, .int .u16 n, .bool true, .bool false, .int .u8 how, .int .u8 0, .bool true, .int .i64 ((28 : Nat) : Int), .undef, .undef, .str [], .undef, .undef, .undef, .undef, .undef, .undef, .ptr 10163 35651586 0, .int .i64 19, .undef, .undef, .bool false], ⟨[(10163, .cells sch4)], 33998, TY4⟩, []⟩ (endW c4 0 fun v _ => v = .bool true) := W.of_exec' (n := 1000000) (chk := saysC c4 0) (by kernel_rfl) saysC_end
theorem r0_29 (n how : Int) : W tree.getF dp0 ⟨[.bool false, .int .u16 n, .bool true, .bool false, .int .u8 how, .int .u8 0, .bool true, .int .i64 ((29 : Nat) : Int), .undef, .undef, .str [], .undef, .undef, .undef, .undef, .undef, .undef, .ptr 10163 35651586 0, .int .i64 19, .undef, .undef, .bool false], ⟨[(10163, .cells sch4)], 33998, TY4⟩, []⟩ (endW c4 0 fun v _ => v = .bool true) := W.of_exec' (n := 1000000) (chk := saysC c4 0) (by kernel_rfl) saysC_end
theorem r0_30 (n how : Int) : W tree.getF dp0 ⟨[.bool false, .int .u16 n, .bool true, .bool false, .int .u8 how, .int .u8 0, .bool true, .int .i64 ((30 : Nat) : Int), .undef, .undef, .str [], .undef, .undef, .undef, .undef, .undef, .undef, .ptr 10163 35651586 0, .int .i64 19, .undef, .undef, .bool false], ⟨[(10163, .cells sch4)], 33998, TY4⟩, []⟩ (endW c4 0 fun v _ => v = .bool true) := W.of_exec' (n := 1000000) (chk := saysC c4 0) (by kernel_rfl) saysC_end
theorem r0_31 (n how : Int) : W tree.getF dp0 ⟨[.bool false, .int .u16 n, .bool true, .bool false, .int .u8 how, .int .u8 0, .bool true, .int .i64 ((31 : Nat) : Int), .undef, .undef, .str [], .undef, .undef, .undef, .undef, .undef, .undef, .ptr 10163 35651586 0, .int .i64 19, .undef, .undef, .bool false], ⟨[(10163, .cells sch4)], 33998, TY4⟩, []⟩ (endW c4 0 fun v _ => v = .bool true) := W.of_exec' (n := 1000000) (chk := saysC c4 0) (by kernel_rfl) saysC_end
theorem r0_32 (n how : Int) : W tree.getF dp0 ⟨[.bool false, .int .u16 n, .bool true, .bool false, .int .u8 how, .int .u8 0, .bool true, .int .i64 ((32 : Nat) : Int), .undef, .undef, .str [], .undef, .undef, .undef, .undef, .undef, .undef, .ptr 10163 35651586 0, .int .i64 19, .undef, .undef, .bool false], ⟨[(10163, .cells sch4)], 33998, TY4⟩, []⟩ (endW c4 0 fun v _ => v = .bool true) := W.of_exec' (n := 1000000) (chk := saysC c4 0) (by kernel_rfl) saysC_end
theorem r0_33 (n how : Int) : W tree.getF dp0 ⟨[.bool false, .int .u16 n, .bool true, .bool false, .int .u8 how, .int .u8 0, .bool true, .int .i64 ((33 : Nat) : Int), .undef, .undef, .str [], .undef, .undef, .undef, .undef, .undef, .undef, .ptr 10163 35651586 0, .int .i64 19, .undef, .undef, .bool false], ⟨[(10163, .cells sch4)], 33998, TY4⟩, []⟩ (endW c4 0 fun v _ => v = .bool true) := W.of_exec' (n := 1000000) (chk := saysC c4 0) (by kernel_rfl) saysC_end
theorem r0_34 (n how : Int) : W tree.getF dp0 ⟨[.bool false, .int .u16 n, .bool true, .bool false, .int .u8 how, .int .u8 0, .bool true, .int .i64 ((34 : Nat) : Int), .undef, .undef, .str [], .undef, .undef, .undef, .undef, .undef, .undef, .ptr 10163 35651586 0, .int .i64 19, .undef, .undef, .bool false], ⟨[(10163, .cells sch4)], 33998, TY4⟩, []⟩ (endW c4 0 fun v _ => v = .bool true) := W.of_exec' (n := 1000000) (chk := saysC c4 0) (by kernel_rfl) saysC_end
theorem r0_35 (n how : Int) : W tree.getF dp0 ⟨[.bool false, .int .u16 n, .bool true, .bool false, .int .u8 how, .int .u8 0, .bool true, .int .i64 ((35 : Nat) : Int), .undef, .undef, .str [], .undef, .undef, .undef, .undef, .undef, .undef, .ptr 10163 35651586 0, .int .i64 19, .undef, .undef, .bool false], ⟨[(10163, .cells sch4)], 33998, TY4⟩, []⟩ (endW c4 0 fun v _ => v = .bool true) := W.of_exec' (n := 1000000) (chk := saysC c4 0) (by kernel_rfl) saysC_end
theorem r0_36 (n how : Int) : W tree.getF dp0 ⟨[.bool false, .int .u16 n, .bool true, .bool false, .int .u8 how, .int .u8 0, .bool true, .int .i64 ((36 : Nat) : Int), .undef, .undef, .str [], .undef, .undef, .undef, .undef, .undef, .undef, .ptr 10163 35651586 0, .int .i64 19, .undef, .undef, .bool false], ⟨[(10163, .cells sch4)], 33998, TY4⟩, []⟩ (endW c4 0 fun v _ => v = .bool true) := W.of_exec' (n := 1000000) (chk := saysC c4 0) (by kernel_rfl) saysC_end
theorem r0_37 (n how : Int) : W tree.getF dp0 ⟨[.bool false, .int .u16 n, .bool true, .bool false, .int .u8 how, .int .u8 0, .bool true, .int .i64 ((37 : Nat) : Int), .undef, .undef, .str [], .undef, .undef, .undef, .undef, .undef, .undef, .ptr 10163 35651586 0, .int .i64 19, .undef, .undef, .bool false], ⟨[(10163, .cells sch4)], 33998, TY4⟩, []⟩ (endW c4 0 fun v _ => v = .bool true) := W.of_exec' (n := 1000000) (chk := saysC c4 0) (by kernel_rfl) saysC_end
theorem r0_38 (n how : Int) : W tree.getF dp0 ⟨[.bool false, .int .u16 n, .bool true, .bool false, .int .u8 how, .int .u8 0, .bool true, .int .i64 ((38 : Nat) : Int), .undef, .undef, .str [], .undef, .undef, .undef, .undef, .undef, .undef, .ptr 10163 35651586 0, .int .i64 19, .undef, .undef, .bool false], ⟨[(10163, .cells sch4)], 33998, TY4⟩, []⟩ (endW c4 0 fun v _ => v = .bool true) := W.of_exec' (n := 1000000) (chk := saysC c4 0) (by kernel_rfl) saysC_end
theorem r0_39 (n how : Int) : W tree.getF dp0 ⟨[.bool false, .int .u16 n, .bool true, .bool false, .int .u8 how, .int .u8 0, .bool true, .int .i64 ((39 : Nat) : Int), .undef, .undef, .str [], .undef, .undef, .undef, .undef, .undef, .undef, .ptr 10163 35651586 0, .int .i64 19, .undef, .undef, .bool false], ⟨[(10163, .cells sch4)], 33998, TY4⟩, []⟩ (endW c4 0 fun v _ => v = .bool true) := W.of_exec' (n := 1000000) (chk := saysC c4 0) (by kernel_rfl) saysC_end
end Go.Proofs.YtnddcjimijmenaaGreat.IrU
