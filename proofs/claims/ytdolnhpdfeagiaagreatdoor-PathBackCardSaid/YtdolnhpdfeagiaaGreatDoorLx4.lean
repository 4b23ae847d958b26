/- What the functions of the law 'PathBack' do: part 4 of 4. -/
import Derived.Test.YtdolnhpdfeagiaaGreatDoorLx3
namespace Go.Proofs.YtdolnhpdfeagiaaGreatDoor.IrP
open Go Go.CI
set_option maxRecDepth 100000
set_option maxHeartbeats 4000000
set_option linter.unusedVariables false
set_option linter.unusedSimpArgs false
attribute [local irreducible] W Wo Wc WoR

theorem pt_0 : Pe 36 [.str []] (.bool false) := by
  intro h hf K hk
  obtain ⟨hu, hut, hX⟩ := fx4 hf
  refine Wc.mkG 36 c36 (by kernel_rfl) rfl ?_
  generalize e : entryC .. = r
  simp (disch := omega) [c36] at e
  subst e
  repeat (first
    | refine st_ rfl ?_
    | ((first | refine W.regG ?_ | refine WoR.go ?_); generalize e : goR .. = r; simp (disch := omega) [hX, c36] at e; replace e : some _ = _ := e; subst e; (try dsimp only [goW]))
    | ((first | (refine W.ret ?_; (try simp only [outOf, thenW_ret, thenW_exit, roundW, reduceIte]); refine endW.of (.inl rfl) rfl ?_) | refine endW.of (.inl rfl) rfl ?_ | refine endW.of (.inr rfl) rfl ?_); generalize e : endsC .. = r; simp (disch := omega) [hX, c36] at e; subst e; refine hk _ ?_; omega))
theorem nm_0 : Pe 17 [.str []] (.tup [.nils, .int .i64 9]) := by
  intro h hf K hk
  have SP := sp_F [] 46 (by simp)
  have s46 : splitF 46 [] = [[]] := rfl
  rw [s46] at SP
  simp only [List.map_cons, List.map_nil] at SP
  obtain ⟨hu, hut, hX⟩ := fx4 hf
  refine Wc.mkG 17 c17 (by kernel_rfl) rfl ?_
  generalize e : entryC .. = r
  simp (disch := omega) [c17] at e
  subst e
  repeat (first
    | refine st_ rfl ?_
    | ((first | refine W.regG ?_ | refine WoR.go ?_); generalize e : goR .. = r; simp (disch := omega) [hX, c17] at e; replace e : some _ = _ := e; subst e; (try dsimp only [goW]))
    | (refine W.loop ?_)
    | (refine pe_ SP fun n2 g2 => ⟨rfl, ?_⟩; (try dsimp only at g2))
    | (refine pe_ pt_0 fun n3 g3 => ⟨rfl, ?_⟩; (try dsimp only at g3))
    | ((first | (refine W.ret ?_; (try simp only [outOf, thenW_ret, thenW_exit, roundW, reduceIte]); refine endW.of (.inl rfl) rfl ?_) | refine endW.of (.inl rfl) rfl ?_ | refine endW.of (.inr rfl) rfl ?_); generalize e : endsC .. = r; simp (disch := omega) [hX, c17] at e; subst e; refine hk _ ?_; omega))
theorem pc_0 : Pe 7 [.str [44]] (.tup [nil3, .int .i64 9]) := by
  intro h hf K hk
  have SP := sp_F [44] 44 (by simp)
  have s46 : splitF 44 [44] = [[], []] := rfl
  rw [s46] at SP
  simp only [List.map_cons, List.map_nil] at SP
  obtain ⟨hu, hut, hX⟩ := fx4 hf
  refine Wc.mkG 7 c7 (by kernel_rfl) rfl ?_
  generalize e : entryC .. = r
  simp (disch := omega) [c7] at e
  subst e
  repeat (first
    | refine st_ rfl ?_
    | ((first | refine W.regG ?_ | refine WoR.go ?_); generalize e : goR .. = r; simp (disch := omega) [hX, c7] at e; replace e : some _ = _ := e; subst e; (try dsimp only [goW]))
    | (refine W.loop ?_)
    | (refine pe_ SP fun n2 g2 => ⟨rfl, ?_⟩; (try dsimp only at g2))
    | (refine pe_ nm_0 fun n3 g3 => ⟨rfl, ?_⟩; (try dsimp only at g3))
    | ((first | (refine W.ret ?_; (try simp only [outOf, thenW_ret, thenW_exit, roundW, reduceIte]); refine endW.of (.inl rfl) rfl ?_) | refine endW.of (.inl rfl) rfl ?_ | refine endW.of (.inr rfl) rfl ?_); generalize e : endsC .. = r; simp (disch := omega) [hX, c7] at e; subst e; refine hk _ ?_; omega))
end Go.Proofs.YtdolnhpdfeagiaaGreatDoor.IrP
namespace Go.Proofs.YtdolnhpdfeagiaaGreatDoor.IrP
open Go Go.CI
set_option maxRecDepth 100000
set_option maxHeartbeats 4000000
set_option linter.unusedVariables false
set_option linter.unusedSimpArgs false
attribute [local irreducible] W Wo Wc WoR

theorem ps_0 : Pe 7 [.str []] (.tup [nil3, .int .i64 0]) := by
  intro h hf K hk
  obtain ⟨hu, hut, hX⟩ := fx4 hf
  refine Wc.mkG 7 c7 (by kernel_rfl) rfl ?_
  generalize e : entryC .. = r
  simp (disch := omega) [c7] at e
  subst e
  repeat (first
    | refine st_ rfl ?_
    | ((first | refine W.regG ?_ | refine WoR.go ?_); generalize e : goR .. = r; simp (disch := omega) [hX, c7] at e; replace e : some _ = _ := e; subst e; (try dsimp only [goW]))
    | ((first | (refine W.ret ?_; (try simp only [outOf, thenW_ret, thenW_exit, roundW, reduceIte]); refine endW.of (.inl rfl) rfl ?_) | refine endW.of (.inl rfl) rfl ?_ | refine endW.of (.inr rfl) rfl ?_); generalize e : endsC .. = r; simp (disch := omega) [hX, c7] at e; subst e; refine hk _ ?_; omega))
theorem tx_0 : Pe 8 [nil3] (.str []) := by
  intro h hf K hk
  obtain ⟨hu, hut, hX⟩ := fx4 hf
  refine Wc.mkG 8 c8 (by kernel_rfl) rfl ?_
  generalize e : entryC .. = r
  simp (disch := omega) [c8] at e
  subst e
  repeat (first
    | refine st_ rfl ?_
    | ((first | refine W.regG ?_ | refine WoR.go ?_); generalize e : goR .. = r; simp (disch := omega) [hX, c8] at e; replace e : some _ = _ := e; subst e; (try dsimp only [goW]))
    | (refine pe_ (pa_nil _) fun n2 g2 => ⟨rfl, ?_⟩; (try dsimp only at g2))
    | (refine pe_ jn_0 fun n3 g3 => ⟨rfl, ?_⟩; (try dsimp only at g3))
    | ((first | (refine W.ret ?_; (try simp only [outOf, thenW_ret, thenW_exit, roundW, reduceIte]); refine endW.of (.inl rfl) rfl ?_) | refine endW.of (.inl rfl) rfl ?_ | refine endW.of (.inr rfl) rfl ?_); generalize e : endsC .. = r; simp (disch := omega) [hX, c8] at e; subst e; refine hk _ ?_; omega))
theorem law_nil (tn : Int) : Wc tree.getF 3 [.nils, .int .u8 tn] noHeap fun v _ => v = .bool true := by
  have hN0 : noHeap = ⟨[], 0, []⟩ := rfl
  refine Wc.mkG 3 c3 (by kernel_rfl) rfl ?_
  generalize e : entryC .. = r
  simp (disch := omega) [hN0, c3] at e
  subst e
  repeat (first
    | refine st_ rfl ?_
    | ((first | refine W.regG ?_ | refine WoR.go ?_); generalize e : goR .. = r; simp (disch := omega) [c3] at e; replace e : some _ = _ := e; subst e; (try dsimp only [goW]))
    | (refine bgPB fun n1 ty1 hn1 hut1 => ⟨rfl, ?_⟩; (have hu : Under ([] : List (Nat × CObj)) n1 := Under.nil); (have hut := hut1))
    | (refine W.loop ?_)
    | (refine pe_ ps_0 fun n2 g2 => ⟨rfl, ?_⟩; (try dsimp only at g2))
    | (refine pe_ tx_0 fun n3 g3 => ⟨rfl, ?_⟩; (try dsimp only at g3))
    | (refine pe_ pc_0 fun n4 g4 => ⟨rfl, ?_⟩; (try dsimp only at g4))
    | ((first | (refine W.ret ?_; (try simp only [outOf, thenW_ret, thenW_exit, roundW, reduceIte]); refine endW.of (.inl rfl) rfl ?_) | refine endW.of (.inl rfl) rfl ?_ | refine endW.of (.inr rfl) rfl ?_); generalize e : endsC .. = r; simp (disch := omega) [c3] at e; subst e; rfl))
theorem law_emp (tn : Int) : Wc tree.getF 3 [.imm .none 1 [], .int .u8 tn] noHeap fun v _ => v = .bool true := by
  have hN0 : noHeap = ⟨[], 0, []⟩ := rfl
  refine Wc.mkG 3 c3 (by kernel_rfl) rfl ?_
  generalize e : entryC .. = r
  simp (disch := omega) [hN0, c3] at e
  subst e
  repeat (first
    | refine st_ rfl ?_
    | ((first | refine W.regG ?_ | refine WoR.go ?_); generalize e : goR .. = r; simp (disch := omega) [c3] at e; replace e : some _ = _ := e; subst e; (try dsimp only [goW]))
    | (refine bgPB fun n1 ty1 hn1 hut1 => ⟨rfl, ?_⟩; (have hu : Under ([] : List (Nat × CObj)) n1 := Under.nil); (have hut := hut1))
    | (refine W.loop ?_)
    | (refine pe_ ps_0 fun n2 g2 => ⟨rfl, ?_⟩; (try dsimp only at g2))
    | (refine pe_ tx_0 fun n3 g3 => ⟨rfl, ?_⟩; (try dsimp only at g3))
    | (refine pe_ pc_0 fun n4 g4 => ⟨rfl, ?_⟩; (try dsimp only at g4))
    | ((first | (refine W.ret ?_; (try simp only [outOf, thenW_ret, thenW_exit, roundW, reduceIte]); refine endW.of (.inl rfl) rfl ?_) | refine endW.of (.inl rfl) rfl ?_ | refine endW.of (.inr rfl) rfl ?_); generalize e : endsC .. = r; simp (disch := omega) [c3] at e; subst e; rfl))
theorem law_long (xs : List Int) (hl : 8 < xs.length) (tn : Int) : Wc tree.getF 3 [.imm .none 1 (xs.map (CVal.int .u8)), .int .u8 tn] noHeap fun v _ => v = .bool true := by
  have hN0 : noHeap = ⟨[], 0, []⟩ := rfl
  have hl2 : (8 : Int) < (xs.length : Int) := by omega
  refine Wc.mkG 3 c3 (by kernel_rfl) rfl ?_
  generalize e : entryC .. = r
  simp (disch := omega) [hN0, c3] at e
  subst e
  repeat (first
    | refine st_ rfl ?_
    | ((first | refine W.regG ?_ | refine WoR.go ?_); generalize e : goR .. = r; simp (disch := omega) [hl2, c3] at e; replace e : some _ = _ := e; subst e; (try dsimp only [goW]))
    | (refine bgPB fun n1 ty1 hn1 hut1 => ⟨rfl, ?_⟩; (have hu : Under ([] : List (Nat × CObj)) n1 := Under.nil); (have hut := hut1))
    | ((first | (refine W.ret ?_; (try simp only [outOf, thenW_ret, thenW_exit, roundW, reduceIte]); refine endW.of (.inl rfl) rfl ?_) | refine endW.of (.inl rfl) rfl ?_ | refine endW.of (.inr rfl) rfl ?_); generalize e : endsC .. = r; simp (disch := omega) [hl2, c3] at e; subst e; rfl))
theorem lawPB (c : CVal) (xs : List Int) (hc : c = .nils ∧ xs = [] ∨ c = .imm .none 1 (xs.map (CVal.int .u8))) (hw : ∀ x ∈ xs, 0 ≤ x ∧ x < 256) (tn : Int) (ht : 0 ≤ tn ∧ tn < 256) : Wc tree.getF 3 [c, .int .u8 tn] noHeap fun v _ => v = .bool true := by
  rcases hc with ⟨rfl, rfl⟩ | rfl
  · exact law_nil tn
  · rcases Nat.lt_or_ge 8 xs.length with h | h
    · exact law_long xs h tn
    · cases xs with
      | nil => exact law_emp tn
      | cons x xs =>
        obtain ⟨t, rfl⟩ : ∃ t : Nat, tn = (t : Int) := ⟨tn.toNat, by omega⟩
        have e : ((x :: xs).map Int.toNat).map Int.ofNat = x :: xs := by
          rw [List.map_map]
          conv => rhs; rw [← List.map_id (x :: xs)]
          refine List.map_congr_left fun y hy => ?_
          have := hw y hy
          simp only [Function.comp_apply, id]
          show ((y.toNat : Nat) : Int) = y
          omega
        have := law_mid (ks := (x :: xs).map Int.toNat) (tn := t) (fun k hk => by
          obtain ⟨y, hy, rfl⟩ := List.mem_map.1 hk
          have := hw y hy
          omega) (by omega) (by simpa using h) (by simp)
        rw [e] at this
        exact this
end Go.Proofs.YtdolnhpdfeagiaaGreatDoor.IrP
