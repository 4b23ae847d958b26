/- What the functions of the law 'PdecDeep' do: part 3 of 3. -/
import Derived.Test.YtnddcjimijmenaaGreatLx2
namespace Go.Proofs.YtnddcjimijmenaaGreat.IrU
open Go Go.CI
set_option maxRecDepth 100000
set_option maxHeartbeats 4000000
set_option linter.unusedVariables false
set_option linter.unusedSimpArgs false
attribute [local irreducible] W Wo Wc WoR
theorem r3_0 (n how : Int) : W tree.getF dp3 ⟨[.bool false, .int .u16 n, .bool true, .bool false, .int .u8 how, .int .u8 3, .bool false, .int .i64 ((0 : Nat) : Int), .undef, .undef, .str [], .bool false, .bool false, .undef, .undef, .undef, .undef, .ptr 10163 35651586 0, .int .i64 9, .undef, .undef, .bool false], ⟨[(10163, .cells sch4)], 34002, TY4⟩, []⟩ (endW c4 0 fun v _ => v = .bool true) := W.of_exec' (n := 1000000) (chk := saysC c4 0) (by kernel_rfl) saysC_end
theorem r3_1 (n how : Int) : W tree.getF dp3 ⟨[.bool false, .int .u16 n, .bool true, .bool false, .int .u8 how, .int .u8 3, .bool false, .int .i64 ((1 : Nat) : Int), .undef, .undef, .str [], .bool false, .bool false, .undef, .undef, .undef, .undef, .ptr 10163 35651586 0, .int .i64 9, .undef, .undef, .bool false], ⟨[(10163, .cells sch4)], 34002, TY4⟩, []⟩ (endW c4 0 fun v _ => v = .bool true) := W.of_exec' (n := 1000000) (chk := saysC c4 0) (by kernel_rfl) saysC_end
theorem r3_2 (n how : Int) : W tree.getF dp3 ⟨[.bool false, .int .u16 n, .bool true, .bool false, .int .u8 how, .int .u8 3, .bool false, .int .i64 ((2 : Nat) : Int), .undef, .undef, .str [], .bool false, .bool false, .undef, .undef, .undef, .undef, .ptr 10163 35651586 0, .int .i64 9, .undef, .undef, .bool false], ⟨[(10163, .cells sch4)], 34002, TY4⟩, []⟩ (endW c4 0 fun v _ => v = .bool true) := W.of_exec' (n := 1000000) (chk := saysC c4 0) (by kernel_rfl) saysC_end
theorem r3_3 (n how : Int) : W tree.getF dp3 ⟨[.bool false, .int .u16 n, .bool true, .bool false, .int .u8 how, .int .u8 3, .bool false, .int .i64 ((3 : Nat) : Int), .undef, .undef, .str [], .bool false, .bool false, .undef, .undef, .undef, .undef, .ptr 10163 35651586 0, .int .i64 9, .undef, .undef, .bool false], ⟨[(10163, .cells sch4)], 34002, TY4⟩, []⟩ (endW c4 0 fun v _ => v = .bool true) := W.of_exec' (n := 1000000) (chk := saysC c4 0) (by kernel_rfl) saysC_end
theorem r3_4 (n how : Int) : W tree.getF dp3 ⟨[.bool false, .int .u16 n, .bool true, .bool false, .int .u8 how, .int .u8 3, .bool false, .int .i64 ((4 : Nat) : Int), .undef, .undef, .str [], .bool false, .bool false, .undef, .undef, .undef, .undef, .ptr 10163 35651586 0, .int .i64 9, .undef, .undef, .bool false], ⟨[(10163, .cells sch4)], 34002, TY4⟩, []⟩ (endW c4 0 fun v _ => v = .bool true) := W.of_exec' (n := 1000000) (chk := saysC c4 0) (by kernel_rfl) saysC_end
theorem r3_5 (n how : Int) : W tree.getF dp3 ⟨[.bool false, .int .u16 n, .bool true, .bool false, .int .u8 how, .int .u8 3, .bool false, .int .i64 ((5 : Nat) : Int), .undef, .undef, .str [], .bool false, .bool false, .undef, .undef, .undef, .undef, .ptr 10163 35651586 0, .int .i64 9, .undef, .undef, .bool false], ⟨[(10163, .cells sch4)], 34002, TY4⟩, []⟩ (endW c4 0 fun v _ => v = .bool true) := W.of_exec' (n := 1000000) (chk := saysC c4 0) (by kernel_rfl) saysC_end
theorem r3_6 (n how : Int) : W tree.getF dp3 ⟨[.bool false, .int .u16 n, .bool true, .bool false, .int .u8 how, .int .u8 3, .bool false, .int .i64 ((6 : Nat) : Int), .undef, .undef, .str [], .bool false, .bool false, .undef, .undef, .undef, .undef, .ptr 10163 35651586 0, .int .i64 9, .undef, .undef, .bool false], ⟨[(10163, .cells sch4)], 34002, TY4⟩, []⟩ (endW c4 0 fun v _ => v = .bool true) := W.of_exec' (n := 1000000) (chk := saysC c4 0) (by kernel_rfl) saysC_end
theorem r3_7 (n how : Int) : W tree.getF dp3 ⟨[.bool false, .int .u16 n, .bool true, .bool false, .int .u8 how, .int .u8 3, .bool false, .int .i64 ((7 : Nat) : Int), .undef, .undef, .str [], .bool false, .bool false, .undef, .undef, .undef, .undef, .ptr 10163 35651586 0, .int .i64 9, .undef, .undef, .bool false], ⟨[(10163, .cells sch4)], 34002, TY4⟩, []⟩ (endW c4 0 fun v _ => v = .bool true) := W.of_exec' (n := 1000000) (chk := saysC c4 0) (by kernel_rfl) saysC_end
theorem r3_8 (n how : Int) : W tree.getF dp3 ⟨[.bool false, .int .u16 n, .bool true, .bool false, .int .u8 how, .int .u8 3, .bool false, .int .i64 ((8 : Nat) : Int), .undef, .undef, .str [], .bool false, .bool false, .undef, .undef, .undef, .undef, .ptr 10163 35651586 0, .int .i64 9, .undef, .undef, .bool false], ⟨[(10163, .cells sch4)], 34002, TY4⟩, []⟩ (endW c4 0 fun v _ => v = .bool true) := W.of_exec' (n := 1000000) (chk := saysC c4 0) (by kernel_rfl) saysC_end
theorem r3_9 (n how : Int) : W tree.getF dp3 ⟨[.bool false, .int .u16 n, .bool true, .bool false, .int .u8 how, .int .u8 3, .bool false, .int .i64 ((9 : Nat) : Int), .undef, .undef, .str [], .bool false, .bool false, .undef, .undef, .undef, .undef, .ptr 10163 35651586 0, .int .i64 9, .undef, .undef, .bool false], ⟨[(10163, .cells sch4)], 34002, TY4⟩, []⟩ (endW c4 0 fun v _ => v = .bool true) := W.of_exec' (n := 1000000) (chk := saysC c4 0) (by kernel_rfl) saysC_end
theorem r3_10 (n how : Int) : W tree.getF dp3 ⟨[.bool false, .int .u16 n, .bool true, .bool false, .int .u8 how, .int .u8 3, .bool false, .int .i64 ((10 : Nat) : Int), .undef, .undef, .str [], .bool false, .bool false, .undef, .undef, .undef, .undef, .ptr 10163 35651586 0, .int .i64 9, .undef, .undef, .bool false], ⟨[(10163, .cells sch4)], 34002, TY4⟩, []⟩ (endW c4 0 fun v _ => v = .bool true) := W.of_exec' (n := 1000000) (chk := saysC c4 0) (by kernel_rfl) saysC_end
theorem r3_11 (n how : Int) : W tree.getF dp3 ⟨[.bool false, .int .u16 n, .bool true, .bool false, .int .u8 how, .int .u8 3, .bool false, .int .i64 ((11 : Nat) : Int), .undef, .undef, .str [], .bool false, .bool false, .undef, .undef, .undef, .undef, .ptr 10163 35651586 0, .int .i64 9, .undef, .undef, .bool false], ⟨[(10163, .cells sch4)], 34002, TY4⟩, []⟩ (endW c4 0 fun v _ => v = .bool true) := W.of_exec' (n := 1000000) (chk := saysC c4 0) (by kernel_rfl) saysC_end
theorem r3_12 (n how : Int) : W tree.getF dp3 ⟨[.bool false, .int .u16 n, .bool true, .bool false, .int .u8 how, .int .u8 3, .bool false, .int .i64 ((12 : Nat) : Int), .undef, .undef, .str [], .bool false, .bool false, .undef, .undef, .undef, .undef, .ptr 10163 35651586 0, .int .i64 9, .undef, .undef, .bool false], ⟨[(10163, .cells sch4)], 34002, TY4⟩, []⟩ (endW c4 0 fun v _ => v = .bool true) := W.of_exec' (n := 1000000) (chk := saysC c4 0) (by kernel_rfl) saysC_end
theorem r3_13 (n how : Int) : W tree.getF dp3 ⟨[.bool false, .int .u16 n, .bool true, .bool false, .int .u8 how, .int .u8 3, .bool false, .int .i64 ((13 : Nat) : Int), .undef, .undef, .str [], .bool false, .bool false, .undef, .undef, .undef, .undef, .ptr 10163 35651586 0, .int .i64 9, .undef, .undef, .bool false], ⟨[(10163, .cells sch4)], 34002, TY4⟩, []⟩ (endW c4 0 fun v _ => v = .bool true) := W.of_exec' (n := 1000000) (chk := saysC c4 0) (by kernel_rfl) saysC_end
theorem r3_14 (n how : Int) : W tree.getF dp3 ⟨[.bool false, .int .u16 n, .bool true, .bool false, .int .u8 how, .int .u8 3, .bool false, .int .i64 ((14 : Nat) : Int), .undef, .undef, .str [], .bool false, .bool false, .undef, .undef, .undef, .undef, .ptr 10163 35651586 0, .int .i64 9, .undef, .undef, .bool false], ⟨[(10163, .cells sch4)], 34002, TY4⟩, []⟩ (endW c4 0 fun v _ => v = .bool true) := W.of_exec' (n := 1000000) (chk := saysC c4 0) (by kernel_rfl) saysC_end
theorem r3_15 (n how : Int) : W tree.getF dp3 ⟨[.bool false, .int .u16 n, .bool true, .bool false, .int .u8 how, .int .u8 3, .bool false, .int .i64 ((15 : Nat) : Int), .undef, .undef, .str [], .bool false, .bool false, .undef, .undef, .undef, .undef, .ptr 10163 35651586 0, .int .i64 9, .undef, .undef, .bool false], ⟨[(10163, .cells sch4)], 34002, TY4⟩, []⟩ (endW c4 0 fun v _ => v = .bool true) := W.of_exec' (n := 1000000) (chk := saysC c4 0) (by kernel_rfl) saysC_end
theorem r3_16 (n how : Int) : W tree.getF dp3 ⟨[.bool false, .int .u16 n, .bool true, .bool false, .int .u8 how, .int .u8 3, .bool false, .int .i64 ((16 : Nat) : Int), .undef, .undef, .str [], .bool false, .bool false, .undef, .undef, .undef, .undef, .ptr 10163 35651586 0, .int .i64 9, .undef, .undef, .bool false], ⟨[(10163, .cells sch4)], 34002, TY4⟩, []⟩ (endW c4 0 fun v _ => v = .bool true) := W.of_exec' (n := 1000000) (chk := saysC c4 0) (by kernel_rfl) saysC_end
theorem r3_17 (n how : Int) : W tree.getF dp3 ⟨[.bool false, .int .u16 n, .bool true, .bool false, .int .u8 how, .int .u8 3, .bool false, .int .i64 ((17 : Nat) : Int), .undef, .undef, .str [], .bool false, .bool false, .undef, .undef, .undef, .undef, .ptr 10163 35651586 0, .int .i64 9, .undef, .undef, .bool false], ⟨[(10163, .cells sch4)], 34002, TY4⟩, []⟩ (endW c4 0 fun v _ => v = .bool true) := W.of_exec' (n := 1000000) (chk := saysC c4 0) (by kernel_rfl) saysC_end
theorem r3_18 (n how : Int) : W tree.getF dp3 ⟨[.bool false, .int .u16 n, .bool true, .bool false, .int .u8 how, .int .u8 3, .bool false, .int .i64 ((18 : Nat) : Int), .undef, .undef, .str [], .bool false, .bool false, .undef, .undef, .undef, .undef, .ptr 10163 35651586 0, .int .i64 9, .undef, .undef, .bool false], ⟨[(10163, .cells sch4)], 34002, TY4⟩, []⟩ (endW c4 0 fun v _ => v = .bool true) := W.of_exec' (n := 1000000) (chk := saysC c4 0) (by kernel_rfl) saysC_end
theorem r3_19 (n how : Int) : W tree.getF dp3 ⟨[.bool false, .int .u16 n, .bool true, .bool false, .int .u8 how, .int .u8 3, .bool false, .int .i64 ((19 : Nat) : Int), .undef, .undef, .str [], .bool false, .bool false, .undef, .undef, .undef, .undef, .ptr 10163 35651586 0, .int .i64 9, .undef, .undef, .bool false], ⟨[(10163, .cells sch4)], 34002, TY4⟩, []⟩ (endW c4 0 fun v _ => v = .bool true) := W.of_exec' (n := 1000000) (chk := saysC c4 0) (by kernel_rfl) saysC_end
theorem r3_20 (n how : Int) : W tree.getF dp3 ⟨[.bool false, .int .u16 n, .bool true, .bool false, .int .u8 how, .int .u8 3, .bool false, .int .i64 ((20 : Nat) : Int), .undef, .undef, .str [], .bool false, .bool false, .undef, .undef, .undef, .undef, .ptr 10163 35651586 0, .int .i64 9, .undef, .undef, .bool false], ⟨[(10163, .cells sch4)], 34002, TY4⟩, []⟩ (endW c4 0 fun v _ => v = .bool true) := W.of_exec' (n := 1000000) (chk := saysC c4 0) (by kernel_rfl) saysC_end
theorem r3_21 (n how : Int) : W tree.getF dp3 ⟨[.bool false, .int .u16 n, .bool true, .bool false, .int .u8 how, .int .u8 3, .bool false, .int .i64 ((21 : Nat) : Int), .undef, .undef, .str [], .bool false, .bool false, .undef, .undef, .undef, .undef, .ptr 10163 35651586 0, .int .i64 9, .undef, .undef, .bool false], ⟨[(10163, .cells sch4)], 34002, TY4⟩, []⟩ (endW c4 0 fun v _ => v = .bool true) := W.of_exec' (n := 1000000) (chk := saysC c4 0) (by kernel_rfl) saysC_end
theorem r3_22 (n how : Int) : W tree.getF dp3 ⟨[.bool false, .int .u16 n, .bool true, .bool false, .int .u8 how, .int .u8 3, .bool false, .int .i64 ((22 : Nat) : Int), .undef, .undef, .str [], .bool false, .bool false, .undef, .undef, .undef, .undef, .ptr 10163 35651586 0, .int .i64 9, .undef, .undef, .bool false], ⟨[(10163, .cells sch4)], 34002, TY4⟩, []⟩ (endW c4 0 fun v _ => v = .bool true) := W.of_exec' (n := 1000000) (chk := saysC c4 0) (by kernel_rfl) saysC_end
theorem r3_23 (n how : Int) : W tree.getF dp3 ⟨[.bool false, .int .u16 n, .bool true, .bool false, .int .u8 how, .int .u8 3, .bool false, .int .i64 ((23 : Nat) : Int), .undef, .undef, .str [], .bool false, .bool false, .undef, .undef, .undef, .undef, .ptr 10163 35651586 0, .int .i64 9, .undef, .undef, .bool false], ⟨[(10163, .cells sch4)], 34002, TY4⟩, []⟩ (endW c4 0 fun v _ => v = .bool true) := W.of_exec' (n := 1000000) (chk := saysC c4 0) (by kernel_rfl) saysC_end
theorem r3_24 (n how : Int) : W tree.getF dp3 ⟨[.bool false, .int .u16 n, .bool true, .bool false, .int .u8 how, .int .u8 3, .bool false, .int .i64 ((24 : Nat) : Int), .undef, .undef, .str [], .bool false, .bool false, .undef, .undef, .undef, .undef, .ptr 10163 35651586 0, .int .i64 9, .undef, .undef, .bool false], ⟨[(10163, .cells sch4)], 34002, TY4⟩, []⟩ (endW c4 0 fun v _ => v = .bool true) := W.of_exec' (n := 1000000) (chk := saysC c4 0) (by kernel_rfl) saysC_end
end Go.Proofs.YtnddcjimijmenaaGreat.IrU
namespace Go.Proofs.YtnddcjimijmenaaGreat.IrU
open Go Go.CI
set_option maxRecDepth 100000
set_option maxHeartbeats 4000000
set_option linter.unusedVariables false
set_option linter.unusedSimpArgs false
attribute [local irreducible] W Wo Wc WoR
theorem run0 (n how : Int) : ∀ j : Nat, j < 40 → W tree.getF dp0 ⟨[.bool false, .int .u16 n, .bool true, .bool false, .int .u8 how, .int .u8 0, .bool true, .int .i64 ((j : Nat) : Int), .undef, .undef, .str [], .undef, .undef, .undef, .undef, .undef, .undef, .ptr 10163 35651586 0, .int .i64 19, .undef, .undef, .bool false], ⟨[(10163, .cells sch4)], 33998, TY4⟩, []⟩ (endW c4 0 fun v _ => v = .bool true)
  | 0, _ => r0_0 n how
  | 1, _ => r0_1 n how
  | 2, _ => r0_2 n how
  | 3, _ => r0_3 n how
  | 4, _ => r0_4 n how
  | 5, _ => r0_5 n how
  | 6, _ => r0_6 n how
  | 7, _ => r0_7 n how
  | 8, _ => r0_8 n how
  | 9, _ => r0_9 n how
  | 10, _ => r0_10 n how
  | 11, _ => r0_11 n how
  | 12, _ => r0_12 n how
  | 13, _ => r0_13 n how
  | 14, _ => r0_14 n how
  | 15, _ => r0_15 n how
  | 16, _ => r0_16 n how
  | 17, _ => r0_17 n how
  | 18, _ => r0_18 n how
  | 19, _ => r0_19 n how
  | 20, _ => r0_20 n how
  | 21, _ => r0_21 n how
  | 22, _ => r0_22 n how
  | 23, _ => r0_23 n how
  | 24, _ => r0_24 n how
  | 25, _ => r0_25 n how
  | 26, _ => r0_26 n how
  | 27, _ => r0_27 n how
  | 28, _ => r0_28 n how
  | 29, _ => r0_29 n how
  | 30, _ => r0_30 n how
  | 31, _ => r0_31 n how
  | 32, _ => r0_32 n how
  | 33, _ => r0_33 n how
  | 34, _ => r0_34 n how
  | 35, _ => r0_35 n how
  | 36, _ => r0_36 n how
  | 37, _ => r0_37 n how
  | 38, _ => r0_38 n how
  | 39, _ => r0_39 n how
  | j + 40, h => absurd h (by omega)
theorem run3 (n how : Int) : ∀ j : Nat, j < 25 → W tree.getF dp3 ⟨[.bool false, .int .u16 n, .bool true, .bool false, .int .u8 how, .int .u8 3, .bool false, .int .i64 ((j : Nat) : Int), .undef, .undef, .str [], .bool false, .bool false, .undef, .undef, .undef, .undef, .ptr 10163 35651586 0, .int .i64 9, .undef, .undef, .bool false], ⟨[(10163, .cells sch4)], 34002, TY4⟩, []⟩ (endW c4 0 fun v _ => v = .bool true)
  | 0, _ => r3_0 n how
  | 1, _ => r3_1 n how
  | 2, _ => r3_2 n how
  | 3, _ => r3_3 n how
  | 4, _ => r3_4 n how
  | 5, _ => r3_5 n how
  | 6, _ => r3_6 n how
  | 7, _ => r3_7 n how
  | 8, _ => r3_8 n how
  | 9, _ => r3_9 n how
  | 10, _ => r3_10 n how
  | 11, _ => r3_11 n how
  | 12, _ => r3_12 n how
  | 13, _ => r3_13 n how
  | 14, _ => r3_14 n how
  | 15, _ => r3_15 n how
  | 16, _ => r3_16 n how
  | 17, _ => r3_17 n how
  | 18, _ => r3_18 n how
  | 19, _ => r3_19 n how
  | 20, _ => r3_20 n how
  | 21, _ => r3_21 n how
  | 22, _ => r3_22 n how
  | 23, _ => r3_23 n how
  | 24, _ => r3_24 n how
  | j + 25, h => absurd h (by omega)
end Go.Proofs.YtnddcjimijmenaaGreat.IrU
namespace Go.Proofs.YtnddcjimijmenaaGreat.IrU
open Go Go.CI
set_option maxRecDepth 100000
set_option maxHeartbeats 4000000
set_option linter.unusedVariables false
set_option linter.unusedSimpArgs false
attribute [local irreducible] W Wo Wc WoR

theorem lawPD (n how : Int) (h0 : 0 ≤ n ∧ n < 65536) (h1 : 0 ≤ how ∧ how < 256) : Wc tree.getF 4 [.int .u16 n, .int .u8 how] noHeap fun v _ => v = .bool true := by
  unfold noHeap
  obtain ⟨k, hk0, hk⟩ : ∃ k : Nat, Int.tmod n 2300 = (k : Int) ∧ k < 2300 := ⟨(Int.tmod n 2300).toNat, by rw [Int.tmod_eq_emod_of_nonneg h0.1]; omega, by rw [Int.tmod_eq_emod_of_nonneg h0.1]; omega⟩
  obtain ⟨w, hw0, hw⟩ : ∃ w : Nat, Int.tmod how 4 = (w : Int) ∧ w < 4 := ⟨(Int.tmod how 4).toNat, by rw [Int.tmod_eq_emod_of_nonneg h1.1]; omega, by rw [Int.tmod_eq_emod_of_nonneg h1.1]; omega⟩
  have ekw : IntKind.i64.wrap (k : Int) = (k : Int) := by rw [sy_wrap64 (by omega) (by omega)]
  refine mk_ 4 c4 (s_ ?_)
  repeat ((fail_if_success (show Wc tree.getF 6 _ _ _)); first
    | refine st_ rfl ?_
    | ((first | refine W.regG ?_ | refine WoR.go ?_); generalize e : goR .. = r; simp (disch := omega) at e; replace e : some _ = _ := e; subst e; (try dsimp only [goW]))
    | refine W.loop ?_
    | (refine d0_ ?_; refine W.loop ?_)
    | (simp only [outOf, thenW_ret, thenW_exit, thenW_normal, roundW, reduceIte]))
  refine begC ⟨rfl, ?_⟩
  repeat ((fail_if_success (show Wc tree.getF 8 _ _ _)); first
    | refine st_ rfl ?_
    | ((first | refine W.regG ?_ | refine WoR.go ?_); generalize e : goR .. = r; simp (disch := omega) at e; replace e : some _ = _ := e; subst e; (try dsimp only [goW]))
    | refine W.loop ?_
    | (refine d0_ ?_; refine W.loop ?_)
    | (simp only [outOf, thenW_ret, thenW_exit, thenW_normal, roundW, reduceIte]))
  refine ofC ⟨rfl, ?_⟩
  have hZ := j3_ hk0 hw0 ekw
  repeat ((fail_if_success (show W tree.getF (.seq (.region [.g (.bin .eql (.var 5) (.const (.int .u8 0))), .m (.loc 0)] [(6, 1)] [] []) (.cond (.var 6) (.seq (.region [.m (.const (.int .i64 19))] [(18, 0)] [] []) (.seq (.region [.v 7, .g (.bin .rem (.loc 0) (.const (.int .i64 40))), .m (.loc 0)] [(7, 2)] [] []) (.seq (.region [.m (.const (.int .i64 0))] [(8, 0)] [] []) (.block 3 (.loop true (.seq (.seq (.region [.v 8, .v 7, .g (.bin .lss (.loc 1) (.loc 0))] [(9, 2)] [] []) (.cond (.var 9) .skip (.exit 3))) (.seq (.block 4 (.region [.v 10, .g (.build [(.int .i64 0), (.int .i64 0), (.int .u64 0), (.str []), (.str [])] [(0, 1, (.const (.int .i64 1))), (1, 1, (.const (.int .i64 2))), (3, 1, (.loc 0))]), .g (.call false 9 [(.loc 0)]), .m (.loc 0)] [(10, 3)] [] [])) (.region [.v 8, .g (.bin .add (.loc 0) (.const (.int .i64 1))), .m (.loc 0)] [(8, 2)] [] [])))))))) (.seq (.region [.g (.bin .eql (.var 5) (.const (.int .u8 1))), .m (.loc 0)] [(11, 1)] [] []) (.cond (.var 11) (.region [.v 7, .g (.mkslice .imm false [(.int .u8 0)] (.loc 0) (.loc 0)), .g (.b2s (.loc 0)), .g (.build [(.int .i64 0), (.int .i64 0), (.int .u64 0), (.str []), (.str [])] [(0, 1, (.const (.int .i64 2))), (1, 1, (.const (.int .i64 2))), (3, 1, (.loc 0))]), .g (.call false 9 [(.loc 0)]), .m (.loc 0)] [(10, 5)] [] []) (.seq (.region [.g (.bin .eql (.var 5) (.const (.int .u8 2))), .m (.loc 0)] [(12, 1)] [] []) (.cond (.var 12) (.seq (.region [.m (.const (.int .i64 0))] [(13, 0)] [] []) (.block 5 (.loop true (.seq (.seq (.region [.v 13, .v 7, .g (.bin .lss (.loc 1) (.loc 0))] [(14, 2)] [] []) (.cond (.var 14) .skip (.exit 5))) (.seq (.block 6 (.region [.v 10, .g (.bin .add (.loc 0) (.const (.str [26, 0]))), .m (.loc 0)] [(10, 2)] [] [])) (.region [.v 13, .g (.bin .add (.loc 0) (.const (.int .i64 1))), .m (.loc 0)] [(13, 2)] [] [])))))) (.seq (.region [.m (.const (.int .i64 9))] [(18, 0)] [] []) (.seq (.region [.v 7, .g (.bin .rem (.loc 0) (.const (.int .i64 25))), .m (.loc 0)] [(7, 2)] [] []) (.seq (.region [.m (.const (.int .i64 0))] [(15, 0)] [] []) (.block 1 (.loop true (.seq (.seq (.region [.v 15, .v 7, .g (.bin .lss (.loc 1) (.loc 0))] [(16, 2)] [] []) (.cond (.var 16) .skip (.exit 1))) (.seq (.block 2 (.region [.v 10, .g (.build [(.int .i64 0), (.int .i64 0), (.int .u64 0), (.str []), (.str [])] [(0, 1, (.const (.int .i64 2))), (1, 1, (.const (.int .i64 2))), (3, 1, (.loc 0))]), .g (.call false 9 [(.loc 0)]), .g (.build [(.int .i64 0), (.int .i64 0), (.int .u64 0), (.str []), (.str [])] [(0, 1, (.const (.int .i64 4))), (1, 1, (.const (.int .i64 2))), (3, 1, (.loc 0))]), .g (.call false 9 [(.loc 0)]), .m (.loc 0)] [(10, 5)] [] [])) (.region [.v 15, .g (.bin .add (.loc 0) (.const (.int .i64 1))), .m (.loc 0)] [(15, 2)] [] [])))))))))))))) _ _)); first
    | refine st_ rfl ?_
    | ((first | refine W.regG ?_ | refine WoR.go ?_); generalize e : goR .. = r; simp (disch := omega) [hZ] at e; replace e : some _ = _ := e; subst e; (try dsimp only [goW]))
    | (simp only [outOf, thenW_ret, thenW_exit, thenW_normal, roundW, reduceIte]))
  obtain rfl | rfl | rfl | rfl : w = 0 ∨ w = 1 ∨ w = 2 ∨ w = 3 := by omega
  · obtain ⟨j, hj0, hj⟩ : ∃ j : Nat, Int.tmod (k : Int) 40 = (j : Int) ∧ j < 40 := ⟨(Int.tmod (k : Int) 40).toNat, by rw [Int.tmod_eq_emod_of_nonneg (by omega)]; omega, by rw [Int.tmod_eq_emod_of_nonneg (by omega)]; omega⟩
    have hZ := hj0
    repeat ((fail_if_success (show W tree.getF (.seq (.region [.m (.const (.int .i64 0))] [(8, 0)] [] []) (.block 3 (.loop true (.seq (.seq (.region [.v 8, .v 7, .g (.bin .lss (.loc 1) (.loc 0))] [(9, 2)] [] []) (.cond (.var 9) .skip (.exit 3))) (.seq (.block 4 (.region [.v 10, .g (.build [(.int .i64 0), (.int .i64 0), (.int .u64 0), (.str []), (.str [])] [(0, 1, (.const (.int .i64 1))), (1, 1, (.const (.int .i64 2))), (3, 1, (.loc 0))]), .g (.call false 9 [(.loc 0)]), .m (.loc 0)] [(10, 3)] [] [])) (.region [.v 8, .g (.bin .add (.loc 0) (.const (.int .i64 1))), .m (.loc 0)] [(8, 2)] [] [])))))) _ _)); first
      | refine st_ rfl ?_
      | ((first | refine W.regG ?_ | refine WoR.go ?_); generalize e : goR .. = r; simp (disch := omega) [hZ] at e; replace e : some _ = _ := e; subst e; (try dsimp only [goW]))
      | (simp only [outOf, thenW_ret, thenW_exit, thenW_normal, roundW, reduceIte]))
    refine W.back (i := 0) (t := dpT) ?_
    exact run0 n how j hj
  · have P2 := put2_F (List.replicate k 0) (by simp; omega)
    rw [List.length_replicate] at P2
    have P2 : Pe 9 [.agg [.int .i64 2, .int .i64 2, .int .u64 0, .str (List.replicate k 0), .str []]] (.str (b1 k)) := P2
    have hbo : bytesOf (List.replicate k (CVal.int .u8 0)) = some (List.replicate k 0) := by
      have := bytesOf_bv (List.replicate k 0)
      rw [List.map_replicate] at this
      exact this
    have hkm : ¬ (1073741824 : Int) < k := by omega
    generalize hZ1 : List.replicate k (CVal.int .u8 0) = Z1 at *
    generalize List.replicate k (0 : UInt8) = Z2 at *
    have hZ := j2_ hbo hZ1
    repeat ((fail_if_success (show W tree.getF dpT _ _)); first
      | refine st_ rfl ?_
      | ((first | refine W.regG ?_ | refine WoR.go ?_); generalize e : goR .. = r; simp (disch := omega) [hZ] at e; replace e : some _ = _ := e; subst e; (try dsimp only [goW]))
      | (simp only [outOf, thenW_ret, thenW_exit, thenW_normal, roundW, reduceIte])
      | (refine P2 _ ⟨Under.cons (by (try dsimp only); omega) Under.nil, UnderT.cons (by (try dsimp only); omega) UnderT.nil⟩ _ fun n1 hn1 => ⟨rfl, ?_⟩; (try dsimp only at hn1)))
    show W tree.getF dpT _ _
    refine dp_tail n how k hk (b1 k) (f5_1 k (by omega)) 10163 _ ?_ TY4 (UnderT.cons (by omega) UnderT.nil) _ _ _ _ _ _ _ _ _ _ _ _ _ _ _ _ _
    exact om_
  · have hb0 : b2 0 = [] := rfl
    repeat ((fail_if_success (show W tree.getF dpB _ _)); first
      | refine st_ rfl ?_
      | ((first | refine W.regG ?_ | refine WoR.go ?_); generalize e : goR .. = r; simp (disch := omega) at e; replace e : some _ = _ := e; subst e; (try dsimp only [goW]))
      | (simp only [outOf, thenW_ret, thenW_exit, thenW_normal, roundW, reduceIte]))
    refine dp_b k hk ⟨[(10163, .cells sch4)], 33999, TY4⟩ _ _ _ _ _ _ _ _ _ _ _ _ _ _ _ _ _ _ _ ⟨10163, _, rfl, by (try dsimp only); omega⟩ k 0 _ _ (by omega) ?_ ?_
    · exact om_
    intro n' w13 w14 hn
    dsimp only at hn
    simp only [outOf, thenW_ret, thenW_exit, thenW_normal, roundW, reduceIte]
    refine dp_tail n how k hk (b2 k) (f5_2 k (by omega)) 10163 _ ?_ TY4 (UnderT.cons (by omega) UnderT.nil) _ _ _ _ _ _ _ _ _ _ _ _ _ _ _ _ _
    exact om_
  · obtain ⟨j, hj0, hj⟩ : ∃ j : Nat, Int.tmod (k : Int) 25 = (j : Int) ∧ j < 25 := ⟨(Int.tmod (k : Int) 25).toNat, by rw [Int.tmod_eq_emod_of_nonneg (by omega)]; omega, by rw [Int.tmod_eq_emod_of_nonneg (by omega)]; omega⟩
    have hZ := hj0
    repeat ((fail_if_success (show W tree.getF (.seq (.region [.m (.const (.int .i64 0))] [(15, 0)] [] []) (.block 1 (.loop true (.seq (.seq (.region [.v 15, .v 7, .g (.bin .lss (.loc 1) (.loc 0))] [(16, 2)] [] []) (.cond (.var 16) .skip (.exit 1))) (.seq (.block 2 (.region [.v 10, .g (.build [(.int .i64 0), (.int .i64 0), (.int .u64 0), (.str []), (.str [])] [(0, 1, (.const (.int .i64 2))), (1, 1, (.const (.int .i64 2))), (3, 1, (.loc 0))]), .g (.call false 9 [(.loc 0)]), .g (.build [(.int .i64 0), (.int .i64 0), (.int .u64 0), (.str []), (.str [])] [(0, 1, (.const (.int .i64 4))), (1, 1, (.const (.int .i64 2))), (3, 1, (.loc 0))]), .g (.call false 9 [(.loc 0)]), .m (.loc 0)] [(10, 5)] [] [])) (.region [.v 15, .g (.bin .add (.loc 0) (.const (.int .i64 1))), .m (.loc 0)] [(15, 2)] [] [])))))) _ _)); first
      | refine st_ rfl ?_
      | ((first | refine W.regG ?_ | refine WoR.go ?_); generalize e : goR .. = r; simp (disch := omega) [hZ] at e; replace e : some _ = _ := e; subst e; (try dsimp only [goW]))
      | (simp only [outOf, thenW_ret, thenW_exit, thenW_normal, roundW, reduceIte]))
    refine W.back (i := 0) (t := dpT) ?_
    exact run3 n how j hj
end Go.Proofs.YtnddcjimijmenaaGreat.IrU
