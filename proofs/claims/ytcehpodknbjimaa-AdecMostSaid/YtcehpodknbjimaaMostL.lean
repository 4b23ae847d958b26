/- What the functions of the law 'AdecMost' do: records in unions, thirty of each. -/
import Derived.Test.YtcehpodknbjimaaMostD
namespace Go.Proofs.Ytcehpodknbjimaa.Ir
open Go Go.CI
set_option maxRecDepth 100000
set_option linter.unusedVariables false
set_option linter.unusedSimpArgs false

/-- A call that says true, by a run. -/
theorem wc_true {T : Nat → Option CFn} {m f n : Nat} {args : List CVal} (hr : (match crunF T m f args ⟨[], n, []⟩ with | some (.bool true, ⟨[], k, []⟩) => decide (n ≤ k) | _ => false) = true) {K : CVal → CHeap → Prop} (hk : ∀ n', n ≤ n' → K (.bool true) ⟨[], n', []⟩) : Wc T f args ⟨[], n, []⟩ K := by
  split at hr
  · rename_i k e
    exact ⟨_, _, ⟨m, by have := e; rw [crunF_eq] at this; exact this⟩, hk k (by simpa using hr)⟩
  · cases hr
theorem wc_run {T : Nat → Option CFn} {m f : Nat} {args : List CVal} {h h' : CHeap} {v : CVal} (hr : crunF T m f args h = some (v, h')) {K : CVal → CHeap → Prop} (hk : K v h') : Wc T f args h K :=
  ⟨_, _, ⟨m, by have := hr; rw [crunF_eq] at this; exact this⟩, hk⟩
attribute [local irreducible] W Wo Wc
abbrev restCode : CCode := (.seq (.seq (.region [⟨.mv (.var 2), none⟩, ⟨.bin .rem (.loc 0) (.const (.int .u8 3)), none⟩] [(5, 1)] [] []) (.block 0 (.seq (.region [⟨.bin .eql (.var 5) (.const (.int .u8 0)), none⟩, ⟨.mv (.loc 0), none⟩] [(6, 1)] [] []) (.cond (.var 6) (.seq (.region [⟨.mv (.var 4), none⟩, ⟨.call false 6 [(.loc 0)], none⟩, ⟨.mv (.loc 0), none⟩] [(8, 2)] [] []) (.seq (.seq (.region [⟨.mv (.var 4), none⟩, ⟨.bin .gtr (.loc 0) (.const (.int .i64 0)), none⟩] [(7, 1)] [] []) (.cond (.var 7) (.region [⟨.mv (.var 8), none⟩, ⟨.call false 6 [(.const (.int .i64 0))], none⟩, ⟨.bin .add (.loc 1) (.loc 0), none⟩, ⟨.mv (.loc 0), none⟩] [(8, 3)] [] []) .skip)) (.seq (.region [⟨.load (some 1) (.var 9), none⟩, ⟨.mv (.var 8), none⟩, ⟨.s2b .imm (.loc 0), none⟩, ⟨.call false 7 [(.loc 2), (.const (.int .i64 0)), (.loc 0)], none⟩, ⟨.mv (.loc 0), none⟩, ⟨.extract 0 (.loc 0), none⟩, ⟨.extract 1 (.loc 1), none⟩, ⟨.extract 2 (.loc 2), none⟩, ⟨.lazy 44040197, none⟩, ⟨.init 5 (.loc 0) (.loc 3), none⟩, ⟨.mv (.loc 3), none⟩, ⟨.mv (.loc 3), none⟩] [(11, 11), (12, 10), (13, 8)] [] []) (.seq (.seq (.region [⟨.mv (.var 4), none⟩, ⟨.bin .add (.loc 0) (.const (.int .i64 1)), none⟩, ⟨.bin .gtr (.loc 0) (.const (.int .i64 2000)), none⟩] [(10, 2)] [] []) (.cond (.var 10) (.seq (.region [⟨.mv (.var 11), none⟩, ⟨.bin .eql (.loc 0) (.const (.int .i64 3)), none⟩, ⟨.mv (.loc 0), none⟩, ⟨.mv (.var 12), (some (0, true))⟩, ⟨.bin .eql (.loc 0) (.const (.int .i64 0)), (some (1, true))⟩, ⟨.pick (.loc 2) (.loc 0) (.const (.bool false)), none⟩, ⟨.mv (.loc 0), none⟩] [(26, 6)] [] []) .ret) .skip)) (.seq (.region [⟨.mv (.var 11), none⟩, ⟨.bin .eql (.loc 0) (.const (.int .i64 0)), none⟩, ⟨.mv (.loc 0), none⟩, ⟨.fieldAddr 2 (.var 13), (some (0, true))⟩, ⟨.load none (.loc 0), (some (1, true))⟩, ⟨.len false (.loc 0), (some (2, true))⟩, ⟨.mv (.var 4), (some (3, true))⟩, ⟨.bin .eql (.loc 1) (.loc 0), (some (4, true))⟩, ⟨.pick (.loc 5) (.loc 0) (.const (.bool false)), none⟩, ⟨.mv (.loc 0), none⟩, ⟨.mv (.var 12), (some (0, true))⟩, ⟨.mv (.var 8), (some (1, true))⟩, ⟨.len true (.loc 0), (some (2, true))⟩, ⟨.bin .eql (.loc 2) (.loc 0), (some (3, true))⟩, ⟨.pick (.loc 4) (.loc 0) (.const (.bool false)), none⟩, ⟨.mv (.loc 0), none⟩] [(26, 15)] [] []) .ret))))) (.seq (.region [⟨.bin .eql (.var 5) (.const (.int .u8 1)), none⟩, ⟨.mv (.loc 0), none⟩] [(14, 1)] [] []) (.cond (.var 14) (.seq (.region [⟨.mv (.var 4), none⟩, ⟨.neg (.loc 0), none⟩, ⟨.call false 6 [(.loc 0)], none⟩, ⟨.mv (.loc 0), none⟩] [(16, 3)] [] []) (.seq (.seq (.region [⟨.mv (.var 4), none⟩, ⟨.bin .gtr (.loc 0) (.const (.int .i64 0)), none⟩] [(15, 1)] [] []) (.cond (.var 15) (.region [⟨.mv (.var 16), none⟩, ⟨.call false 6 [(.const (.int .i64 0))], none⟩, ⟨.bin .add (.loc 1) (.loc 0), none⟩, ⟨.call false 6 [(.const (.int .i64 0))], none⟩, ⟨.bin .add (.loc 1) (.loc 0), none⟩, ⟨.mv (.loc 0), none⟩] [(16, 5)] [] []) .skip)) (.seq (.region [⟨.load (some 1) (.var 9), none⟩, ⟨.mv (.var 16), none⟩, ⟨.s2b .imm (.loc 0), none⟩, ⟨.call false 7 [(.loc 2), (.const (.int .i64 0)), (.loc 0)], none⟩, ⟨.mv (.loc 0), none⟩, ⟨.extract 0 (.loc 0), none⟩, ⟨.extract 1 (.loc 1), none⟩, ⟨.extract 2 (.loc 2), none⟩, ⟨.lazy 44040197, none⟩, ⟨.init 5 (.loc 0) (.loc 3), none⟩, ⟨.mv (.loc 3), none⟩, ⟨.mv (.loc 3), none⟩] [(18, 11), (19, 8)] [] []) (.seq (.seq (.region [⟨.mv (.var 4), none⟩, ⟨.bin .add (.loc 0) (.const (.int .i64 1)), none⟩, ⟨.bin .gtr (.loc 0) (.const (.int .i64 2000)), none⟩] [(17, 2)] [] []) (.cond (.var 17) (.seq (.region [⟨.mv (.var 18), none⟩, ⟨.bin .eql (.loc 0) (.const (.int .i64 3)), none⟩, ⟨.mv (.loc 0), none⟩] [(26, 2)] [] []) .ret) .skip)) (.seq (.region [⟨.mv (.var 18), none⟩, ⟨.bin .eql (.loc 0) (.const (.int .i64 0)), none⟩, ⟨.mv (.loc 0), none⟩, ⟨.fieldAddr 2 (.var 19), (some (0, true))⟩, ⟨.load none (.loc 0), (some (1, true))⟩, ⟨.len false (.loc 0), (some (2, true))⟩, ⟨.mv (.var 4), (some (3, true))⟩, ⟨.bin .eql (.loc 1) (.loc 0), (some (4, true))⟩, ⟨.pick (.loc 5) (.loc 0) (.const (.bool false)), none⟩, ⟨.mv (.loc 0), none⟩] [(26, 9)] [] []) .ret))))) .skip)))))) (.seq (.region [⟨.mv (.var 4), none⟩, ⟨.bin .rem (.loc 0) (.const (.int .i64 30)), none⟩, ⟨.mv (.loc 0), none⟩] [(4, 2)] [] []) (.seq (.region [⟨.mv (.const (.str [])), none⟩] [(22, 0)] [] []) (.seq (.seq (.region [⟨.mv (.const (.int .i64 0)), none⟩] [(20, 0)] [] []) (.block 1 (.loop true (.seq (.seq (.region [⟨.mv (.var 20), none⟩, ⟨.mv (.var 4), none⟩, ⟨.bin .lss (.loc 1) (.loc 0), none⟩] [(21, 2)] [] []) (.cond (.var 21) .skip (.exit 1))) (.seq (.block 2 (.region [⟨.mv (.var 22), none⟩, ⟨.call false 6 [(.const (.int .i64 1))], none⟩, ⟨.bin .add (.loc 1) (.loc 0), none⟩, ⟨.mv (.loc 0), none⟩] [(22, 3)] [] [])) (.region [⟨.mv (.var 20), none⟩, ⟨.bin .add (.loc 0) (.const (.int .i64 1)), none⟩, ⟨.mv (.loc 0), none⟩] [(20, 2)] [] [])))))) (.seq (.region [⟨.load (some 1) (.var 9), none⟩, ⟨.mv (.var 22), none⟩, ⟨.call false 6 [(.const (.int .i64 0))], none⟩, ⟨.bin .add (.loc 1) (.loc 0), none⟩, ⟨.s2b .imm (.loc 0), none⟩, ⟨.call false 7 [(.loc 4), (.const (.int .i64 2)), (.loc 0)], none⟩, ⟨.mv (.loc 0), none⟩, ⟨.extract 0 (.loc 0), none⟩, ⟨.extract 1 (.loc 1), none⟩, ⟨.extract 2 (.loc 2), none⟩, ⟨.lazy 44040197, none⟩, ⟨.init 5 (.loc 0) (.loc 3), none⟩, ⟨.mv (.loc 3), none⟩, ⟨.mv (.loc 3), none⟩] [(24, 13), (25, 10)] [(0, 0, 1)] []) (.seq (.seq (.region [⟨.mv (.var 4), none⟩, ⟨.bin .mul (.const (.int .i64 2)) (.loc 0), none⟩, ⟨.bin .add (.loc 0) (.const (.int .i64 3)), none⟩, ⟨.bin .gtr (.loc 0) (.const (.int .i64 20)), none⟩] [(23, 3)] [] []) (.cond (.var 23) (.seq (.region [⟨.mv (.var 24), none⟩, ⟨.bin .eql (.loc 0) (.const (.int .i64 3)), none⟩, ⟨.mv (.loc 0), none⟩, ⟨.fieldAddr 2 (.var 25), (some (0, true))⟩, ⟨.load none (.loc 0), (some (1, true))⟩, ⟨.len false (.loc 0), (some (2, true))⟩, ⟨.bin .eql (.loc 0) (.const (.int .i64 0)), (some (3, true))⟩, ⟨.pick (.loc 4) (.loc 0) (.const (.bool false)), none⟩, ⟨.mv (.loc 0), none⟩] [(26, 8)] [] []) .ret) .skip)) (.seq (.region [⟨.mv (.var 24), none⟩, ⟨.bin .eql (.loc 0) (.const (.int .i64 0)), none⟩, ⟨.mv (.loc 0), none⟩] [(26, 2)] [] []) .ret)))))))
abbrev lastCode : CCode := (.seq (.region [⟨.mv (.var 4), none⟩, ⟨.bin .rem (.loc 0) (.const (.int .i64 30)), none⟩, ⟨.mv (.loc 0), none⟩] [(4, 2)] [] []) (.seq (.region [⟨.mv (.const (.str [])), none⟩] [(22, 0)] [] []) (.seq (.seq (.region [⟨.mv (.const (.int .i64 0)), none⟩] [(20, 0)] [] []) (.block 1 (.loop true (.seq (.seq (.region [⟨.mv (.var 20), none⟩, ⟨.mv (.var 4), none⟩, ⟨.bin .lss (.loc 1) (.loc 0), none⟩] [(21, 2)] [] []) (.cond (.var 21) .skip (.exit 1))) (.seq (.block 2 (.region [⟨.mv (.var 22), none⟩, ⟨.call false 6 [(.const (.int .i64 1))], none⟩, ⟨.bin .add (.loc 1) (.loc 0), none⟩, ⟨.mv (.loc 0), none⟩] [(22, 3)] [] [])) (.region [⟨.mv (.var 20), none⟩, ⟨.bin .add (.loc 0) (.const (.int .i64 1)), none⟩, ⟨.mv (.loc 0), none⟩] [(20, 2)] [] [])))))) (.seq (.region [⟨.load (some 1) (.var 9), none⟩, ⟨.mv (.var 22), none⟩, ⟨.call false 6 [(.const (.int .i64 0))], none⟩, ⟨.bin .add (.loc 1) (.loc 0), none⟩, ⟨.s2b .imm (.loc 0), none⟩, ⟨.call false 7 [(.loc 4), (.const (.int .i64 2)), (.loc 0)], none⟩, ⟨.mv (.loc 0), none⟩, ⟨.extract 0 (.loc 0), none⟩, ⟨.extract 1 (.loc 1), none⟩, ⟨.extract 2 (.loc 2), none⟩, ⟨.lazy 44040197, none⟩, ⟨.init 5 (.loc 0) (.loc 3), none⟩, ⟨.mv (.loc 3), none⟩, ⟨.mv (.loc 3), none⟩] [(24, 13), (25, 10)] [(0, 0, 1)] []) (.seq (.seq (.region [⟨.mv (.var 4), none⟩, ⟨.bin .mul (.const (.int .i64 2)) (.loc 0), none⟩, ⟨.bin .add (.loc 0) (.const (.int .i64 3)), none⟩, ⟨.bin .gtr (.loc 0) (.const (.int .i64 20)), none⟩] [(23, 3)] [] []) (.cond (.var 23) (.seq (.region [⟨.mv (.var 24), none⟩, ⟨.bin .eql (.loc 0) (.const (.int .i64 3)), none⟩, ⟨.mv (.loc 0), none⟩, ⟨.fieldAddr 2 (.var 25), (some (0, true))⟩, ⟨.load none (.loc 0), (some (1, true))⟩, ⟨.len false (.loc 0), (some (2, true))⟩, ⟨.bin .eql (.loc 0) (.const (.int .i64 0)), (some (3, true))⟩, ⟨.pick (.loc 4) (.loc 0) (.const (.bool false)), none⟩, ⟨.mv (.loc 0), none⟩] [(26, 8)] [] []) .ret) .skip)) (.seq (.region [⟨.mv (.var 24), none⟩, ⟨.bin .eql (.loc 0) (.const (.int .i64 0)), none⟩, ⟨.mv (.loc 0), none⟩] [(26, 2)] [] []) .ret))))))
abbrev tmL (n how k : Nat) (b3 : CVal) (s : Nat) (v5 v6 v14 : CVal) : List CVal := [.bool false, .int .u32 n, .int .u8 how, b3, .int .i64 k, v5, v6, .undef, .undef, .ptr s 38797313 0, .undef, .undef, .undef, .undef, v14, .undef, .undef, .undef, .undef, .undef, .undef, .undef, .undef, .undef, .undef, .undef, .bool false]

theorem W.of_check {T : Nat → Option CFn} {n : Nat} {c : CCode} {st : CSt} {Q : CExit → CSt → Prop} {chk : CSt → Bool} (h : (match execF T n c st with | some (.ret, st') => chk st' | _ => false) = true) (hq : ∀ st', chk st' = true → Q .ret st') : W T c st Q := by
  split at h
  · rename_i st' e
    exact W.of_exec e (hq _ h)
  · cases h
def saysC (fn : CFunc) (nx : Nat) (st : CSt) : Bool := st.defs.isEmpty && (match endsC fn nx st with | some (.bool true, _) => true | _ => false)
theorem saysC_end {fn : CFunc} {nx : Nat} (st : CSt) (h : saysC fn nx st = true) : endW fn nx (fun v _ => v = .bool true) .ret st := by
  unfold saysC at h
  have h1 : st.defs = [] := by
    cases hd : st.defs with
    | nil => rfl
    | cons a l => rw [hd] at h; cases h
  refine endW.intro h1 ?_
  rw [h1] at h
  split at h
  · rename_i e; rw [e]
  · cases h

abbrev afterCode : CCode := (.seq (.region [⟨.mv (.const (.str [])), none⟩] [(22, 0)] [] []) (.seq (.seq (.region [⟨.mv (.const (.int .i64 0)), none⟩] [(20, 0)] [] []) (.block 1 (.loop true (.seq (.seq (.region [⟨.mv (.var 20), none⟩, ⟨.mv (.var 4), none⟩, ⟨.bin .lss (.loc 1) (.loc 0), none⟩] [(21, 2)] [] []) (.cond (.var 21) .skip (.exit 1))) (.seq (.block 2 (.region [⟨.mv (.var 22), none⟩, ⟨.call false 6 [(.const (.int .i64 1))], none⟩, ⟨.bin .add (.loc 1) (.loc 0), none⟩, ⟨.mv (.loc 0), none⟩] [(22, 3)] [] [])) (.region [⟨.mv (.var 20), none⟩, ⟨.bin .add (.loc 0) (.const (.int .i64 1)), none⟩, ⟨.mv (.loc 0), none⟩] [(20, 2)] [] [])))))) (.seq (.region [⟨.load (some 1) (.var 9), none⟩, ⟨.mv (.var 22), none⟩, ⟨.call false 6 [(.const (.int .i64 0))], none⟩, ⟨.bin .add (.loc 1) (.loc 0), none⟩, ⟨.s2b .imm (.loc 0), none⟩, ⟨.call false 7 [(.loc 4), (.const (.int .i64 2)), (.loc 0)], none⟩, ⟨.mv (.loc 0), none⟩, ⟨.extract 0 (.loc 0), none⟩, ⟨.extract 1 (.loc 1), none⟩, ⟨.extract 2 (.loc 2), none⟩, ⟨.lazy 44040197, none⟩, ⟨.init 5 (.loc 0) (.loc 3), none⟩, ⟨.mv (.loc 3), none⟩, ⟨.mv (.loc 3), none⟩] [(24, 13), (25, 10)] [(0, 0, 1)] []) (.seq (.seq (.region [⟨.mv (.var 4), none⟩, ⟨.bin .mul (.const (.int .i64 2)) (.loc 0), none⟩, ⟨.bin .add (.loc 0) (.const (.int .i64 3)), none⟩, ⟨.bin .gtr (.loc 0) (.const (.int .i64 20)), none⟩] [(23, 3)] [] []) (.cond (.var 23) (.seq (.region [⟨.mv (.var 24), none⟩, ⟨.bin .eql (.loc 0) (.const (.int .i64 3)), none⟩, ⟨.mv (.loc 0), none⟩, ⟨.fieldAddr 2 (.var 25), (some (0, true))⟩, ⟨.load none (.loc 0), (some (1, true))⟩, ⟨.len false (.loc 0), (some (2, true))⟩, ⟨.bin .eql (.loc 0) (.const (.int .i64 0)), (some (3, true))⟩, ⟨.pick (.loc 4) (.loc 0) (.const (.bool false)), none⟩, ⟨.mv (.loc 0), none⟩] [(26, 8)] [] []) .ret) .skip)) (.seq (.region [⟨.mv (.var 24), none⟩, ⟨.bin .eql (.loc 0) (.const (.int .i64 0)), none⟩, ⟨.mv (.loc 0), none⟩] [(26, 2)] [] []) .ret)))))
theorem last962 (n how r : Nat) (hr : r < 30) : W tree.getF afterCode ⟨[.bool false, .int .u32 (n : Int), .int .u8 (how : Int), .bool false, .int .i64 ((r : Nat) : Int), .int .u8 2, .bool false, .undef, .undef, .ptr 945 38797313 0, .undef, .undef, .undef, .undef, .bool false, .undef, .undef, .undef, .undef, .undef, .undef, .undef, .undef, .undef, .undef, .undef, .bool false], ⟨[(945, .cells [TS])], 962, []⟩, []⟩ (endW c3 0 fun v _ => v = .bool true) := by
  match r, hr with
  | 0, _ => exact W.of_check (n := 100000) (chk := saysC c3 0) (by kernel_rfl) saysC_end
  | 1, _ => exact W.of_check (n := 100000) (chk := saysC c3 0) (by kernel_rfl) saysC_end
  | 2, _ => exact W.of_check (n := 100000) (chk := saysC c3 0) (by kernel_rfl) saysC_end
  | 3, _ => exact W.of_check (n := 100000) (chk := saysC c3 0) (by kernel_rfl) saysC_end
  | 4, _ => exact W.of_check (n := 100000) (chk := saysC c3 0) (by kernel_rfl) saysC_end
  | 5, _ => exact W.of_check (n := 100000) (chk := saysC c3 0) (by kernel_rfl) saysC_end
  | 6, _ => exact W.of_check (n := 100000) (chk := saysC c3 0) (by kernel_rfl) saysC_end
  | 7, _ => exact W.of_check (n := 100000) (chk := saysC c3 0) (by kernel_rfl) saysC_end
  | 8, _ => exact W.of_check (n := 100000) (chk := saysC c3 0) (by kernel_rfl) saysC_end
  | 9, _ => exact W.of_check (n := 100000) (chk := saysC c3 0) (by kernel_rfl) saysC_end
  | 10, _ => exact W.of_check (n := 100000) (chk := saysC c3 0) (by kernel_rfl) saysC_end
  | 11, _ => exact W.of_check (n := 100000) (chk := saysC c3 0) (by kernel_rfl) saysC_end
  | 12, _ => exact W.of_check (n := 100000) (chk := saysC c3 0) (by kernel_rfl) saysC_end
  | 13, _ => exact W.of_check (n := 100000) (chk := saysC c3 0) (by kernel_rfl) saysC_end
  | 14, _ => exact W.of_check (n := 100000) (chk := saysC c3 0) (by kernel_rfl) saysC_end
  | 15, _ => exact W.of_check (n := 100000) (chk := saysC c3 0) (by kernel_rfl) saysC_end
  | 16, _ => exact W.of_check (n := 100000) (chk := saysC c3 0) (by kernel_rfl) saysC_end
  | 17, _ => exact W.of_check (n := 100000) (chk := saysC c3 0) (by kernel_rfl) saysC_end
  | 18, _ => exact W.of_check (n := 100000) (chk := saysC c3 0) (by kernel_rfl) saysC_end
  | 19, _ => exact W.of_check (n := 100000) (chk := saysC c3 0) (by kernel_rfl) saysC_end
  | 20, _ => exact W.of_check (n := 100000) (chk := saysC c3 0) (by kernel_rfl) saysC_end
  | 21, _ => exact W.of_check (n := 100000) (chk := saysC c3 0) (by kernel_rfl) saysC_end
  | 22, _ => exact W.of_check (n := 100000) (chk := saysC c3 0) (by kernel_rfl) saysC_end
  | 23, _ => exact W.of_check (n := 100000) (chk := saysC c3 0) (by kernel_rfl) saysC_end
  | 24, _ => exact W.of_check (n := 100000) (chk := saysC c3 0) (by kernel_rfl) saysC_end
  | 25, _ => exact W.of_check (n := 100000) (chk := saysC c3 0) (by kernel_rfl) saysC_end
  | 26, _ => exact W.of_check (n := 100000) (chk := saysC c3 0) (by kernel_rfl) saysC_end
  | 27, _ => exact W.of_check (n := 100000) (chk := saysC c3 0) (by kernel_rfl) saysC_end
  | 28, _ => exact W.of_check (n := 100000) (chk := saysC c3 0) (by kernel_rfl) saysC_end
  | 29, _ => exact W.of_check (n := 100000) (chk := saysC c3 0) (by kernel_rfl) saysC_end
  | r + 30, hr => exact absurd hr (by omega)
theorem last965 (n how r : Nat) (hr : r < 30) : W tree.getF afterCode ⟨[.bool false, .int .u32 (n : Int), .int .u8 (how : Int), .bool true, .int .i64 ((r : Nat) : Int), .int .u8 2, .bool false, .undef, .undef, .ptr 945 38797313 0, .undef, .undef, .undef, .undef, .bool false, .undef, .undef, .undef, .undef, .undef, .undef, .undef, .undef, .undef, .undef, .undef, .bool false], ⟨[(945, .cells [TS])], 965, []⟩, []⟩ (endW c3 0 fun v _ => v = .bool true) := by
  match r, hr with
  | 0, _ => exact W.of_check (n := 100000) (chk := saysC c3 0) (by kernel_rfl) saysC_end
  | 1, _ => exact W.of_check (n := 100000) (chk := saysC c3 0) (by kernel_rfl) saysC_end
  | 2, _ => exact W.of_check (n := 100000) (chk := saysC c3 0) (by kernel_rfl) saysC_end
  | 3, _ => exact W.of_check (n := 100000) (chk := saysC c3 0) (by kernel_rfl) saysC_end
  | 4, _ => exact W.of_check (n := 100000) (chk := saysC c3 0) (by kernel_rfl) saysC_end
  | 5, _ => exact W.of_check (n := 100000) (chk := saysC c3 0) (by kernel_rfl) saysC_end
  | 6, _ => exact W.of_check (n := 100000) (chk := saysC c3 0) (by kernel_rfl) saysC_end
  | 7, _ => exact W.of_check (n := 100000) (chk := saysC c3 0) (by kernel_rfl) saysC_end
  | 8, _ => exact W.of_check (n := 100000) (chk := saysC c3 0) (by kernel_rfl) saysC_end
  | 9, _ => exact W.of_check (n := 100000) (chk := saysC c3 0) (by kernel_rfl) saysC_end
  | 10, _ => exact W.of_check (n := 100000) (chk := saysC c3 0) (by kernel_rfl) saysC_end
  | 11, _ => exact W.of_check (n := 100000) (chk := saysC c3 0) (by kernel_rfl) saysC_end
  | 12, _ => exact W.of_check (n := 100000) (chk := saysC c3 0) (by kernel_rfl) saysC_end
  | 13, _ => exact W.of_check (n := 100000) (chk := saysC c3 0) (by kernel_rfl) saysC_end
  | 14, _ => exact W.of_check (n := 100000) (chk := saysC c3 0) (by kernel_rfl) saysC_end
  | 15, _ => exact W.of_check (n := 100000) (chk := saysC c3 0) (by kernel_rfl) saysC_end
  | 16, _ => exact W.of_check (n := 100000) (chk := saysC c3 0) (by kernel_rfl) saysC_end
  | 17, _ => exact W.of_check (n := 100000) (chk := saysC c3 0) (by kernel_rfl) saysC_end
  | 18, _ => exact W.of_check (n := 100000) (chk := saysC c3 0) (by kernel_rfl) saysC_end
  | 19, _ => exact W.of_check (n := 100000) (chk := saysC c3 0) (by kernel_rfl) saysC_end
  | 20, _ => exact W.of_check (n := 100000) (chk := saysC c3 0) (by kernel_rfl) saysC_end
  | 21, _ => exact W.of_check (n := 100000) (chk := saysC c3 0) (by kernel_rfl) saysC_end
  | 22, _ => exact W.of_check (n := 100000) (chk := saysC c3 0) (by kernel_rfl) saysC_end
  | 23, _ => exact W.of_check (n := 100000) (chk := saysC c3 0) (by kernel_rfl) saysC_end
  | 24, _ => exact W.of_check (n := 100000) (chk := saysC c3 0) (by kernel_rfl) saysC_end
  | 25, _ => exact W.of_check (n := 100000) (chk := saysC c3 0) (by kernel_rfl) saysC_end
  | 26, _ => exact W.of_check (n := 100000) (chk := saysC c3 0) (by kernel_rfl) saysC_end
  | 27, _ => exact W.of_check (n := 100000) (chk := saysC c3 0) (by kernel_rfl) saysC_end
  | 28, _ => exact W.of_check (n := 100000) (chk := saysC c3 0) (by kernel_rfl) saysC_end
  | 29, _ => exact W.of_check (n := 100000) (chk := saysC c3 0) (by kernel_rfl) saysC_end
  | r + 30, hr => exact absurd hr (by omega)
end Go.Proofs.Ytcehpodknbjimaa.Ir
