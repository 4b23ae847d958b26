/- The law 'AdefDeep' holds: called with whatever number of one byte, in whatever memory, it returns true and turns nothing of what was there. No condition. -/
import Derived.Test.YtcehpodknbjimaaDoorRows
import Derived.Test.YtcehpodknbjimaaDoorCards
import Derived.Test.YtcehpodknbjimaaDoorTie
import Derived.Test.YtcehpodknbjimaaDoorAdefWalk
import Derived.WalkKit
import Derived.ProofKit
import Derived.OpenShut
import Derived.ChangeVars
import Derived.JoinedOf
import Derived.LaidLaws
import Derived.LaidMore
import Derived.SevenTiedAt
namespace Go.CI
open Go.RowKit
/-- A run of the interpreter that says true, at whatever arguments. -/
theorem law_calls {P : Program} {H : Hints} {T : Nat → Option CFn} {n f : Nat} {fn : CFunc} (w : World) {F : Nat → Nat → Option CVal} {gl : List (Nat × List CVal)} {cs : List CVal} {args : List Value} (hgl : GlobsIn H.globals gl) (hmixed : P.follows .mixedOrders = true) (hT : TOk P H ⟨w.heap.size, gl⟩ T) (hf : T f = some (.ir fn)) (B : Begins w gl F)
    (ha : VRs (Gh.of F) cs args) (hrun : saysTrue (crun T n f cs noHeap) = true) : Calls P f ⟨args⟩ w fun e w' => e = .returned (.bool true) ∧ Below w.heap.size w w' := by
  cases hr : crun T n f cs noHeap with
  | none => rw [hr] at hrun; cases hrun
  | some x =>
    obtain ⟨v, h'⟩ := x
    rw [hr] at hrun
    have hv : v = .bool true := by cases v <;> simp_all [saysTrue]
    subst hv
    refine Calls.mono (crun_calls hgl hmixed hT hf B ha hr) ?_
    rintro e w' ⟨u, G, rfl, _, hu, hb, _⟩
    rw [vr_bool hu]
    exact ⟨rfl, hb⟩
theorem crun_of_at {T : Nat → Option CFn} {n f : Nat} {args : List CVal} {p : Option (CVal × CHeap) → Bool} (h : p (crunF T n f args noHeap) = true) : p (crun T n f args noHeap) = true := by
  rw [crunF_eq] at h; exact h
end Go.CI
namespace Go.Proofs.YtcehpodknbjimaaDoor.adefDeep
open Go.ChangeShapes Go.WideShapes Go.ChangeAt Go.RowKit
set_option linter.unusedVariables false

theorem own : ownKnob Tryd.prog.godebug = none := by kernel_rfl

theorem says (n : Int) (h : Go.CI.Wc IrD.tree.getF 3 [.int .u8 n] Go.CI.noHeap fun v h => v = .bool true) : ∃ m, Go.CI.saysTrue (Go.CI.crun IrD.tree.getF m 3 [.int .u8 n] Go.CI.noHeap) = true := by
  obtain ⟨v, h', ⟨m, hc⟩, rfl⟩ := h
  refine ⟨m, ?_⟩
  have : Go.CI.crun IrD.tree.getF m 3 [.int .u8 n] Go.CI.noHeap = some (.bool true, h') := hc
  rw [this]; rfl

theorem all (n : Int) (h0 : 0 ≤ n) : Go.CI.Wc IrD.tree.getF 3 [.int .u8 n] Go.CI.noHeap fun v h => v = .bool true := by
  have e : n.tmod 18 = n % 18 := Int.tmod_eq_emod_of_nonneg h0
  have hc : n % 18 = 0 ∨ n % 18 = 1 ∨ n % 18 = 2 ∨ n % 18 = 3 ∨ n % 18 = 4 ∨ n % 18 = 5 ∨ n % 18 = 6 ∨ n % 18 = 7 ∨ n % 18 = 8 ∨ n % 18 = 9 ∨ n % 18 = 10 ∨ n % 18 = 11 ∨ n % 18 = 12 ∨ n % 18 = 13 ∨ n % 18 = 14 ∨ n % 18 = 15 ∨ n % 18 = 16 ∨ n % 18 = 17 := by omega
  rcases hc with h | h | h | h | h | h | h | h | h | h | h | h | h | h | h | h | h | h
  · exact IrD.main_0 n (e.trans h)
  · exact IrD.main_1 n (e.trans h)
  · exact IrD.main_2 n (e.trans h)
  · exact IrD.main_3 n (e.trans h)
  · exact IrD.main_4 n (e.trans h)
  · exact IrD.main_5 n (e.trans h)
  · exact IrD.main_6 n (e.trans h)
  · exact IrD.main_7 n (e.trans h)
  · exact IrD.main_8 n (e.trans h)
  · exact IrD.main_9 n (e.trans h)
  · exact IrD.main_10 n (e.trans h)
  · exact IrD.main_11 n (e.trans h)
  · exact IrD.main_12 n (e.trans h)
  · exact IrD.main_13 n (e.trans h)
  · exact IrD.main_14 n (e.trans h)
  · exact IrD.main_15 n (e.trans h)
  · exact IrD.main_16 n (e.trans h)
  · exact IrD.main_17 n (e.trans h)

theorem walk (a0 : Int) (w0 : (Lit.int .u8 a0).wf = true) (w : World) : Calls Tryd.prog 3 #[.int .u8 a0] w fun e w' => e = .returned (.bool true) ∧ Below w.heap.size w w' := by
  have B := Go.CI.begins_none w
  have hb : 0 ≤ a0 := by
    have h := w0
    simp only [Lit.wf, Bool.and_eq_true, decide_eq_true_eq] at h
    have e1 : IntKind.min .u8 = 0 := rfl
    omega
  obtain ⟨m, hm⟩ := says a0 (all a0 hb)
  exact Go.CI.law_calls (H := IrD.hints) (fn := IrD.c3) (gl := []) w (fun _ _ h => h) IrD.mixed (IrD.tok ⟨w.heap.size, _⟩ ⟨fun _ _ h => h⟩) (by kernel_rfl) B (.cons (.int _ _) (.nil _)) hm

/-- The settled world, with the listed variables as they are laid. -/
noncomputable def laidWorld (os : Os) : World :=
  let w0 := World.doorLaid Tryd.prog 600 os
  { w0 with heap := w0.heap.modify 1 fun
      | .cells _ t frozen => .cells (Go.Pinned.utf8FirstZ.map fun (n : Nat) => Value.int .u8 (Int.ofNat n)).toArray t frozen
      | o => o }
theorem laidWorld_met (os : Os) (args : Array Value) : laidMetH Tryd.prog Rows.adefDeepRow.laid ((laidWorld os).forCall (fun _ _ => 0) ⟨#[], args, []⟩).memory :=
  show laidMet Tryd.prog Rows.adefDeepRow.laid _ from laidMet_of_run' 600 (by kernel_rfl) (by kernel_rfl)

set_option maxRecDepth 100000 in
theorem lifted (os : Os) (started : os.Started) (H : Type) (enc : TypeId × Value → H) :
    ReturnsInHanded {} Tryd.checked os 3 .any (fun w args => (Rows.adefDeepSpec.pre enc Tryd.prog Tryd.f3 [] false w args ∧ laidMetH Tryd.prog Rows.adefDeepRow.laid w) ∧ sizedMet enc Tryd.prog Tryd.f3 (OpenSpec.ofChange Rows.adefDeepSpec) false w args)
      (Rows.adefDeepSpec.post enc Tryd.prog Tryd.f3 false true false false) := by
  refine Go.CI.returnsInHanded_laid (C := Tryd.checked) (X := fun w _ => laidMetH Tryd.prog Rows.adefDeepRow.laid w) (fun _ _ _ hh h => h.of_heap hh) own started (by kernel_rfl) Tryd.func3
    (ChangeSpec.witness_shaped (enc := enc) (C := Tryd.checked) (os := os) (X := fun w _ => laidMetH Tryd.prog Rows.adefDeepRow.laid w) false (laidWorld os) #[.int .u8 0] 8 rfl (World.shaped_of_RefB (by kernel_rfl) (by kernel_rfl)) (by kernel_rfl) (by kernel_rfl) (by kernel_rfl) (laidWorld_met os _)) ?_
  intro W base args ds gs before hval0 hW hL hsh
  have hval : ∀ (j : Nat) t v, Tryd.f3.params[j]? = some t → args[j]? = some v → Value.okWide Tryd.prog W .any base t v := hval0
  have hW' := hW
  obtain ⟨p, q, hA0, hV, rfl, hfz, hnd⟩ := hW
  have hA : DataW.TrodAll enc Tryd.prog W 0 (fun _ => true) true Tryd.f3.params.toList args.toList ds p := hA0
  rw [Tryd.params3] at hA hval
  obtain ⟨v0, vs0, d0, ds0, p0, q0, hargs, rfl, rfl, h0, r0⟩ := trodAll_cons hA
  obtain ⟨rfl, rfl, rfl⟩ := trodAll_nil r0
  obtain rfl : args = #[v0] := by cases args; simp_all
  obtain ⟨rfl, rfl⟩ := trodVars_none hV
  obtain ⟨a0, rfl, rfl, rfl, w0⟩ := open_int Tryd.underlying5 (hval 0 5 v0 rfl rfl) h0
  clear hA0 hval0
  simp only [List.append_nil] at hW'
  refine (walk a0 w0 W).mono fun e W' ⟨he, hg⟩ => ?_
  subst he
  exact ⟨_, rfl, Go.CI.post_of_below (pa := []) (pv := []) hW' (fun _ _ _ => (trodAll_cons_mk (shut_bool Tryd.underlying4 _) trodAll_mk0)) (fun sp _ => (trodAll_cons_mk (shut_int Tryd.underlying5 w0) trodAll_mk0)) (fun _ _ => rfl) rfl
    hg (ok_one (by kernel_rfl) rfl (okWide_bool_mk Tryd.underlying4 _))⟩

theorem over : Rows.adefDeepRow.holds Tryd.pinned (OpenSpec.ofChange Rows.adefDeepSpec) :=
  OpenClaim.holds_of_wide 3 Tryd.f3 rfl rfl rfl rfl rfl rfl rfl ⟨rfl, rfl, rfl, rfl, rfl⟩ rfl rfl rfl rfl rfl (by kernel_rfl) Tryd.func3 (by kernel_rfl)
    (of_decide_eq_true (by kernel_rfl)) (by unfold Func.isWrapper; first | (rw [if_pos (by decide +kernel)]; kernel_rfl) | (rw [if_neg (by decide +kernel)]; exact ⟨rfl, rfl⟩))
    (fun os started H enc _ => lifted os started H enc)

theorem proved : Rows.AdefDeepCardSaid :=
  Claim7.holds_tied_plain_at .later [] [.data, .pinned] true (true, "c8deefbe3e078ac7e1b7527cc10893f5ecbb8b94a0f58142662aaa94629b9217") true
    over (fun _ h => by cases h) (by kernel_rfl) (fun _ h => by cases h) adefDeep_row_tie rfl ⟨rfl, rfl⟩ (by kernel_rfl) rfl
    (fun f fn hf hfn => by
      obtain rfl : f = 3 := Option.some.inj ((show Tryd.prog.funcNamed "proclitic/procliticlaw14.AdefDeep" = some 3 by kernel_rfl).symm.trans hf) |>.symm
      obtain rfl : fn = Tryd.f3 := (Option.some.inj (Tryd.func3.symm.trans hfn)).symm
      exact ⟨by kernel_rfl, fun j t ht => by
        rw [Tryd.params3] at ht
        rcases j with _ | j <;> simp at ht
        subst ht
        kernel_rfl⟩)
    (by kernel_rfl)
#print axioms proved
end Go.Proofs.YtcehpodknbjimaaDoor.adefDeep
