/- The law 'PfileOrder' holds: called with whatever arguments, in whatever memory, it returns true and turns nothing of what was there. No condition. -/
import Derived.Test.YtjecpdnjpggcoaaGreatDoorRows
import Derived.Test.YtjecpdnjpggcoaaGreatDoorCards
import Derived.Test.YtjecpdnjpggcoaaGreatDoorTie
import Derived.Test.YtjecpdnjpggcoaaGreatDoorLx8
import Derived.WalkKit
import Derived.ProofKit
import Derived.OpenShut
import Derived.ChangeVars
import Derived.JoinedOf
import Derived.LaidLaws
import Derived.LaidMore
import Derived.SevenTiedAt
namespace Go.Proofs.YtjecpdnjpggcoaaGreatDoor.pfileOrder
open Go.ChangeShapes Go.WideShapes Go.ChangeAt Go.RowKit
set_option linter.unusedVariables false
set_option linter.unusedSimpArgs false

theorem own : ownKnob Tryz.prog.godebug = none := by kernel_rfl

theorem walk (x0 : Value) (z0 : List Int) (c0 : Go.CI.CVal) (w0 : ∀ x ∈ z0, (Lit.int .u8 x).wf = true) (s0' : c0 = .nils ∧ z0 = [] ∨ c0 = .imm .none 1 (z0.map (Go.CI.CVal.int .u8))) (w : World) (vr0 : Go.CI.VR (Go.CI.Gh.of (Go.CI.Fw w)) c0 x0) {m : Int} (hm : w.cell? ⟨0, 0, none⟩ = some (.int .i64 m)) {a0 : Addr} {s0 : ByteArray} (hv0 : w.cell? ⟨2, 0, none⟩ = some (.iface 137 (.pointer (some a0)))) (hc0 : w.cell? a0 = some (.string s0)) (hs0 : s0.data.toList = [118, 97, 108, 117, 101, 32, 111, 117, 116, 32, 111, 102, 32, 114, 97, 110, 103, 101]) :
    Calls Tryz.prog 4 #[x0] w fun e w' => e = .returned (.bool true) ∧ Below w.heap.size w w' := by
  have h0 : ∀ x ∈ z0, 0 ≤ x ∧ x < 256 := by
    intro x hx
    have h := w0 x hx
    simp only [Lit.wf, Bool.and_eq_true, decide_eq_true_eq] at h
    have e1 : IntKind.min .u8 = 0 := rfl
    have e2 : IntKind.max .u8 = 255 := rfl
    omega
  obtain ⟨mm, hmm⟩ := Go.CI.says_of (IrO.law c0 z0 s0' (fun x hx => h0 x hx))
  have B := Go.CI.begins_w (Go.CI.GlOk.int hm (Go.CI.GlOk.err hv0 hc0 hs0 Go.CI.GlOk.nil))
  exact Go.CI.law_calls (H := IrO.hints) (fn := IrO.c4) (gl := [(0, [.int .i64 m]), (2, [.ifc 137 (.cptr [.str [118, 97, 108, 117, 101, 32, 111, 117, 116, 32, 111, 102, 32, 114, 97, 110, 103, 101]] 0)])]) w (Go.CI.GlobsIn.cons (by kernel_rfl)) IrO.mixed (IrO.tok ⟨w.heap.size, _⟩ ⟨Go.CI.GlobsIn.cons (by kernel_rfl), ⟨m, rfl⟩⟩) (by kernel_rfl) B (.cons vr0 (.nil _)) hmm

theorem star : "*" ++ "errors.errorString" = "*errors.errorString" := by decide
theorem rowErr (u : TypeId) (h : Tryz.prog.typeName? 3 u = some "*errors.errorString") : u = 137 :=
  typeName_ptr_named (nm := "errors.errorString") (by rw [star]; kernel_rfl) (by kernel_rfl) (by decide) u (by rw [star]; exact h)

/-- The settled world, with the listed variables as they are laid. -/
noncomputable def laidWorld (os : Os) : World :=
  let w0 := World.doorLaid Tryz.prog 600 os
  { w0 with heap := w0.heap.modify 3 fun
      | .cells _ t frozen => .cells (Go.Pinned.utf8FirstZ.map fun (n : Nat) => Value.int .u8 (Int.ofNat n)).toArray t frozen
      | o => o }
theorem laidWorld_met (os : Os) (args : Array Value) : laidMetH Tryz.prog Rows.pfileOrderRow.laid ((laidWorld os).forCall (fun _ _ => 0) ⟨#[], args, []⟩).memory :=
  show laidMet Tryz.prog Rows.pfileOrderRow.laid _ from laidMet_of_run' 600 (by kernel_rfl) (by kernel_rfl)

set_option maxRecDepth 100000 in
theorem lifted (os : Os) (started : os.Started) (H : Type) (enc : TypeId × Value → H) :
    ReturnsInHanded {} Tryz.checked os 4 .any (fun w args => (Rows.pfileOrderSpec.pre enc Tryz.prog Tryz.f4 [] false w args ∧ laidMetH Tryz.prog Rows.pfileOrderRow.laid w) ∧ sizedMet enc Tryz.prog Tryz.f4 (OpenSpec.ofChange Rows.pfileOrderSpec) false w args)
      (Rows.pfileOrderSpec.post enc Tryz.prog Tryz.f4 false true false false) := by
  refine Go.CI.returnsInHanded_laid (C := Tryz.checked) (X := fun w _ => laidMetH Tryz.prog Rows.pfileOrderRow.laid w) (fun _ _ _ hh h => h.of_heap hh) own started (by kernel_rfl) Tryz.func4
    (ChangeSpec.witness_shaped (enc := enc) (C := Tryz.checked) (os := os) (X := fun w _ => laidMetH Tryz.prog Rows.pfileOrderRow.laid w) false (laidWorld os) #[.slice none 0 0] 8 rfl (World.shaped_of_RefB (by kernel_rfl) (by kernel_rfl)) (by kernel_rfl) (by kernel_rfl) (by kernel_rfl) (laidWorld_met os _)) ?_
  intro W base args ds gs before hval0 hW hL hsh
  have hval : ∀ (j : Nat) t v, Tryz.f4.params[j]? = some t → args[j]? = some v → Value.okWide Tryz.prog W .any base t v := hval0
  have hW' := hW
  obtain ⟨p, q, hA0, hV, rfl, hfz, hnd⟩ := hW
  have hA : DataW.TrodAll enc Tryz.prog W 0 (fun _ => true) true Tryz.f4.params.toList args.toList ds p := hA0
  rw [Tryz.params4] at hA hval
  obtain ⟨x0, vs0, d0, ds0, p0, q0, hargs0, rfl, rfl, h0, r0⟩ := trodAll_cons hA
  obtain ⟨rfl, rfl, rfl⟩ := trodAll_nil r0
  obtain rfl : args = #[x0] := by cases args; simp_all
  obtain ⟨rfl, rfl⟩ := trodVars_none hV
  obtain ⟨z0, c0, w0, s0', vr0, bk0⟩ := Go.CI.open_nums Tryz.underlying32 Tryz.underlying5 (by kernel_rfl) (hval 0 32 x0 rfl rfl) h0
  clear hA0 hval0
  simp only [List.append_nil] at hW'
  obtain ⟨m, hm⟩ := cell_of_shapedOpen_int (g := 0) (t := 3) (zero := #[.int .i64 0]) (k := .i64) hsh (by decide +kernel) (by kernel_rfl) rfl (by kernel_rfl) (by kernel_rfl) Tryz.underlying3
  have hL' : laidMet Tryz.prog Rows.pfileOrderRow.laid W := hL
  obtain ⟨a0, s0, hv0, hc0, hs0, _⟩ := laid_sentinel (g := 2) (ti := 87) hL'.tail.tail.tail.tail (by kernel_rfl) (by kernel_rfl) Tryz.underlying87 rowErr Tryz.underlying137 Tryz.underlying139 rfl rfl Tryz.underlying9 (by kernel_rfl) (by kernel_rfl)
  have hv0' := World.var?_cell (show Tryz.prog.globalNamed "strconv.ErrRange" = some 2 by kernel_rfl) hv0 0
  refine (walk x0 z0 c0 w0 s0' W vr0 hm hv0' hc0 hs0).mono fun e W' ⟨he, hg⟩ => ?_
  subst he
  exact ⟨_, rfl, Go.CI.post_of_below (pa := p0) (pv := []) hW' (fun _ _ _ => (trodAll_cons_mk (shut_bool Tryz.underlying4 _) trodAll_mk0)) (fun sp hsp => by have hh := (trodAll_cons_mk (bk0 W' hg sp (fun p hp => hsp p (by simp [hp]))) trodAll_mk0); (try simp only [List.append_nil, List.nil_append] at hh); exact hh) (fun _ _ => rfl) (by simp)
    hg (ok_one (by kernel_rfl) rfl (okWide_bool_mk Tryz.underlying4 _))⟩

theorem over : Rows.pfileOrderRow.holds Tryz.pinned (OpenSpec.ofChange Rows.pfileOrderSpec) :=
  OpenClaim.holds_of_wide 4 Tryz.f4 rfl rfl rfl rfl rfl rfl rfl ⟨rfl, rfl, rfl, rfl, rfl⟩ rfl rfl rfl rfl rfl (by kernel_rfl) Tryz.func4 (by kernel_rfl)
    (of_decide_eq_true (by kernel_rfl)) (by unfold Func.isWrapper; first | (rw [if_pos (by decide +kernel)]; kernel_rfl) | (rw [if_neg (by decide +kernel)]; exact ⟨rfl, rfl⟩))
    (fun os started H enc _ => lifted os started H enc)

theorem proved : Rows.PfileOrderCardSaid :=
  Claim7.holds_tied_plain_at .later [] [.data, .data, .data, .data, .sentinel, .sentinel, .pinned] true (true, "a28b1dc746d1316dffc2d47846f175d7731aace1c3190d8cd6a3889f9bf11c37") true
    over (fun _ h => by cases h) (by kernel_rfl) (fun _ h => by cases h) pfileOrder_row_tie rfl ⟨rfl, rfl⟩ (by kernel_rfl) rfl
    (fun f fn hf hfn => by
      obtain rfl : f = 4 := Option.some.inj ((show Tryz.prog.funcNamed "proclitic/procliticlaw8.PfileOrder" = some 4 by kernel_rfl).symm.trans hf) |>.symm
      obtain rfl : fn = Tryz.f4 := (Option.some.inj (Tryz.func4.symm.trans hfn)).symm
      exact ⟨by kernel_rfl, fun j t ht => by
        rw [Tryz.params4] at ht
        rcases j with _ | j <;> simp at ht <;> subst ht <;> kernel_rfl⟩)
    (by kernel_rfl)
#print axioms proved
end Go.Proofs.YtjecpdnjpggcoaaGreatDoor.pfileOrder
