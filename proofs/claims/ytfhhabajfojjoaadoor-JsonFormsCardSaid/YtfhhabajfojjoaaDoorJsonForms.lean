/- The law 'JsonForms' holds: called with no argument, in whatever memory, it returns true and turns nothing of what was there. No condition. -/
import Derived.Test.YtfhhabajfojjoaaDoorRows
import Derived.Test.YtfhhabajfojjoaaDoorCards
import Derived.Test.YtfhhabajfojjoaaDoorTie
import Derived.Test.YtfhhabajfojjoaaDoorFactsA
import Derived.WalkKit
import Derived.ProofKit
import Derived.OpenShut
import Derived.ChangeVars
import Derived.JoinedOf
import Derived.LaidLaws
import Derived.LaidMore
import Derived.SevenTiedAt
namespace Go.Proofs.YtfhhabajfojjoaaDoor.jsonForms
open Go.ChangeShapes Go.WideShapes Go.ChangeAt Go.RowKit
set_option linter.unusedVariables false

theorem own : ownKnob Tryd.prog.godebug = none := by kernel_rfl

set_option maxRecDepth 1000000 in
/-- A run of the interpreter says true: the whole of the law. -/
theorem run : Go.CI.saysTrue (Go.CI.crunF IrA.factsaT 1000000 3 [] Go.CI.noHeap) = true := by kernel_rfl

theorem walk (w : World) {a0 : Addr} {s0 : ByteArray} (hv0 : w.cell? ⟨2, 0, none⟩ = some (.iface 138 (.pointer (some a0)))) (hc0 : w.cell? a0 = some (.string s0)) (hs0 : s0.data.toList = [105, 110, 118, 97, 108, 105, 100, 32, 115, 121, 110, 116, 97, 120]) {a1 : Addr} {s1 : ByteArray} (hv1 : w.cell? ⟨3, 0, none⟩ = some (.iface 138 (.pointer (some a1)))) (hc1 : w.cell? a1 = some (.string s1)) (hs1 : s1.data.toList = [118, 97, 108, 117, 101, 32, 111, 117, 116, 32, 111, 102, 32, 114, 97, 110, 103, 101]) :
    Calls Tryd.prog 3 #[] w fun e w' => e = .returned (.bool true) ∧ Below w.heap.size w w' := by
  have B := Go.CI.begins_w (Go.CI.GlOk.err hv0 hc0 hs0 (Go.CI.GlOk.err hv1 hc1 hs1 Go.CI.GlOk.nil))
  exact Go.CI.closed_calls (H := IrA.hints) (fn := IrA.c3) (gl := [(2, [.ifc 138 (.cptr [.str [105, 110, 118, 97, 108, 105, 100, 32, 115, 121, 110, 116, 97, 120]] 0)]), (3, [.ifc 138 (.cptr [.str [118, 97, 108, 117, 101, 32, 111, 117, 116, 32, 111, 102, 32, 114, 97, 110, 103, 101]] 0)])]) w (fun _ _ h => h) IrA.mixed (IrA.factsaTok ⟨w.heap.size, _⟩ ⟨fun _ _ h => h⟩) (by kernel_rfl) B (Go.CI.crun_of run)

theorem star : "*" ++ "errors.errorString" = "*errors.errorString" := by decide
theorem rowErr (u : TypeId) (h : Tryd.prog.typeName? 3 u = some "*errors.errorString") : u = 138 :=
  typeName_ptr_named (nm := "errors.errorString") (by rw [star]; kernel_rfl) (by kernel_rfl) (by decide) u (by rw [star]; exact h)

/-- The settled world, with the listed variables as they are laid. -/
noncomputable def laidWorld (os : Os) : World :=
  let w0 := World.doorLaid Tryd.prog 600 os
  { w0 with heap := w0.heap.modify 4 fun
      | .cells _ t frozen => .cells (Go.Pinned.utf8FirstZ.map fun (n : Nat) => Value.int .u8 (Int.ofNat n)).toArray t frozen
      | o => o }
theorem laidWorld_met (os : Os) (args : Array Value) : laidMetH Tryd.prog Rows.jsonFormsRow.laid ((laidWorld os).forCall (fun _ _ => 0) ⟨#[], args, []⟩).memory :=
  show laidMet Tryd.prog Rows.jsonFormsRow.laid _ from laidMet_of_run' 600 (by kernel_rfl) (by kernel_rfl)

set_option maxRecDepth 100000 in
theorem lifted (os : Os) (started : os.Started) (H : Type) (enc : TypeId × Value → H) :
    ReturnsInHanded {} Tryd.checked os 3 .any (fun w args => (Rows.jsonFormsSpec.pre enc Tryd.prog Tryd.f3 [] false w args ∧ laidMetH Tryd.prog Rows.jsonFormsRow.laid w) ∧ sizedMet enc Tryd.prog Tryd.f3 (OpenSpec.ofChange Rows.jsonFormsSpec) false w args)
      (Rows.jsonFormsSpec.post enc Tryd.prog Tryd.f3 false true false false) := by
  refine Go.CI.returnsInHanded_laid (C := Tryd.checked) (X := fun w _ => laidMetH Tryd.prog Rows.jsonFormsRow.laid w) (fun _ _ _ hh h => h.of_heap hh) own started (by kernel_rfl) Tryd.func3
    (ChangeSpec.witness_shaped (enc := enc) (C := Tryd.checked) (os := os) (X := fun w _ => laidMetH Tryd.prog Rows.jsonFormsRow.laid w) false (laidWorld os) #[] 8 rfl (World.shaped_of_RefB (by kernel_rfl) (by kernel_rfl)) (by kernel_rfl) (by kernel_rfl) (by kernel_rfl) (laidWorld_met os _)) ?_
  intro W base args ds gs before hval0 hW hL hsh
  have hval : ∀ (j : Nat) t v, Tryd.f3.params[j]? = some t → args[j]? = some v → Value.okWide Tryd.prog W .any base t v := hval0
  have hW' := hW
  obtain ⟨p, q, hA0, hV, rfl, hfz, hnd⟩ := hW
  have hA : DataW.TrodAll enc Tryd.prog W 0 (fun _ => true) true Tryd.f3.params.toList args.toList ds p := hA0
  rw [Tryd.params3] at hA hval
  obtain ⟨rfl, rfl, rfl⟩ := trodAll_none hA
  obtain ⟨rfl, rfl⟩ := trodVars_none hV
  clear hA0 hval0
  simp only [List.append_nil] at hW'
  have hL' : laidMet Tryd.prog Rows.jsonFormsRow.laid W := hL
  obtain ⟨a0, s0, hv0, hc0, hs0, _⟩ := laid_sentinel (g := 2) (ti := 59) hL'.tail.tail.tail.tail.tail (by kernel_rfl) (by kernel_rfl) Tryd.underlying59 rowErr Tryd.underlying138 Tryd.underlying140 rfl rfl Tryd.underlying9 (by kernel_rfl) (by kernel_rfl)
  have hv0' := World.var?_cell (show Tryd.prog.globalNamed "strconv.ErrSyntax" = some 2 by kernel_rfl) hv0 0
  obtain ⟨a1, s1, hv1, hc1, hs1, _⟩ := laid_sentinel (g := 3) (ti := 59) hL'.tail.tail.tail.tail (by kernel_rfl) (by kernel_rfl) Tryd.underlying59 rowErr Tryd.underlying138 Tryd.underlying140 rfl rfl Tryd.underlying9 (by kernel_rfl) (by kernel_rfl)
  have hv1' := World.var?_cell (show Tryd.prog.globalNamed "strconv.ErrRange" = some 3 by kernel_rfl) hv1 0
  refine (walk W  hv0' hc0 hs0 hv1' hc1 hs1).mono fun e W' ⟨he, hg⟩ => ?_
  subst he
  exact ⟨_, rfl, Go.CI.post_of_below (pa := []) (pv := []) hW' (fun _ _ _ => (trodAll_cons_mk (shut_bool Tryd.underlying4 _) trodAll_mk0)) (fun sp _ => rfl) (fun _ _ => rfl) rfl
    hg (ok_one (by kernel_rfl) rfl (okWide_bool_mk Tryd.underlying4 _))⟩

theorem over : Rows.jsonFormsRow.holds Tryd.pinned (OpenSpec.ofChange Rows.jsonFormsSpec) :=
  OpenClaim.holds_of_wide 3 Tryd.f3 rfl rfl rfl rfl rfl rfl rfl ⟨rfl, rfl, rfl, rfl, rfl⟩ rfl rfl rfl rfl rfl (by kernel_rfl) Tryd.func3 (by kernel_rfl)
    (of_decide_eq_true (by kernel_rfl)) (by unfold Func.isWrapper; first | (rw [if_pos (by decide +kernel)]; kernel_rfl) | (rw [if_neg (by decide +kernel)]; exact ⟨rfl, rfl⟩))
    (fun os started H enc _ => lifted os started H enc)

theorem proved : Rows.JsonFormsCardSaid :=
  Claim7.holds_tied_plain_at .later [] [.data, .data, .data, .data, .sentinel, .sentinel, .pinned] true (true, "724ad5f62e55c092a2e5bb6ed2387ce07bd42e86aa0ffd4f9f6c647da7911300") true
    over (fun _ h => by cases h) (by kernel_rfl) (fun _ h => by cases h) jsonForms_row_tie rfl ⟨rfl, rfl⟩ (by kernel_rfl) rfl
    (fun f fn hf hfn => by
      obtain rfl : f = 3 := Option.some.inj ((show Tryd.prog.funcNamed "proclitic/procliticlaw6.JsonForms" = some 3 by kernel_rfl).symm.trans hf) |>.symm
      obtain rfl : fn = Tryd.f3 := (Option.some.inj (Tryd.func3.symm.trans hfn)).symm
      exact ⟨by kernel_rfl, fun j t ht => by
        rw [Tryd.params3] at ht
        exfalso
        rcases j with _ | j <;> simp at ht⟩)
    (by kernel_rfl)
#print axioms proved
end Go.Proofs.YtfhhabajfojjoaaDoor.jsonForms
