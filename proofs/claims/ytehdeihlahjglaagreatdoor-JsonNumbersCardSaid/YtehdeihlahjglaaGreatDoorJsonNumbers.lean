/- The law 'JsonNumbers' holds: called with whatever numbers, in whatever memory, it returns true and turns nothing of what was there. No condition. -/
import Derived.Test.YtehdeihlahjglaaGreatDoorRows
import Derived.Test.YtehdeihlahjglaaGreatDoorCards
import Derived.Test.YtehdeihlahjglaaGreatDoorTie
import Derived.Test.YtehdeihlahjglaaGreatDoorJnJ
import Derived.WalkKit
import Derived.ProofKit
import Derived.OpenShut
import Derived.ChangeVars
import Derived.JoinedOf
import Derived.LaidLaws
import Derived.LaidMore
import Derived.SevenTiedAt
namespace Go.Proofs.YtehdeihlahjglaaGreatDoor.jsonNumbers
open Go.ChangeShapes Go.WideShapes Go.ChangeAt Go.RowKit
set_option linter.unusedVariables false

theorem own : ownKnob Tryz.prog.godebug = none := by kernel_rfl

theorem walk (b0 b1 b2 : Int) (w0 : (Lit.int .i64 b0).wf = true) (w1 : (Lit.int .u8 b1).wf = true) (w2 : (Lit.int .u8 b2).wf = true) (w : World) {a0 : Addr} {s0 : ByteArray} (hv0 : w.cell? ⟨2, 0, none⟩ = some (.iface 140 (.pointer (some a0)))) (hc0 : w.cell? a0 = some (.string s0)) (hs0 : s0.data.toList = [105, 110, 118, 97, 108, 105, 100, 32, 115, 121, 110, 116, 97, 120]) {a1 : Addr} {s1 : ByteArray} (hv1 : w.cell? ⟨3, 0, none⟩ = some (.iface 140 (.pointer (some a1)))) (hc1 : w.cell? a1 = some (.string s1)) (hs1 : s1.data.toList = [118, 97, 108, 117, 101, 32, 111, 117, 116, 32, 111, 102, 32, 114, 97, 110, 103, 101]) :
    Calls Tryz.prog 3 #[.int .i64 b0, .int .u8 b1, .int .u8 b2] w fun e w' => e = .returned (.bool true) ∧ Below w.heap.size w w' := by
  have h0 : -9223372036854775808 ≤ b0 ∧ b0 < 9223372036854775808 := by
    have h := w0
    simp only [Lit.wf, Bool.and_eq_true, decide_eq_true_eq] at h
    have e1 : IntKind.min .i64 = -9223372036854775808 := rfl
    have e2 : IntKind.max .i64 = 9223372036854775807 := rfl
    omega
  have h1 : 0 ≤ b1 ∧ b1 < 256 := by
    have h := w1
    simp only [Lit.wf, Bool.and_eq_true, decide_eq_true_eq] at h
    have e1 : IntKind.min .u8 = 0 := rfl
    have e2 : IntKind.max .u8 = 255 := rfl
    omega
  have h2 : 0 ≤ b2 ∧ b2 < 256 := by
    have h := w2
    simp only [Lit.wf, Bool.and_eq_true, decide_eq_true_eq] at h
    have e1 : IntKind.min .u8 = 0 := rfl
    have e2 : IntKind.max .u8 = 255 := rfl
    omega
  obtain ⟨n1, rfl⟩ := Int.eq_ofNat_of_zero_le h1.1
  obtain ⟨n2, rfl⟩ := Int.eq_ofNat_of_zero_le h2.1
  obtain ⟨mm, hmm⟩ := Go.CI.says_of (IrJ.law b0 h0.1 h0.2 n1 n2 (by omega) (by omega))
  have B := Go.CI.begins_w (Go.CI.GlOk.err hv0 hc0 hs0 (Go.CI.GlOk.err hv1 hc1 hs1 Go.CI.GlOk.nil))
  exact Go.CI.law_calls (H := IrJ.hints) (fn := IrJ.c3) (gl := [(2, [.ifc 140 (.cptr [.str [105, 110, 118, 97, 108, 105, 100, 32, 115, 121, 110, 116, 97, 120]] 0)]), (3, [.ifc 140 (.cptr [.str [118, 97, 108, 117, 101, 32, 111, 117, 116, 32, 111, 102, 32, 114, 97, 110, 103, 101]] 0)])]) w (fun _ _ h => h) IrJ.mixed (IrJ.tok ⟨w.heap.size, _⟩ ⟨fun _ _ h => h⟩) (by kernel_rfl) B (.cons (.int _ _) (.cons (.int _ _) (.cons (.int _ _) (.nil _)))) hmm

theorem star : "*" ++ "errors.errorString" = "*errors.errorString" := by decide
theorem rowErr (u : TypeId) (h : Tryz.prog.typeName? 3 u = some "*errors.errorString") : u = 140 :=
  typeName_ptr_named (nm := "errors.errorString") (by rw [star]; kernel_rfl) (by kernel_rfl) (by decide) u (by rw [star]; exact h)

/-- The settled world, with the listed variables as they are laid. -/
noncomputable def laidWorld (os : Os) : World :=
  let w0 := World.doorLaid Tryz.prog 600 os
  { w0 with heap := w0.heap.modify 4 fun
      | .cells _ t frozen => .cells (Go.Pinned.utf8FirstZ.map fun (n : Nat) => Value.int .u8 (Int.ofNat n)).toArray t frozen
      | o => o }
theorem laidWorld_met (os : Os) (args : Array Value) : laidMetH Tryz.prog Rows.jsonNumbersRow.laid ((laidWorld os).forCall (fun _ _ => 0) ⟨#[], args, []⟩).memory :=
  show laidMet Tryz.prog Rows.jsonNumbersRow.laid _ from laidMet_of_run' 600 (by kernel_rfl) (by kernel_rfl)

set_option maxRecDepth 100000 in
theorem lifted (os : Os) (started : os.Started) (H : Type) (enc : TypeId × Value → H) :
    ReturnsInHanded {} Tryz.checked os 3 .any (fun w args => (Rows.jsonNumbersSpec.pre enc Tryz.prog Tryz.f3 [] false w args ∧ laidMetH Tryz.prog Rows.jsonNumbersRow.laid w) ∧ sizedMet enc Tryz.prog Tryz.f3 (OpenSpec.ofChange Rows.jsonNumbersSpec) false w args)
      (Rows.jsonNumbersSpec.post enc Tryz.prog Tryz.f3 false true false false) := by
  refine Go.CI.returnsInHanded_laid (C := Tryz.checked) (X := fun w _ => laidMetH Tryz.prog Rows.jsonNumbersRow.laid w) (fun _ _ _ hh h => h.of_heap hh) own started (by kernel_rfl) Tryz.func3
    (ChangeSpec.witness_shaped (enc := enc) (C := Tryz.checked) (os := os) (X := fun w _ => laidMetH Tryz.prog Rows.jsonNumbersRow.laid w) false (laidWorld os) #[.int .i64 0, .int .u8 0, .int .u8 0] 8 rfl (World.shaped_of_RefB (by kernel_rfl) (by kernel_rfl)) (by kernel_rfl) (by kernel_rfl) (by kernel_rfl) (laidWorld_met os _)) ?_
  intro W base args ds gs before hval0 hW hL hsh
  have hval : ∀ (j : Nat) t v, Tryz.f3.params[j]? = some t → args[j]? = some v → Value.okWide Tryz.prog W .any base t v := hval0
  have hW' := hW
  obtain ⟨p, q, hA0, hV, rfl, hfz, hnd⟩ := hW
  have hA : DataW.TrodAll enc Tryz.prog W 0 (fun _ => true) true Tryz.f3.params.toList args.toList ds p := hA0
  rw [Tryz.params3] at hA hval
  obtain ⟨x0, vs0, d0, ds0, p0, q0, hargs, rfl, rfl, h0, r0⟩ := trodAll_cons hA
  obtain ⟨x1, vs1, d1, ds1, p1, q1, hargs1, rfl, rfl, h1, r1⟩ := trodAll_cons r0
  obtain ⟨x2, vs2, d2, ds2, p2, q2, hargs2, rfl, rfl, h2, r2⟩ := trodAll_cons r1
  obtain ⟨rfl, rfl, rfl⟩ := trodAll_nil r2
  subst hargs2
  subst hargs1
  obtain rfl : args = #[x0, x1, x2] := by cases args; simp_all
  obtain ⟨rfl, rfl⟩ := trodVars_none hV
  obtain ⟨b0, rfl, rfl, rfl, w0⟩ := open_int Tryz.underlying2 (hval 0 2 x0 rfl rfl) h0
  obtain ⟨b1, rfl, rfl, rfl, w1⟩ := open_int Tryz.underlying5 (hval 1 5 x1 rfl rfl) h1
  obtain ⟨b2, rfl, rfl, rfl, w2⟩ := open_int Tryz.underlying5 (hval 2 5 x2 rfl rfl) h2
  clear hA0 hval0
  simp only [List.append_nil] at hW'
  have hL' : laidMet Tryz.prog Rows.jsonNumbersRow.laid W := hL
  obtain ⟨a0, s0, hv0, hc0, hs0, _⟩ := laid_sentinel (g := 2) (ti := 62) hL'.tail.tail.tail.tail.tail (by kernel_rfl) (by kernel_rfl) Tryz.underlying62 rowErr Tryz.underlying140 Tryz.underlying142 rfl rfl Tryz.underlying9 (by kernel_rfl) (by kernel_rfl)
  have hv0' := World.var?_cell (show Tryz.prog.globalNamed "strconv.ErrSyntax" = some 2 by kernel_rfl) hv0 0
  obtain ⟨a1, s1, hv1, hc1, hs1, _⟩ := laid_sentinel (g := 3) (ti := 62) hL'.tail.tail.tail.tail (by kernel_rfl) (by kernel_rfl) Tryz.underlying62 rowErr Tryz.underlying140 Tryz.underlying142 rfl rfl Tryz.underlying9 (by kernel_rfl) (by kernel_rfl)
  have hv1' := World.var?_cell (show Tryz.prog.globalNamed "strconv.ErrRange" = some 3 by kernel_rfl) hv1 0
  refine (walk b0 b1 b2 w0 w1 w2 W  hv0' hc0 hs0 hv1' hc1 hs1).mono fun e W' ⟨he, hg⟩ => ?_
  subst he
  exact ⟨_, rfl, Go.CI.post_of_below (pa := []) (pv := []) hW' (fun _ _ _ => (trodAll_cons_mk (shut_bool Tryz.underlying4 _) trodAll_mk0)) (fun sp _ => (trodAll_cons_mk (shut_int Tryz.underlying2 w0) (trodAll_cons_mk (shut_int Tryz.underlying5 w1) (trodAll_cons_mk (shut_int Tryz.underlying5 w2) trodAll_mk0)))) (fun _ _ => rfl) rfl
    hg (ok_one (by kernel_rfl) rfl (okWide_bool_mk Tryz.underlying4 _))⟩

theorem over : Rows.jsonNumbersRow.holds Tryz.pinned (OpenSpec.ofChange Rows.jsonNumbersSpec) :=
  OpenClaim.holds_of_wide 3 Tryz.f3 rfl rfl rfl rfl rfl rfl rfl ⟨rfl, rfl, rfl, rfl, rfl⟩ rfl rfl rfl rfl rfl (by kernel_rfl) Tryz.func3 (by kernel_rfl)
    (of_decide_eq_true (by kernel_rfl)) (by unfold Func.isWrapper; first | (rw [if_pos (by decide +kernel)]; kernel_rfl) | (rw [if_neg (by decide +kernel)]; exact ⟨rfl, rfl⟩))
    (fun os started H enc _ => lifted os started H enc)

theorem proved : Rows.JsonNumbersCardSaid :=
  Claim7.holds_tied_plain_at .later [] [.data, .data, .data, .data, .sentinel, .sentinel, .pinned] true (true, "37799fe5e62827bf500b30f3780c7ae908a2e609fd653894f60a85c43af0a4a9") true
    over (fun _ h => by cases h) (by kernel_rfl) (fun _ h => by cases h) jsonNumbers_row_tie rfl ⟨rfl, rfl⟩ (by kernel_rfl) rfl
    (fun f fn hf hfn => by
      obtain rfl : f = 3 := Option.some.inj ((show Tryz.prog.funcNamed "proclitic/procliticlaw6.JsonNumbers" = some 3 by kernel_rfl).symm.trans hf) |>.symm
      obtain rfl : fn = Tryz.f3 := (Option.some.inj (Tryz.func3.symm.trans hfn)).symm
      exact ⟨by kernel_rfl, fun j t ht => by
        rw [Tryz.params3] at ht
        rcases j with _ | _ | _ | j <;> simp at ht <;> subst ht <;> kernel_rfl⟩)
    (by kernel_rfl)
#print axioms proved
end Go.Proofs.YtehdeihlahjglaaGreatDoor.jsonNumbers
