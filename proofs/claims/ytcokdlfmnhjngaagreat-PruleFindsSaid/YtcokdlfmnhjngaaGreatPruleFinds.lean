/- The law 'PruleFinds' holds: called with whatever arguments, in whatever memory, it returns true and turns nothing of what was there. No condition. -/
import Derived.Test.YtcokdlfmnhjngaaGreatRows
import Derived.Test.YtcokdlfmnhjngaaGreatLx8
import Derived.WalkKit
import Derived.ProofKit
import Derived.OpenShut
import Derived.ChangeMaps5
namespace Go.Proofs.YtcokdlfmnhjngaaGreat.pruleFinds
open Go.ChangeShapes Go.WideShapes Go.ChangeAt Go.RowKit
set_option linter.unusedVariables false
set_option linter.unusedSimpArgs false
theorem own : ownKnob Tryz.prog.godebug = none := by kernel_rfl
theorem walk (x0 : Value) (z0 : List Int) (c0 : Go.CI.CVal) (w0 : ∀ x ∈ z0, (Lit.int .u8 x).wf = true) (s0' : c0 = .nils ∧ z0 = [] ∨ c0 = .imm .none 1 (z0.map (Go.CI.CVal.int .u8))) (y1 : ByteArray) (w1 : y1.size ≤ maxLen) (b2 : Int) (w2 : (Lit.int .i64 b2).wf = true) (w : World) (vr0 : Go.CI.VR (Go.CI.Gh.of (Go.CI.Fw w)) c0 x0) : Calls Tryz.prog 7 #[x0, .string y1, .int .i64 b2] w fun e w' => e = .returned (.bool true) ∧ Below w.heap.size w w' := by
 have h0 : ∀ x ∈ z0, 0 ≤ x ∧ x < 256 := by
  intro x hx
  have h := w0 x hx
  simp only [Lit.wf, Bool.and_eq_true, decide_eq_true_eq] at h
  have e1 : IntKind.min .u8 = 0 := rfl
  have e2 : IntKind.max .u8 = 255 := rfl
  omega
 have h2 : -9223372036854775808 ≤ b2 ∧ b2 < 9223372036854775808 := by
  have h := w2
  simp only [Lit.wf, Bool.and_eq_true, decide_eq_true_eq] at h
  have e1 : IntKind.min .i64 = -9223372036854775808 := rfl
  have e2 : IntKind.max .i64 = 9223372036854775807 := rfl
  omega
 obtain ⟨mm, hmm⟩ := Go.CI.says_of (IrE.law c0 z0 s0' (fun x hx => h0 x hx) y1.data.toList b2)
 have B := Go.CI.begins_w (w := w) (gl := []) Go.CI.GlOk.nil
 exact Go.CI.law_calls (H := IrE.hints) (fn := IrE.c7) (gl := []) w (fun _ _ h => h) IrE.mixed (IrE.tok ⟨w.heap.size, _⟩ ⟨fun _ _ h => h⟩) (by kernel_rfl) B (.cons vr0 (.cons (.str _) (.cons (.int _ _) (.nil _)))) hmm
set_option maxRecDepth 100000 in
theorem lifted (os : Os) (started : os.Started) (H : Type) (enc : TypeId × Value → H) :
    ReturnsInHanded {} Tryz.checked os 7 .any (Rows.pruleFindsSpec.pre6 enc Tryz.prog Tryz.f7 Rows.pruleFindsRow.domain false) (Rows.pruleFindsSpec.post enc Tryz.prog Tryz.f7 false true false false) := by
 refine returnsInHanded_of_change (C := Tryz.checked) own started (by kernel_rfl) Tryz.func7
  (ChangeSpec.witness6 (enc := enc) (C := Tryz.checked) false ⟨#[], #[.slice none 0 0, .string ⟨#[]⟩, .int .i64 0], []⟩ 8 (by kernel_rfl) (by kernel_rfl) (by kernel_rfl) (by kernel_rfl)) ?_
 intro W base args ds gs before hval0 hW hcnd _
 have hval : ∀ (j : Nat) t v, Tryz.f7.params[j]? = some t → args[j]? = some v → Value.okWide Tryz.prog W .any base t v := hval0
 have hW' := hW
 obtain ⟨p, q, hA0, hV, rfl, hfz, hnd⟩ := hW
 have hA : DataW.TrodAll enc Tryz.prog W 0 (fun _ => true) true Tryz.f7.params.toList args.toList ds p := hA0
 rw [Tryz.params7] at hA hval
 obtain ⟨x0, vs0, d0, ds0, p0, q0, hargs0, rfl, rfl, h0, r0⟩ := trodAll_cons hA
 obtain ⟨x1, vs1, d1, ds1, p1, q1, hargs1, rfl, rfl, h1, r1⟩ := trodAll_cons r0
 obtain ⟨x2, vs2, d2, ds2, p2, q2, hargs2, rfl, rfl, h2, r2⟩ := trodAll_cons r1
 obtain ⟨rfl, rfl, rfl⟩ := trodAll_nil r2
 subst hargs2
 subst hargs1
 obtain rfl : args = #[x0, x1, x2] := by cases args; simp_all
 obtain ⟨rfl, rfl⟩ := trodVars_none hV
 obtain ⟨z0, c0, w0, s0', vr0, bk0⟩ := Go.CI.open_nums Tryz.underlying22 Tryz.underlying5 (by kernel_rfl) (hval 0 22 x0 rfl rfl) h0
 obtain ⟨y1, rfl, rfl, rfl, w1⟩ := Go.ChangeMaps.open_string Tryz.underlying9 (hval 1 9 x1 rfl rfl) h1
 obtain ⟨b2, rfl, rfl, rfl, w2⟩ := open_int Tryz.underlying3 (hval 2 3 x2 rfl rfl) h2
 clear hA0 hval0
 simp only [List.append_nil, List.nil_append] at hW'
 refine (walk x0 z0 c0 w0 s0' y1 w1 b2 w2 W vr0).mono fun e W' ⟨he, hg⟩ => ?_
 subst he
 exact ⟨_, rfl, Go.CI.post_of_below (pa := p0) (pv := []) hW' (fun _ _ _ => (trodAll_cons_mk (shut_bool Tryz.underlying4 _) trodAll_mk0)) (fun sp hsp => by have hh := (trodAll_cons_mk (bk0 W' hg sp (fun p hp => hsp p (by simp [hp]))) (trodAll_cons_mk (Go.ChangeMaps.shut_string Tryz.underlying9 w1) (trodAll_cons_mk (shut_int Tryz.underlying3 w2) trodAll_mk0))); (try simp only [List.append_nil, List.nil_append] at hh); exact hh) (fun _ _ => rfl) (by simp)
  hg (ok_one (by kernel_rfl) rfl (okWide_bool_mk Tryz.underlying4 _))⟩
theorem over : Rows.pruleFindsRow.holds Tryz.pinned (OpenSpec.ofChange Rows.pruleFindsSpec) :=
 OpenClaim.holds_of_wide 7 Tryz.f7 rfl rfl rfl rfl rfl rfl rfl ⟨rfl, rfl, rfl, rfl, rfl⟩ rfl rfl rfl rfl rfl (by kernel_rfl) Tryz.func7 (by kernel_rfl)
  (of_decide_eq_true (by kernel_rfl)) (by unfold Func.isWrapper; first | (rw [if_pos (by decide +kernel)]; kernel_rfl) | (rw [if_neg (by decide +kernel)]; exact ⟨rfl, rfl⟩))
  (fun os started H enc _ => lifted os started H enc)
theorem proved : Rows.PruleFindsSaid :=
 over
#print axioms proved
end Go.Proofs.YtcokdlfmnhjngaaGreat.pruleFinds
