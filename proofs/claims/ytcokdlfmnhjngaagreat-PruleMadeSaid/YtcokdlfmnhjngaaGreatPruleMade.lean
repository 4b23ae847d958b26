/- The law 'PruleMade' holds: called with whatever arguments, in whatever memory, it returns true and turns nothing of what was there. No condition. -/
import Derived.Test.YtcokdlfmnhjngaaGreatRows
import Derived.Test.YtcokdlfmnhjngaaGreatLx8
import Derived.WalkKit
import Derived.ProofKit
import Derived.OpenShut
namespace Go.Proofs.YtcokdlfmnhjngaaGreat.pruleMade
open Go.ChangeShapes Go.WideShapes Go.ChangeAt Go.RowKit
set_option linter.unusedVariables false
set_option linter.unusedSimpArgs false
theorem own:ownKnob Tryz.prog.godebug = none:=by kernel_rfl
theorem walk (x0:Value) (z0:List Int) (c0:Go.CI.CVal) (w0:∀ x ∈ z0,(Lit.int .u8 x).wf = true) (s0':c0 = .nils ∧ z0 = [] ∨ c0 = .imm .none 1 (z0.map (Go.CI.CVal.int .u8))) (w:World) (vr0:Go.CI.VR (Go.CI.Gh.of (Go.CI.Fw w)) c0 x0):Calls Tryz.prog 6 #[x0] w fun e w' => e = .returned (.bool true) ∧ Below w.heap.size w w':=by
 have h0:∀ x ∈ z0,0 ≤ x ∧ x < 256:=by
  intro x hx
  have h:=w0 x hx
  simp only [Lit.wf,Bool.and_eq_true,decide_eq_true_eq] at h
  have e1:IntKind.min .u8 = 0:=rfl
  have e2:IntKind.max .u8 = 255:=rfl
  omega
 obtain ⟨mm,hmm⟩:=Go.CI.says_of (IrE.law c0 z0 s0' (fun x hx => h0 x hx))
 have B:=Go.CI.begins_w (w:=w) (gl:=[]) Go.CI.GlOk.nil
 exact Go.CI.law_calls (H:=IrE.hints) (fn:=IrE.c6) (gl:=[]) w (fun _ _ h => h) IrE.mixed (IrE.tok ⟨w.heap.size,_⟩ ⟨fun _ _ h => h⟩) (by kernel_rfl) B (.cons vr0 (.nil _)) hmm
set_option maxRecDepth 100000 in
theorem lifted (os:Os) (started:os.Started) (H:Type) (enc:TypeId × Value → H) :
    ReturnsInHanded {} Tryz.checked os 6 .any (Rows.pruleMadeSpec.pre6 enc Tryz.prog Tryz.f6 Rows.pruleMadeRow.domain false) (Rows.pruleMadeSpec.post enc Tryz.prog Tryz.f6 false true false false):=by
 refine returnsInHanded_of_change (C:=Tryz.checked) own started (by kernel_rfl) Tryz.func6
  (ChangeSpec.witness6 (enc:=enc) (C:=Tryz.checked) false ⟨#[],#[.slice none 0 0],[]⟩ 8 (by kernel_rfl) (by kernel_rfl) (by kernel_rfl) (by kernel_rfl)) ?_
 intro W base args ds gs before hval0 hW hcnd _
 have hval:∀ (j:Nat) t v,Tryz.f6.params[j]? = some t → args[j]? = some v → Value.okWide Tryz.prog W .any base t v:=hval0
 have hW':=hW
 obtain ⟨p,q,hA0,hV,rfl,hfz,hnd⟩:=hW
 have hA:DataW.TrodAll enc Tryz.prog W 0 (fun _ => true) true Tryz.f6.params.toList args.toList ds p:=hA0
 rw [Tryz.params6] at hA hval
 obtain ⟨x0,vs0,d0,ds0,p0,q0,hargs0,rfl,rfl,h0,r0⟩:=trodAll_cons hA
 obtain ⟨rfl,rfl,rfl⟩:=trodAll_nil r0
 obtain rfl:args = #[x0]:=by cases args; simp_all
 obtain ⟨rfl,rfl⟩:=trodVars_none hV
 obtain ⟨z0,c0,w0,s0',vr0,bk0⟩:=Go.CI.open_nums Tryz.underlying22 Tryz.underlying5 (by kernel_rfl) (hval 0 22 x0 rfl rfl) h0
 clear hA0 hval0
 simp only [List.append_nil,List.nil_append] at hW'
 refine (walk x0 z0 c0 w0 s0' W vr0).mono fun e W' ⟨he,hg⟩ => ?_
 subst he
 exact ⟨_,rfl,Go.CI.post_of_below (pa:=p0) (pv:=[]) hW' (fun _ _ _ => (trodAll_cons_mk (shut_bool Tryz.underlying4 _) trodAll_mk0)) (fun sp hsp => by have hh:=(trodAll_cons_mk (bk0 W' hg sp (fun p hp => hsp p (by simp [hp]))) trodAll_mk0); (try simp only [List.append_nil,List.nil_append] at hh); exact hh) (fun _ _ => rfl) (by simp)
  hg (ok_one (by kernel_rfl) rfl (okWide_bool_mk Tryz.underlying4 _))⟩
theorem over:Rows.pruleMadeRow.holds Tryz.pinned (OpenSpec.ofChange Rows.pruleMadeSpec) :=
 OpenClaim.holds_of_wide 6 Tryz.f6 rfl rfl rfl rfl rfl rfl rfl ⟨rfl,rfl,rfl,rfl,rfl⟩ rfl rfl rfl rfl rfl (by kernel_rfl) Tryz.func6 (by kernel_rfl)
  (of_decide_eq_true (by kernel_rfl)) (by unfold Func.isWrapper; first | (rw [if_pos (by decide +kernel)]; kernel_rfl) | (rw [if_neg (by decide +kernel)]; exact ⟨rfl,rfl⟩))
  (fun os started H enc _ => lifted os started H enc)
theorem proved:Rows.PruleMadeSaid :=
 over
#print axioms proved
end Go.Proofs.YtcokdlfmnhjngaaGreat.pruleMade
