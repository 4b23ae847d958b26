/- The law 'PvalMerges' holds: called with whatever arguments, in whatever memory, it returns true and turns nothing of what was there. No condition. -/
import Derived.Test.YtafeofghkhhhkaaGreatRows
import Derived.Test.YtafeofghkhhhkaaGreatLx9
import Derived.WalkKit
import Derived.ProofKit
import Derived.OpenShut
namespace Go.Proofs.YtafeofghkhhhkaaGreat.pvalMerges
open Go.ChangeShapes Go.WideShapes Go.ChangeAt Go.RowKit
set_option linter.unusedVariables false
set_option linter.unusedSimpArgs false
theorem own:ownKnob Tryz.prog.godebug=none:=by kernel_rfl
theorem walk (x0:Value) (z0:List Int) (c0:Go.CI.CVal) (w0:∀ x ∈ z0,(Lit.int .u8 x).wf=true) (s0':c0=.nils/\z0=[]\/c0=.imm .none 1 (z0.map (Go.CI.CVal.int .u8))) (x1:Value) (z1:List Int) (c1:Go.CI.CVal) (w1:∀ x ∈ z1,(Lit.int .u8 x).wf=true) (s1':c1=.nils/\z1=[]\/c1=.imm .none 1 (z1.map (Go.CI.CVal.int .u8))) (x2:Value) (z2:List Int) (c2:Go.CI.CVal) (w2:∀ x ∈ z2,(Lit.int .u8 x).wf=true) (s2':c2=.nils/\z2=[]\/c2=.imm .none 1 (z2.map (Go.CI.CVal.int .u8))) (w:World) (vr0:Go.CI.VR (Go.CI.Gh.of (Go.CI.Fw w)) c0 x0) (vr1:Go.CI.VR (Go.CI.Gh.of (Go.CI.Fw w)) c1 x1) (vr2:Go.CI.VR (Go.CI.Gh.of (Go.CI.Fw w)) c2 x2):Calls Tryz.prog 4 #[x0,x1,x2] w fun e w'=>e=.returned (.bool true)/\Below w.heap.size w w':=by
 have h0:∀ x ∈ z0,0<=x/\x<256:=by
  intro x hx
  have h:=w0 x hx
  simp only [Lit.wf,Bool.and_eq_true,decide_eq_true_eq] at h
  have e1:IntKind.min .u8=0:=rfl
  have e2:IntKind.max .u8=255:=rfl
  omega
 have h1:∀ x ∈ z1,0<=x/\x<256:=by
  intro x hx
  have h:=w1 x hx
  simp only [Lit.wf,Bool.and_eq_true,decide_eq_true_eq] at h
  have e1:IntKind.min .u8=0:=rfl
  have e2:IntKind.max .u8=255:=rfl
  omega
 have h2:∀ x ∈ z2,0<=x/\x<256:=by
  intro x hx
  have h:=w2 x hx
  simp only [Lit.wf,Bool.and_eq_true,decide_eq_true_eq] at h
  have e1:IntKind.min .u8=0:=rfl
  have e2:IntKind.max .u8=255:=rfl
  omega
 obtain ⟨mm,hmm⟩:=Go.CI.says_of (IrM.law c0 z0 s0' (fun x hx=>h0 x hx) c1 z1 s1' (fun x hx=>h1 x hx) c2 z2 s2' (fun x hx=>h2 x hx))
 have B:=Go.CI.begins_w (w:=w) (gl:=[]) Go.CI.GlOk.nil
 exact Go.CI.law_calls (H:=IrM.hints) (fn:=IrM.c4) (gl:=[]) w (fun _ _ h=>h) IrM.mixed (IrM.tok ⟨w.heap.size,_⟩ ⟨fun _ _ h=>h⟩) (by kernel_rfl) B (.cons vr0 (.cons vr1 (.cons vr2 (.nil _)))) hmm
set_option maxRecDepth 100000 in
theorem lifted (os:Os) (started:os.Started) (H:Type) (enc:TypeId × Value->H) :
    ReturnsInHanded {} Tryz.checked os 4 .any (Rows.pvalMergesSpec.pre6 enc Tryz.prog Tryz.f4 Rows.pvalMergesRow.domain false) (Rows.pvalMergesSpec.post enc Tryz.prog Tryz.f4 false true false false):=by
 refine returnsInHanded_of_change (C:=Tryz.checked) own started (by kernel_rfl) Tryz.func4
  (ChangeSpec.witness6 (enc:=enc) (C:=Tryz.checked) false ⟨#[],#[.slice none 0 0,.slice none 0 0,.slice none 0 0],[]⟩ 8 (by kernel_rfl) (by kernel_rfl) (by kernel_rfl) (by kernel_rfl)) ?_
 intro W base args ds gs before hval0 hW hcnd _
 have hval:∀ (j:Nat) t v,Tryz.f4.params[j]? = some t->args[j]? = some v->Value.okWide Tryz.prog W .any base t v:=hval0
 have hW':=hW
 obtain ⟨p,q,hA0,hV,rfl,hfz,hnd⟩:=hW
 have hA:DataW.TrodAll enc Tryz.prog W 0 (fun _=>true) true Tryz.f4.params.toList args.toList ds p:=hA0
 rw [Tryz.params4] at hA hval
 obtain ⟨x0,vs0,d0,ds0,p0,q0,hargs0,rfl,rfl,h0,r0⟩:=trodAll_cons hA
 obtain ⟨x1,vs1,d1,ds1,p1,q1,hargs1,rfl,rfl,h1,r1⟩:=trodAll_cons r0
 obtain ⟨x2,vs2,d2,ds2,p2,q2,hargs2,rfl,rfl,h2,r2⟩:=trodAll_cons r1
 obtain ⟨rfl,rfl,rfl⟩:=trodAll_nil r2
 subst hargs2
 subst hargs1
 obtain rfl:args=#[x0,x1,x2]:=by cases args;simp_all
 obtain ⟨rfl,rfl⟩:=trodVars_none hV
 obtain ⟨z0,c0,w0,s0',vr0,bk0⟩:=Go.CI.open_nums Tryz.underlying22 Tryz.underlying5 (by kernel_rfl) (hval 0 22 x0 rfl rfl) h0
 obtain ⟨z1,c1,w1,s1',vr1,bk1⟩:=Go.CI.open_nums Tryz.underlying22 Tryz.underlying5 (by kernel_rfl) (hval 1 22 x1 rfl rfl) h1
 obtain ⟨z2,c2,w2,s2',vr2,bk2⟩:=Go.CI.open_nums Tryz.underlying22 Tryz.underlying5 (by kernel_rfl) (hval 2 22 x2 rfl rfl) h2
 clear hA0 hval0
 simp only [List.append_nil,List.nil_append] at hW'
 refine (walk x0 z0 c0 w0 s0' x1 z1 c1 w1 s1' x2 z2 c2 w2 s2' W vr0 vr1 vr2).mono fun e W' ⟨he,hg⟩=>?_
 subst he
 exact ⟨_,rfl,Go.CI.post_of_below (pa:=p0++(p1++(p2))) (pv:=[]) hW' (fun _ _ _=>(trodAll_cons_mk (shut_bool Tryz.underlying4 _) trodAll_mk0)) (fun sp hsp=>by have hh:=(trodAll_cons_mk (bk0 W' hg sp (fun p hp=>hsp p (by simp [hp]))) (trodAll_cons_mk (bk1 W' hg sp (fun p hp=>hsp p (by simp [hp]))) (trodAll_cons_mk (bk2 W' hg sp (fun p hp=>hsp p (by simp [hp]))) trodAll_mk0)));(try simp only [List.append_nil,List.nil_append] at hh);exact hh) (fun _ _=>rfl) (by simp)
  hg (ok_one (by kernel_rfl) rfl (okWide_bool_mk Tryz.underlying4 _))⟩
theorem over:Rows.pvalMergesRow.holds Tryz.pinned (OpenSpec.ofChange Rows.pvalMergesSpec) :=
 OpenClaim.holds_of_wide 4 Tryz.f4 rfl rfl rfl rfl rfl rfl rfl ⟨rfl,rfl,rfl,rfl,rfl⟩ rfl rfl rfl rfl rfl (by kernel_rfl) Tryz.func4 (by kernel_rfl)
  (of_decide_eq_true (by kernel_rfl)) (by unfold Func.isWrapper;first | (rw [if_pos (by decide +kernel)];kernel_rfl) | (rw [if_neg (by decide +kernel)];exact ⟨rfl,rfl⟩))
  (fun os started H enc _=>lifted os started H enc)
theorem proved:Rows.PvalMergesSaid :=
 over
#print axioms proved
end Go.Proofs.YtafeofghkhhhkaaGreat.pvalMerges
