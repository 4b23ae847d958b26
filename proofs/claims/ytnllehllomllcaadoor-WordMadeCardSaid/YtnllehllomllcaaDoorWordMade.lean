/- The law 'WordMade' holds: called with whatever arguments, in whatever memory, it returns true and turns nothing of what was there. No condition. -/
import Derived.Test.YtnllehllomllcaaDoorRows
import Derived.Test.YtnllehllomllcaaDoorCards
import Derived.Test.YtnllehllomllcaaDoorTie
import Derived.Test.YtnllehllomllcaaDoorLx8
import Derived.WalkKit
import Derived.ProofKit
import Derived.OpenShut
import Derived.ChangeVars
import Derived.JoinedOf
import Derived.LaidLaws
import Derived.LaidMore
import Derived.SevenTiedAt
namespace Go.Proofs.YtnllehllomllcaaDoor.wordMade
open Go.ChangeShapes Go.WideShapes Go.ChangeAt Go.RowKit
set_option linter.unusedVariables false
set_option linter.unusedSimpArgs false

theorem own : ownKnob Tryd.prog.godebug = none := by kernel_rfl

theorem walk (x0 : Value) (z0 : List Int) (c0 : Go.CI.CVal) (w0 : ∀ x ∈ z0, (Lit.int .u8 x).wf = true) (s0' : c0 = .nils ∧ z0 = [] ∨ c0 = .imm .none 1 (z0.map (Go.CI.CVal.int .u8))) (b1 : Int) (w1 : (Lit.int .u16 b1).wf = true) (b2 : Int) (w2 : (Lit.int .u8 b2).wf = true) (w : World) (vr0 : Go.CI.VR (Go.CI.Gh.of (Go.CI.Fw w)) c0 x0) {m : Int} (hm : w.cell? ⟨0, 0, none⟩ = some (.int .i64 m)) {a0 : Addr} {s0 : ByteArray} (hv0 : w.cell? ⟨2, 0, none⟩ = some (.iface 109 (.pointer (some a0)))) (hc0 : w.cell? a0 = some (.string s0)) (hs0 : s0.data.toList = [118, 97, 108, 117, 101, 32, 111, 117, 116, 32, 111, 102, 32, 114, 97, 110, 103, 101]) :
    Calls Tryd.prog 3 #[x0, .int .u16 b1, .int .u8 b2] w fun e w' => e = .returned (.bool true) ∧ Below w.heap.size w w' := by
  have h0 : ∀ x ∈ z0, 0 ≤ x ∧ x < 256 := by
    intro x hx
    have h := w0 x hx
    simp only [Lit.wf, Bool.and_eq_true, decide_eq_true_eq] at h
    have e1 : IntKind.min .u8 = 0 := rfl
    have e2 : IntKind.max .u8 = 255 := rfl
    omega
  have h1 : 0 ≤ b1 ∧ b1 < 65536 := by
    have h := w1
    simp only [Lit.wf, Bool.and_eq_true, decide_eq_true_eq] at h
    have e1 : IntKind.min .u16 = 0 := rfl
    have e2 : IntKind.max .u16 = 65535 := rfl
    omega
  have h2 : 0 ≤ b2 ∧ b2 < 256 := by
    have h := w2
    simp only [Lit.wf, Bool.and_eq_true, decide_eq_true_eq] at h
    have e1 : IntKind.min .u8 = 0 := rfl
    have e2 : IntKind.max .u8 = 255 := rfl
    omega
  obtain ⟨mm, hmm⟩ := Go.CI.says_of (IrM.law c0 z0 s0' (fun x hx => h0 x hx) b1 b2 h1 h2)
  have B := Go.CI.begins_w (Go.CI.GlOk.int hm (Go.CI.GlOk.err hv0 hc0 hs0 Go.CI.GlOk.nil))
  exact Go.CI.law_calls (H := IrM.hints) (fn := IrM.c3) (gl := [(0, [.int .i64 m]), (2, [.ifc 109 (.cptr [.str [118, 97, 108, 117, 101, 32, 111, 117, 116, 32, 111, 102, 32, 114, 97, 110, 103, 101]] 0)])]) w (Go.CI.GlobsIn.cons (by kernel_rfl)) IrM.mixed (IrM.tok ⟨w.heap.size, _⟩ ⟨Go.CI.GlobsIn.cons (by kernel_rfl), ⟨m, rfl⟩⟩) (by kernel_rfl) B (.cons vr0 (.cons (.int _ _) (.cons (.int _ _) (.nil _)))) hmm

theorem star : "*" ++ "errors.errorString" = "*errors.errorString" := by decide
theorem rowErr (u : TypeId) (h : Tryd.prog.typeName? 3 u = some "*errors.errorString") : u = 109 :=
  typeName_ptr_named (nm := "errors.errorString") (by rw [star]; kernel_rfl) (by kernel_rfl) (by decide) u (by rw [star]; exact h)

/-- The settled world, with the listed variables as they are laid. -/
noncomputable def laidWorld (os : Os) : World :=
  let w0 := World.doorLaid Tryd.prog 600 os
  { w0 with heap := w0.heap.modify 3 fun
      | .cells _ t frozen => .cells (Go.Pinned.utf8FirstZ.map fun (n : Nat) => Value.int .u8 (Int.ofNat n)).toArray t frozen
      | o => o }
theorem zKv (os : Os) (args : Array Value) : laidMetH Tryd.prog Rows.wordMadeRow.laid ((laidWorld os).forCall (fun _ _ => 0) ⟨#[], args, []⟩).memory :=
  show laidMet Tryd.prog Rows.wordMadeRow.laid _ from laidMet_of_run' 600 (by kernel_rfl) (by kernel_rfl)

set_option maxRecDepth 100000 in
theorem lifted (os : Os) (started : os.Started) (H : Type) (enc : TypeId × Value → H) :
    ReturnsInHanded {} Tryd.checked os 3 .any (fun w args => (Rows.wordMadeSpec.pre enc Tryd.prog Tryd.f3 [] false w args ∧ laidMetH Tryd.prog Rows.wordMadeRow.laid w) ∧ sizedMet enc Tryd.prog Tryd.f3 (OpenSpec.ofChange Rows.wordMadeSpec) false w args)
      (Rows.wordMadeSpec.post enc Tryd.prog Tryd.f3 false true false false) := by
  refine Go.CI.returnsInHanded_laid (C := Tryd.checked) (X := fun w _ => laidMetH Tryd.prog Rows.wordMadeRow.laid w) (fun _ _ _ hh h => h.of_heap hh) own started (by kernel_rfl) Tryd.func3
    (ChangeSpec.witness_shaped (enc := enc) (C := Tryd.checked) (os := os) (X := fun w _ => laidMetH Tryd.prog Rows.wordMadeRow.laid w) false (laidWorld os) #[.slice none 0 0, .int .u16 0, .int .u8 0] 8 rfl (World.shaped_of_RefB (by kernel_rfl) (by kernel_rfl)) (by kernel_rfl) (by kernel_rfl) (by kernel_rfl) (zKv os _)) ?_
  intro W base args ds gs before hval0 hW hL hsh
  have hval : ∀ (j : Nat) t v, Tryd.f3.params[j]? = some t → args[j]? = some v → Value.okWide Tryd.prog W .any base t v := hval0
  have hW' := hW
  obtain ⟨p, q, hA0, hV, rfl, hfz, hnd⟩ := hW
  have hA : DataW.TrodAll enc Tryd.prog W 0 (fun _ => true) true Tryd.f3.params.toList args.toList ds p := hA0
  rw [Tryd.params3] at hA hval
  obtain ⟨x0, vs0, d0, ds0, p0, q0, hargs0, rfl, rfl, h0, r0⟩ := trodAll_cons hA
  obtain ⟨x1, vs1, d1, ds1, p1, q1, hargs1, rfl, rfl, h1, r1⟩ := trodAll_cons r0
  obtain ⟨x2, vs2, d2, ds2, p2, q2, hargs2, rfl, rfl, h2, r2⟩ := trodAll_cons r1
  obtain ⟨rfl, rfl, rfl⟩ := trodAll_nil r2
  subst hargs2
  subst hargs1
  obtain rfl : args = #[x0, x1, x2] := by cases args; simp_all
  obtain ⟨rfl, rfl⟩ := trodVars_none hV
  obtain ⟨z0, c0, w0, s0', vr0, bk0⟩ := Go.CI.open_nums Tryd.underlying22 Tryd.underlying5 (by kernel_rfl) (hval 0 22 x0 rfl rfl) h0
  obtain ⟨b1, rfl, rfl, rfl, w1⟩ := open_int Tryd.underlying23 (hval 1 23 x1 rfl rfl) h1
  obtain ⟨b2, rfl, rfl, rfl, w2⟩ := open_int Tryd.underlying5 (hval 2 5 x2 rfl rfl) h2
  clear hA0 hval0
  simp only [List.append_nil, List.nil_append] at hW'
  obtain ⟨m, hm⟩ := cell_of_shapedOpen_int (g := 0) (t := 3) (zero := #[.int .i64 0]) (k := .i64) hsh (by decide +kernel) (by kernel_rfl) rfl (by kernel_rfl) (by kernel_rfl) Tryd.underlying3
  have hL' : laidMet Tryd.prog Rows.wordMadeRow.laid W := hL
  obtain ⟨a0, s0, hv0, hc0, hs0, _⟩ := laid_sentinel (g := 2) (ti := 63) hL'.tail.tail.tail.tail (by kernel_rfl) (by kernel_rfl) Tryd.underlying63 rowErr Tryd.underlying109 Tryd.underlying111 rfl rfl Tryd.underlying9 (by kernel_rfl) (by kernel_rfl)
  have hv0' := World.var?_cell (show Tryd.prog.globalNamed "strconv.ErrRange" = some 2 by kernel_rfl) hv0 0
  refine (walk x0 z0 c0 w0 s0' b1 w1 b2 w2 W vr0 hm hv0' hc0 hs0).mono fun e W' ⟨he, hg⟩ => ?_
  subst he
  exact ⟨_, rfl, Go.CI.post_of_below (pa := p0) (pv := []) hW' (fun _ _ _ => (trodAll_cons_mk (shut_bool Tryd.underlying4 _) trodAll_mk0)) (fun sp hsp => by have hh := (trodAll_cons_mk (bk0 W' hg sp (fun p hp => hsp p (by simp [hp]))) (trodAll_cons_mk (shut_int Tryd.underlying23 w1) (trodAll_cons_mk (shut_int Tryd.underlying5 w2) trodAll_mk0))); (try simp only [List.append_nil, List.nil_append] at hh); exact hh) (fun _ _ => rfl) (by simp)
    hg (ok_one (by kernel_rfl) rfl (okWide_bool_mk Tryd.underlying4 _))⟩

theorem over : Rows.wordMadeRow.holds Tryd.pinned (OpenSpec.ofChange Rows.wordMadeSpec) :=
  OpenClaim.holds_of_wide 3 Tryd.f3 rfl rfl rfl rfl rfl rfl rfl ⟨rfl, rfl, rfl, rfl, rfl⟩ rfl rfl rfl rfl rfl (by kernel_rfl) Tryd.func3 (by kernel_rfl)
    (of_decide_eq_true (by kernel_rfl)) (by unfold Func.isWrapper; first | (rw [if_pos (by decide +kernel)]; kernel_rfl) | (rw [if_neg (by decide +kernel)]; exact ⟨rfl, rfl⟩))
    (fun os started H enc _ => lifted os started H enc)

theorem proved : Rows.WordMadeCardSaid :=
  Claim7.holds_tied_plain_at .later [] [.data, .data, .data, .data, .sentinel, .sentinel, .pinned] true (true, "607c9b384a77a7dad9bf3666a43fb2e6e154a904a6e7f5433663baf317c5a2d5") true
    over (fun _ h => by cases h) (by kernel_rfl) (fun _ h => by cases h) wordMade_row_tie rfl ⟨rfl, rfl⟩ (by kernel_rfl) rfl
    (fun f fn hf hfn => by
      obtain rfl : f = 3 := Option.some.inj ((show Tryd.prog.funcNamed "proclitic/procliticlaw7.WordMade" = some 3 by kernel_rfl).symm.trans hf) |>.symm
      obtain rfl : fn = Tryd.f3 := (Option.some.inj (Tryd.func3.symm.trans hfn)).symm
      exact ⟨by kernel_rfl, fun j t ht => by
        rw [Tryd.params3] at ht
        rcases j with _ | _ | _ | j <;> simp at ht <;> subst ht <;> kernel_rfl⟩)
    (by kernel_rfl)
#print axioms proved
end Go.Proofs.YtnllehllomllcaaDoor.wordMade
