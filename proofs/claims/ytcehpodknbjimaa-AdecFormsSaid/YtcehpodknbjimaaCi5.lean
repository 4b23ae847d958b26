/- A law without arguments: what is left to show is a run of the interpreter. -/
import Derived.Test.YtcehpodknbjimaaCi4
import Derived.ChangeSame
import Derived.Below
set_option linter.unusedVariables false
namespace Go.CI
open Go.RowKit

/-- The functions, by their numbers. -/
inductive CTree where
  | leaf (i : Nat) (fn : CFn)
  | node (m : Nat) (a b : CTree)

def CTree.get : CTree → Nat → Option CFn
  | .leaf i fn, f => bif Nat.beq f i then some fn else none
  | .node m a b, f => bif Nat.blt f m then a.get f else b.get f

def CTree.All (p : Nat → CFn → Prop) : CTree → Prop
  | .leaf i fn => p i fn
  | .node _ a b => a.All p ∧ b.All p

theorem CTree.get_all {p : Nat → CFn → Prop} {t : CTree} (h : t.All p) {f : Nat} {fn : CFn} (hg : t.get f = some fn) : p f fn := by
  induction t with
  | leaf i x =>
    have hg : (bif Nat.beq f i then some x else none) = some fn := hg
    cases hb : Nat.beq f i with
    | true => rw [hb] at hg; cases hg; have := Nat.eq_of_beq_eq_true hb; subst this; exact h
    | false => rw [hb] at hg; cases hg
  | node m a b iha ihb =>
    have hg : (bif Nat.blt f m then a.get f else b.get f) = some fn := hg
    cases hb : Nat.blt f m with
    | true => rw [hb] at hg; exact iha h.1 hg
    | false => rw [hb] at hg; exact ihb h.2 hg

section
variable {P : Program}

def FnOkAt (P : Program) (H : Hints) (base f : Nat) : CFn → Prop
  | .ir fn => cfunc P H f = some fn
  | .prim p => SimPrim P base f p

theorem TOk.of_tree {H : Hints} {base : Nat} {t : CTree} (h : t.All (FnOkAt P H base)) : TOk P H base t.get :=
  ⟨fun f fn hf => CTree.get_all h hf, fun f p hf => CTree.get_all (p := FnOkAt P H base) h hf⟩

def saysTrue : Option (CVal × CHeap) → Bool
  | some (.bool b, _) => b
  | _ => false

theorem closed_calls {H : Hints} {T : Nat → Option CFn} {n f : Nat} {fn : CFunc} (w : World) (hmixed : P.follows .mixedOrders = true) (hT : TOk P H w.heap.size T) (hglob : H.globals = []) (hf : T f = some (.ir fn))
    (hrun : saysTrue (crun T n f [] noHeap) = true) : Calls P f #[] w fun e w' => e = .returned (.bool true) ∧ Below w.heap.size w w' := by
  cases hr : crun T n f [] noHeap with
  | none => rw [hr] at hrun; cases hrun
  | some x =>
    obtain ⟨v, h'⟩ := x
    rw [hr] at hrun
    have hv : v = .bool true := by cases v <;> simp_all [saysTrue]
    subst hv
    refine Calls.mono (crun_calls w hmixed hT hglob hf (args := []) (cs := []) rfl hr) ?_
    rintro e w' ⟨u, G, rfl, hu, hb, _⟩
    rw [vr_bool hu]
    exact ⟨rfl, hb⟩
end

section
open Go.ChangeShapes Go.WideShapes
variable {H : Type} {enc : TypeId × Value → H} {P : Program}

/-- What is left behind a call that turned nothing of what was there. -/
theorem post_of_below {f : Func} {s : ChangeSpec} {apart fresh handsOn again : Bool} {W W' : World} {args : Array Value} {v : Value} {ds gs : List (DataW H)} {before pa pv : List MemPlace}
    (hW : DataW.Whole enc P f.params.toList s.vars apart W args.toList ds gs before)
    (hres : ∀ (b : Nat) (sp : Nat → Bool) (hd : Bool), DataW.TrodAll enc P W' b sp hd f.resultTypes.toList (v.resultList f.resultTypes.size) (s.fn H (ds ++ gs)).results [])
    (hargs : ∀ sp : Nat → Bool, (∀ p ∈ before, sp p.block = true) → DataW.TrodAll enc P W' 0 sp true f.params.toList args.toList (s.fn H (ds ++ gs)).args pa)
    (hvars : ∀ sp : Nat → Bool, (∀ p ∈ before, sp p.block = true) → DataW.TrodVars enc P W' sp s.vars (s.fn H (ds ++ gs)).vars pv)
    (hps : before = pa ++ pv) (hb : Below W.heap.size W W')
    (hok : ∀ (j : Nat) (t : TypeId) (r : Value), f.resultTypes[j]? = some t → (v.resultList f.resultTypes.size)[j]? = some r → Value.okWide P W' .any 0 t r) :
    s.post enc P f apart fresh handsOn again W args v W' := by
  have hold : ∀ p ∈ before, (fun b => decide (b < W.heap.size)) p.block = true := fun p hp => by simpa using hW.lt p hp
  have hlt := hW.lt
  refine ⟨ds, gs, before, [], pa, pv, hW, hres _ _ _, hargs _ hold, hvars _ hold, World.keptBut_mono (fun p hp => ⟨hp, ?_⟩) (hb.frame (· ∈ before)), fun _ => ?_⟩
  · rw [hps, List.mem_append] at hp
    exact Or.inr hp
  · obtain ⟨_, _, _, _, _, hz, hn⟩ := hW
    refine ⟨hok, _, _, ([] ++ pa) ++ pv, ⟨[] ++ pa, pv, trodAll_append (hargs _ (fun _ _ => rfl)) (hres _ _ _), hvars _ (fun _ _ => rfl), rfl, ?_, ?_⟩, ?_⟩
    · intro b off hp
      have hm : MemPlace.cell b off ∈ before := by rw [hps]; simpa using hp
      have hfr : W'.frozen? ⟨b, off, none⟩ = W.frozen? ⟨b, off, none⟩ := hb.frozen (by have := hlt _ hm; exact this)
      rw [hfr]
      exact hz b off hm
    · intro ha
      have := hn ha
      rw [hps] at this
      simpa using this
    · intro p hp _
      rw [hps]
      simpa using hp
end

section
variable {P : Program}

theorem size_of {t : TypeId} {k : Nat} (h : (P.info? t).map (·.size) = some k) (w : World) : (Go.sizeOf t).run P w = .ok k w := by
  obtain ⟨i, h1, h2⟩ := Option.map_eq_some_iff.1 h
  rw [r_size h1, h2]
theorem zero_of {t : TypeId} {z : Value} (h : (P.info? t).map (·.zero) = some (some z)) (w : World) : (zeroValue t).run P w = .ok z w := by
  obtain ⟨i, h1, h2⟩ := Option.map_eq_some_iff.1 h
  exact r_zero h1 h2

/-- The facts on slices.Insert that a program bears, each closed. -/
theorem InsLay.of {ρ : Go.Shelf.Ren} {nm : String} {k by_ : Nat} {z : Value} {fm : Func} (mixed : P.follows .mixedOrders = true) (f22 : P.funcs[ρ.f 22]? = some { Go.Proofs.Body2.n22 ρ with name := nm })
    (f29 : P.funcs[ρ.f 29]? = some fm) (h2 : (fm.name == "runtime.NumGoroutine") = false) (h3 : fm.body.isNone = true) (h4 : Extern.findNext fm = none) (h5 : Extern.find fm = some (Extern.SlicesOverlaps.overlaps #[ρ.t 24, ρ.t 24] #[ρ.t 4]))
    (t0 : P.underlying (ρ.t 0) = some (TypeDesc.tuple #[])) (t3 : P.underlying (ρ.t 3) = some (TypeDesc.int IntKind.i64)) (t4 : P.underlying (ρ.t 4) = some (TypeDesc.bool)) (t24 : P.underlying (ρ.t 24) = some (TypeDesc.slice (ρ.t 9)))
    (s3 : (P.info? (ρ.t 3)).map (·.size) = some 1) (s4 : (P.info? (ρ.t 4)).map (·.size) = some 1) (s24 : (P.info? (ρ.t 24)).map (·.size) = some 1)
    (z3 : (P.info? (ρ.t 3)).map (·.zero) = some (some (Value.int IntKind.i64 0))) (z4 : (P.info? (ρ.t 4)).map (·.zero) = some (some (Value.bool false))) (z24 : (P.info? (ρ.t 24)).map (·.zero) = some (some (Value.slice none 0 0)))
    (i9 : (P.info? (ρ.t 9)).map (fun i => (i.zero, i.size, i.bytes)) = some (some z, k, by_)) (k0 : 0 < k) : InsLay P ρ nm k z by_ where
  mixed := mixed
  f22 := f22
  ov args w := run_callFunc_extern f29 h2 h3 h4 h5 args w
  t0 := t0
  t3 := t3
  a3 w := r_agg t3
  z3 := size_of s3
  v3 := zero_of z3
  t4 := t4
  a4 w := r_agg t4
  z4 := size_of s4
  v4 := zero_of z4
  z9 := size_of (by
    obtain ⟨i, h1, h2⟩ := Option.map_eq_some_iff.1 i9
    have h3 := congrArg (fun x : Option Value × Nat × Nat => x.2.1) h2
    rw [h1]; exact congrArg some h3)
  t24 := t24
  a24 w := r_agg t24
  z24 := size_of s24
  v24 := zero_of z24
  i9 := i9
  k0 := k0
end
end Go.CI
