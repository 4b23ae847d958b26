/- A deterministic interpreter over values, proved sound against the model's rules (part 6 of 7): what a run of it gives, a call in the model gives. -/
import Derived.Test.YthklcbclodeilaaGreatDoorCi5
import Derived.ChangeSame
import Derived.Below
import Derived.Shelf.Strings.Builder1
set_option linter.unusedVariables false
set_option linter.unusedSimpArgs false

/- A law without arguments: what is left to show is a run of the interpreter. -/
set_option linter.unusedVariables false
namespace Go.CI
open Go.RowKit

/-- The functions, by their numbers. -/
inductive CTree where
  | leaf (i : Nat) (fn : CFn)
  | node (m : Nat) (a b : CTree)

def CTree.get : CTree → Nat → Option CFn
  | .leaf i fn, f => bif Nat.beq f i then some fn else none
  | .node m a b, f => bif Nat.blt f m then a.get f else b.get f

def CTree.All (p : Nat → CFn → Prop) : CTree → Prop
  | .leaf i fn => p i fn
  | .node _ a b => a.All p ∧ b.All p

theorem CTree.get_all {p : Nat → CFn → Prop} {t : CTree} (h : t.All p) {f : Nat} {fn : CFn} (hg : t.get f = some fn) : p f fn := by
  induction t with
  | leaf i x =>
    have hg : (bif Nat.beq f i then some x else none) = some fn := hg
    cases hb : Nat.beq f i with
    | true => rw [hb] at hg; cases hg; have := Nat.eq_of_beq_eq_true hb; subst this; exact h
    | false => rw [hb] at hg; cases hg
  | node m a b iha ihb =>
    have hg : (bif Nat.blt f m then a.get f else b.get f) = some fn := hg
    cases hb : Nat.blt f m with
    | true => rw [hb] at hg; exact iha h.1 hg
    | false => rw [hb] at hg; exact ihb h.2 hg

section
variable {P : Program}

def FnOkAt (P : Program) (H : Hints) (base : Base) (f : Nat) : CFn → Prop
  | .ir fn => cfunc P H f = some fn
  | .prim p => SimPrim P base f p

theorem TOk.of_tree {H : Hints} {base : Base} {t : CTree} (h : t.All (FnOkAt P H base)) : TOk P H base t.get :=
  ⟨fun f fn hf => CTree.get_all h hf, fun f p hf => CTree.get_all (p := FnOkAt P H base) h hf⟩

def saysTrue : Option (CVal × CHeap) → Bool
  | some (.bool b, _) => b
  | _ => false

theorem closed_calls {H : Hints} {T : Nat → Option CFn} {n f : Nat} {fn : CFunc} (w : World) {F : Nat → Nat → Option CVal} {gl : List (Nat × List CVal)} (hgl : GlobsIn H.globals gl) (hmixed : P.follows .mixedOrders = true) (hT : TOk P H ⟨w.heap.size, gl⟩ T) (hf : T f = some (.ir fn)) (B : Begins w gl F)
    (hrun : saysTrue (crun T n f [] noHeap) = true) : Calls P f #[] w fun e w' => e = .returned (.bool true) ∧ Below w.heap.size w w' := by
  cases hr : crun T n f [] noHeap with
  | none => rw [hr] at hrun; cases hrun
  | some x =>
    obtain ⟨v, h'⟩ := x
    rw [hr] at hrun
    have hv : v = .bool true := by cases v <;> simp_all [saysTrue]
    subst hv
    refine Calls.mono (crun_calls hgl hmixed hT hf B (args := []) (cs := []) (VRs.nil _) hr) ?_
    rintro e w' ⟨u, G, rfl, _, hu, hb, _⟩
    rw [vr_bool hu]
    exact ⟨rfl, hb⟩
end

section
open Go.ChangeShapes Go.WideShapes
variable {H : Type} {enc : TypeId × Value → H} {P : Program}

/-- What is left behind a call that turned nothing of what was there. -/
theorem post_of_below {f : Func} {s : ChangeSpec} {apart fresh handsOn again : Bool} {W W' : World} {args : Array Value} {v : Value} {ds gs : List (DataW H)} {before pa pv : List MemPlace}
    (hW : DataW.Whole enc P f.params.toList s.vars apart W args.toList ds gs before)
    (hres : ∀ (b : Nat) (sp : Nat → Bool) (hd : Bool), DataW.TrodAll enc P W' b sp hd f.resultTypes.toList (v.resultList f.resultTypes.size) (s.fn H (ds ++ gs)).results [])
    (hargs : ∀ sp : Nat → Bool, (∀ p ∈ before, sp p.block = true) → DataW.TrodAll enc P W' 0 sp true f.params.toList args.toList (s.fn H (ds ++ gs)).args pa)
    (hvars : ∀ sp : Nat → Bool, (∀ p ∈ before, sp p.block = true) → DataW.TrodVars enc P W' sp s.vars (s.fn H (ds ++ gs)).vars pv)
    (hps : before = pa ++ pv) (hb : Below W.heap.size W W')
    (hok : ∀ (j : Nat) (t : TypeId) (r : Value), f.resultTypes[j]? = some t → (v.resultList f.resultTypes.size)[j]? = some r → Value.okWide P W' .any 0 t r) :
    s.post enc P f apart fresh handsOn again W args v W' := by
  have hold : ∀ p ∈ before, (fun b => decide (b < W.heap.size)) p.block = true := fun p hp => by simpa using hW.lt p hp
  have hlt := hW.lt
  refine ⟨ds, gs, before, [], pa, pv, hW, hres _ _ _, hargs _ hold, hvars _ hold, World.keptBut_mono (fun p hp => ⟨hp, ?_⟩) (hb.frame (· ∈ before)), fun _ => ?_⟩
  · rw [hps, List.mem_append] at hp
    exact Or.inr hp
  · obtain ⟨_, _, _, _, _, hz, hn⟩ := hW
    refine ⟨hok, _, _, ([] ++ pa) ++ pv, ⟨[] ++ pa, pv, trodAll_append (hargs _ (fun _ _ => rfl)) (hres _ _ _), hvars _ (fun _ _ => rfl), rfl, ?_, ?_⟩, ?_⟩
    · intro b off hp
      have hm : MemPlace.cell b off ∈ before := by rw [hps]; simpa using hp
      have hfr : W'.frozen? ⟨b, off, none⟩ = W.frozen? ⟨b, off, none⟩ := hb.frozen (by have := hlt _ hm; exact this)
      rw [hfr]
      exact hz b off hm
    · intro ha
      have := hn ha
      rw [hps] at this
      simpa using this
    · intro p hp _
      rw [hps]
      simpa using hp
end

section
variable {P : Program}

theorem size_of {t : TypeId} {k : Nat} (h : (P.info? t).map (·.size) = some k) (w : World) : (Go.sizeOf t).run P w = .ok k w := by
  obtain ⟨i, h1, h2⟩ := Option.map_eq_some_iff.1 h
  rw [r_size h1, h2]
theorem zero_of {t : TypeId} {z : Value} (h : (P.info? t).map (·.zero) = some (some z)) (w : World) : (zeroValue t).run P w = .ok z w := by
  obtain ⟨i, h1, h2⟩ := Option.map_eq_some_iff.1 h
  exact r_zero h1 h2

/-- The facts on slices.Insert that a program bears, each closed. -/
theorem InsLay.of {ρ : Go.Shelf.Ren} {nm : String} {k by_ : Nat} {z : Value} {fm : Func} (mixed : P.follows .mixedOrders = true) (f22 : P.funcs[ρ.f 22]? = some { Go.Proofs.Body2.n22 ρ with name := nm })
    (f29 : P.funcs[ρ.f 29]? = some fm) (h2 : (fm.name == "runtime.NumGoroutine") = false) (h3 : fm.body.isNone = true) (h4 : Extern.findNext fm = none) (h5 : Extern.find fm = some (Extern.SlicesOverlaps.overlaps #[ρ.t 24, ρ.t 24] #[ρ.t 4]))
    (t0 : P.underlying (ρ.t 0) = some (TypeDesc.tuple #[])) (t3 : P.underlying (ρ.t 3) = some (TypeDesc.int IntKind.i64)) (t4 : P.underlying (ρ.t 4) = some (TypeDesc.bool)) (t24 : P.underlying (ρ.t 24) = some (TypeDesc.slice (ρ.t 9)))
    (s3 : (P.info? (ρ.t 3)).map (·.size) = some 1) (s4 : (P.info? (ρ.t 4)).map (·.size) = some 1) (s24 : (P.info? (ρ.t 24)).map (·.size) = some 1)
    (z3 : (P.info? (ρ.t 3)).map (·.zero) = some (some (Value.int IntKind.i64 0))) (z4 : (P.info? (ρ.t 4)).map (·.zero) = some (some (Value.bool false))) (z24 : (P.info? (ρ.t 24)).map (·.zero) = some (some (Value.slice none 0 0)))
    (i9 : (P.info? (ρ.t 9)).map (fun i => (i.zero, i.size, i.bytes)) = some (some z, k, by_)) (k0 : 0 < k) : InsLay P ρ nm k z by_ where
  mixed := mixed
  f22 := f22
  ov args w := run_callFunc_extern f29 h2 h3 h4 h5 args w
  t0 := t0
  t3 := t3
  a3 w := r_agg t3
  z3 := size_of s3
  v3 := zero_of z3
  t4 := t4
  a4 w := r_agg t4
  z4 := size_of s4
  v4 := zero_of z4
  z9 := size_of (by
    obtain ⟨i, h1, h2⟩ := Option.map_eq_some_iff.1 i9
    have h3 := congrArg (fun x : Option Value × Nat × Nat => x.2.1) h2
    rw [h1]; exact congrArg some h3)
  t24 := t24
  a24 w := r_agg t24
  z24 := size_of s24
  v24 := zero_of z24
  i9 := i9
  k0 := k0
end
end Go.CI

/- strings.Builder's own functions, and others of the library, as functions of the interpreter's own. -/
set_option linter.unusedVariables false
namespace Go.CI

def hasPair : List (Nat × Nat) → Nat → Nat → Bool
  | [], _, _ => false
  | (a, b) :: r, x, y => (a == x && b == y) || hasPair r x y

/-- A Builder marks itself as used; oks: in which blocks, at which places. -/
def pCopyCheck (oks : List (Nat × Nat)) (xs : List CVal) (h : CHeap) : Option (CVal × CHeap) :=
  match xs with
  | [.ptr b d o] => if hasPair oks d o then match h.get b with
    | some (.cells cs) => match nth cs o with
      | .nilp => some (.tup [], h.set b (.cells (setCells cs o [.ptr b d o])))
      | .ptr b' d' o' => if b' == b && (d' == d && o' == o) then some (.tup [], h) else none
      | _ => none
    | _ => none else none
  | _ => none

def byteVals : List CVal → Option (List UInt8)
  | [] => some []
  | .int .u8 n :: r => if decide (0 ≤ n) && decide (n < 256) then (byteVals r).map (UInt8.ofNat n.toNat :: ·) else none
  | _ => none

/-- A row, written or not any more. -/
def rowOf : Option CObj → Option (Nat × List CVal)
  | some (.row v es) => some (v, es)
  | some (.frow v es) => some (v, es)
  | _ => none

/-- What a Builder holds, as a text: its row is written no more. -/
def pBString (T : Nat) (xs : List CVal) (h : CHeap) : Option (CVal × CHeap) :=
  match xs with
  | [.ptr b d o] => match h.get b with
    | some (.cells cs) => match nth cs (o + 1) with
      | .nils => some (.str [], h)
      | .ref r ver 1 off len => match rowOf (h.get r) with
        | some (v, es) => if v == ver && (decide (off + len ≤ es.length) && (decide (0 < len) && (decide (len ≤ sizeMost) && (h.ty r == some T)))) then (byteVals (cut off (off + len) es)).map fun l => (.str l, h.set r (.frow v es)) else none
        | _ => none
      | _ => none
    | _ => none
  | _ => none

/-- A row of bytes of which nothing is known. -/
def pMakeNoZero (T : Nat) (xs : List CVal) (h : CHeap) : Option (CVal × CHeap) :=
  match xs with
  | [.int .i64 n] => if decide (0 ≤ n) && decide (n ≤ sizeMost) then some (.ref h.next 0 1 0 n.toNat, (({ h with next := h.next + 1 } : CHeap).put h.next (.row 0 [])).note h.next (T + 1)) else none
  | _ => none

def hasFront : List UInt8 → List UInt8 → Bool
  | _, [] => true
  | [], _ :: _ => false
  | a :: x, b :: y => a == b && hasFront x y
def idxSub (p : List UInt8) : List UInt8 → Nat → Int
  | [], i => match p with
    | [] => i
    | _ :: _ => -1
  | a :: r, i => bif hasFront (a :: r) p then i else idxSub p r (i + 1)
def pIndex (xs : List CVal) (h : CHeap) : Option (CVal × CHeap) :=
  match xs with
  | [.str s, .str p] => if decide (s.length < 4294967281) then some (.int .i64 (idxSub p s 0), h) else none
  | _ => none
end Go.CI

/- The interpreter once more, in a form that the kernel runs fast: every choice is a recursor over closed terms. -/
set_option linter.unusedVariables false
namespace Go.CI
noncomputable def bF (b : Bool) : (β : Type) → β → β → β := @Bool.rec.{2} (fun _ => (β : Type) → β → β → β) (fun _ _ y => y) (fun _ x _ => x) b
theorem bF_eq (b : Bool) (β : Type) (x y : β) : bF b β x y = if b then x else y := by cases b <;> rfl
noncomputable def CTree.getF (t : CTree) : Nat → Option CFn :=
  @CTree.rec.{1} (fun _ => Nat → Option CFn) (fun i fn f => bF (Nat.beq f i) (Option CFn) (some fn) none) (fun m _ _ a b f => bF (Nat.blt f m) (Option CFn) (a f) (b f)) t

abbrev execF (T : Nat → Option CFn) (n : Nat) := exec T n
abbrev crunF (T : Nat → Option CFn) (n f : Nat) (args : List CVal) (h : CHeap) := crun T n f args h
theorem execF_eq (T : Nat → Option CFn) (n : Nat) : execF T n = exec T n := rfl
theorem crunF_eq (T : Nat → Option CFn) (n f : Nat) (args : List CVal) (h : CHeap) : crunF T n f args h = crun T n f args h := rfl
end Go.CI



namespace Go.CI
theorem CTree.getF_eq (t : CTree) (f : Nat) : t.getF f = t.get f := by
  induction t with
  | leaf i fn => show bF (Nat.beq f i) (Option CFn) (some fn) none = _; rw [bF_eq]; simp only [CTree.get]; cases Nat.beq f i <;> rfl
  | node m a b iha ihb => show bF (Nat.blt f m) (Option CFn) (a.getF f) (b.getF f) = _; rw [bF_eq, iha, ihb]; simp only [CTree.get]; cases Nat.blt f m <;> rfl
theorem crun_of_fast {t : CTree} {n f : Nat} {args : List CVal} {p : Option (CVal × CHeap) → Bool} (h : p (crunF t.getF n f args noHeap) = true) : p (crun t.get n f args noHeap) = true := by
  have e : t.getF = t.get := funext fun f => t.getF_eq f
  rw [crunF_eq, e] at h
  exact h
end Go.CI

/- strings.Builder.copyCheck as a function of the interpreter's own: it is the model's. -/
set_option linter.unusedVariables false
set_option linter.unusedSimpArgs false
namespace Go.CI
open Go.Shelf Go.RowKit Go.Lib Go.Proofs

section
variable {P : Program} {ρ : Ren}

set_option maxHeartbeats 1000000 in
set_option maxRecDepth 100000 in
theorem cc_used (L : Lays.n240 P ρ) (hs : (P.info? (ρ.t 72)).map (·.size) = some 2) (b o : Nat) (w : World) (h0 : w.cell? ⟨b, o, none⟩ = some (.pointer (some ⟨b, o, none⟩))) :
    Calls P (ρ.f 240) #[.pointer (some ⟨b, o, none⟩)] w fun e w' => e = .returned (.tuple #[]) ∧ w' = w := by
  obtain ⟨j, hj, _⟩ := Option.map_eq_some_iff.1 hs
  have mixed := L.mixed
  have t72 := L.t72; have a72 := L.a72; have z72 := L.z72; have v72 := L.v72; have u72 := run_underlying L.t72
  have t70 := L.t70; have a70 := L.a70; have z70 := L.z70; have v70 := L.v70; have u70 := run_underlying L.t70
  have t9 := L.t9; have a9 := L.a9; have z9 := L.z9; have v9 := L.v9; have u9 := run_underlying L.t9
  have t4 := L.t4; have a4 := L.a4; have z4 := L.z4; have v4 := L.v4; have u4 := run_underlying L.t4
  have t164 := L.t164; have a164 := L.a164; have z164 := L.z164; have v164 := L.v164; have u164 := run_underlying L.t164
  go_enter L.f240, Body.n240_ntmps ρ
  go_wp2
  rw [Lib.run_neq_ptr_same w _ L.t70 hj]
  go_wp2
  go_end0
  exact ⟨rfl, rfl⟩

set_option maxHeartbeats 1000000 in
set_option maxRecDepth 100000 in
theorem cc_fresh (L : Lays.n240 P ρ) (hs : (P.info? (ρ.t 72)).map (·.size) = some 2) (b o : Nat) (w : World) {T cells : Nat} (h0 : w.cell? ⟨b, o, none⟩ = some (.pointer none)) (hsh : w.shape? b = some (T, cells)) (hoff : o < cells)
    (hl : liesAt P P.depth T (cells / P.cellsOf T) o (ρ.t 72) 1 = true) (hfz : w.frozen? ⟨b, o, none⟩ = false) :
    Calls P (ρ.f 240) #[.pointer (some ⟨b, o, none⟩)] w fun e w' => e = .returned (.tuple #[]) ∧ w' = w.setCell ⟨b, o, none⟩ (.pointer (some ⟨b, o, none⟩)) := by
  obtain ⟨j, hj, hjs⟩ := Option.map_eq_some_iff.1 hs
  have mixed := L.mixed
  have t72 := L.t72; have a72 := L.a72; have z72 := L.z72; have v72 := L.v72; have u72 := run_underlying L.t72
  have t70 := L.t70; have a70 := L.a70; have z70 := L.z70; have v70 := L.v70; have u70 := run_underlying L.t70
  have t9 := L.t9; have a9 := L.a9; have z9 := L.z9; have v9 := L.v9; have u9 := run_underlying L.t9
  have t4 := L.t4; have a4 := L.a4; have z4 := L.z4; have v4 := L.v4; have u4 := run_underlying L.t4
  have t164 := L.t164; have a164 := L.a164; have z164 := L.z164; have v164 := L.v164; have u164 := run_underlying L.t164
  go_enter L.f240, Body.n240_ntmps ρ
  go_wp2
  rw [Lib.run_to_unsafe w ⟨b, o, none⟩ L.t70 L.t164 hj (by rw [hjs]; decide) hsh hoff]
  simp only [Result.andThen]
  rw [Oper.upon_value]
  go_wp2
  rw [run_callFunc_extern L.f276 (by kernel_rfl) (by kernel_rfl) (by kernel_rfl) (e := Extern.AbiNoEscape.same) (by kernel_rfl)]
  rw [Lib.run_noEscape]
  simp only [Result.andThen]
  rw [Oper.upon_value]
  go_wp2
  rw [Lib.run_from_unsafe w ⟨b, o, none⟩ L.t164 L.t70 hj hsh hl]
  simp only [Result.andThen]
  rw [Oper.upon_value]
  go_wp2
  go_end0
  exact ⟨rfl, rfl⟩
end

section
variable {P : Program} {ρ : Ren}

theorem liesAt_off {e : TypeId} (hc : P.cellsOf e = 1) (count off n : Nat) (hn : off + n ≤ count) : liesAt P P.depth e count off e n = true := by
  have hd : P.depth = (2 * (P.types.size + Made.depth) + 1) + 1 := rfl
  rw [hd]
  simp only [liesAt, Bool.or_eq_true]
  left
  rw [hd]
  simp [rowAt, hc, hn, sameLayout, Nat.mod_one]

theorem run_unsafeString_at (w : World) (pt it ty e : TypeId) (hp : P.underlying pt = some (.pointer e)) (hc : P.cellsOf e = 1) (g ro cells : Nat) (hsh : w.shape? g = some (e, cells)) (l : List UInt8) (h0 : l ≠ []) (hn : ro + l.length ≤ cells) (h63 : l.length ≤ 9223372036854775807)
    (hcell : ∀ j x, l[j]? = some x → w.cell? ((⟨g, ro, none⟩ : Addr).add j) = some (.int .u8 x.toNat)) :
    (Builtin.unsafeString_ #[pt, it] ty #[.pointer (some ⟨g, ro, none⟩), .int .i64 l.length]).run P w = .ok (.string ⟨l.toArray⟩) (w.freeze ⟨g, ro, none⟩ l.length) := by
  have hl : l.length ≠ 0 := by simpa using h0
  have hlb := Lib.run_loadBytes (P := P) w l ⟨g, ro, none⟩ .empty hcell
  have hlies := liesAt_off (P := P) hc (cells / P.cellsOf e) ro l.length (by rw [hc]; simpa using hn)
  have h63' : ¬ (9223372036854775807 : Int) < (l.length : Int) := by omega
  have hdef : Builtin.unsafeString_ #[pt, it] ty #[.pointer (some ⟨g, ro, none⟩), .int .i64 l.length] =
      (do
        let n ← asInt (.int .i64 l.length)
        if n < 0 then runtimePanic (.error "unsafe.String: len out of range")
        if n > IntKind.i64.max then unsupported (.unsafePointer "String: a length above the largest int")
        if n = 0 then pure (.string .empty)
        else if ← variablesAt ⟨g, ro, none⟩ (← elemOf pt) n.toNat then do
          let s ← loadBytes ⟨g, ro, none⟩ .empty n.toNat
          freeze ⟨g, ro, none⟩ n.toNat
          pure (.string s)
        else unsupported (.unsafePointer "String: not so many bytes at ptr")) := rfl
  rw [hdef]
  have hmax : IntKind.i64.max = 9223372036854775807 := rfl
  have hneg : ¬ (l.length : Int) < 0 := by omega
  simp [asInt, asIntOf, hmax, h63', hneg, hl, variablesAt, hsh, elemOf, run_underlying hp, hlies, hlb]

set_option maxHeartbeats 2000000 in
set_option maxRecDepth 100000 in
theorem bs_row (L : Lays.n169 P ρ) (X : Builder.Extra P ρ) (b o g ro cap cells : Nat) (l : List UInt8) (w : World) (hbuf : w.cell? ⟨b, o + 1, none⟩ = some (.slice (some ⟨g, ro, none⟩) l.length cap)) (h0 : l ≠ []) (hcap : cap ≠ 0)
    (hsh : w.shape? g = some (ρ.t 5, cells)) (hn : ro + l.length ≤ cells) (h63 : l.length ≤ 9223372036854775807) (hcell : ∀ j x, l[j]? = some x → w.cell? ((⟨g, ro, none⟩ : Addr).add j) = some (.int .u8 x.toNat)) :
    Calls P (ρ.f 169) #[.pointer (some ⟨b, o, none⟩)] w fun e w' => e = .returned (.string ⟨l.toArray⟩) ∧ w' = w.drew.freeze ⟨g, ro, none⟩ l.length := by
  have c1 : w.drew.cell? ⟨b, o + 1, none⟩ = some (.slice (some ⟨g, ro, none⟩) l.length cap) := hbuf
  have hSD : (Builtin.unsafeSliceData_ #[(ρ.t 37)] (ρ.t 127) #[.slice (some ⟨g, ro, none⟩) l.length cap]).run P w.drew = .ok (.pointer (some ⟨g, ro, none⟩)) w.drew :=
    Lib.run_unsafeSliceData_row _ _ _ _ _ _ hcap
  have hUS : (Builtin.unsafeString_ #[(ρ.t 127), (ρ.t 3)] (ρ.t 9) #[.pointer (some ⟨g, ro, none⟩), .int .i64 l.length]).run P w.drew = .ok (.string ⟨l.toArray⟩) (w.drew.freeze ⟨g, ro, none⟩ l.length) :=
    run_unsafeString_at w.drew (ρ.t 127) (ρ.t 3) (ρ.t 9) (ρ.t 5) L.t127 X.cellsByte g ro cells hsh l h0 hn h63 hcell
  have mixed := L.mixed
  have t72 := L.t72; have a72 := L.a72; have z72 := L.z72; have v72 := L.v72; have u72 := run_underlying L.t72
  have t70 := L.t70; have a70 := L.a70; have z70 := L.z70; have v70 := L.v70; have u70 := run_underlying L.t70
  have t37 := L.t37; have a37 := L.a37; have z37 := L.z37; have v37 := L.v37; have u37 := run_underlying L.t37
  have t127 := L.t127; have a127 := L.a127; have z127 := L.z127; have v127 := L.v127; have u127 := run_underlying L.t127
  have t3 := L.t3; have a3 := L.a3; have z3 := L.z3; have v3 := L.v3; have u3 := run_underlying L.t3
  have t9 := L.t9; have a9 := L.a9; have z9 := L.z9; have v9 := L.v9; have u9 := run_underlying L.t9
  have t5 := X.t5; have a5 := X.a5; have z5 := X.z5; have v5 := X.v5; have u5 := run_underlying X.t5
  go_enter L.f169, Body.n169_ntmps ρ
  go_wp2
  go_region_o
  all_goals (go_wp2; go_ret; exact ⟨rfl, rfl⟩)

set_option maxHeartbeats 2000000 in
set_option maxRecDepth 100000 in
theorem bs_nil (L : Lays.n169 P ρ) (X : Builder.Extra P ρ) (b o : Nat) (w : World) (hbuf : w.cell? ⟨b, o + 1, none⟩ = some (.slice none 0 0)) :
    Calls P (ρ.f 169) #[.pointer (some ⟨b, o, none⟩)] w fun e w' => e = .returned (.string ⟨#[]⟩) ∧ w' = w.drew := by
  have hUS := Any.unsafeString_none L X
  have c1 : w.drew.cell? ⟨b, o + 1, none⟩ = some (.slice none 0 0) := hbuf
  have hSD : (Builtin.unsafeSliceData_ #[(ρ.t 37)] (ρ.t 127) #[.slice none 0 0]).run P w.drew = .ok (.pointer none) w.drew := rfl
  have mixed := L.mixed
  have t72 := L.t72; have a72 := L.a72; have z72 := L.z72; have v72 := L.v72; have u72 := run_underlying L.t72
  have t70 := L.t70; have a70 := L.a70; have z70 := L.z70; have v70 := L.v70; have u70 := run_underlying L.t70
  have t37 := L.t37; have a37 := L.a37; have z37 := L.z37; have v37 := L.v37; have u37 := run_underlying L.t37
  have t127 := L.t127; have a127 := L.a127; have z127 := L.z127; have v127 := L.v127; have u127 := run_underlying L.t127
  have t3 := L.t3; have a3 := L.a3; have z3 := L.z3; have v3 := L.v3; have u3 := run_underlying L.t3
  have t9 := L.t9; have a9 := L.a9; have z9 := L.z9; have v9 := L.v9; have u9 := run_underlying L.t9
  have t5 := X.t5; have a5 := X.a5; have z5 := X.z5; have v5 := X.v5; have u5 := run_underlying X.t5
  go_enter L.f169, Body.n169_ntmps ρ
  go_wp2
  go_region_o
  all_goals (go_wp2; go_ret; exact ⟨rfl, rfl⟩)
end

section
variable {P : Program} {base : Base} {G : Gh} {h : CHeap} {w : World} {ρ : Ren}

/-- A variable's cell is written. -/
theorem post_cell (I : Inv base G h w) {b ab d o : Nat} {cs : List CVal} {c : CVal} {u : Value} (hm : G.mu b = some (ab, d)) (hb : h.get b = some (.cells cs)) (ho : o < cs.length) (hc : VR G c u) (hf : c.flat = true) :
    Post base (· = h.next) G h w G (h.set b (.cells (setCells cs o [c]))) (w.setCells ab o [u]) := by
  obtain ⟨own, I⟩ := I
  obtain ⟨hbn, hab, hown, hbk⟩ := I.mus b ab d hm
  obtain ⟨hl, hcel⟩ := (I.ents b _ hb).2 ab d hm
  have hlive : ∀ j, j < 1 → own ab (o + j) = some (.m b) ∧ Live w ab (o + j) := fun j hj => hown (o + j) (by omega)
  have hvs : VRs G [c] [u] := VRs.cons hc (VRs.nil G)
  refine post_write I (b := b) (x := .m b) (.inl rfl) hab (fun j hj => hlive j (by simpa using hj)) hb (fun b' hne => get_set_other hne) (fun q hq => ?_) rfl rfl (nodup_set h b _ I.nod)
  rw [get_set_self hb] at hq
  cases hq
  intro ab' k hm'
  rw [hm] at hm'
  cases hm'
  have hxl : o + [c].length ≤ cs.length := by simp; omega
  refine ⟨by rw [length_setCells _ _ _ hxl, hl], fun i c' hi => ?_⟩
  rw [getElem?_setCells _ _ _ hxl] at hi
  split at hi
  · rename_i hin
    exact ⟨by have := List.mem_of_getElem? hi; simp at this; rw [this]; exact hf, holds_in (fun j hj => (hlive j (by simpa using hj)).2) hvs hin hi⟩
  · rename_i hout
    obtain ⟨h1, v, hv, hr⟩ := hcel i c' hi
    exact ⟨h1, v, by rw [setCells_out (fun _ => by simp at hout ⊢; omega)]; exact hv, hr⟩

/-- Where a Builder lies in a block. -/
def ccOks (P : Program) (B : TypeId) (oks : List (Nat × Nat)) : Bool :=
  oks.all fun p => decide (p.1 ≠ 0) && (decide (p.2 < szOf p.1) && liesAt P P.depth (tyOf p.1) (szOf p.1 / P.cellsOf (tyOf p.1)) p.2 B 1)

theorem hasPair_mem : ∀ {l : List (Nat × Nat)} {x y : Nat}, hasPair l x y = true → (x, y) ∈ l
  | (a, b) :: r, x, y, h => by
    simp only [hasPair, Bool.or_eq_true, Bool.and_eq_true, beq_iff_eq] at h
    rcases h with ⟨rfl, rfl⟩ | h
    · simp
    · exact List.mem_cons_of_mem _ (hasPair_mem h)

theorem post_call {v : CVal} {h' : CHeap} {G' : Gh} {u : Value} {w' : World} (hv : VR G' v u) (hp : Post base (· = h.next) G h w G' h' w') : CallPost base G h w v h' u w' :=
  ⟨G', hv, post_ex hp fun j hj hlt _ => absurd hlt (by omega)⟩

theorem sim_copyCheck (L : Lays.n240 P ρ) (hname : ((Body.n240 ρ).name == "runtime.NumGoroutine") = false) (hs : (P.info? (ρ.t 72)).map (·.size) = some 2) {oks : List (Nat × Nat)} (hok : ccOks P (ρ.t 72) oks = true) : SimPrim P base (ρ.f 240) (pCopyCheck oks) := by
  intro G h w xs us v h' hp I hr
  unfold pCopyCheck at hp
  split at hp
  · rename_i b d o
    obtain ⟨X, rfl, hX⟩ := vrs_one hr
    split at hp
    · rename_i hpair
      have hm0 := List.all_eq_true.1 hok _ (hasPair_mem hpair)
      simp only [Bool.and_eq_true, decide_eq_true_eq] at hm0
      obtain ⟨hd0, ho, hlies⟩ := hm0
      cases hX with
      | ptr hm =>
        rename_i ab
        have I0 := I
        obtain ⟨own, Io⟩ := I0
        obtain ⟨hbn, hab, hown, hbk⟩ := Io.mus b ab d hm
        have hsh := hbk.2 hd0
        have hent : (callFunc (ρ.f 240) ⟨[.pointer (some ⟨ab, o, none⟩)]⟩).run P w = .ok (.enter (ρ.f 240) ⟨[.pointer (some ⟨ab, o, none⟩)]⟩) w :=
          run_enter (c := ((Body.n240 ρ).body).getD .skip) L.f240 hname (by rfl) _ w
        split at hp
        · rename_i cs hg
          obtain ⟨hl, hcel⟩ := (Io.ents b _ hg).2 ab d hm
          have hcl : o < cs.length := by omega
          obtain ⟨hfl, z, hz, hzr⟩ := hcel o _ (getElem?_nth hcl)
          split at hp
          · rename_i hnil
            cases hp
            rw [hnil] at hzr
            cases hzr
            refine .inr ⟨_, _, hent, ?_⟩
            refine (cc_fresh L hs ab o w hz hsh ho hlies (hown o ho).2.2).mono fun e w' ⟨he, hw'⟩ => ⟨_, he, ?_⟩
            subst hw'
            exact post_call (.tup rfl (VRs.nil G).2) (post_cell I hm hg hcl (.ptr hm) rfl)
          · rename_i b' d' o' hptr
            split at hp
            · rename_i hc
              simp only [Bool.and_eq_true, beq_iff_eq] at hc
              obtain ⟨rfl, rfl, rfl⟩ := hc
              cases hp
              rw [hptr] at hzr
              cases hzr with
              | ptr hm2 =>
                rw [hm] at hm2
                cases hm2
                refine .inr ⟨_, _, hent, ?_⟩
                refine (cc_used L hs ab o' w hz).mono fun e w' ⟨he, hw'⟩ => ⟨_, he, ?_⟩
                subst hw'
                exact ⟨G, .tup rfl (VRs.nil G).2, .refl I⟩
            · cases hp
          · cases hp
        · cases hp
    · cases hp
  · cases hp
end
end Go.CI
