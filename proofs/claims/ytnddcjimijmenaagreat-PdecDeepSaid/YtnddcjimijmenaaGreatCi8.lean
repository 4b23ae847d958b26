/- A deterministic interpreter over values, proved sound against the model's rules (part 8 of 8): what a run of it gives, a call in the model gives. -/
import Derived.Test.YtnddcjimijmenaaGreatCi7
import Derived.ChangeSlices
import Derived.ChangeShapes
set_option linter.unusedVariables false
set_option linter.unusedSimpArgs false

/- What a run comes to, backwards: rules by which a run is walked by hand. -/
set_option linter.unusedVariables false
set_option linter.unusedSimpArgs false
namespace Go.CI

section
variable {T : Nat → Option CFn}

def W (T : Nat → Option CFn) (c : CCode) (st : CSt) (Q : CExit → CSt → Prop) : Prop := ∃ x st', Ev T c st x st' ∧ Q x st'
def Wc (T : Nat → Option CFn) (f : Nat) (args : List CVal) (h : CHeap) (K : CVal → CHeap → Prop) : Prop := ∃ v h', Cl T f args h v h' ∧ K v h'
def Wo (T : Nat → Option CFn) (tm : List CVal) (id : Nat) (ops : List COper) (s : RS) (K : RS → Prop) : Prop := ∃ s', Ops T tm id ops s s' ∧ K s'

/-- Behind the first of two. -/
def thenW (T : Nat → Option CFn) (b : CCode) (Q : CExit → CSt → Prop) (x : CExit) (st : CSt) : Prop := match x with
  | .normal => W T b st Q
  | x => Q x st
theorem thenW_normal {b : CCode} {Q : CExit → CSt → Prop} {st : CSt} : thenW T b Q .normal st = W T b st Q := rfl
theorem thenW_ret {b : CCode} {Q : CExit → CSt → Prop} {st : CSt} : thenW T b Q .ret st = Q .ret st := rfl
theorem thenW_exit {b : CCode} {Q : CExit → CSt → Prop} {st : CSt} {i : Nat} : thenW T b Q (.exit i) st = Q (.exit i) st := rfl

theorem W.skip {st : CSt} {Q : CExit → CSt → Prop} (h : Q .normal st) : W T .skip st Q := ⟨_, _, Ev.skip, h⟩
theorem W.ret {st : CSt} {Q : CExit → CSt → Prop} (h : Q .ret st) : W T .ret st Q := ⟨_, _, Ev.ret, h⟩
theorem W.exit {st : CSt} {i : Nat} {Q : CExit → CSt → Prop} (h : Q (.exit i) st) : W T (.exit i) st Q := ⟨_, _, Ev.exit, h⟩
theorem W.seq {a b : CCode} {st : CSt} {Q : CExit → CSt → Prop} (h : W T a st (thenW T b Q)) : W T (.seq a b) st Q := by
  obtain ⟨x, st1, h1, h2⟩ := h
  cases x with
  | normal => obtain ⟨y, st2, h3, h4⟩ := h2; exact ⟨y, st2, h1.seq h3, h4⟩
  | ret => exact ⟨_, _, h1.seq_out (by simp), h2⟩
  | exit i => exact ⟨_, _, h1.seq_out (by simp), h2⟩
theorem W.cond {c : COpnd} {a b : CCode} {st : CSt} {Q : CExit → CSt → Prop} (h : match evalOpnd st.tm [] c with | .bool true => W T a st Q | .bool false => W T b st Q | _ => False) : W T (.cond c a b) st Q := by
  split at h
  · rename_i e; obtain ⟨x, st', h1, h2⟩ := h; exact ⟨x, st', Ev.cond_true e h1, h2⟩
  · rename_i e; obtain ⟨x, st', h1, h2⟩ := h; exact ⟨x, st', Ev.cond_false e h1, h2⟩
  · exact h.elim
theorem W.cond_true {c : COpnd} {a b : CCode} {st : CSt} {Q : CExit → CSt → Prop} (e : evalOpnd st.tm [] c = .bool true) (h : W T a st Q) : W T (.cond c a b) st Q := W.cond (by rw [e]; exact h)
theorem W.cond_false {c : COpnd} {a b : CCode} {st : CSt} {Q : CExit → CSt → Prop} (e : evalOpnd st.tm [] c = .bool false) (h : W T b st Q) : W T (.cond c a b) st Q := W.cond (by rw [e]; exact h)
theorem W.block {id : Nat} {c : CCode} {st : CSt} {Q : CExit → CSt → Prop} (h : W T c st fun x st' => Q (outOf id x) st') : W T (.block id c) st Q := by
  obtain ⟨x, st', h1, h2⟩ := h
  exact ⟨_, _, h1.block, h2⟩
/-- Behind a round. -/
def roundW (T : Nat → Option CFn) (drop : Bool) (c : CCode) (n : Nat) (Q : CExit → CSt → Prop) (x : CExit) (st : CSt) : Prop := match x with
  | .normal => W T (.loop drop c) (dropped drop n st) Q
  | x => Q x st
theorem W.loop {drop : Bool} {c : CCode} {st : CSt} {Q : CExit → CSt → Prop} (h : W T c st (roundW T drop c st.h.next Q)) : W T (.loop drop c) st Q := by
  obtain ⟨x, st1, h1, h2⟩ := h
  cases x with
  | normal => obtain ⟨y, st2, h3, h4⟩ := h2; exact ⟨y, st2, h1.loop_step h3, h4⟩
  | ret => exact ⟨_, _, h1.loop_out (by simp), h2⟩
  | exit i => exact ⟨_, _, h1.loop_out (by simp), h2⟩
theorem W.mono {c : CCode} {st : CSt} {Q R : CExit → CSt → Prop} (h : W T c st Q) (hq : ∀ x st', Q x st' → R x st') : W T c st R := by
  obtain ⟨x, st', h1, h2⟩ := h
  exact ⟨x, st', h1, hq _ _ h2⟩

theorem Wo.nil {tm : List CVal} {id : Nat} {s : RS} {K : RS → Prop} (h : K s) : Wo T tm id [] s K := ⟨s, Ops.nil, h⟩
theorem Wo.plain {tm : List CVal} {id : Nat} {o : COper} {r : List COper} {s s1 : RS} {K : RS → Prop} (h1 : evalOper (fun _ _ _ => none) tm id o s = some s1) (h : Wo T tm (id + 1) r s1 K) : Wo T tm id (o :: r) s K := by
  obtain ⟨s', h2, h3⟩ := h
  exact ⟨s', Ops.plain h1 h2, h3⟩
/-- All that calls nothing, at once. -/
theorem Wo.all {tm : List CVal} {id : Nat} {ops : List COper} {s s1 : RS} {K : RS → Prop} (h1 : evalOps (fun _ _ _ => none) tm id ops s = some s1) (h : K s1) : Wo T tm id ops s K :=
  ⟨s1, ⟨0, evalOps_mono (fun _ _ _ _ h => by cases h) h1⟩, h⟩
theorem evalOps_append {cf : Nat → List CVal → CHeap → Option (CVal × CHeap)} {tm : List CVal} : ∀ {a b : List COper} {id : Nat} {s : RS}, evalOps cf tm id (a ++ b) s = (evalOps cf tm id a s).bind (evalOps cf tm (id + a.length) b)
  | [], b, id, s => by simp [evalOps]
  | o :: a, b, id, s => by
    simp only [List.cons_append, evalOps]
    cases evalOper cf tm id o s with
    | none => rfl
    | some s1 => simp only; rw [evalOps_append]; simp [Nat.add_comm, Nat.add_left_comm]
/-- .. a part of them. -/
theorem Wo.front {tm : List CVal} {id : Nat} {a b : List COper} {s s1 : RS} {K : RS → Prop} (h1 : evalOps (fun _ _ _ => none) tm id a s = some s1) (h : Wo T tm (id + a.length) b s1 K) : Wo T tm id (a ++ b) s K := by
  obtain ⟨s', ⟨n, h2⟩, h3⟩ := h
  refine ⟨s', ⟨n, ?_⟩, h3⟩
  rw [evalOps_append, evalOps_mono (fun _ _ _ _ h => by cases h) h1]
  exact h2
theorem Wo.call {tm : List CVal} {id : Nat} {keep : Bool} {f : Nat} {xs : List COpnd} {r : List COper} {s : RS} {K : RS → Prop}
    (h : Wc T f (if keep then xs.map (evalOpnd tm s.vals) else xs.map fun x => (evalOpnd tm s.vals x).bare) s.h fun v h' => v.isUndef = false ∧ Wo T tm (id + 1) r { s with vals := v :: s.vals, h := h', hs := s.h :: s.hs } K) :
    Wo T tm id (⟨.call keep f xs, none⟩ :: r) s K := by
  obtain ⟨v, h', hc, hu, s', h2, h3⟩ := h
  refine ⟨s', Ops.call hc (s1 := { s with vals := v :: s.vals, h := h', hs := s.h :: s.hs }) ?_ h2, h3⟩
  simp [evalOper, wantedC, COp.cls, evalE, hu]
theorem W.region {ops : List COper} {wb : List (Nat × Nat)} {st : CSt} {Q : CExit → CSt → Prop} (h : Wo T st.tm st.h.next ops ⟨[], { st.h with next := st.h.next + ops.length }, st.defs, []⟩ fun s => Q .normal ⟨writeBack ops.length s.vals st.tm wb, s.h, s.defs⟩) :
    W T (.region ops wb [] []) st Q := by
  obtain ⟨s, h1, h2⟩ := h
  exact ⟨_, _, Ev.region h1 rfl, h2⟩

/-- A region whose readers are checked. -/
theorem W.regionC {ops : List COper} {wb : List (Nat × Nat)} {chk : List (Nat × Nat × Nat)} {sw : List (Nat × Nat)} {st : CSt} {Q : CExit → CSt → Prop}
    (h : Wo T st.tm st.h.next ops ⟨[], { st.h with next := st.h.next + ops.length }, st.defs, []⟩ fun s => (chk.all (checkOne st.tm ops ops.length s.vals (s.h :: s.hs).reverse) && sw.all (swapOne st.tm ops ops.length s.vals)) = true ∧ Q .normal ⟨writeBack ops.length s.vals st.tm wb, s.h, s.defs⟩) :
    W T (.region ops wb chk sw) st Q := by
  obtain ⟨s, h1, hc, h2⟩ := h
  exact ⟨_, _, Ev.region h1 hc, h2⟩

theorem Wc.mk {f : Nat} {fn : CFunc} {args : List CVal} {h : CHeap} {K : CVal → CHeap → Prop} (hf : T f = some (.ir fn)) (hn : args.length = fn.nargs)
    (hb : W T fn.body ⟨fn.params.map (initVar args), h, []⟩ fun x st => (∀ i, x ≠ .exit i) ∧ st.defs = [] ∧ ∃ vs v h', resultsC st.h st.tm fn.results = some vs ∧ finishC fn h.next (oneOrTuple vs) st.h = some (v, h') ∧ K v h') : Wc T f args h K := by
  obtain ⟨x, st, h1, hx, hd, vs, v, h', h2, h3, h4⟩ := hb
  exact ⟨v, h', Cl.mk hf hn h1 hx (by rw [hd]; exact Defs.nil) h2 h3, h4⟩
/-- What a function gives at its end. -/
def endsC (fn : CFunc) (n : Nat) (st : CSt) : Option (CVal × CHeap) := match resultsC st.h st.tm fn.results with
  | some vs => finishC fn n (oneOrTuple vs) st.h
  | none => none
def endW (fn : CFunc) (n : Nat) (K : CVal → CHeap → Prop) (x : CExit) (st : CSt) : Prop := (∀ i, x ≠ .exit i) ∧ st.defs = [] ∧ match endsC fn n st with
  | some p => K p.1 p.2
  | none => False
theorem Wc.mk' {f : Nat} {fn : CFunc} {args : List CVal} {h : CHeap} {K : CVal → CHeap → Prop} (hf : T f = some (.ir fn)) (hn : args.length = fn.nargs)
    (hb : W T fn.body ⟨fn.params.map (initVar args), h, []⟩ (endW fn h.next K)) : Wc T f args h K := by
  refine Wc.mk hf hn (hb.mono fun x st ⟨h1, h2, h3⟩ => ⟨h1, h2, ?_⟩)
  unfold endsC at h3
  cases hr : resultsC st.h st.tm fn.results with
  | none => rw [hr] at h3; exact h3.elim
  | some vs =>
    rw [hr] at h3
    dsimp only at h3
    cases hf : finishC fn h.next (oneOrTuple vs) st.h with
    | none => rw [hf] at h3; exact h3.elim
    | some p => rw [hf] at h3; exact ⟨vs, p.1, p.2, rfl, hf, h3⟩
theorem endW.intro {fn : CFunc} {n : Nat} {K : CVal → CHeap → Prop} {st : CSt} (hd : st.defs = []) (h : match endsC fn n st with | some p => K p.1 p.2 | none => False) : endW fn n K .ret st := ⟨by simp, hd, h⟩
theorem Wc.mono {f : Nat} {args : List CVal} {h : CHeap} {K L : CVal → CHeap → Prop} (hc : Wc T f args h K) (hk : ∀ v h', K v h' → L v h') : Wc T f args h L := by
  obtain ⟨v, h', h1, h2⟩ := hc
  exact ⟨v, h', h1, hk _ _ h2⟩
theorem Wc.prim {f : Nat} {p : List CVal → CHeap → Option (CVal × CHeap)} {args : List CVal} {h h' : CHeap} {v : CVal} {K : CVal → CHeap → Prop} (hf : T f = some (.prim p)) (hp : p args h = some (v, h')) (hk : K v h') : Wc T f args h K :=
  ⟨v, h', Cl.prim hf hp, hk⟩

/-- A region that calls nothing. -/
def stepR (st : CSt) (ops : List COper) (wb : List (Nat × Nat)) : Option CSt :=
  (evalOps (fun _ _ _ => none) st.tm st.h.next ops ⟨[], { st.h with next := st.h.next + ops.length }, st.defs, []⟩).map fun s => ⟨writeBack ops.length s.vals st.tm wb, s.h, s.defs⟩
theorem W.reg {ops : List COper} {wb : List (Nat × Nat)} {st : CSt} {Q : CExit → CSt → Prop} (h : match stepR st ops wb with | some st1 => Q .normal st1 | none => False) : W T (.region ops wb [] []) st Q := by
  unfold stepR at h
  cases he : evalOps (fun _ _ _ => none) st.tm st.h.next ops ⟨[], { st.h with next := st.h.next + ops.length }, st.defs, []⟩ with
  | none => rw [he] at h; exact h.elim
  | some s => rw [he] at h; exact W.region (Wo.all he h)
/-- .. up to a call. -/
theorem Wo.upto (k : Nat) {tm : List CVal} {id : Nat} {ops : List COper} {s : RS} {K : RS → Prop} (hk : (ops.take k).length = k) (h : match evalOps (fun _ _ _ => none) tm id (ops.take k) s with | some s1 => Wo T tm (id + k) (ops.drop k) s1 K | none => False) : Wo T tm id ops s K := by
  cases he : evalOps (fun _ _ _ => none) tm id (ops.take k) s with
  | none => rw [he] at h; exact h.elim
  | some s1 =>
    rw [he] at h
    have := Wo.front (b := ops.drop k) (K := K) he (by rw [hk]; exact h)
    rwa [List.take_append_drop] at this
theorem Wo.rest {tm : List CVal} {id : Nat} {ops : List COper} {s : RS} {K : RS → Prop} (h : match evalOps (fun _ _ _ => none) tm id ops s with | some s1 => K s1 | none => False) : Wo T tm id ops s K := by
  cases he : evalOps (fun _ _ _ => none) tm id ops s with
  | none => rw [he] at h; exact h.elim
  | some s1 => rw [he] at h; exact Wo.all he h

/-- All of a heap's numbers lie below the next one. -/
def Under (l : List (Nat × CObj)) (n : Nat) : Prop := ∀ x ∈ l, x.1 < n
theorem dropEnts_under : ∀ {l : List (Nat × CObj)} {n : Nat}, Under l n → dropEnts l n = l
  | [], _, _ => rfl
  | (i, o) :: r, n, h => by
    have h1 : ¬ n ≤ i := by have := h (i, o) (by simp); simp at this; omega
    have h2 := dropEnts_under (l := r) (n := n) fun x hx => h x (by simp [hx])
    simp only [dropEnts, if_neg h1, h2]
theorem dropCells_under : ∀ {l : List (Nat × CObj)} {n : Nat}, Under l n → dropCells l n = l
  | [], _, _ => rfl
  | (i, o) :: r, n, h => by
    have h1 : ¬ n ≤ i := by have := h (i, o) (by simp); simp at this; omega
    have h2 := dropCells_under (l := r) (n := n) fun x hx => h x (by simp [hx])
    simp only [dropCells, if_neg h1, h2]
theorem getEnt_under {l : List (Nat × CObj)} {n b : Nat} (h : Under l n) (hb : n ≤ b) : getEnt l b = none := by
  induction l with
  | nil => rfl
  | cons x r ih =>
    obtain ⟨i, o⟩ := x
    unfold getEnt
    rw [if_neg (by have := h (i, o) (by simp); simp; omega)]
    exact ih fun x hx => h x (by simp [hx])
end
end Go.CI

/- Rules and facts for runs that are walked by hand. -/
set_option linter.unusedVariables false
set_option linter.unusedSimpArgs false
set_option maxRecDepth 100000
namespace Go.CI
open Go.RowKit
theorem sy_nbeq {a b : Nat} (h : a ≠ b) : (a == b) = false := by simp [h]
theorem sy_neqF {a b : Nat} (h : a ≠ b) : (a = b) = False := by simp [h]
theorem sy_leT {a b : Nat} (h : a ≤ b) : (a ≤ b) = True := by simp [h]
theorem sy_leF {a b : Nat} (h : b < a) : (a ≤ b) = False := by simp [h]
theorem sy_setEnt_setEnt : ∀ (l : List (Nat × CObj)) (m : Nat) (x y : CObj), setEnt (setEnt l m x) m y = setEnt l m y
  | [], _, _, _ => rfl
  | (i, o) :: r, m, x, y => by
    by_cases h : i = m
    · subst h; simp [setEnt]
    · simp [setEnt, h, sy_setEnt_setEnt r m x y]
theorem sy_getEnt_setEnt : ∀ {l : List (Nat × CObj)} {m : Nat} {o x : CObj}, getEnt l m = some o → getEnt (setEnt l m x) m = some x
  | [], _, _, _, h => by cases h
  | (i, q) :: r, m, o, x, h => by
    by_cases hi : i = m
    · subst hi; simp [setEnt, getEnt]
    · simp [getEnt, hi] at h
      simp [setEnt, getEnt, hi, sy_getEnt_setEnt h]
theorem Under.set {l : List (Nat × CObj)} {n m : Nat} {x : CObj} (h : Under l n) : Under (setEnt l m x) n := by
  induction l with
  | nil => exact h
  | cons a r ih =>
    obtain ⟨i, o⟩ := a
    have h1 : i < n := h (i, o) (by simp)
    have h2 : Under r n := fun y hy => h y (by simp [hy])
    unfold setEnt
    split
    · rename_i e; intro y hy; rcases List.mem_cons.1 hy with rfl | hy; exact h1; exact h2 y hy
    · intro y hy; rcases List.mem_cons.1 hy with rfl | hy; exact h1; exact ih h2 y hy
theorem Under.cons {l : List (Nat × CObj)} {n i : Nat} {o : CObj} (hi : i < n) (h : Under l n) : Under ((i, o) :: l) n := fun y hy => by
  rcases List.mem_cons.1 hy with rfl | hy
  · exact hi
  · exact h y hy
theorem Under.le {l : List (Nat × CObj)} {n m : Nat} (h : Under l n) (hnm : n ≤ m) : Under l m := fun y hy => Nat.lt_of_lt_of_le (h y hy) hnm
theorem sy_wrap64 {x : Int} (h : -4611686018427387904 ≤ x) (h2 : x < 4611686018427387904) : IntKind.i64.wrap x = x := by
  simp [IntKind.wrap, IntKind.bits, IntKind.signed]; omega

theorem Under.nil {n : Nat} : Under [] n := fun x hx => by cases hx
theorem Ev.seq_inv {T : Nat → Option CFn} {a b : CCode} {st st' : CSt} {x : CExit} (h : Ev T (.seq a b) st x st') : (∃ st1, Ev T a st .normal st1 ∧ Ev T b st1 x st') ∨ (Ev T a st x st' ∧ x ≠ .normal) := by
  obtain ⟨n, hx⟩ := h
  cases n with
  | zero => cases hx
  | succ n =>
    have hx : (match exec T n a st with | some (.normal, st1) => exec T n b st1 | r => r) = some (x, st') := hx
    cases ha : exec T n a st with
    | none => rw [ha] at hx; cases hx
    | some p =>
      obtain ⟨y, st1⟩ := p
      rw [ha] at hx
      cases y with
      | normal => exact .inl ⟨st1, ⟨n, ha⟩, ⟨n, hx⟩⟩
      | ret => cases hx; exact .inr ⟨⟨n, ha⟩, by simp⟩
      | exit i => cases hx; exact .inr ⟨⟨n, ha⟩, by simp⟩
theorem W.assoc {T : Nat → Option CFn} {a b c : CCode} {st : CSt} {Q : CExit → CSt → Prop} (h : W T (.seq (.seq a b) c) st Q) : W T (.seq a (.seq b c)) st Q := by
  obtain ⟨x, st', hx, hq⟩ := h
  refine ⟨x, st', ?_, hq⟩
  rcases hx.seq_inv with ⟨st1, h1, h2⟩ | ⟨h1, h2⟩
  · rcases h1.seq_inv with ⟨st2, h3, h4⟩ | ⟨_, h4⟩
    · exact h3.seq (h4.seq h2)
    · exact absurd rfl h4
  · rcases h1.seq_inv with ⟨st2, h3, h4⟩ | ⟨h3, _⟩
    · exact h3.seq (h4.seq_out h2)
    · exact h3.seq_out h2
theorem W.of_exec {T : Nat → Option CFn} {n : Nat} {c : CCode} {st st' : CSt} {x : CExit} {Q : CExit → CSt → Prop} (h : execF T n c st = some (x, st')) (hq : Q x st') : W T c st Q :=
  ⟨x, st', ⟨n, by rw [← execF_eq]; exact h⟩, hq⟩
/-- A run of the interpreter that says true, at whatever arguments. -/
theorem law_calls {P : Program} {H : Hints} {T : Nat → Option CFn} {n f : Nat} {fn : CFunc} (w : World) {F : Nat → Nat → Option CVal} {gl : List (Nat × List CVal)} {cs : List CVal} {args : List Value} (hgl : GlobsIn H.globals gl) (hmixed : P.follows .mixedOrders = true) (hT : TOk P H ⟨w.heap.size, gl⟩ T) (hf : T f = some (.ir fn)) (B : Begins w gl F)
    (ha : VRs (Gh.of F) cs args) (hrun : saysTrue (crun T n f cs noHeap) = true) : Calls P f ⟨args⟩ w fun e w' => e = .returned (.bool true) ∧ Below w.heap.size w w' := by
  cases hr : crun T n f cs noHeap with
  | none => rw [hr] at hrun; cases hrun
  | some x =>
    obtain ⟨v, h'⟩ := x
    rw [hr] at hrun
    have hv : v = .bool true := by cases v <;> simp_all [saysTrue]
    subst hv
    refine Calls.mono (crun_calls hgl hmixed hT hf B ha hr) ?_
    rintro e w' ⟨u, G, rfl, _, hu, hb, _⟩
    rw [vr_bool hu]
    exact ⟨rfl, hb⟩
theorem crun_of_at {T : Nat → Option CFn} {n f : Nat} {args : List CVal} {p : Option (CVal × CHeap) → Bool} (h : p (crunF T n f args noHeap) = true) : p (crun T n f args noHeap) = true := by
  rw [crunF_eq] at h; exact h

section
variable {T : Nat → Option CFn}
/-- Deferred calls. -/
def Wd (T : Nat → Option CFn) (d : List (Nat × List CVal)) (h : CHeap) (K : CHeap → Prop) : Prop := ∃ h', Defs T d h h' ∧ K h'
theorem Wd.nil {h : CHeap} {K : CHeap → Prop} (hk : K h) : Wd T [] h K := ⟨h, Defs.nil, hk⟩
theorem Wd.cons {f : Nat} {fn : CFunc} {args : List CVal} {d : List (Nat × List CVal)} {h : CHeap} {K : CHeap → Prop} (hf : T f = some (.ir fn)) (hn : args.length = fn.nargs)
    (hb : W T fn.body ⟨fn.params.map (initVar args), h, []⟩ (endW fn h.next fun _ h1 => Wd T d h1 K)) : Wd T ((f, args) :: d) h K := by
  obtain ⟨x, st, h1, hx, hd, h2⟩ := hb
  unfold endsC at h2
  cases hr : resultsC st.h st.tm fn.results with
  | none => rw [hr] at h2; exact h2.elim
  | some vs =>
    rw [hr] at h2
    dsimp only at h2
    cases hfin : finishC fn h.next (oneOrTuple vs) st.h with
    | none => rw [hfin] at h2; exact h2.elim
    | some p =>
      rw [hfin] at h2
      obtain ⟨h', h3, h4⟩ := h2
      exact ⟨h', Defs.cons hf hn h1 hx hd hr hfin h3, h4⟩
/-- The end of a function that defers. -/
def endWD (T : Nat → Option CFn) (fn : CFunc) (n : Nat) (K : CVal → CHeap → Prop) (x : CExit) (st : CSt) : Prop := (∀ i, x ≠ .exit i) ∧ Wd T st.defs st.h fun h1 => match endsC fn n { st with h := h1 } with
  | some p => K p.1 p.2
  | none => False
theorem endWD.intro {fn : CFunc} {n : Nat} {K : CVal → CHeap → Prop} {st : CSt} (h : Wd T st.defs st.h fun h1 => match endsC fn n { st with h := h1 } with | some p => K p.1 p.2 | none => False) : endWD T fn n K .ret st := ⟨by simp, h⟩
theorem Wc.mkD {f : Nat} {fn : CFunc} {args : List CVal} {h : CHeap} {K : CVal → CHeap → Prop} (hf : T f = some (.ir fn)) (hn : args.length = fn.nargs)
    (hb : W T fn.body ⟨fn.params.map (initVar args), h, []⟩ (endWD T fn h.next K)) : Wc T f args h K := by
  obtain ⟨x, st, h1, hx, h2, h3, h4⟩ := hb
  unfold endsC at h4
  dsimp only at h4
  cases hr : resultsC h2 st.tm fn.results with
  | none => rw [hr] at h4; exact h4.elim
  | some vs =>
    rw [hr] at h4
    dsimp only at h4
    cases hfin : finishC fn h.next (oneOrTuple vs) h2 with
    | none => rw [hfin] at h4; exact h4.elim
    | some p => rw [hfin] at h4; exact ⟨p.1, p.2, Cl.mk hf hn h1 hx h3 hr hfin, h4⟩
end

/-- From a contract of the law's function to a run that says true. -/
theorem says_of {T : Nat → Option CFn} {f : Nat} {args : List CVal} (h : Wc T f args noHeap fun v h => v = .bool true) : ∃ m, saysTrue (crun T m f args noHeap) = true := by
  obtain ⟨v, h', ⟨m, hc⟩, rfl⟩ := h
  refine ⟨m, ?_⟩
  have : crun T m f args noHeap = some (.bool true, h') := hc
  rw [this]; rfl

theorem sy_wrapu64 {x : Int} (h : 0 ≤ x) (h2 : x < 18446744073709551616) : IntKind.u64.wrap x = x := by
  simp [IntKind.wrap, IntKind.bits, IntKind.signed]; omega
theorem sy_wrapu8 {x : Int} (h : 0 ≤ x) (h2 : x < 256) : IntKind.u8.wrap x = x := by
  simp [IntKind.wrap, IntKind.bits, IntKind.signed]; omega

/-- 'Or' of what does not overlap is the sum. -/
theorem or_low {v c s : Nat} (hv : v < 2 ^ s) : v ||| (c * 2 ^ s) = v + c * 2 ^ s := by
  have := Nat.shiftLeft_add_eq_or_of_lt hv c
  rw [Nat.shiftLeft_eq] at this
  rw [Nat.or_comm, ← this, Nat.add_comm]
theorem or_u64 {v c s : Nat} (hv : v < 2 ^ s) (hm : v + c * 2 ^ s < 2 ^ 64) : evalBits .or .u64 (v : Int) ((c * 2 ^ s : Nat) : Int) = some (.int .u64 ((v + c * 2 ^ s : Nat) : Int)) := by
  have h1 : v < 2 ^ 64 := by omega
  have h2 : c * 2 ^ s < 2 ^ 64 := by omega
  have e1 : (BitVec.ofInt 64 (v : Int)).toNat = v := by rw [BitVec.ofInt_natCast, BitVec.toNat_ofNat]; exact Nat.mod_eq_of_lt h1
  have e2 : (BitVec.ofInt 64 ((c * 2 ^ s : Nat) : Int)).toNat = c * 2 ^ s := by rw [BitVec.ofInt_natCast, BitVec.toNat_ofNat]; exact Nat.mod_eq_of_lt h2
  have e3 : (BitVec.ofInt 64 (v : Int) ||| BitVec.ofInt 64 ((c * 2 ^ s : Nat) : Int)).toNat = v + c * 2 ^ s := by
    rw [BitVec.toNat_or, e1, e2, or_low hv]
  show some (CVal.int .u64 (IntKind.u64.wrap ((BitVec.ofInt 64 (v : Int) ||| BitVec.ofInt 64 ((c * 2 ^ s : Nat) : Int)).toNat))) = _
  rw [e3, sy_wrapu64 (by omega) (by omega)]

/-- A number in groups of seven bits, the lowest first. -/
def vb (x : Nat) : List UInt8 := if x < 128 then [UInt8.ofNat x] else UInt8.ofNat (x % 128 + 128) :: vb (x / 128)
termination_by x
decreasing_by omega
theorem vb_small {x : Nat} (h : x < 128) : vb x = [UInt8.ofNat x] := by rw [vb, if_pos h]
theorem vb_great {x : Nat} (h : ¬ x < 128) : vb x = UInt8.ofNat (x % 128 + 128) :: vb (x / 128) := by rw [vb, if_neg h]
theorem vb_len : ∀ (n x : Nat), x < 128 ^ (n + 1) → (vb x).length ≤ n + 1
  | 0, x, h => by rw [vb_small (by simpa using h)]; simp
  | n + 1, x, h => by
    by_cases hs : x < 128
    · rw [vb_small hs]; simp
    · rw [vb_great hs]
      have := vb_len n (x / 128) (by rw [Nat.div_lt_iff_lt_mul (by omega)]; rw [Nat.pow_succ] at h; exact h)
      simp; omega
theorem vb_len_lt (x : Nat) (h : x < 18446744073709551616) : (vb x).length ≤ 10 := vb_len 9 x (Nat.lt_of_lt_of_le h (by decide))
theorem vb_ne (x : Nat) : vb x ≠ [] := by rw [vb]; split <;> simp
/-- Where the next call stands. -/
def callAt : List COper → Nat
  | [] => 0
  | ⟨.call _ _ _, none⟩ :: _ => 0
  | _ :: r => callAt r + 1
theorem callAt_le : ∀ ops : List COper, callAt ops ≤ ops.length
  | [] => Nat.le_refl _
  | o :: r => by
    unfold callAt
    split
    · exact Nat.zero_le _
    · exact Nat.zero_le _
    · rename_i h; cases h; have := callAt_le r; simp; omega
theorem Wo.next {T : Nat → Option CFn} {tm : List CVal} {id : Nat} {ops : List COper} {s : RS} {K : RS → Prop} (h : match evalOps (fun _ _ _ => none) tm id (ops.take (callAt ops)) s with | some s1 => Wo T tm (id + callAt ops) (ops.drop (callAt ops)) s1 K | none => False) : Wo T tm id ops s K :=
  Wo.upto (callAt ops) (by rw [List.length_take]; have := callAt_le ops; omega) h
theorem sy_ibeqF {a b : Int} (h : a ≠ b) : (a == b) = false := by simp [h]
theorem sy_ieqF {a b : Int} (h : a ≠ b) : (a = b) = False := by simp [h]
theorem sy_ileT {a b : Int} (h : a ≤ b) : (a ≤ b) = True := by simp [h]
theorem sy_ileF {a b : Int} (h : b < a) : (a ≤ b) = False := by simp [h]
theorem sy_iltT {a b : Int} (h : a < b) : (a < b) = True := by simp [h]
theorem sy_iltF {a b : Int} (h : b ≤ a) : (a < b) = False := by simp [h]
theorem sy_ltT {a b : Nat} (h : a < b) : (a < b) = True := by simp [h]
theorem sy_ltF {a b : Nat} (h : b ≤ a) : (a < b) = False := by simp [h]
/-- .. whatever it hangs on. -/
def callAtG : List COper → Nat
  | [] => 0
  | ⟨.call _ _ _, _⟩ :: _ => 0
  | _ :: r => callAtG r + 1
theorem callAtG_le : ∀ ops : List COper, callAtG ops ≤ ops.length
  | [] => Nat.le_refl _
  | o :: r => by
    unfold callAtG
    split
    · exact Nat.zero_le _
    · exact Nat.zero_le _
    · rename_i h; cases h; have := callAtG_le r; simp; omega
theorem Wo.nextG {T : Nat → Option CFn} {tm : List CVal} {id : Nat} {ops : List COper} {s : RS} {K : RS → Prop} (h : match evalOps (fun _ _ _ => none) tm id (ops.take (callAtG ops)) s with | some s1 => Wo T tm (id + callAtG ops) (ops.drop (callAtG ops)) s1 K | none => False) : Wo T tm id ops s K :=
  Wo.upto (callAtG ops) (by rw [List.length_take]; have := callAtG_le ops; omega) h
theorem Wo.callG {T : Nat → Option CFn} {tm : List CVal} {id : Nat} {keep : Bool} {f : Nat} {xs : List COpnd} {g : Option (Nat × Bool)} {r : List COper} {s : RS} {K : RS → Prop} (hw : wantedC s.vals g = true)
    (h : Wc T f (if keep then xs.map (evalOpnd tm s.vals) else xs.map fun x => (evalOpnd tm s.vals x).bare) s.h fun v h' => v.isUndef = false ∧ Wo T tm (id + 1) r { s with vals := v :: s.vals, h := h', hs := s.h :: s.hs } K) :
    Wo T tm id (⟨.call keep f xs, g⟩ :: r) s K := by
  obtain ⟨v, h', hc, hu, s', h2, h3⟩ := h
  refine ⟨s', Ops.call hc (s1 := { s with vals := v :: s.vals, h := h', hs := s.h :: s.hs }) ?_ h2, h3⟩
  simp [evalOper, hw, COp.cls, evalE, hu]
end Go.CI

/- What a call gives that turns no memory; regions walked to the next call that is made; prims by what they give. -/
set_option linter.unusedVariables false
set_option linter.unusedSimpArgs false
namespace Go.CI

/-- All noted rows' numbers lie below the next one. -/
def UnderT (l : List (Nat × Nat)) (n : Nat) : Prop := ∀ x ∈ l, x.1 < n
theorem UnderT.nil {n : Nat} : UnderT [] n := fun x hx => by cases hx
theorem UnderT.cons {l : List (Nat × Nat)} {n i t : Nat} (hi : i < n) (h : UnderT l n) : UnderT ((i, t) :: l) n := fun y hy => by
  rcases List.mem_cons.1 hy with rfl | hy
  · exact hi
  · exact h y hy
theorem UnderT.le {l : List (Nat × Nat)} {n m : Nat} (h : UnderT l n) (hnm : n ≤ m) : UnderT l m := fun y hy => Nat.lt_of_lt_of_le (h y hy) hnm
theorem lookupN_under : ∀ {l : List (Nat × Nat)} {n b : Nat}, UnderT l n → n ≤ b → lookupN l b = none
  | [], _, _, _, _ => rfl
  | (i, t) :: r, n, b, h, hb => by
    have h1 : i < n := h (i, t) (by simp)
    have h2 := lookupN_under (l := r) (fun x hx => h x (by simp [hx])) hb
    have : (i == b) = false := by simp; omega
    simp [lookupN, this, h2]
theorem getEnt_setEnt_ne {l : List (Nat × CObj)} {m n : Nat} {x : CObj} (h : n ≠ m) : getEnt (setEnt l m x) n = getEnt l n := by
  induction l with
  | nil => rfl
  | cons a r ih =>
    obtain ⟨i, o⟩ := a
    by_cases hi : i = m
    · subst hi
      simp [setEnt, getEnt, Ne.symm h]
    · by_cases hn : i = n
      · subst hn; simp [setEnt, getEnt, hi]
      · simp [setEnt, getEnt, hi, hn, ih]
theorem setEnt_same : ∀ {l : List (Nat × CObj)} {m : Nat} {x : CObj}, getEnt l m = some x → setEnt l m x = l
  | [], _, _, h => by cases h
  | (i, o) :: r, m, x, h => by
    by_cases hi : i = m
    · subst hi; simp [getEnt] at h; simp [setEnt, h]
    · simp [getEnt, hi] at h; simp [setEnt, hi, setEnt_same h]

section
variable {T : Nat → Option CFn}
theorem Wc.primM {f : Nat} {p : List CVal → CHeap → Option (CVal × CHeap)} {args : List CVal} {h : CHeap} {K : CVal → CHeap → Prop} (hf : T f = some (.prim p)) (hm : match p args h with | some r => K r.1 r.2 | none => False) : Wc T f args h K := by
  cases hp : p args h with
  | none => rw [hp] at hm; exact hm.elim
  | some r => rw [hp] at hm; exact Wc.prim hf hp hm
/-- A memory that is fit. -/
def Fit (h : CHeap) : Prop := Under h.ents h.next ∧ UnderT h.tys h.next
/-- What a call gives that turns no memory. -/
def Pu (T : Nat → Option CFn) (f : Nat) (args : List CVal) (v : CVal) : Prop := ∀ (h : CHeap), Fit h → ∀ (K : CVal → CHeap → Prop), (∀ n' ty, h.next ≤ n' → UnderT ty n' → K v ⟨h.ents, n', ty⟩) → Wc T f args h K

/-- A region's end. -/
def regOut (tm : List CVal) (ops : List COper) (wb : List (Nat × Nat)) (chk : List (Nat × Nat × Nat)) (sw : List (Nat × Nat)) (s : RS) : Option CSt :=
  if chk.all (checkOne tm ops ops.length s.vals (s.h :: s.hs).reverse) && sw.all (swapOne tm ops ops.length s.vals) then some ⟨writeBack ops.length s.vals tm wb, s.h, s.defs⟩ else none

inductive GoR where
  | done (st : CSt)
  | call (id f : Nat) (args : List CVal) (r : List COper) (s : RS)

/-- On to the next call that is made, or to the end. -/
def goR (tm : List CVal) (ops0 : List COper) (wb : List (Nat × Nat)) (chk : List (Nat × Nat × Nat)) (sw : List (Nat × Nat)) : Nat → List COper → RS → Option GoR
  | _, [], s => match regOut tm ops0 wb chk sw s with
    | some st => some (.done st)
    | none => none
  | id, o :: r, s => match wantedC s.vals o.guard, o.op with
    | true, .call keep f xs => some (.call id f (if keep then xs.map (evalOpnd tm s.vals) else xs.map fun x => (evalOpnd tm s.vals x).bare) r s)
    | true, .callv keep x xs => match evalOpnd tm s.vals x with
      | .fn (.func f) first cap => some (.call id f (first ++ ((if keep then xs.map (evalOpnd tm s.vals) else xs.map fun x => (evalOpnd tm s.vals x).bare) ++ cap)) r s)
      | _ => none
    | _, _ => match evalOper (fun _ _ _ => none) tm id o s with
      | some s' => goR tm ops0 wb chk sw (id + 1) r s'
      | none => none

def WoR (T : Nat → Option CFn) (tm : List CVal) (ops0 : List COper) (wb : List (Nat × Nat)) (chk : List (Nat × Nat × Nat)) (sw : List (Nat × Nat)) (Q : CExit → CSt → Prop) (id : Nat) (ops : List COper) (s : RS) : Prop :=
  Wo T tm id ops s fun s => match regOut tm ops0 wb chk sw s with | some st => Q .normal st | none => False

def goW (T : Nat → Option CFn) (tm : List CVal) (ops0 : List COper) (wb : List (Nat × Nat)) (chk : List (Nat × Nat × Nat)) (sw : List (Nat × Nat)) (Q : CExit → CSt → Prop) : Option GoR → Prop
  | some (.done st) => Q .normal st
  | some (.call id f args r s) => Wc T f args s.h fun v h' => v.isUndef = false ∧ WoR T tm ops0 wb chk sw Q (id + 1) r { s with vals := v :: s.vals, h := h', hs := s.h :: s.hs }
  | none => False

theorem Wo.callAny {tm : List CVal} {id : Nat} {o : COper} {f : Nat} {args : List CVal} {r : List COper} {s : RS} {K : RS → Prop} (hw : wantedC s.vals o.guard = true)
    (ho : ∀ cf, evalE cf (evalOpnd tm s.vals) s.h id o.op = cf f args s.h) (hc : o.op.cls = .e)
    (h : Wc T f args s.h fun v h' => v.isUndef = false ∧ Wo T tm (id + 1) r { s with vals := v :: s.vals, h := h', hs := s.h :: s.hs } K) : Wo T tm id (o :: r) s K := by
  obtain ⟨v, h', hc', hu, s', h2, h3⟩ := h
  refine ⟨s', Ops.call hc' (s1 := { s with vals := v :: s.vals, h := h', hs := s.h :: s.hs }) ?_ h2, h3⟩
  unfold evalOper
  rw [hw, if_pos rfl, hc]
  simp only [ho]
  simp [hu]

theorem WoR.go {tm : List CVal} {ops0 : List COper} {wb : List (Nat × Nat)} {chk : List (Nat × Nat × Nat)} {sw : List (Nat × Nat)} {Q : CExit → CSt → Prop} : ∀ {ops : List COper} {id : Nat} {s : RS}, goW T tm ops0 wb chk sw Q (goR tm ops0 wb chk sw id ops s) → WoR T tm ops0 wb chk sw Q id ops s
  | [], id, s, h => by
    unfold goR at h
    refine Wo.nil ?_
    cases hr : regOut tm ops0 wb chk sw s with
    | none => rw [hr] at h; exact h
    | some st => rw [hr] at h; exact h
  | o :: r, id, s, h => by
    have plain : (match evalOper (fun _ _ _ => none) tm id o s with | some s' => goR tm ops0 wb chk sw (id + 1) r s' | none => none) = goR tm ops0 wb chk sw id (o :: r) s → WoR T tm ops0 wb chk sw Q id (o :: r) s := fun e => by
      rw [← e] at h
      cases he : evalOper (fun _ _ _ => none) tm id o s with
      | none => rw [he] at h; exact h.elim
      | some s' => rw [he] at h; exact Wo.plain he (WoR.go h)
    obtain ⟨op, g⟩ := o
    cases hw : wantedC s.vals g with
    | false => refine plain ?_; conv => rhs; unfold goR; simp only [hw]
    | true =>
      cases op
      case call keep f xs =>
        unfold goR at h
        simp only [hw] at h
        exact Wo.callAny (f := f) hw (fun cf => rfl) rfl h
      case callv keep x xs =>
        unfold goR at h
        simp only [hw] at h
        split at h
        · rename_i f first cap e
          exact Wo.callAny (f := f) hw (fun cf => by simp [evalE, e]) rfl h
        · exact h.elim
      all_goals (refine plain ?_; conv => rhs; unfold goR; simp only [hw])

theorem W.regG {ops : List COper} {wb : List (Nat × Nat)} {chk : List (Nat × Nat × Nat)} {sw : List (Nat × Nat)} {st : CSt} {Q : CExit → CSt → Prop}
    (h : goW T st.tm ops wb chk sw Q (goR st.tm ops wb chk sw st.h.next ops ⟨[], { st.h with next := st.h.next + ops.length }, st.defs, []⟩)) : W T (.region ops wb chk sw) st Q := by
  have := WoR.go h
  unfold WoR at this
  obtain ⟨s, h1, h2⟩ := this
  unfold regOut at h2
  split at h2
  · rename_i st' e
    split at e
    · rename_i hc
      cases e
      exact ⟨_, _, Ev.region h1 hc, h2⟩
    · cases e
  · exact h2.elim

/-- A closed call that says true, in an empty memory. -/
theorem wc_start {m f n : Nat} {args : List CVal} (hr : (match crunF T m f args ⟨[], n, []⟩ with | some (.bool true, ⟨[], k, ty⟩) => decide (n ≤ k) && ty.all (fun x => decide (x.1 < k)) | _ => false) = true) {K : CVal → CHeap → Prop} (hk : ∀ n' ty, n ≤ n' → UnderT ty n' → K (.bool true) ⟨[], n', ty⟩) : Wc T f args ⟨[], n, []⟩ K := by
  split at hr
  · rename_i k ty e
    simp only [Bool.and_eq_true, decide_eq_true_eq] at hr
    exact ⟨_, _, ⟨m, by have := e; rw [crunF_eq] at this; exact this⟩, hk k ty hr.1 fun x hx => by have := List.all_eq_true.1 hr.2 x hx; simpa using this⟩
  · cases hr
theorem nth_mapG {α : Type} (f : α → CVal) : ∀ (s : List α) (i : Nat) (c : α), s[i]? = some c → nth (s.map f) i = f c
  | [], i, c, h => by simp at h
  | a :: r, 0, c, h => by simp at h; subst h; rfl
  | a :: r, i + 1, c, h => by simp at h; exact nth_mapG f r i c h
theorem get_of_dropG {α : Type} {s r : List α} {i : Nat} {c : α} (h : s.drop i = c :: r) : i < s.length ∧ s[i]? = some c ∧ s.drop (i + 1) = r := by
  have h1 : i < s.length := by
    rcases Nat.lt_or_ge i s.length with h' | h'
    · exact h'
    · rw [List.drop_eq_nil_of_le h'] at h; cases h
  rw [List.drop_eq_getElem_cons h1] at h
  simp only [List.cons.injEq] at h
  exact ⟨h1, by rw [List.getElem?_eq_getElem h1, h.1], h.2⟩

/-- A function's start. -/
def entryC (fn : CFunc) (args : List CVal) (h : CHeap) : CSt := ⟨fn.params.map (initVar args), h, []⟩
theorem Wc.mkG (f : Nat) (fn : CFunc) {args : List CVal} {h : CHeap} {K : CVal → CHeap → Prop} (hf : T f = some (.ir fn)) (hn : args.length = fn.nargs) (hb : W T fn.body (entryC fn args h) (endW fn h.next K)) : Wc T f args h K := Wc.mk' hf hn hb
theorem endW.of {fn : CFunc} {n : Nat} {K : CVal → CHeap → Prop} {x : CExit} {st : CSt} (hx : x = .ret ∨ x = .normal) (hd : st.defs = []) (h : match endsC fn n st with | some p => K p.1 p.2 | none => False) : endW fn n K x st := ⟨by rcases hx with rfl | rfl <;> simp, hd, h⟩
end
end Go.CI
namespace Go.CI
mutual
theorem beq_refl : ∀ v : CVal, CVal.beq v v = true
  | .undef => rfl
  | .bool b => by simp [CVal.beq]
  | .int k n => by simp [CVal.beq]
  | .str s => by simp [CVal.beq]
  | .nilp => rfl
  | .ptr _ _ _ => by simp [CVal.beq]
  | .cptr cs _ => by simp [CVal.beq, beqs_refl cs]
  | .eptr _ _ _ _ => by simp [CVal.beq]
  | .nils => rfl
  | .imm _ _ es => by simp [CVal.beq, beqs_refl es]
  | .ref _ _ _ _ _ => by simp [CVal.beq]
  | .nilm => rfl
  | .map _ => by simp [CVal.beq]
  | .fn _ a b => by simp [CVal.beq, beqs_refl a, beqs_refl b]
  | .nilf => rfl
  | .ifc _ v => by simp [CVal.beq, beq_refl v]
  | .nili => rfl
  | .agg cs => by simp [CVal.beq, beqs_refl cs]
  | .tup cs => by simp [CVal.beq, beqs_refl cs]
theorem beqs_refl : ∀ l : List CVal, beqs l l = true
  | [] => rfl
  | a :: l => by simp [beqs, beq_refl a, beqs_refl l]
end
end Go.CI

/- Slices of whole numbers as a law's arguments: what they are to the interpreter, and that they are read again as they were. -/
set_option linter.unusedVariables false
namespace Go
open Go.RowKit Go.ChangeShapes Go.WideShapes
variable {H : Type} {enc : TypeId × Value → H}

/-- A slice of whole numbers, opened: nil or a list. -/
theorem CI.open_nums {P : Program} {t e : TypeId} {k : IntKind} (ht : P.underlying t = some (.slice e)) (he : P.underlying e = some (.int k)) (hc : P.cellsOf e = 1) {w : World} {b0 : Nat} {v : Value} {d : DataW H} {ps : List MemPlace}
    (hval : Value.okWide P w .any b0 t v) (hd : DataW.Trod enc P w 0 (fun _ => true) true t v d ps) :
    ∃ (xs : List Int) (c : CI.CVal), (∀ x ∈ xs, (Lit.int k x).wf = true) ∧ (c = .nils ∧ xs = [] ∨ c = .imm .none 1 (xs.map (CI.CVal.int k))) ∧ CI.VR (CI.Gh.of (CI.Fw w)) c v ∧
      ∀ w', Below w.heap.size w w' → ∀ sp : Nat → Bool, (∀ p ∈ ps, sp p.block = true) → DataW.Trod enc P w' 0 sp true t v d ps := by
  obtain ⟨fuel, hf⟩ := hd
  have hsh : v = .slice none 0 0 ∨ ∃ a len cap, v = .slice (some a) len cap ∧ a.spot = none := by
    unfold Value.okWide at hval
    rw [ht] at hval
    simp only at hval
    unfold Cell.okWide at hval
    rw [ht] at hval
    simp only at hval
    unfold Cell.ok at hval
    rw [ht] at hval
    cases v with
    | slice a len cap =>
      cases a with
      | none =>
        cases len with
        | zero =>
          cases cap with
          | zero => exact .inl rfl
          | succ n => exact hval.elim
        | succ n => exact hval.elim
      | some a => exact .inr ⟨a, len, cap, rfl, hval.2.2.2.1⟩
    | _ => exact hval.elim
  rcases open_ints ht he hc hf with ⟨hcs, hx⟩ | ⟨a, len, cap, zs, hcs, hb, hl, hm, hz, hx, hcell, hw⟩
  · rcases hsh with rfl | ⟨a, len, cap, rfl, _⟩
    · obtain ⟨rfl, rfl⟩ := Prod.mk.inj hx
      exact ⟨[], .nils, by simp, .inl ⟨rfl, rfl⟩, .nils, fun w' hB sp _ => shut_slice_nil ht⟩
    · simp [Value.cells] at hcs
  · rcases hsh with rfl | ⟨a', len', cap', rfl, hspot⟩
    · simp [Value.cells] at hcs
    · simp [Value.cells] at hcs
      obtain ⟨rfl, rfl, rfl⟩ := hcs
      obtain ⟨rfl, rfl⟩ := Prod.mk.inj hx
      simp only [if_true] at hz
      obtain ⟨blk, off, spot⟩ := a'
      simp only at hspot
      subst hspot
      have hcell2 : ∀ i, i < zs.length → w.cell? ⟨blk, off + i, none⟩ = some (.int k (zs.getD i 0)) := fun i hi => by have := hcell i hi; rwa [add_plain] at this
      have hlt : (zs.take len').length = len' := by simp; omega
      refine ⟨zs.take len', .imm .none 1 ((zs.take len').map (CI.CVal.int k)), fun x hx => hw x (List.mem_of_mem_take hx), .inr rfl, ?_, ?_⟩
      · have := CI.VR.imm (G := CI.Gh.of (CI.Fw w)) (t := .none) (k := 1) (es := (zs.take len').map (CI.CVal.int k)) (a := ⟨blk, off, none⟩) (cap := cap') rfl (by decide) (by simp; omega) ?_ trivial
        · rwa [List.length_map, hlt] at this
        · intro i el hel
          rw [List.getElem?_map] at hel
          cases hq : (zs.take len')[i]? with
          | none => rw [hq] at hel; cases hel
          | some x =>
            rw [hq] at hel
            cases hel
            refine ⟨rfl, fun j c hc' => ?_⟩
            have hi : i < len' := by have := (List.getElem?_eq_some_iff.1 hq).1; omega
            have hx : zs.getD i 0 = x := by
              rw [List.getElem?_take] at hq
              simp only [hi, if_true] at hq
              simp [List.getD, hq]
            cases j with
            | succ j => simp [CI.CVal.cells] at hc'
            | zero =>
              simp [CI.CVal.cells] at hc'
              subst hc'
              refine ⟨rfl, ?_⟩
              show CI.Fw w blk (off + i * 1 + 0) = _
              unfold CI.Fw
              rw [show off + i * 1 + 0 = off + i by omega, hcell2 i (by omega), hx]
      · intro w' hB sp hsp
        have hcell' : ∀ i, i < zs.length → w'.cell? ((⟨blk, off, none⟩ : Addr).add i) = some (.int k (zs.getD i 0)) := fun i hi => by
          have h1 := hcell i hi
          have h2 := World.block_lt_of_cell? _ _ h1
          rw [hB.cell h2]; exact h1
        refine ⟨2, ?_⟩
        show DataW.trod enc P w' 0 sp true 2 t [.slice (some ⟨blk, off, none⟩) len' cap'] = _
        refine shut_ints (enc := enc) (w := w') (base := 0) (spare := sp) (held := true) 0 ht he hc (Nat.zero_le _) hl hm ?_ hcell' hw
        rcases Nat.eq_zero_or_pos zs.length with h0 | h0
        · rw [h0]; split <;> omega
        · have : sp blk = true := hsp (.cell blk (off + 0)) (by
            unfold MemPlace.row
            exact List.mem_map.2 ⟨0, List.mem_range.2 h0, rfl⟩)
          rw [this]; simpa using hz
end Go

namespace Go.CI
@[simp, reducible] def COper.v (j : Nat) : COper := ⟨.mv (.var j), none⟩
@[simp, reducible] def COper.m (x : COpnd) : COper := ⟨.mv x, none⟩
@[simp, reducible] def COper.n (j : Nat) : COper := ⟨.nilck (.loc j), none⟩
@[simp, reducible] def COper.f (o j : Nat) : COper := ⟨.fieldAddr o (.loc j), none⟩
@[simp, reducible] def COper.l (j : Nat) : COper := ⟨.load none (.loc j), none⟩
@[simp, reducible] def COper.g (o : COp) : COper := ⟨o, none⟩
@[simp, reducible] def COpnd.k (n : Int) : COpnd := .const (.int .i64 n)
@[simp, reducible] def COpnd.u (n : Int) : COpnd := .const (.int .u8 n)
@[simp, reducible] def COpnd.b (x : Bool) : COpnd := .const (.bool x)
@[simp, reducible] def COper.q (o : COp) (k : Nat) (b : Bool) : COper := ⟨o, some (k, b)⟩
@[simp, reducible] def COper.h (o : BinOp) (a b : Nat) : COper := ⟨.bin o (.loc a) (.loc b), none⟩
@[simp, reducible] def COper.x (o : BinOp) (a : Nat) (b : COpnd) : COper := ⟨.bin o (.loc a) b, none⟩
end Go.CI
