/- What a run comes to, backwards: rules by which a run is walked by hand. -/
import Derived.Test.YtcehpodknbjimaaDoorBSym
set_option linter.unusedVariables false
set_option linter.unusedSimpArgs false
namespace Go.CI

section
variable {T : Nat → Option CFn}

def W (T : Nat → Option CFn) (c : CCode) (st : CSt) (Q : CExit → CSt → Prop) : Prop := ∃ x st', Ev T c st x st' ∧ Q x st'
def Wc (T : Nat → Option CFn) (f : Nat) (args : List CVal) (h : CHeap) (K : CVal → CHeap → Prop) : Prop := ∃ v h', Cl T f args h v h' ∧ K v h'
def Wo (T : Nat → Option CFn) (tm : List CVal) (id : Nat) (ops : List COper) (s : RS) (K : RS → Prop) : Prop := ∃ s', Ops T tm id ops s s' ∧ K s'

/-- Behind the first of two. -/
def thenW (T : Nat → Option CFn) (b : CCode) (Q : CExit → CSt → Prop) (x : CExit) (st : CSt) : Prop := match x with
  | .normal => W T b st Q
  | x => Q x st
theorem thenW_normal {b : CCode} {Q : CExit → CSt → Prop} {st : CSt} : thenW T b Q .normal st = W T b st Q := rfl
theorem thenW_ret {b : CCode} {Q : CExit → CSt → Prop} {st : CSt} : thenW T b Q .ret st = Q .ret st := rfl
theorem thenW_exit {b : CCode} {Q : CExit → CSt → Prop} {st : CSt} {i : Nat} : thenW T b Q (.exit i) st = Q (.exit i) st := rfl

theorem W.skip {st : CSt} {Q : CExit → CSt → Prop} (h : Q .normal st) : W T .skip st Q := ⟨_, _, Ev.skip, h⟩
theorem W.ret {st : CSt} {Q : CExit → CSt → Prop} (h : Q .ret st) : W T .ret st Q := ⟨_, _, Ev.ret, h⟩
theorem W.exit {st : CSt} {i : Nat} {Q : CExit → CSt → Prop} (h : Q (.exit i) st) : W T (.exit i) st Q := ⟨_, _, Ev.exit, h⟩
theorem W.seq {a b : CCode} {st : CSt} {Q : CExit → CSt → Prop} (h : W T a st (thenW T b Q)) : W T (.seq a b) st Q := by
  obtain ⟨x, st1, h1, h2⟩ := h
  cases x with
  | normal => obtain ⟨y, st2, h3, h4⟩ := h2; exact ⟨y, st2, h1.seq h3, h4⟩
  | ret => exact ⟨_, _, h1.seq_out (by simp), h2⟩
  | exit i => exact ⟨_, _, h1.seq_out (by simp), h2⟩
theorem W.cond {c : COpnd} {a b : CCode} {st : CSt} {Q : CExit → CSt → Prop} (h : match evalOpnd st.tm [] c with | .bool true => W T a st Q | .bool false => W T b st Q | _ => False) : W T (.cond c a b) st Q := by
  split at h
  · rename_i e; obtain ⟨x, st', h1, h2⟩ := h; exact ⟨x, st', Ev.cond_true e h1, h2⟩
  · rename_i e; obtain ⟨x, st', h1, h2⟩ := h; exact ⟨x, st', Ev.cond_false e h1, h2⟩
  · exact h.elim
theorem W.cond_true {c : COpnd} {a b : CCode} {st : CSt} {Q : CExit → CSt → Prop} (e : evalOpnd st.tm [] c = .bool true) (h : W T a st Q) : W T (.cond c a b) st Q := W.cond (by rw [e]; exact h)
theorem W.cond_false {c : COpnd} {a b : CCode} {st : CSt} {Q : CExit → CSt → Prop} (e : evalOpnd st.tm [] c = .bool false) (h : W T b st Q) : W T (.cond c a b) st Q := W.cond (by rw [e]; exact h)
theorem W.block {id : Nat} {c : CCode} {st : CSt} {Q : CExit → CSt → Prop} (h : W T c st fun x st' => Q (outOf id x) st') : W T (.block id c) st Q := by
  obtain ⟨x, st', h1, h2⟩ := h
  exact ⟨_, _, h1.block, h2⟩
/-- Behind a round. -/
def roundW (T : Nat → Option CFn) (drop : Bool) (c : CCode) (n : Nat) (Q : CExit → CSt → Prop) (x : CExit) (st : CSt) : Prop := match x with
  | .normal => W T (.loop drop c) (dropped drop n st) Q
  | x => Q x st
theorem W.loop {drop : Bool} {c : CCode} {st : CSt} {Q : CExit → CSt → Prop} (h : W T c st (roundW T drop c st.h.next Q)) : W T (.loop drop c) st Q := by
  obtain ⟨x, st1, h1, h2⟩ := h
  cases x with
  | normal => obtain ⟨y, st2, h3, h4⟩ := h2; exact ⟨y, st2, h1.loop_step h3, h4⟩
  | ret => exact ⟨_, _, h1.loop_out (by simp), h2⟩
  | exit i => exact ⟨_, _, h1.loop_out (by simp), h2⟩
theorem W.mono {c : CCode} {st : CSt} {Q R : CExit → CSt → Prop} (h : W T c st Q) (hq : ∀ x st', Q x st' → R x st') : W T c st R := by
  obtain ⟨x, st', h1, h2⟩ := h
  exact ⟨x, st', h1, hq _ _ h2⟩

theorem Wo.nil {tm : List CVal} {id : Nat} {s : RS} {K : RS → Prop} (h : K s) : Wo T tm id [] s K := ⟨s, Ops.nil, h⟩
theorem Wo.plain {tm : List CVal} {id : Nat} {o : COper} {r : List COper} {s s1 : RS} {K : RS → Prop} (h1 : evalOper (fun _ _ _ => none) tm id o s = some s1) (h : Wo T tm (id + 1) r s1 K) : Wo T tm id (o :: r) s K := by
  obtain ⟨s', h2, h3⟩ := h
  exact ⟨s', Ops.plain h1 h2, h3⟩
/-- All that calls nothing, at once. -/
theorem Wo.all {tm : List CVal} {id : Nat} {ops : List COper} {s s1 : RS} {K : RS → Prop} (h1 : evalOps (fun _ _ _ => none) tm id ops s = some s1) (h : K s1) : Wo T tm id ops s K :=
  ⟨s1, ⟨0, evalOps_mono (fun _ _ _ _ h => by cases h) h1⟩, h⟩
theorem evalOps_append {cf : Nat → List CVal → CHeap → Option (CVal × CHeap)} {tm : List CVal} : ∀ {a b : List COper} {id : Nat} {s : RS}, evalOps cf tm id (a ++ b) s = (evalOps cf tm id a s).bind (evalOps cf tm (id + a.length) b)
  | [], b, id, s => by simp [evalOps]
  | o :: a, b, id, s => by
    simp only [List.cons_append, evalOps]
    cases evalOper cf tm id o s with
    | none => rfl
    | some s1 => simp only; rw [evalOps_append]; simp [Nat.add_comm, Nat.add_left_comm]
/-- .. a part of them. -/
theorem Wo.front {tm : List CVal} {id : Nat} {a b : List COper} {s s1 : RS} {K : RS → Prop} (h1 : evalOps (fun _ _ _ => none) tm id a s = some s1) (h : Wo T tm (id + a.length) b s1 K) : Wo T tm id (a ++ b) s K := by
  obtain ⟨s', ⟨n, h2⟩, h3⟩ := h
  refine ⟨s', ⟨n, ?_⟩, h3⟩
  rw [evalOps_append, evalOps_mono (fun _ _ _ _ h => by cases h) h1]
  exact h2
theorem Wo.call {tm : List CVal} {id : Nat} {keep : Bool} {f : Nat} {xs : List COpnd} {r : List COper} {s : RS} {K : RS → Prop}
    (h : Wc T f (if keep then xs.map (evalOpnd tm s.vals) else xs.map fun x => (evalOpnd tm s.vals x).bare) s.h fun v h' => v.isUndef = false ∧ Wo T tm (id + 1) r { s with vals := v :: s.vals, h := h', hs := s.h :: s.hs } K) :
    Wo T tm id (⟨.call keep f xs, none⟩ :: r) s K := by
  obtain ⟨v, h', hc, hu, s', h2, h3⟩ := h
  refine ⟨s', Ops.call hc (s1 := { s with vals := v :: s.vals, h := h', hs := s.h :: s.hs }) ?_ h2, h3⟩
  simp [evalOper, wantedC, COp.cls, evalE, hu]
theorem W.region {ops : List COper} {wb : List (Nat × Nat)} {st : CSt} {Q : CExit → CSt → Prop} (h : Wo T st.tm st.h.next ops ⟨[], { st.h with next := st.h.next + ops.length }, st.defs, []⟩ fun s => Q .normal ⟨writeBack ops.length s.vals st.tm wb, s.h, s.defs⟩) :
    W T (.region ops wb [] []) st Q := by
  obtain ⟨s, h1, h2⟩ := h
  exact ⟨_, _, Ev.region h1 rfl, h2⟩

theorem Wc.mk {f : Nat} {fn : CFunc} {args : List CVal} {h : CHeap} {K : CVal → CHeap → Prop} (hf : T f = some (.ir fn)) (hn : args.length = fn.nargs)
    (hb : W T fn.body ⟨fn.params.map (initVar args), h, []⟩ fun x st => (∀ i, x ≠ .exit i) ∧ st.defs = [] ∧ ∃ vs v h', resultsC st.h st.tm fn.results = some vs ∧ finishC fn h.next (oneOrTuple vs) st.h = some (v, h') ∧ K v h') : Wc T f args h K := by
  obtain ⟨x, st, h1, hx, hd, vs, v, h', h2, h3, h4⟩ := hb
  exact ⟨v, h', Cl.mk hf hn h1 hx (by rw [hd]; exact Defs.nil) h2 h3, h4⟩
/-- What a function gives at its end. -/
def endsC (fn : CFunc) (n : Nat) (st : CSt) : Option (CVal × CHeap) := match resultsC st.h st.tm fn.results with
  | some vs => finishC fn n (oneOrTuple vs) st.h
  | none => none
def endW (fn : CFunc) (n : Nat) (K : CVal → CHeap → Prop) (x : CExit) (st : CSt) : Prop := (∀ i, x ≠ .exit i) ∧ st.defs = [] ∧ match endsC fn n st with
  | some p => K p.1 p.2
  | none => False
theorem Wc.mk' {f : Nat} {fn : CFunc} {args : List CVal} {h : CHeap} {K : CVal → CHeap → Prop} (hf : T f = some (.ir fn)) (hn : args.length = fn.nargs)
    (hb : W T fn.body ⟨fn.params.map (initVar args), h, []⟩ (endW fn h.next K)) : Wc T f args h K := by
  refine Wc.mk hf hn (hb.mono fun x st ⟨h1, h2, h3⟩ => ⟨h1, h2, ?_⟩)
  unfold endsC at h3
  cases hr : resultsC st.h st.tm fn.results with
  | none => rw [hr] at h3; exact h3.elim
  | some vs =>
    rw [hr] at h3
    dsimp only at h3
    cases hf : finishC fn h.next (oneOrTuple vs) st.h with
    | none => rw [hf] at h3; exact h3.elim
    | some p => rw [hf] at h3; exact ⟨vs, p.1, p.2, rfl, hf, h3⟩
theorem endW.intro {fn : CFunc} {n : Nat} {K : CVal → CHeap → Prop} {st : CSt} (hd : st.defs = []) (h : match endsC fn n st with | some p => K p.1 p.2 | none => False) : endW fn n K .ret st := ⟨by simp, hd, h⟩
theorem Wc.mono {f : Nat} {args : List CVal} {h : CHeap} {K L : CVal → CHeap → Prop} (hc : Wc T f args h K) (hk : ∀ v h', K v h' → L v h') : Wc T f args h L := by
  obtain ⟨v, h', h1, h2⟩ := hc
  exact ⟨v, h', h1, hk _ _ h2⟩
theorem Wc.prim {f : Nat} {p : List CVal → CHeap → Option (CVal × CHeap)} {args : List CVal} {h h' : CHeap} {v : CVal} {K : CVal → CHeap → Prop} (hf : T f = some (.prim p)) (hp : p args h = some (v, h')) (hk : K v h') : Wc T f args h K :=
  ⟨v, h', Cl.prim hf hp, hk⟩

/-- A region that calls nothing. -/
def stepR (st : CSt) (ops : List COper) (wb : List (Nat × Nat)) : Option CSt :=
  (evalOps (fun _ _ _ => none) st.tm st.h.next ops ⟨[], { st.h with next := st.h.next + ops.length }, st.defs, []⟩).map fun s => ⟨writeBack ops.length s.vals st.tm wb, s.h, s.defs⟩
theorem W.reg {ops : List COper} {wb : List (Nat × Nat)} {st : CSt} {Q : CExit → CSt → Prop} (h : match stepR st ops wb with | some st1 => Q .normal st1 | none => False) : W T (.region ops wb [] []) st Q := by
  unfold stepR at h
  cases he : evalOps (fun _ _ _ => none) st.tm st.h.next ops ⟨[], { st.h with next := st.h.next + ops.length }, st.defs, []⟩ with
  | none => rw [he] at h; exact h.elim
  | some s => rw [he] at h; exact W.region (Wo.all he h)
/-- .. up to a call. -/
theorem Wo.upto (k : Nat) {tm : List CVal} {id : Nat} {ops : List COper} {s : RS} {K : RS → Prop} (hk : (ops.take k).length = k) (h : match evalOps (fun _ _ _ => none) tm id (ops.take k) s with | some s1 => Wo T tm (id + k) (ops.drop k) s1 K | none => False) : Wo T tm id ops s K := by
  cases he : evalOps (fun _ _ _ => none) tm id (ops.take k) s with
  | none => rw [he] at h; exact h.elim
  | some s1 =>
    rw [he] at h
    have := Wo.front (b := ops.drop k) (K := K) he (by rw [hk]; exact h)
    rwa [List.take_append_drop] at this
theorem Wo.rest {tm : List CVal} {id : Nat} {ops : List COper} {s : RS} {K : RS → Prop} (h : match evalOps (fun _ _ _ => none) tm id ops s with | some s1 => K s1 | none => False) : Wo T tm id ops s K := by
  cases he : evalOps (fun _ _ _ => none) tm id ops s with
  | none => rw [he] at h; exact h.elim
  | some s1 => rw [he] at h; exact Wo.all he h

/-- All of a heap's numbers lie below the next one. -/
def Under (l : List (Nat × CObj)) (n : Nat) : Prop := ∀ x ∈ l, x.1 < n
theorem dropEnts_under : ∀ {l : List (Nat × CObj)} {n : Nat}, Under l n → dropEnts l n = l
  | [], _, _ => rfl
  | (i, o) :: r, n, h => by
    have h1 : ¬ n ≤ i := by have := h (i, o) (by simp); simp at this; omega
    have h2 := dropEnts_under (l := r) (n := n) fun x hx => h x (by simp [hx])
    simp only [dropEnts, if_neg h1, h2]
theorem dropCells_under : ∀ {l : List (Nat × CObj)} {n : Nat}, Under l n → dropCells l n = l
  | [], _, _ => rfl
  | (i, o) :: r, n, h => by
    have h1 : ¬ n ≤ i := by have := h (i, o) (by simp); simp at this; omega
    have h2 := dropCells_under (l := r) (n := n) fun x hx => h x (by simp [hx])
    simp only [dropCells, if_neg h1, h2]
theorem getEnt_under {l : List (Nat × CObj)} {n b : Nat} (h : Under l n) (hb : n ≤ b) : getEnt l b = none := by
  induction l with
  | nil => rfl
  | cons x r ih =>
    obtain ⟨i, o⟩ := x
    unfold getEnt
    rw [if_neg (by have := h (i, o) (by simp); simp; omega)]
    exact ih fun x hx => h x (by simp [hx])
end
end Go.CI
