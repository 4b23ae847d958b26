/- Runs of the interpreter, whatever the fuel. -/
import Derived.Test.YtcehpodknbjimaaDoorBCi7
set_option linter.unusedVariables false
set_option linter.unusedSimpArgs false
namespace Go.CI

def MonoX (ex ex' : CCode → CSt → Option (CExit × CSt)) : Prop := ∀ c st r, ex c st = some r → ex' c st = some r
def MonoC (cf cf' : Nat → List CVal → CHeap → Option (CVal × CHeap)) : Prop := ∀ f a h r, cf f a h = some r → cf' f a h = some r

section
variable {T : Nat → Option CFn}

theorem callBody_mono {ex ex' : CCode → CSt → Option (CExit × CSt)} (hx : MonoX ex ex') {cd cd' : List (Nat × List CVal) → CHeap → Option CHeap} (hcd : ∀ d h r, cd d h = some r → cd' d h = some r)
    {fn : CFunc} {args : List CVal} {h : CHeap} {r : CVal × CHeap} (hr : callBody ex cd fn args h = some r) : callBody ex' cd' fn args h = some r := by
  unfold callBody at hr ⊢
  split at hr
  · rename_i hn
    rw [if_pos hn]
    cases hb : ex fn.body ⟨fn.params.map (initVar args), h, []⟩ with
    | none => rw [hb] at hr; cases hr
    | some p =>
      rw [hb] at hr
      rw [hx _ _ _ hb]
      obtain ⟨x, st⟩ := p
      cases hc : cd st.defs st.h with
      | none => cases x <;> simp [hc] at hr
      | some h1 => cases x <;> simp only [hc, hcd _ _ _ hc] at hr ⊢ <;> exact hr
  · cases hr

theorem noDefs_mono : ∀ (d : List (Nat × List CVal)) (h : CHeap) (r : CHeap), noDefs d h = some r → noDefs d h = some r := fun _ _ _ h => h

theorem runDefs_mono {ex ex' : CCode → CSt → Option (CExit × CSt)} (hx : MonoX ex ex') : ∀ (d : List (Nat × List CVal)) (h : CHeap) (r : CHeap), runDefs T ex d h = some r → runDefs T ex' d h = some r
  | [], h, r, hr => hr
  | (f, args) :: d, h, r, hr => by
    unfold runDefs at hr ⊢
    cases hc : callFlat T ex f args h with
    | none => rw [hc] at hr; cases hr
    | some p =>
      have : callFlat T ex' f args h = some p := by
        unfold callFlat at hc ⊢
        split at hc
        · exact callBody_mono hx noDefs_mono hc
        · cases hc
      rw [hc] at hr
      rw [this]
      exact runDefs_mono hx d _ _ hr

theorem callFn_mono {ex ex' : CCode → CSt → Option (CExit × CSt)} (hx : MonoX ex ex') : MonoC (callFn T ex) (callFn T ex') := fun f a h r hr => by
  unfold callFn at hr ⊢
  split at hr
  · exact callBody_mono hx (runDefs_mono hx) hr
  · exact hr
  · cases hr

theorem evalE_mono {cf cf' : Nat → List CVal → CHeap → Option (CVal × CHeap)} (hc : MonoC cf cf') {ev : COpnd → CVal} {h : CHeap} {id : Nat} {op : COp} {r : CVal × CHeap} (hr : evalE cf ev h id op = some r) : evalE cf' ev h id op = some r := by
  cases op with
  | lit m a z n ps => cases m <;> exact hr
  | mkslice m a z l c => cases m <;> exact hr
  | call keep f args => exact hc _ _ _ _ hr
  | callv keep x args =>
    unfold evalE at hr ⊢
    cases hx : ev x <;> simp only [hx] at hr ⊢ <;> try (cases hr; done)
    rename_i f a b
    cases f <;> simp only at hr ⊢ <;> first | exact hc _ _ _ _ hr | (cases hr; done)
  | _ => exact hr

theorem evalOper_mono {cf cf' : Nat → List CVal → CHeap → Option (CVal × CHeap)} (hc : MonoC cf cf') {tm : List CVal} {id : Nat} {o : COper} {s r : RS} (hr : evalOper cf tm id o s = some r) : evalOper cf' tm id o s = some r := by
  unfold evalOper at hr ⊢
  split at hr
  · rename_i hg
    rw [if_pos hg]
    cases hcls : o.op.cls <;> simp only [hcls] at hr ⊢ <;> try exact hr
    cases he : evalE cf (evalOpnd tm s.vals) s.h id o.op with
    | none => rw [he] at hr; cases hr
    | some p => rw [evalE_mono hc he]; rw [he] at hr; exact hr
  · rename_i hg
    rw [if_neg hg]; exact hr

theorem evalOps_mono {cf cf' : Nat → List CVal → CHeap → Option (CVal × CHeap)} (hc : MonoC cf cf') {tm : List CVal} : ∀ {ops : List COper} {id : Nat} {s r : RS}, evalOps cf tm id ops s = some r → evalOps cf' tm id ops s = some r
  | [], _, _, _, hr => hr
  | o :: ops, id, s, r, hr => by
    unfold evalOps at hr ⊢
    cases he : evalOper cf tm id o s with
    | none => rw [he] at hr; cases hr
    | some s' => rw [evalOper_mono hc he]; rw [he] at hr; exact evalOps_mono hc hr

theorem execStep_mono {ex ex' : CCode → CSt → Option (CExit × CSt)} (hx : MonoX ex ex') : MonoX (execStep T ex) (execStep T ex') := fun c st r hr => by
  cases c with
  | region ops wb chk sw =>
    simp only [execStep] at hr ⊢
    cases he : evalOps (callFn T ex) st.tm st.h.next ops ⟨[], { st.h with next := st.h.next + ops.length }, st.defs, []⟩ with
    | none => rw [he] at hr; cases hr
    | some s => rw [evalOps_mono (callFn_mono hx) he]; rw [he] at hr; exact hr
  | seq a b =>
    simp only [execStep] at hr ⊢
    cases he : ex a st with
    | none => rw [he] at hr; cases hr
    | some p =>
      rw [hx _ _ _ he]; rw [he] at hr
      obtain ⟨x, st'⟩ := p
      cases x <;> simp only at hr ⊢ <;> first | exact hx _ _ _ hr | exact hr
  | cond c a b =>
    simp only [execStep] at hr ⊢
    generalize evalOpnd st.tm [] c = v at hr ⊢
    cases v with
    | bool q => cases q <;> exact hx _ _ _ hr
    | _ => cases hr
  | block i b =>
    simp only [execStep] at hr ⊢
    cases he : ex b st with
    | none => rw [he] at hr; cases hr
    | some p => rw [hx _ _ _ he]; rw [he] at hr; exact hr
  | loop d b =>
    simp only [execStep] at hr ⊢
    cases he : ex b st with
    | none => rw [he] at hr; cases hr
    | some p =>
      rw [hx _ _ _ he]; rw [he] at hr
      obtain ⟨x, st'⟩ := p
      cases x <;> simp only at hr ⊢ <;> first | exact hx _ _ _ hr | exact hr
  | skip => exact hr
  | exit i => exact hr
  | ret => exact hr
  | stuck => exact hr

theorem exec_succ (n : Nat) : exec T (n + 1) = execStep T (exec T n) := rfl

theorem exec_mono1 : ∀ n, MonoX (exec T n) (exec T (n + 1))
  | 0 => fun c st r hr => by cases hr
  | n + 1 => execStep_mono (exec_mono1 n)

theorem exec_mono {n m : Nat} (h : n ≤ m) : MonoX (exec T n) (exec T m) := by
  induction h with
  | refl => exact fun _ _ _ h => h
  | step _ ih => exact fun c st r hr => exec_mono1 _ c st r (ih c st r hr)

/-- The code runs so, with fuel enough. -/
def Ev (T : Nat → Option CFn) (c : CCode) (st : CSt) (x : CExit) (st' : CSt) : Prop := ∃ n, exec T n c st = some (x, st')
/-- The call gives so, with fuel enough. -/
def Cl (T : Nat → Option CFn) (f : Nat) (args : List CVal) (h : CHeap) (v : CVal) (h' : CHeap) : Prop := ∃ n, callFn T (exec T n) f args h = some (v, h')
/-- Operations of a region. -/
def Ops (T : Nat → Option CFn) (tm : List CVal) (id : Nat) (ops : List COper) (s s' : RS) : Prop := ∃ n, evalOps (callFn T (exec T n)) tm id ops s = some s'

theorem Ev.skip {st : CSt} : Ev T .skip st .normal st := ⟨1, rfl⟩
theorem Ev.ret {st : CSt} : Ev T .ret st .ret st := ⟨1, rfl⟩
theorem Ev.exit {st : CSt} {i : Nat} : Ev T (.exit i) st (.exit i) st := ⟨1, rfl⟩
theorem Ev.seq {a b : CCode} {st st1 st' : CSt} {x : CExit} (h1 : Ev T a st .normal st1) (h2 : Ev T b st1 x st') : Ev T (.seq a b) st x st' := by
  obtain ⟨n, h1⟩ := h1
  obtain ⟨m, h2⟩ := h2
  refine ⟨max n m + 1, ?_⟩
  rw [exec_succ]
  simp only [execStep]
  rw [exec_mono (Nat.le_max_left n m) _ _ _ h1]
  exact exec_mono (Nat.le_max_right n m) _ _ _ h2
theorem Ev.seq_out {a b : CCode} {st st' : CSt} {x : CExit} (h1 : Ev T a st x st') (hx : x ≠ .normal) : Ev T (.seq a b) st x st' := by
  obtain ⟨n, h1⟩ := h1
  refine ⟨n + 1, ?_⟩
  rw [exec_succ]
  simp only [execStep]
  rw [h1]
  cases x <;> first | rfl | exact absurd rfl hx
theorem Ev.cond_true {c : COpnd} {a b : CCode} {st st' : CSt} {x : CExit} (hc : evalOpnd st.tm [] c = .bool true) (h : Ev T a st x st') : Ev T (.cond c a b) st x st' := by
  obtain ⟨n, h⟩ := h
  refine ⟨n + 1, ?_⟩
  rw [exec_succ]
  simp only [execStep]
  rw [hc]; exact h
theorem Ev.cond_false {c : COpnd} {a b : CCode} {st st' : CSt} {x : CExit} (hc : evalOpnd st.tm [] c = .bool false) (h : Ev T b st x st') : Ev T (.cond c a b) st x st' := by
  obtain ⟨n, h⟩ := h
  refine ⟨n + 1, ?_⟩
  rw [exec_succ]
  simp only [execStep]
  rw [hc]; exact h
def outOf (id : Nat) : CExit → CExit
  | .exit i => if i = id then .normal else .exit i
  | x => x
theorem Ev.block {id : Nat} {c : CCode} {st st' : CSt} {x : CExit} (h : Ev T c st x st') : Ev T (.block id c) st (outOf id x) st' := by
  obtain ⟨n, h⟩ := h
  refine ⟨n + 1, ?_⟩
  rw [exec_succ]
  simp only [execStep]
  rw [h]
  cases x <;> simp only [outOf]
  split <;> rfl
def dropped (drop : Bool) (n : Nat) (st : CSt) : CSt := if drop then { st with h := { st.h with ents := dropCells st.h.ents n } } else st
theorem Ev.loop_step {drop : Bool} {c : CCode} {st st1 st' : CSt} {x : CExit} (h1 : Ev T c st .normal st1) (h2 : Ev T (.loop drop c) (dropped drop st.h.next st1) x st') : Ev T (.loop drop c) st x st' := by
  obtain ⟨n, h1⟩ := h1
  obtain ⟨m, h2⟩ := h2
  refine ⟨max n m + 1, ?_⟩
  rw [exec_succ]
  simp only [execStep]
  rw [exec_mono (Nat.le_max_left n m) _ _ _ h1]
  exact exec_mono (Nat.le_max_right n m) _ _ _ h2
theorem Ev.loop_out {drop : Bool} {c : CCode} {st st' : CSt} {x : CExit} (h1 : Ev T c st x st') (hx : x ≠ .normal) : Ev T (.loop drop c) st x st' := by
  obtain ⟨n, h1⟩ := h1
  refine ⟨n + 1, ?_⟩
  rw [exec_succ]
  simp only [execStep]
  rw [h1]
  cases x <;> first | rfl | exact absurd rfl hx

theorem Ops.nil {tm : List CVal} {id : Nat} {s : RS} : Ops T tm id [] s s := ⟨0, rfl⟩
/-- What calls nothing. -/
theorem Ops.plain {tm : List CVal} {id : Nat} {o : COper} {r : List COper} {s s1 s' : RS} (h1 : evalOper (fun _ _ _ => none) tm id o s = some s1) (h2 : Ops T tm (id + 1) r s1 s') : Ops T tm id (o :: r) s s' := by
  obtain ⟨n, h2⟩ := h2
  refine ⟨n, ?_⟩
  unfold evalOps
  rw [evalOper_mono (cf := fun _ _ _ => none) (fun _ _ _ _ h => by cases h) h1]
  exact h2
open Classical in
/-- A call. -/
theorem Ops.call {tm : List CVal} {id : Nat} {o : COper} {r : List COper} {s s1 s' : RS} {f : Nat} {args : List CVal} {v : CVal} {h' : CHeap} (hc : Cl T f args s.h v h')
    (h1 : evalOper (fun g a h => if g = f ∧ a = args ∧ h = s.h then some (v, h') else none) tm id o s = some s1) (h2 : Ops T tm (id + 1) r s1 s') : Ops T tm id (o :: r) s s' := by
  obtain ⟨n, hc⟩ := hc
  obtain ⟨m, h2⟩ := h2
  refine ⟨max n m, ?_⟩
  unfold evalOps
  rw [evalOper_mono (cf := fun g a h => if g = f ∧ a = args ∧ h = s.h then some (v, h') else none) (fun g a h q hq => by
    by_cases e : g = f ∧ a = args ∧ h = s.h
    · obtain ⟨rfl, rfl, rfl⟩ := e
      simp at hq
      subst hq
      exact callFn_mono (exec_mono (Nat.le_max_left n m)) _ _ _ _ hc
    · simp only [if_neg e] at hq; cases hq) h1]
  exact evalOps_mono (callFn_mono (exec_mono (Nat.le_max_right n m))) h2

theorem Ev.region {ops : List COper} {wb : List (Nat × Nat)} {chk : List (Nat × Nat × Nat)} {sw : List (Nat × Nat)} {st : CSt} {s : RS} (h : Ops T st.tm st.h.next ops ⟨[], { st.h with next := st.h.next + ops.length }, st.defs, []⟩ s)
    (hc : (chk.all (checkOne st.tm ops ops.length s.vals (s.h :: s.hs).reverse) && sw.all (swapOne st.tm ops ops.length s.vals)) = true) :
    Ev T (.region ops wb chk sw) st .normal ⟨writeBack ops.length s.vals st.tm wb, s.h, s.defs⟩ := by
  obtain ⟨n, h⟩ := h
  refine ⟨n + 1, ?_⟩
  rw [exec_succ]
  simp only [execStep]
  rw [h]
  simp only [hc, if_true]

/-- Deferred calls. -/
def Defs (T : Nat → Option CFn) (d : List (Nat × List CVal)) (h h' : CHeap) : Prop := ∃ n, runDefs T (exec T n) d h = some h'
theorem Defs.nil {h : CHeap} : Defs T [] h h := ⟨0, rfl⟩
theorem Defs.cons {f : Nat} {fn : CFunc} {args : List CVal} {d : List (Nat × List CVal)} {h h1 h' : CHeap} {st : CSt} {x : CExit} {vs : List CVal} {v : CVal} (hf : T f = some (.ir fn)) (hn : args.length = fn.nargs)
    (hb : Ev T fn.body ⟨fn.params.map (initVar args), h, []⟩ x st) (hx : ∀ i, x ≠ .exit i) (hd : st.defs = []) (hr : resultsC st.h st.tm fn.results = some vs) (hfin : finishC fn h.next (oneOrTuple vs) st.h = some (v, h1)) (h2 : Defs T d h1 h') : Defs T ((f, args) :: d) h h' := by
  obtain ⟨n, hb⟩ := hb
  obtain ⟨m, h2⟩ := h2
  refine ⟨max n m, ?_⟩
  unfold runDefs
  have : callFlat T (exec T (max n m)) f args h = some (v, h1) := by
    unfold callFlat
    rw [hf]
    show callBody _ _ _ _ _ = _
    unfold callBody
    rw [if_pos hn, exec_mono (Nat.le_max_left n m) _ _ _ hb]
    cases x with
    | exit i => exact absurd rfl (hx i)
    | normal => simp only [hd, noDefs, hr, hfin]
    | ret => simp only [hd, noDefs, hr, hfin]
  rw [this]
  exact runDefs_mono (exec_mono (Nat.le_max_right n m)) _ _ _ h2

theorem Cl.mk {f : Nat} {fn : CFunc} {args : List CVal} {h h1 h' : CHeap} {st : CSt} {x : CExit} {vs : List CVal} {v : CVal} (hf : T f = some (.ir fn)) (hn : args.length = fn.nargs)
    (hb : Ev T fn.body ⟨fn.params.map (initVar args), h, []⟩ x st) (hx : ∀ i, x ≠ .exit i) (hd : Defs T st.defs st.h h1) (hr : resultsC h1 st.tm fn.results = some vs) (hfin : finishC fn h.next (oneOrTuple vs) h1 = some (v, h')) : Cl T f args h v h' := by
  obtain ⟨n, hb⟩ := hb
  obtain ⟨m, hd⟩ := hd
  refine ⟨max n m, ?_⟩
  unfold callFn
  rw [hf]
  show callBody _ _ _ _ _ = _
  unfold callBody
  rw [if_pos hn, exec_mono (Nat.le_max_left n m) _ _ _ hb]
  cases x with
  | exit i => exact absurd rfl (hx i)
  | normal => simp only [runDefs_mono (exec_mono (Nat.le_max_right n m)) _ _ _ hd, hr, hfin]
  | ret => simp only [runDefs_mono (exec_mono (Nat.le_max_right n m)) _ _ _ hd, hr, hfin]

theorem Cl.prim {f : Nat} {p : List CVal → CHeap → Option (CVal × CHeap)} {args : List CVal} {h h' : CHeap} {v : CVal} (hf : T f = some (.prim p)) (hp : p args h = some (v, h')) : Cl T f args h v h' := by
  refine ⟨0, ?_⟩
  unfold callFn
  rw [hf]; exact hp
end
end Go.CI
