/- A deterministic interpreter over values, proved sound against the model's rules (part 7 of 7): what a run of it gives, a call in the model gives. -/
import Derived.Test.YthblmflngjofjaaDoorCi6
import Derived.ChangeSlices
import Derived.ChangeShapes
set_option linter.unusedVariables false
set_option linter.unusedSimpArgs false

/- What a call gives that turns no memory; regions walked to the next call that is made; prims by what they give. -/
set_option linter.unusedVariables false
set_option linter.unusedSimpArgs false
namespace Go.CI

/-- All noted rows' numbers lie below the next one. -/
def UnderT (l : List (Nat × Nat)) (n : Nat) : Prop := ∀ x ∈ l, x.1 < n
theorem UnderT.nil {n : Nat} : UnderT [] n := fun x hx => by cases hx
theorem UnderT.cons {l : List (Nat × Nat)} {n i t : Nat} (hi : i < n) (h : UnderT l n) : UnderT ((i, t) :: l) n := fun y hy => by
  rcases List.mem_cons.1 hy with rfl | hy
  · exact hi
  · exact h y hy
theorem UnderT.le {l : List (Nat × Nat)} {n m : Nat} (h : UnderT l n) (hnm : n ≤ m) : UnderT l m := fun y hy => Nat.lt_of_lt_of_le (h y hy) hnm
theorem lookupN_under : ∀ {l : List (Nat × Nat)} {n b : Nat}, UnderT l n → n ≤ b → lookupN l b = none
  | [], _, _, _, _ => rfl
  | (i, t) :: r, n, b, h, hb => by
    have h1 : i < n := h (i, t) (by simp)
    have h2 := lookupN_under (l := r) (fun x hx => h x (by simp [hx])) hb
    have : (i == b) = false := by simp; omega
    simp [lookupN, this, h2]
theorem getEnt_setEnt_ne {l : List (Nat × CObj)} {m n : Nat} {x : CObj} (h : n ≠ m) : getEnt (setEnt l m x) n = getEnt l n := by
  induction l with
  | nil => rfl
  | cons a r ih =>
    obtain ⟨i, o⟩ := a
    by_cases hi : i = m
    · subst hi
      simp [setEnt, getEnt, Ne.symm h]
    · by_cases hn : i = n
      · subst hn; simp [setEnt, getEnt, hi]
      · simp [setEnt, getEnt, hi, hn, ih]
theorem setEnt_same : ∀ {l : List (Nat × CObj)} {m : Nat} {x : CObj}, getEnt l m = some x → setEnt l m x = l
  | [], _, _, h => by cases h
  | (i, o) :: r, m, x, h => by
    by_cases hi : i = m
    · subst hi; simp [getEnt] at h; simp [setEnt, h]
    · simp [getEnt, hi] at h; simp [setEnt, hi, setEnt_same h]

section
variable {T : Nat → Option CFn}
theorem Wc.primM {f : Nat} {p : List CVal → CHeap → Option (CVal × CHeap)} {args : List CVal} {h : CHeap} {K : CVal → CHeap → Prop} (hf : T f = some (.prim p)) (hm : match p args h with | some r => K r.1 r.2 | none => False) : Wc T f args h K := by
  cases hp : p args h with
  | none => rw [hp] at hm; exact hm.elim
  | some r => rw [hp] at hm; exact Wc.prim hf hp hm
/-- A memory that is fit. -/
def Fit (h : CHeap) : Prop := Under h.ents h.next ∧ UnderT h.tys h.next
/-- What a call gives that turns no memory. -/
def Pu (T : Nat → Option CFn) (f : Nat) (args : List CVal) (v : CVal) : Prop := ∀ (h : CHeap), Fit h → ∀ (K : CVal → CHeap → Prop), (∀ n' ty, h.next ≤ n' → UnderT ty n' → K v ⟨h.ents, n', ty⟩) → Wc T f args h K

/-- A region's end. -/
def regOut (tm : List CVal) (ops : List COper) (wb : List (Nat × Nat)) (chk : List (Nat × Nat × Nat)) (sw : List (Nat × Nat)) (s : RS) : Option CSt :=
  if chk.all (checkOne tm ops ops.length s.vals (s.h :: s.hs).reverse) && sw.all (swapOne tm ops ops.length s.vals) then some ⟨writeBack ops.length s.vals tm wb, s.h, s.defs⟩ else none

inductive GoR where
  | done (st : CSt)
  | call (id f : Nat) (args : List CVal) (r : List COper) (s : RS)

/-- On to the next call that is made, or to the end. -/
def goR (tm : List CVal) (ops0 : List COper) (wb : List (Nat × Nat)) (chk : List (Nat × Nat × Nat)) (sw : List (Nat × Nat)) : Nat → List COper → RS → Option GoR
  | _, [], s => match regOut tm ops0 wb chk sw s with
    | some st => some (.done st)
    | none => none
  | id, o :: r, s => match wantedC s.vals o.guard, o.op with
    | true, .call keep f xs => some (.call id f (if keep then xs.map (evalOpnd tm s.vals) else xs.map fun x => (evalOpnd tm s.vals x).bare) r s)
    | true, .callv keep x xs => match evalOpnd tm s.vals x with
      | .fn (.func f) first cap => some (.call id f (first ++ ((if keep then xs.map (evalOpnd tm s.vals) else xs.map fun x => (evalOpnd tm s.vals x).bare) ++ cap)) r s)
      | _ => none
    | _, _ => match evalOper (fun _ _ _ => none) tm id o s with
      | some s' => goR tm ops0 wb chk sw (id + 1) r s'
      | none => none

def WoR (T : Nat → Option CFn) (tm : List CVal) (ops0 : List COper) (wb : List (Nat × Nat)) (chk : List (Nat × Nat × Nat)) (sw : List (Nat × Nat)) (Q : CExit → CSt → Prop) (id : Nat) (ops : List COper) (s : RS) : Prop :=
  Wo T tm id ops s fun s => match regOut tm ops0 wb chk sw s with | some st => Q .normal st | none => False

def goW (T : Nat → Option CFn) (tm : List CVal) (ops0 : List COper) (wb : List (Nat × Nat)) (chk : List (Nat × Nat × Nat)) (sw : List (Nat × Nat)) (Q : CExit → CSt → Prop) : Option GoR → Prop
  | some (.done st) => Q .normal st
  | some (.call id f args r s) => Wc T f args s.h fun v h' => v.isUndef = false ∧ WoR T tm ops0 wb chk sw Q (id + 1) r { s with vals := v :: s.vals, h := h', hs := s.h :: s.hs }
  | none => False

theorem Wo.callAny {tm : List CVal} {id : Nat} {o : COper} {f : Nat} {args : List CVal} {r : List COper} {s : RS} {K : RS → Prop} (hw : wantedC s.vals o.guard = true)
    (ho : ∀ cf, evalE cf (evalOpnd tm s.vals) s.h id o.op = cf f args s.h) (hc : o.op.cls = .e)
    (h : Wc T f args s.h fun v h' => v.isUndef = false ∧ Wo T tm (id + 1) r { s with vals := v :: s.vals, h := h', hs := s.h :: s.hs } K) : Wo T tm id (o :: r) s K := by
  obtain ⟨v, h', hc', hu, s', h2, h3⟩ := h
  refine ⟨s', Ops.call hc' (s1 := { s with vals := v :: s.vals, h := h', hs := s.h :: s.hs }) ?_ h2, h3⟩
  unfold evalOper
  rw [hw, if_pos rfl, hc]
  simp only [ho]
  simp [hu]

theorem WoR.go {tm : List CVal} {ops0 : List COper} {wb : List (Nat × Nat)} {chk : List (Nat × Nat × Nat)} {sw : List (Nat × Nat)} {Q : CExit → CSt → Prop} : ∀ {ops : List COper} {id : Nat} {s : RS}, goW T tm ops0 wb chk sw Q (goR tm ops0 wb chk sw id ops s) → WoR T tm ops0 wb chk sw Q id ops s
  | [], id, s, h => by
    unfold goR at h
    refine Wo.nil ?_
    cases hr : regOut tm ops0 wb chk sw s with
    | none => rw [hr] at h; exact h
    | some st => rw [hr] at h; exact h
  | o :: r, id, s, h => by
    have plain : (match evalOper (fun _ _ _ => none) tm id o s with | some s' => goR tm ops0 wb chk sw (id + 1) r s' | none => none) = goR tm ops0 wb chk sw id (o :: r) s → WoR T tm ops0 wb chk sw Q id (o :: r) s := fun e => by
      rw [← e] at h
      cases he : evalOper (fun _ _ _ => none) tm id o s with
      | none => rw [he] at h; exact h.elim
      | some s' => rw [he] at h; exact Wo.plain he (WoR.go h)
    obtain ⟨op, g⟩ := o
    cases hw : wantedC s.vals g with
    | false => refine plain ?_; conv => rhs; unfold goR; simp only [hw]
    | true =>
      cases op
      case call keep f xs =>
        unfold goR at h
        simp only [hw] at h
        exact Wo.callAny (f := f) hw (fun cf => rfl) rfl h
      case callv keep x xs =>
        unfold goR at h
        simp only [hw] at h
        split at h
        · rename_i f first cap e
          exact Wo.callAny (f := f) hw (fun cf => by simp [evalE, e]) rfl h
        · exact h.elim
      all_goals (refine plain ?_; conv => rhs; unfold goR; simp only [hw])

theorem W.regG {ops : List COper} {wb : List (Nat × Nat)} {chk : List (Nat × Nat × Nat)} {sw : List (Nat × Nat)} {st : CSt} {Q : CExit → CSt → Prop}
    (h : goW T st.tm ops wb chk sw Q (goR st.tm ops wb chk sw st.h.next ops ⟨[], { st.h with next := st.h.next + ops.length }, st.defs, []⟩)) : W T (.region ops wb chk sw) st Q := by
  have := WoR.go h
  unfold WoR at this
  obtain ⟨s, h1, h2⟩ := this
  unfold regOut at h2
  split at h2
  · rename_i st' e
    split at e
    · rename_i hc
      cases e
      exact ⟨_, _, Ev.region h1 hc, h2⟩
    · cases e
  · exact h2.elim

/-- A closed call that says true, in an empty memory. -/
theorem wc_start {m f n : Nat} {args : List CVal} (hr : (match crunF T m f args ⟨[], n, []⟩ with | some (.bool true, ⟨[], k, ty⟩) => decide (n ≤ k) && ty.all (fun x => decide (x.1 < k)) | _ => false) = true) {K : CVal → CHeap → Prop} (hk : ∀ n' ty, n ≤ n' → UnderT ty n' → K (.bool true) ⟨[], n', ty⟩) : Wc T f args ⟨[], n, []⟩ K := by
  split at hr
  · rename_i k ty e
    simp only [Bool.and_eq_true, decide_eq_true_eq] at hr
    exact ⟨_, _, ⟨m, by have := e; rw [crunF_eq] at this; exact this⟩, hk k ty hr.1 fun x hx => by have := List.all_eq_true.1 hr.2 x hx; simpa using this⟩
  · cases hr
theorem nth_mapG {α : Type} (f : α → CVal) : ∀ (s : List α) (i : Nat) (c : α), s[i]? = some c → nth (s.map f) i = f c
  | [], i, c, h => by simp at h
  | a :: r, 0, c, h => by simp at h; subst h; rfl
  | a :: r, i + 1, c, h => by simp at h; exact nth_mapG f r i c h
theorem get_of_dropG {α : Type} {s r : List α} {i : Nat} {c : α} (h : s.drop i = c :: r) : i < s.length ∧ s[i]? = some c ∧ s.drop (i + 1) = r := by
  have h1 : i < s.length := by
    rcases Nat.lt_or_ge i s.length with h' | h'
    · exact h'
    · rw [List.drop_eq_nil_of_le h'] at h; cases h
  rw [List.drop_eq_getElem_cons h1] at h
  simp only [List.cons.injEq] at h
  exact ⟨h1, by rw [List.getElem?_eq_getElem h1, h.1], h.2⟩

/-- A function's start. -/
def entryC (fn : CFunc) (args : List CVal) (h : CHeap) : CSt := ⟨fn.params.map (initVar args), h, []⟩
theorem Wc.mkG (f : Nat) (fn : CFunc) {args : List CVal} {h : CHeap} {K : CVal → CHeap → Prop} (hf : T f = some (.ir fn)) (hn : args.length = fn.nargs) (hb : W T fn.body (entryC fn args h) (endW fn h.next K)) : Wc T f args h K := Wc.mk' hf hn hb
theorem endW.of {fn : CFunc} {n : Nat} {K : CVal → CHeap → Prop} {x : CExit} {st : CSt} (hx : x = .ret ∨ x = .normal) (hd : st.defs = []) (h : match endsC fn n st with | some p => K p.1 p.2 | none => False) : endW fn n K x st := ⟨by rcases hx with rfl | rfl <;> simp, hd, h⟩
end
end Go.CI
namespace Go.CI
mutual
theorem beq_refl : ∀ v : CVal, CVal.beq v v = true
  | .undef => rfl
  | .bool b => by simp [CVal.beq]
  | .int k n => by simp [CVal.beq]
  | .str s => by simp [CVal.beq]
  | .nilp => rfl
  | .ptr _ _ _ => by simp [CVal.beq]
  | .cptr cs _ => by simp [CVal.beq, beqs_refl cs]
  | .eptr _ _ _ _ => by simp [CVal.beq]
  | .nils => rfl
  | .imm _ _ es => by simp [CVal.beq, beqs_refl es]
  | .ref _ _ _ _ _ => by simp [CVal.beq]
  | .nilm => rfl
  | .map _ => by simp [CVal.beq]
  | .fn _ a b => by simp [CVal.beq, beqs_refl a, beqs_refl b]
  | .nilf => rfl
  | .ifc _ v => by simp [CVal.beq, beq_refl v]
  | .nili => rfl
  | .agg cs => by simp [CVal.beq, beqs_refl cs]
  | .tup cs => by simp [CVal.beq, beqs_refl cs]
theorem beqs_refl : ∀ l : List CVal, beqs l l = true
  | [] => rfl
  | a :: l => by simp [beqs, beq_refl a, beqs_refl l]
end
end Go.CI

/- Slices of whole numbers as a law's arguments: what they are to the interpreter, and that they are read again as they were. -/
set_option linter.unusedVariables false
namespace Go
open Go.RowKit Go.ChangeShapes Go.WideShapes
variable {H : Type} {enc : TypeId × Value → H}

/-- A slice of whole numbers, opened: nil or a list. -/
theorem CI.open_nums {P : Program} {t e : TypeId} {k : IntKind} (ht : P.underlying t = some (.slice e)) (he : P.underlying e = some (.int k)) (hc : P.cellsOf e = 1) {w : World} {b0 : Nat} {v : Value} {d : DataW H} {ps : List MemPlace}
    (hval : Value.okWide P w .any b0 t v) (hd : DataW.Trod enc P w 0 (fun _ => true) true t v d ps) :
    ∃ (xs : List Int) (c : CI.CVal), (∀ x ∈ xs, (Lit.int k x).wf = true) ∧ (c = .nils ∧ xs = [] ∨ c = .imm .none 1 (xs.map (CI.CVal.int k))) ∧ CI.VR (CI.Gh.of (CI.Fw w)) c v ∧
      ∀ w', Below w.heap.size w w' → ∀ sp : Nat → Bool, (∀ p ∈ ps, sp p.block = true) → DataW.Trod enc P w' 0 sp true t v d ps := by
  obtain ⟨fuel, hf⟩ := hd
  have hsh : v = .slice none 0 0 ∨ ∃ a len cap, v = .slice (some a) len cap ∧ a.spot = none := by
    unfold Value.okWide at hval
    rw [ht] at hval
    simp only at hval
    unfold Cell.okWide at hval
    rw [ht] at hval
    simp only at hval
    unfold Cell.ok at hval
    rw [ht] at hval
    cases v with
    | slice a len cap =>
      cases a with
      | none =>
        cases len with
        | zero =>
          cases cap with
          | zero => exact .inl rfl
          | succ n => exact hval.elim
        | succ n => exact hval.elim
      | some a => exact .inr ⟨a, len, cap, rfl, hval.2.2.2.1⟩
    | _ => exact hval.elim
  rcases open_ints ht he hc hf with ⟨hcs, hx⟩ | ⟨a, len, cap, zs, hcs, hb, hl, hm, hz, hx, hcell, hw⟩
  · rcases hsh with rfl | ⟨a, len, cap, rfl, _⟩
    · obtain ⟨rfl, rfl⟩ := Prod.mk.inj hx
      exact ⟨[], .nils, by simp, .inl ⟨rfl, rfl⟩, .nils, fun w' hB sp _ => shut_slice_nil ht⟩
    · simp [Value.cells] at hcs
  · rcases hsh with rfl | ⟨a', len', cap', rfl, hspot⟩
    · simp [Value.cells] at hcs
    · simp [Value.cells] at hcs
      obtain ⟨rfl, rfl, rfl⟩ := hcs
      obtain ⟨rfl, rfl⟩ := Prod.mk.inj hx
      simp only [if_true] at hz
      obtain ⟨blk, off, spot⟩ := a'
      simp only at hspot
      subst hspot
      have hcell2 : ∀ i, i < zs.length → w.cell? ⟨blk, off + i, none⟩ = some (.int k (zs.getD i 0)) := fun i hi => by have := hcell i hi; rwa [add_plain] at this
      have hlt : (zs.take len').length = len' := by simp; omega
      refine ⟨zs.take len', .imm .none 1 ((zs.take len').map (CI.CVal.int k)), fun x hx => hw x (List.mem_of_mem_take hx), .inr rfl, ?_, ?_⟩
      · have := CI.VR.imm (G := CI.Gh.of (CI.Fw w)) (t := .none) (k := 1) (es := (zs.take len').map (CI.CVal.int k)) (a := ⟨blk, off, none⟩) (cap := cap') rfl (by decide) (by simp; omega) ?_ trivial
        · rwa [List.length_map, hlt] at this
        · intro i el hel
          rw [List.getElem?_map] at hel
          cases hq : (zs.take len')[i]? with
          | none => rw [hq] at hel; cases hel
          | some x =>
            rw [hq] at hel
            cases hel
            refine ⟨rfl, fun j c hc' => ?_⟩
            have hi : i < len' := by have := (List.getElem?_eq_some_iff.1 hq).1; omega
            have hx : zs.getD i 0 = x := by
              rw [List.getElem?_take] at hq
              simp only [hi, if_true] at hq
              simp [List.getD, hq]
            cases j with
            | succ j => simp [CI.CVal.cells] at hc'
            | zero =>
              simp [CI.CVal.cells] at hc'
              subst hc'
              refine ⟨rfl, ?_⟩
              show CI.Fw w blk (off + i * 1 + 0) = _
              unfold CI.Fw
              rw [show off + i * 1 + 0 = off + i by omega, hcell2 i (by omega), hx]
      · intro w' hB sp hsp
        have hcell' : ∀ i, i < zs.length → w'.cell? ((⟨blk, off, none⟩ : Addr).add i) = some (.int k (zs.getD i 0)) := fun i hi => by
          have h1 := hcell i hi
          have h2 := World.block_lt_of_cell? _ _ h1
          rw [hB.cell h2]; exact h1
        refine ⟨2, ?_⟩
        show DataW.trod enc P w' 0 sp true 2 t [.slice (some ⟨blk, off, none⟩) len' cap'] = _
        refine shut_ints (enc := enc) (w := w') (base := 0) (spare := sp) (held := true) 0 ht he hc (Nat.zero_le _) hl hm ?_ hcell' hw
        rcases Nat.eq_zero_or_pos zs.length with h0 | h0
        · rw [h0]; split <;> omega
        · have : sp blk = true := hsp (.cell blk (off + 0)) (by
            unfold MemPlace.row
            exact List.mem_map.2 ⟨0, List.mem_range.2 h0, rfl⟩)
          rw [this]; simpa using hz
end Go
