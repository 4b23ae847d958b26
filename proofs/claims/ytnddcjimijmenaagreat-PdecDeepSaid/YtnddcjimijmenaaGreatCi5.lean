/- A deterministic interpreter over values, proved sound against the model's rules (part 5 of 8): what a run of it gives, a call in the model gives. -/
import Derived.Test.YtnddcjimijmenaaGreatCi4
import Derived.LoopN
import Derived.Defers
import Derived.Lib.Bytealg
import Derived.Shelf.Spec.SlicesInsertGrow
set_option linter.unusedVariables false
set_option linter.unusedSimpArgs false

/- A deterministic interpreter over values: a region in the model, in every order. -/
set_option linter.unusedVariables false
namespace Go.CI
open Go.RowKit

def dstAt (ops : Array Oper) (j : Nat) : Option Tmp := (ops[j]?).bind (·.dst)

structure IsLast (ops : Array Oper) (S : Nat → Bool) (t : Tmp) (j : Nat) : Prop where
  mem : S j = true
  dst : dstAt ops j = some t
  last : ∀ k, S k = true → dstAt ops k = some t → k ≤ j

/-- The temporaries, when the operations in S have run. -/
structure TR (ops : Array Oper) (r : Nat → CVal) (G : Gh) (S : Nat → Bool) (a0 a : Act) : Prop where
  new : ∀ t j, IsLast ops S t j → VR G (r j) (a.tmps.getD t undef) ∧ (r j = .undef → a.tmps.getD t undef = undef)
  old : ∀ t, (∀ j, S j = true → dstAt ops j ≠ some t) → a.tmps.getD t undef = a0.tmps.getD t undef

/-- The temporaries and the deferred calls, between the regions. -/
structure AR (E : Env) (G : Gh) (tm : List CVal) (ds : List (Nat × List CVal)) (a : Act) : Prop where
  size : E.ntmps ≤ a.tmps.size
  len : tm.length = E.vars.length
  val : ∀ t v, findVar E.vars t 0 = some v → VR G (nth tm v) (a.tmps.getD t undef)
  defs : DefsR G ds a.defers
  glob : ∀ g cs, lookupG E.H.globals g = some cs → VR G (.cptr cs 0) (.pointer (some ⟨g, 0, none⟩))

theorem AR.mono {E : Env} {G G' : Gh} {tm : List CVal} {ds : List (Nat × List CVal)} {a : Act} (h : AR E G tm ds a) (hg : G.le G') : AR E G' tm ds a :=
  ⟨h.size, h.len, fun t v hv => (h.val t v hv).mono hg, h.defs.mono hg, fun g cs hc => (h.glob g cs hc).mono hg⟩

def dstsRev (ops : Array Oper) (i : Nat) : List (Option Tmp) := ((ops.toList.take i).map (·.dst)).reverse

theorem dstsRev_at {ops : Array Oper} {i k : Nat} (hi : i ≤ ops.size) (hk : k < i) : (dstsRev ops i)[k]? = some (dstAt ops (i - 1 - k)) := by
  unfold dstsRev dstAt
  have hl : ((ops.toList.take i).map (·.dst)).length = i := by simp; omega
  rw [List.getElem?_reverse (by omega), hl, List.getElem?_map, List.getElem?_take, if_pos (by omega), Array.getElem?_toList]
  have : ops[i - 1 - k]? = some ops[i - 1 - k] := Array.getElem?_eq_getElem (by omega)
  rw [this]; rfl
theorem dstsRev_length {ops : Array Oper} {i : Nat} (hi : i ≤ ops.size) : (dstsRev ops i).length = i := by unfold dstsRev; simp; omega

theorem findLoc_some : ∀ {l : List (Option Tmp)} {t : Tmp} {b i : Nat}, findLoc l t b = some i → ∃ k, i = b + k ∧ l[k]? = some (some t) ∧ ∀ k', k' < k → l[k']? ≠ some (some t)
  | [], t, b, i, h => by simp [findLoc] at h
  | d :: l, t, b, i, h => by
    simp only [findLoc] at h
    split at h
    · rename_i hd
      cases h
      exact ⟨0, rfl, by simpa using hd, fun _ h => by omega⟩
    · rename_i hd
      obtain ⟨k, h1, h2, h3⟩ := findLoc_some h
      refine ⟨k + 1, by omega, h2, fun k' hk' => ?_⟩
      cases k' with
      | zero => simpa using hd
      | succ k' => simpa using h3 k' (by omega)
theorem findLoc_none : ∀ {l : List (Option Tmp)} {t : Tmp} {b : Nat}, findLoc l t b = none → ∀ k : Nat, l[k]? ≠ some (some t)
  | [], t, b, h => by simp
  | d :: l, t, b, h => by
    simp only [findLoc] at h
    split at h
    · cases h
    · rename_i hd
      intro k
      cases k with
      | zero => simpa using hd
      | succ k => simpa using findLoc_none h k
theorem findVar_some : ∀ {l : List Tmp} {t : Tmp} {b i : Nat}, findVar l t b = some i → ∃ k, i = b + k ∧ l[k]? = some t
  | [], t, b, i, h => by simp [findVar] at h
  | d :: l, t, b, i, h => by
    simp only [findVar] at h
    split at h
    · rename_i hd
      cases h
      exact ⟨0, rfl, by simpa using hd⟩
    · obtain ⟨k, h1, h2⟩ := findVar_some h
      exact ⟨k + 1, by omega, h2⟩

structure CopAt (E : Env) (rg : Nat) (ops : Array Oper) (cs : List COper) : Prop where
  len : cs.length = ops.size
  at_ : ∀ i o, ops[i]? = some o → ∃ c e la, cs[i]? = some c ∧ c.op = (cop { E with only := some (opTmps o) } rg i (dstsRev ops i) e la o).getD .stuck ∧ cguard (dstsRev ops i) i o.guard = some c.guard

theorem cops_at {E : Env} {rg : Nat} : ∀ (l : List Oper) (i : Nat) (dsts : List (Option Tmp)) (e : List Oper) (cs : List COper), cops E rg i dsts e l = some cs →
    cs.length = l.length ∧ ∀ j o, l[j]? = some o → ∃ c e la, cs[j]? = some c ∧ c.op = (cop { E with only := some (opTmps o) } rg (i + j) (((l.take j).map (·.dst)).reverse ++ dsts) e la o).getD .stuck ∧ cguard (((l.take j).map (·.dst)).reverse ++ dsts) (i + j) o.guard = some c.guard
  | [], i, dsts, e, cs, h => by simp only [cops] at h; cases h; exact ⟨rfl, fun j o h => by simp at h⟩
  | o :: l, i, dsts, e, cs, h => by
    simp only [cops] at h
    split at h
    · rename_i g rest hg hr
      cases h
      obtain ⟨hl, ha⟩ := cops_at l (i + 1) (o.dst :: dsts) (o :: e) rest hr
      refine ⟨by simp [hl], fun j o' ho => ?_⟩
      cases j with
      | zero =>
        simp at ho; subst ho
        exact ⟨_, e, l, rfl, by simp, by simpa using hg⟩
      | succ j =>
        simp at ho
        obtain ⟨c', e', la', h1, h2, h3⟩ := ha j o' ho
        refine ⟨c', e', la', by simpa using h1, ?_, ?_⟩
        · rw [show i + (j + 1) = i + 1 + j by omega]
          simpa using h2
        · rw [show i + (j + 1) = i + 1 + j by omega]
          simpa using h3
    · cases h

theorem copAt_of {E : Env} {rg : Nat} {ops : Array Oper} {cs : List COper} (h : cops E rg 0 [] [] ops.toList = some cs) : CopAt E rg ops cs := by
  obtain ⟨h1, h2⟩ := cops_at _ _ _ _ _ h
  refine ⟨by simpa using h1, fun i o ho => ?_⟩
  obtain ⟨c, e, la, h3, h4, h5⟩ := h2 i o (by rw [Array.getElem?_toList]; exact ho)
  rw [Nat.zero_add, List.append_nil] at h4 h5
  exact ⟨c, e, la, h3, h4, h5⟩

theorem dstsOk_at {n : Nat} : ∀ {l : List Oper} {cs : List COper}, dstsOk n l cs = true → ∀ (i : Nat) (o : Oper) (c : COper), l[i]? = some o → cs[i]? = some c → ∀ d, o.dst = some d → d < n ∧ c.op.isStore = false
  | [], _, _, i, o, c, h, _, _, _ => by simp at h
  | _ :: _, [], _, i, o, c, _, h, _, _ => by simp at h
  | o :: l, c :: cs, h, i, o', c', ho, hc, d, hd => by
    simp only [dstsOk, Bool.and_eq_true] at h
    cases i with
    | zero =>
      simp at ho hc
      subst ho hc
      have := h.1
      rw [hd] at this
      simpa using this
    | succ i => exact dstsOk_at h.2 i o' c' (by simpa using ho) (by simpa using hc) d hd

section
variable {P : Program} {base : Base} {E : Env} {rg : Nat} {ops : Array Oper} {cf : Nat → List CVal → CHeap → Option (CVal × CHeap)} {tm : List CVal} {id : Nat} {cs : List COper} {tr : Nat → RS} {r : Nat → CVal} {sw : List (Nat × Nat)}
  {G0 : Gh} {h0 : CHeap} {w0 : World} {a0 : Act}

/-- The state when the operations in S have run. -/
def J (base : Base) (ops : Array Oper) (cf : Nat → List CVal → CHeap → Option (CVal × CHeap)) (tm : List CVal) (id : Nat) (cs : List COper) (tr : Nat → RS) (r : Nat → CVal) (sw : List (Nat × Nat)) (G0 : Gh) (h0 : CHeap) (w0 : World) (a0 : Act) (S : Nat → Bool) (a : Act) (w : World) : Prop :=
  ∃ G h ds, HeapFor cf tm id cs tr r sw S h ds ∧ Post base (fun k => ∃ j, S j = true ∧ k = id + j) G0 h0 w0 G h w ∧ TR ops r G S a0 a ∧ DefsR G ds a.defers ∧ a.tmps.size = a0.tmps.size

theorem put_getD (a : Act) (dst : Option Tmp) (u : Value) (t : Tmp) : (a.put dst u).tmps.getD t undef = if dst = some t ∧ t < a.tmps.size then u else a.tmps.getD t undef := by
  cases dst with
  | none => simp [Act.put]
  | some d =>
    simp only [Act.put, Option.some.injEq]
    by_cases hd : d = t
    · subst hd
      by_cases hl : d < a.tmps.size
      · simp [hl]
      · simp [hl]
    · simp [hd, Array.getElem?_setIfInBounds_ne hd]

theorem put_size (a : Act) (dst : Option Tmp) (u : Value) : (a.put dst u).tmps.size = a.tmps.size := by cases dst <;> simp [Act.put]
theorem put_defers' (a : Act) (dst : Option Tmp) (u : Value) : (a.put dst u).defers = a.defers := by cases dst <;> rfl

theorem yielded_eq (ops : Array Oper) (tmps : Array Value) (j : Nat) {t : Tmp} (h : dstAt ops j = some t) : yielded ops tmps j = match tmps.getD t undef with | .bool b => some b | _ => none := by
  unfold yielded
  unfold dstAt at h
  rw [h]
  simp only [Option.bind_some]
  by_cases ht : t < tmps.size
  · simp only [ht, Array.getElem?_eq_getElem, Array.getD_eq_getD_getElem?, Option.getD_some]
    cases tmps[t] <;> rfl
  · simp [ht, undef]

theorem j_step {Q : Exit → Act → World → Prop} {Bef : Nat → Nat → Prop} (hE : E.P = P) (C : CopAt E rg ops cs) (hdst : dstsOk E.ntmps ops.toList cs = true) (R : Run cf tm id cs tr r) (B : Bound cf tm id cs tr r sw Bef)
    (hsim : SimCall P base cf) (A : AR E G0 tm (tr 0).defs a0) (hres : ∀ i, i < cs.length → id + i < h0.next ∧ Fresh G0 h0 (id + i)) {S : Nat → Bool} {a : Act} {w : World} {i : Nat} {o : Oper} (ho : ops[i]? = some o) (hS : S i = false)
    (hpre : ∀ j, Bef j i → S j = true) (hcl : ∀ j k, S k = true → Bef j k → S j = true) (hnames : ∀ j t, j ≠ i → dstAt ops j = some t → t ∈ namesOf ops.toList o → (S j = true ↔ j < i))
    {K : Act → World → Prop} (hK : ∀ a' w', J base ops cf tm id cs tr r sw G0 h0 w0 a0 (fun j => S j || j == i) a' w' → K a' w') (HJ : J base ops cf tm id cs tr r sw G0 h0 w0 a0 S a w) : wpOp P ops Q i K a w := by
  obtain ⟨G, h, ds, hH, hP, hT, hD, hsz⟩ := HJ
  have hio : i < ops.size := (Array.getElem?_eq_some_iff.1 ho).1
  have hi : i < cs.length := by rw [C.len]; exact hio
  obtain ⟨c, e, la, hc, hcop, hgd⟩ := C.at_ i o ho
  obtain ⟨h', ds', htr, hH'⟩ := heapFor_step R B hi hS hpre hcl hH
  have ht := htr c hc
  have hdsto := dstsOk_at hdst i o c (by rw [Array.getElem?_toList]; exact ho) hc
  -- who wrote a named temporary last
  have hloc : ∀ t k, t ∈ namesOf ops.toList o → findLoc (dstsRev ops i) t 0 = some k → IsLast ops S t (i - 1 - k) ∧ k < i := fun t k hn hf => by
    obtain ⟨k', hk', h1, h2⟩ := findLoc_some hf
    rw [Nat.zero_add] at hk'
    subst hk'
    have hki : k < i := by
      have := (List.getElem?_eq_some_iff.1 h1).1
      rwa [dstsRev_length (by omega)] at this
    rw [dstsRev_at (by omega) hki] at h1
    have hd := Option.some.inj h1
    refine ⟨⟨(hnames _ t (by omega) hd hn).2 (by omega), hd, fun m hm hmd => ?_⟩, hki⟩
    have hmi : m ≠ i := fun e => by rw [e, hS] at hm; cases hm
    have hmlt := (hnames m t hmi hmd hn).1 hm
    rcases Nat.lt_or_ge (i - 1 - k) m with h3 | h3
    · exfalso
      refine h2 (i - 1 - m) (by omega) ?_
      rw [dstsRev_at (by omega) (by omega), show i - 1 - (i - 1 - m) = m by omega, hmd]
    · exact h3
  have hnone : ∀ t, t ∈ namesOf ops.toList o → findLoc (dstsRev ops i) t 0 = none → ∀ j, S j = true → dstAt ops j ≠ some t := fun t hn hf j hj hd => by
    have hji : j ≠ i := fun e => by rw [e, hS] at hj; cases hj
    have hlt := (hnames j t hji hd hn).1 hj
    refine findLoc_none hf (i - 1 - j) ?_
    rw [dstsRev_at (by omega) (by omega), show i - 1 - (i - 1 - j) = j by omega, hd]
  have hop : ∀ t, t ∈ opTmps o → t ∈ namesOf ops.toList o := fun t h1 => by
    unfold namesOf
    exact List.mem_append_right _ (List.mem_append_left _ h1)
  have hr : ORel G { E with only := some (opTmps o) } (dstsRev ops i) (evalOpnd tm (tr i).vals) a.eval := by
    intro X x hx
    cases X with
    | tmp t =>
      simp only [copnd] at hx
      split at hx
      · rename_i hcan
        have hmem : t ∈ opTmps o := by simpa [Env.can] using hcan
        split at hx
        · rename_i k hk
          cases hx
          obtain ⟨hl, hki⟩ := hloc t k (hop t hmem) hk
          show VR G (nth (tr i).vals k) (a.tmps.getD t undef)
          rw [R.nth i k (by omega) hki]
          exact (hT.new t _ hl).1
        · rename_i hk
          obtain ⟨v, hv, rfl⟩ := Option.map_eq_some_iff.1 hx
          show VR G (nth tm v) (a.tmps.getD t undef)
          rw [hT.old t (hnone t (hop t hmem) hk)]
          exact (A.val t v hv).mono hP.le
      · cases hx
    | const v =>
      simp only [copnd] at hx
      obtain ⟨c', hc', rfl⟩ := Option.map_eq_some_iff.1 hx
      exact ofValue_sound G v c' hc'
    | global g =>
      simp only [copnd] at hx
      obtain ⟨cs', hcs', rfl⟩ := Option.map_eq_some_iff.1 hx
      exact (A.glob g cs' hcs').mono hP.le
    | func f =>
      simp only [copnd] at hx
      cases hx
      exact .fn rfl rfl (fun i c v h => by simp at h) (fun i c v h => by simp at h)
  have hg : Region.wanted o (yielded ops a.tmps) = wantedC (tr i).vals c.guard := by
    unfold Region.wanted
    cases hog : o.guard with
    | none => rw [hog] at hgd; simp only [cguard] at hgd; rw [← Option.some.inj hgd]; rfl
    | some p =>
      obtain ⟨j, b⟩ := p
      rw [hog] at hgd
      simp only [cguard] at hgd
      split at hgd
      · rename_i hji
        split at hgd
        · rename_i t ht'
          split at hgd
          · rename_i hfl
            have hgd := Option.some.inj hgd
            have hd : dstAt ops j = some t := by
              rw [dstsRev_at (by omega) (by omega), show i - 1 - (i - 1 - j) = j by omega] at ht'
              exact Option.some.inj ht'
            have hn : t ∈ namesOf ops.toList o := by
              unfold namesOf
              refine List.mem_append_right _ (List.mem_append_right _ ?_)
              rw [hog]
              simp only [Array.getElem?_toList]
              show t ∈ (dstAt ops j).toList
              rw [hd]; simp
            obtain ⟨hl, _⟩ := hloc t _ hn hfl
            rw [show i - 1 - (i - 1 - j) = j by omega] at hl
            obtain ⟨hv1, hv2⟩ := hT.new t j hl
            rw [← hgd]
            simp only [wantedC]
            rw [R.nth i _ (by omega) (by omega), show i - 1 - (i - 1 - j) = j by omega, yielded_eq ops a.tmps j hd]
            generalize hz : a.tmps.getD t undef = z at hv1 hv2
            generalize hrj : r j = rj at hv1 hv2
            cases hv1 <;> first
              | rfl
              | (rw [hv2 rfl]; rfl)
              | (rename_i b'; cases b <;> cases b' <;> rfl)
          · cases hgd
        · cases hgd
      · cases hgd
  have hfr : Fresh G h (id + i) := hP.fresh _ (hres i hi).1 (fun ⟨j, hj, he⟩ => by
    have : j = i := by omega
    rw [this, hS] at hj; cases hj) (hres i hi).2
  refine op_step (dsts := dstsRev ops i) (earlier := e) (later := la) (E := { E with only := some (opTmps o) }) (v := r i) hE hcop (fun hn => ?_) hsim hr hg ht hP.inv (Nat.lt_of_lt_of_le (hres i hi).1 hP.next) hfr hD ho fun u w' G' dl hv hu hp hdl => hK _ _ ⟨G', h', ds', hH', ?_, ?_, ?_, ?_⟩
  · cases hd : o.dst with
    | none => exact absurd hd hn
    | some d => exact (hdsto d hd).2
  · refine (hP.trans hp).mono fun k hk => ?_
    rcases hk with ⟨j, h1, h2⟩ | h1
    · exact ⟨j, by simp [h1], h2⟩
    · exact ⟨i, by simp, h1⟩
  · have hdi : dstAt ops i = o.dst := by simp [dstAt, ho]
    constructor
    · intro t j hj
      rw [put_getD]
      by_cases hot : o.dst = some t
      · have hlt : t < a.tmps.size := by
          have h8 := A.size
          have h9 := (hdsto t hot).1
          rw [hsz]; exact Nat.lt_of_lt_of_le h9 h8
        rw [if_pos ⟨hot, hlt⟩]
        have hji : j = i := by
          have h1 := hj.last i (by simp) (by rw [hdi]; exact hot)
          rcases Nat.eq_or_lt_of_le h1 with h2 | h2
          · exact h2.symm
          · have h3 := hj.mem
            simp only [Bool.or_eq_true, beq_iff_eq] at h3
            have h4 := h3.resolve_right (by omega)
            have := (hnames j t (by omega) hj.dst (by unfold namesOf; rw [hot]; simp)).1 h4
            omega
        subst hji
        exact ⟨hv, fun e => hu e (by rw [hot]; simp)⟩
      · rw [if_neg (fun hh => hot hh.1)]
        have hji : j ≠ i := fun e => by
          have := hj.dst
          rw [e, hdi] at this; exact hot this
        have h3 := hj.mem
        simp only [Bool.or_eq_true, beq_iff_eq] at h3
        have := hT.new t j ⟨h3.resolve_right hji, hj.dst, fun k hk hkd => hj.last k (by simp [hk]) hkd⟩
        exact ⟨this.1.mono hp.le, this.2⟩
    · intro t hno
      rw [put_getD, if_neg (fun hh => hno i (by simp) (by rw [hdi]; exact hh.1))]
      exact hT.old t fun j hj => hno j (by simp [hj])
  · rw [put_defers']; exact hdl
  · rw [put_size]; exact hsz
end
end Go.CI

/- A deterministic interpreter over values: a region is the model's. -/
set_option linter.unusedVariables false
namespace Go.CI
open Go.RowKit

inductive Reach (ops : Array Oper) : Nat → Nat → Prop
  | edge {i : Nat} {o : Oper} {e : Edge} (ho : ops[i]? = some o) (he : e ∈ o.after) (hb : Region.binds .any e = true) : Reach ops i e.on
  | step {i j : Nat} {o : Oper} {e : Edge} (ho : ops[i]? = some o) (he : e ∈ o.after) (hb : Region.binds .any e = true) (h : Reach ops e.on j) : Reach ops i j

theorem foldl_bits (acc : List Nat) : ∀ (l : List Edge) (s j : Nat), (l.foldl (fun s e => if Region.binds .any e then s ||| (2 ^ e.on ||| acc.getD e.on 0) else s) s).testBit j = true → s.testBit j = true ∨ ∃ e ∈ l, Region.binds .any e = true ∧ (e.on = j ∨ (acc.getD e.on 0).testBit j = true)
  | [], s, j, h => .inl h
  | e :: l, s, j, h => by
    simp only [List.foldl_cons] at h
    rcases foldl_bits acc l _ j h with h1 | ⟨e', h1, h2, h3⟩
    · split at h1
      · rename_i hb
        simp only [Nat.testBit_or, Bool.or_eq_true] at h1
        rcases h1 with h1 | h1 | h1
        · exact .inl h1
        · refine .inr ⟨e, by simp, hb, .inl ?_⟩
          rw [Nat.testBit_two_pow] at h1
          simpa using h1
        · exact .inr ⟨e, by simp, hb, .inr h1⟩
      · exact .inl h1
    · exact .inr ⟨e', List.mem_cons_of_mem _ h1, h2, h3⟩

theorem preOf_reach {ops : Array Oper} : ∀ (l done : List Oper) (acc : List Nat), ops.toList = done ++ l → acc.length = done.length → (∀ i j, (acc.getD i 0).testBit j = true → Reach ops i j) → ∀ i j, ((preOf l acc).getD i 0).testBit j = true → Reach ops i j
  | [], done, acc, _, _, h => h
  | o :: l, done, acc, he, hl, h => by
    simp only [preOf]
    refine preOf_reach l (done ++ [o]) _ (by rw [he]; simp) (by simp [hl]) fun i j hij => ?_
    have hoi : ops[acc.length]? = some o := by
      rw [← Array.getElem?_toList, he, hl, List.getElem?_append_right (Nat.le_refl _)]
      simp
    simp only [List.getD_eq_getElem?_getD] at hij
    rcases Nat.lt_trichotomy i acc.length with h1 | h1 | h1
    · rw [List.getElem?_append_left h1] at hij
      exact h i j (by rw [List.getD_eq_getElem?_getD]; exact hij)
    · subst h1
      rw [List.getElem?_append_right (Nat.le_refl _)] at hij
      simp only [Nat.sub_self, List.getElem?_cons_zero, Option.getD_some] at hij
      have := foldl_bits acc o.after.toList 0 j (by simpa only [List.getD_eq_getElem?_getD] using hij)
      rcases this with h2 | ⟨e, h2, h3, h4⟩
      · simp at h2
      · rcases h4 with h4 | h4
        · subst h4; exact .edge hoi (by simpa using h2) h3
        · exact .step hoi (by simpa using h2) h3 (h _ _ h4)
    · rw [List.getElem?_eq_none (by simp; omega)] at hij
      simp at hij

/-- What is bound stays behind. -/
def Closed (ops : Array Oper) (S : Nat → Bool) : Prop := ∀ i o, S i = true → ops[i]? = some o → ∀ e ∈ o.after, Region.binds .any e = true → S e.on = true
theorem Closed.reach {ops : Array Oper} {S : Nat → Bool} (h : Closed ops S) {i j : Nat} (hr : Reach ops i j) (hS : (S i = true) ∨ ∀ o, ops[i]? = some o → ∀ e ∈ o.after, Region.binds .any e = true → S e.on = true) : S j = true := by
  induction hr with
  | edge ho he hb =>
    rcases hS with hS | hS
    · exact h _ _ hS ho _ he hb
    · exact hS _ ho _ he hb
  | step ho he hb _ ih =>
    refine ih (.inl ?_)
    rcases hS with hS | hS
    · exact h _ _ hS ho _ he hb
    · exact hS _ ho _ he hb

theorem tmpsOk_at {ops : Array Oper} {pre : List Nat} (h : tmpsOk ops.toList pre = true) {i j : Nat} {o : Oper} {t : Tmp} (ho : ops[i]? = some o) (hj : dstAt ops j = some t) (hne : j ≠ i) (hn : t ∈ namesOf ops.toList o) : (pre.getD (max i j) 0).testBit (min i j) = true := by
  unfold tmpsOk at h
  rw [List.all_eq_true] at h
  have h1 := h (o, i) (by rw [List.mem_zipIdx_iff_getElem?]; simpa using ho)
  simp only at h1
  rw [List.all_eq_true] at h1
  unfold dstAt at hj
  cases hw : ops[j]? with
  | none => rw [hw] at hj; cases hj
  | some w =>
    rw [hw] at hj
    simp only [Option.bind_some] at hj
    have h2 := h1 (w, j) (by rw [List.mem_zipIdx_iff_getElem?]; simpa using hw)
    simp only [hj, Bool.or_eq_true, beq_iff_eq, Bool.not_eq_true', List.contains_eq_mem, decide_eq_false_iff_not] at h2
    rcases h2 with (h2 | h2) | h2
    · exact absurd h2 hne
    · exact absurd hn h2
    · rw [Nat.max_comm, Nat.min_comm]; exact h2

theorem countP_lt {p q : Nat → Bool} : ∀ {l : List Nat} {x : Nat}, (∀ y, q y = true → p y = true) → x ∈ l → p x = true → q x = false → l.countP q < l.countP p
  | [], x, _, hx, _, _ => by simp at hx
  | a :: l, x, h, hx, hp, hq => by
    rw [List.countP_cons, List.countP_cons]
    have hle : l.countP q ≤ l.countP p := List.countP_mono_left fun y _ hy => h y hy
    rcases List.mem_cons.1 hx with rfl | hx
    · rw [hp, hq]; simp; omega
    · have := countP_lt h hx hp hq
      by_cases ha : q a = true
      · rw [ha, h a ha]; simp; omega
      · rw [if_neg ha]; omega

section
variable {P : Program} {base : Base} {E : Env} {rg : Nat} {ops : Array Oper} {cf : Nat → List CVal → CHeap → Option (CVal × CHeap)} {tm : List CVal} {id : Nat} {cs : List COper} {tr : Nat → RS} {r : Nat → CVal} {sw : List (Nat × Nat)}
  {G0 : Gh} {h0 : CHeap} {w0 : World} {a0 : Act} {Q : Exit → Act → World → Prop}

theorem J.congr {S S' : Nat → Bool} {a : Act} {w : World} (h : ∀ j, S j = S' j) (HJ : J base ops cf tm id cs tr r sw G0 h0 w0 a0 S a w) : J base ops cf tm id cs tr r sw G0 h0 w0 a0 S' a w := by
  have : S = S' := funext h
  rw [← this]; exact HJ

theorem seq_ops (hE : E.P = P) (C : CopAt E rg ops cs) (hdst : dstsOk E.ntmps ops.toList cs = true) (R : Run cf tm id cs tr r)
    (hsim : SimCall P base cf) (A : AR E G0 tm (tr 0).defs a0) (hres : ∀ i, i < cs.length → id + i < h0.next ∧ Fresh G0 h0 (id + i))
    (hQ : ∀ a w, J base ops cf tm id cs tr r [] G0 h0 w0 a0 (fun j => decide (j < ops.size)) a w → Q .normal a w) : ∀ (k i : Nat) (a : Act) (w : World), i + k = ops.size → J base ops cf tm id cs tr r [] G0 h0 w0 a0 (fun j => decide (j < i)) a w → wpOps P ops Q (List.range' i k) a w
  | 0, i, a, w, hk, HJ => by
    simp at hk; subst hk
    exact hQ a w HJ
  | k + 1, i, a, w, hk, HJ => by
    rw [List.range'_succ, wpOps_cons]
    have hi : i < ops.size := by omega
    refine j_step (S := fun j => decide (j < i)) (o := ops[i]) (Bef := fun j i => j < i) hE C hdst R (bound_seq R) hsim A hres (Array.getElem?_eq_getElem hi) (by simp) (fun j hj => by simpa using hj) (fun j k hk hj => by simp at hk ⊢; omega) (fun j t _ _ _ => by simp) ?_ HJ
    intro a' w' HJ'
    refine seq_ops hE C hdst R hsim A hres hQ k (i + 1) a' w' (by omega) (HJ'.congr fun j => ?_)
    by_cases h1 : j < i
    · simp [h1, show j < i + 1 by omega]
    · by_cases h2 : j = i
      · simp [h2]
      · simp [h1, h2, show ¬ j < i + 1 by omega]

theorem any_ops {pre : List Nat} (hpre : ∀ i j, (pre.getD i 0).testBit j = true → Reach ops i j) (hedges : edgesOk ops.toList = true) (htmps : tmpsOk ops.toList pre = true) (hE : E.P = P) (C : CopAt E rg ops cs) (hdst : dstsOk E.ntmps ops.toList cs = true) (R : Run cf tm id cs tr r)
    (B : Bound cf tm id cs tr r sw (fun j i => (pre.getD i 0).testBit j = true))
    (hsim : SimCall P base cf) (A : AR E G0 tm (tr 0).defs a0) (hres : ∀ i, i < cs.length → id + i < h0.next ∧ Fresh G0 h0 (id + i))
    (hQ : ∀ S a w, (∀ i, i < ops.size → S i = true) → J base ops cf tm id cs tr r sw G0 h0 w0 a0 S a w → Q .normal a w) : ∀ (fuel : Nat) (listed : Array Bool) (a : Act) (w : World), listed.size = ops.size → (List.range ops.size).countP (fun j => !listed.getD j false) ≤ fuel →
      Closed ops (fun j => listed.getD j false) → J base ops cf tm id cs tr r sw G0 h0 w0 a0 (fun j => listed.getD j false) a w → wpAny P .any ops Q fuel listed a w := by
  have done : ∀ (listed : Array Bool) (a : Act) (w : World), listed.size = ops.size → Region.ready .any ops listed = [] → J base ops cf tm id cs tr r sw G0 h0 w0 a0 (fun j => listed.getD j false) a w → Q .normal a w := fun listed a w hsz hready HJ => by
    refine hQ _ a w ?_ HJ
    intro i
    induction i using Nat.strongRecOn with
    | ind i ih =>
      intro hi
      rcases Bool.eq_false_or_eq_true (listed.getD i false) with h1 | h1
      · exact h1
      · exfalso
        have hmem : i ∈ Region.ready .any ops listed := by
          rw [mem_ready]
          refine ⟨?_, ops[i], Array.getElem?_eq_getElem hi, fun e he hb => ?_⟩
          · have hlt : i < listed.size := by omega
            simp [hlt] at h1 ⊢; exact h1
          · unfold edgesOk at hedges
            rw [List.all_eq_true] at hedges
            have h2 := hedges (ops[i], i) (by rw [List.mem_zipIdx_iff_getElem?]; simp)
            simp only [List.all_eq_true] at h2
            have h3 := h2 e (by simpa using he)
            simp only [hb, Bool.not_true, Bool.false_or, decide_eq_true_eq] at h3
            exact ih e.on h3 (by omega)
        rw [hready] at hmem
        cases hmem
  intro fuel
  induction fuel with
  | zero =>
    intro listed a w hsz hfuel hcl HJ
    have hall : Region.ready .any ops listed = [] := by
      cases hr : Region.ready .any ops listed with
      | nil => rfl
      | cons x xs =>
        exfalso
        have hx : x ∈ Region.ready .any ops listed := by rw [hr]; simp
        obtain ⟨h0, o, ho, _⟩ := mem_ready.1 hx
        have hxi : x < ops.size := (Array.getElem?_eq_some_iff.1 ho).1
        have hlt : x < listed.size := by omega
        have h1 := List.countP_eq_zero.1 (Nat.le_zero.1 hfuel) x (List.mem_range.2 hxi)
        simp [hlt] at h0 h1
        rw [h1] at h0; cases h0
    exact ⟨hall, done listed a w hsz hall HJ⟩
  | succ fuel ihf =>
    intro listed a w hsz hfuel hcl HJ
    refine ⟨fun hr => done listed a w hsz hr HJ, fun i hi => ?_⟩
    obtain ⟨h0, o, ho, hbefore⟩ := mem_ready.1 hi
    have hio : i < ops.size := (Array.getElem?_eq_some_iff.1 ho).1
    have hlt : i < listed.size := by omega
    have hS : listed.getD i false = false := by
      simp [hlt] at h0 ⊢; exact h0
    have hpi : ∀ j, (pre.getD i 0).testBit j = true → listed.getD j false = true := fun j hj => hcl.reach (hpre i j hj) (.inr fun o' ho' e he hb => by rw [ho] at ho'; cases ho'; exact hbefore e he hb)
    have hset : ∀ j, (listed.getD j false || j == i) = (listed.setIfInBounds i true).getD j false := fun j => by
      by_cases hji : j = i
      · subst hji; simp [hlt]
      · rw [getD_set_ne false (fun e => hji e.symm)]; simp [hji]
    refine j_step (S := fun j => listed.getD j false) (o := o) (Bef := fun j i => (pre.getD i 0).testBit j = true) hE C hdst R B hsim A hres ho hS hpi (fun j k hk hj => hcl.reach (hpre k j hj) (.inl hk)) (fun j t hne hd hn => ?_) ?_ HJ
    · have h1 := tmpsOk_at htmps ho hd hne hn
      constructor
      · intro hj
        rcases Nat.lt_or_ge j i with h2 | h2
        · exact h2
        · exfalso
          rw [Nat.max_eq_right h2, Nat.min_eq_left h2] at h1
          have := hcl.reach (hpre j i h1) (.inl hj)
          rw [hS] at this; cases this
      · intro hj
        rw [Nat.max_eq_left (by omega), Nat.min_eq_right (by omega)] at h1
        exact hpi j h1
    · intro a' w' HJ'
      refine ihf _ a' w' (by simpa using hsz) ?_ ?_ (HJ'.congr hset)
      · have : (List.range ops.size).countP (fun j => !(listed.setIfInBounds i true).getD j false) < (List.range ops.size).countP (fun j => !listed.getD j false) := by
          refine countP_lt (x := i) (fun y hy => ?_) (List.mem_range.2 hio) (by rw [hS]; rfl) (by rw [← hset i]; simp)
          rw [← hset y] at hy
          simp only [Bool.not_or, Bool.and_eq_true] at hy
          exact hy.1
        omega
      · intro j o' hj ho' e he hb
        have hj : (listed.setIfInBounds i true).getD j false = true := hj
        show (listed.setIfInBounds i true).getD e.on false = true
        rw [← hset] at hj ⊢
        simp only [Bool.or_eq_true, beq_iff_eq] at hj ⊢
        rcases hj with hj | hj
        · exact .inl (hcl j o' hj ho' e he hb)
        · subst hj
          rw [ho] at ho'; cases ho'
          exact .inl (hbefore e he hb)

theorem lastDst_spec (t : Tmp) : ∀ (l : List Oper) (i : Nat) (acc : Option Nat), (∃ (k : Nat) (o : Oper), lastDst t l i acc = some (i + k) ∧ l[k]? = some o ∧ o.dst = some t ∧ ∀ (k' : Nat) (o' : Oper), l[k']? = some o' → o'.dst = some t → k' ≤ k) ∨ (lastDst t l i acc = acc ∧ ∀ (k : Nat) (o : Oper), l[k]? = some o → o.dst ≠ some t)
  | [], i, acc => .inr ⟨rfl, fun k o h => by simp at h⟩
  | o :: l, i, acc => by
    simp only [lastDst]
    rcases lastDst_spec t l (i + 1) (if o.dst == some t then some i else acc) with ⟨k, o', h1, h2, h3, h4⟩ | ⟨h1, h2⟩
    · refine .inl ⟨k + 1, o', by rw [h1]; congr 1; omega, by simpa using h2, h3, fun k' o'' h5 h6 => ?_⟩
      cases k' with
      | zero => omega
      | succ k' => have := h4 k' o'' (by simpa using h5) h6; omega
    · by_cases ho : o.dst = some t
      · refine .inl ⟨0, o, by rw [h1]; simp [ho], rfl, ho, fun k' o'' h5 h6 => ?_⟩
        cases k' with
        | zero => omega
        | succ k' => exact absurd h6 (h2 k' o'' (by simpa using h5))
      · refine .inr ⟨by rw [h1]; simp [ho], fun k o'' h5 => ?_⟩
        cases k with
        | zero => simp at h5; rw [← h5]; exact ho
        | succ k => exact h2 k o'' (by simpa using h5)

theorem nth_setNth (l : List CVal) (k v : Nat) (x : CVal) (hk : k < l.length) : nth (setNth l k x) v = if v = k then x else nth l v := by
  rw [nth_eq, getElem?_setNth]
  by_cases h : k = v
  · subst h; simp [hk]
  · rw [if_neg (fun hh => h hh.1), if_neg (fun e => h e.symm), nth_eq]

theorem wb_nth (n : Nat) (vals : List CVal) (l : List Oper) : ∀ (vars : List Tmp) (k : Nat) (tm : List CVal), k + vars.length ≤ tm.length → (writeBack n vals tm (wbFrom l vars k)).length = tm.length ∧
    ∀ v, nth (writeBack n vals tm (wbFrom l vars k)) v = match (if k ≤ v then vars[v - k]? else none) with
      | some t => (match lastDst t l 0 none with
        | some i => nth vals (n - 1 - i)
        | none => nth tm v)
      | none => nth tm v
  | [], k, tm, _ => by
    refine ⟨rfl, fun v => ?_⟩
    simp [wbFrom, writeBack]
  | t :: vars, k, tm, hl => by
    simp only [List.length_cons] at hl
    simp only [wbFrom]
    cases hd : lastDst t l 0 none with
    | some i =>
      simp only [writeBack]
      obtain ⟨h1, h2⟩ := wb_nth n vals l vars (k + 1) (setNth tm k (nth vals (n - 1 - i))) (by rw [length_setNth]; omega)
      refine ⟨by rw [h1, length_setNth], fun v => ?_⟩
      rw [h2 v, nth_setNth _ _ _ _ (by omega)]
      rcases Nat.lt_trichotomy v k with h3 | h3 | h3
      · rw [if_neg (show ¬ k + 1 ≤ v by omega), if_neg (show ¬ k ≤ v by omega), if_neg (show ¬ v = k by omega)]
      · subst h3
        rw [if_neg (show ¬ v + 1 ≤ v by omega), if_pos (Nat.le_refl v), if_pos rfl]
        simp [hd]
      · rw [if_pos (show k + 1 ≤ v by omega), if_pos (show k ≤ v by omega), show v - k = (v - (k + 1)) + 1 by omega, List.getElem?_cons_succ, if_neg (show ¬ v = k by omega)]
    | none =>
      simp only
      obtain ⟨h1, h2⟩ := wb_nth n vals l vars (k + 1) tm (by omega)
      refine ⟨h1, fun v => ?_⟩
      rw [h2 v]
      rcases Nat.lt_trichotomy v k with h3 | h3 | h3
      · rw [if_neg (show ¬ k + 1 ≤ v by omega), if_neg (show ¬ k ≤ v by omega)]
      · subst h3
        rw [if_neg (show ¬ v + 1 ≤ v by omega), if_pos (Nat.le_refl v)]
        simp [hd]
      · rw [if_pos (show k + 1 ≤ v by omega), if_pos (show k ≤ v by omega), show v - k = (v - (k + 1)) + 1 by omega, List.getElem?_cons_succ]

/-- When every operation has run. -/
theorem j_done (C : CopAt E rg ops cs) (R : Run cf tm id cs tr r) (A : AR E G0 tm (tr 0).defs a0) (hsw : ∀ a b, sw = [(a, b)] → isW cs a = true ∧ a < b) {S : Nat → Bool} {a : Act} {w : World} (hS : ∀ i, i < ops.size → S i = true) (HJ : J base ops cf tm id cs tr r sw G0 h0 w0 a0 S a w) :
    ∃ G, Post base (fun k => id ≤ k) G0 h0 w0 G (tr cs.length).h w ∧ AR E G (writeBack cs.length (tr cs.length).vals tm (wbOf E.vars ops.toList)) (tr cs.length).defs a := by
  obtain ⟨G, h, ds, hH, hP, hT, hD, hsz⟩ := HJ
  have hall : ∀ j, isW cs j = true → S j = true := fun j hj => hS j (by rw [← C.len]; exact isW_lt hj)
  have heq : h = (tr cs.length).h ∧ ds = (tr cs.length).defs := by
    rcases hH with ⟨m, hm, hsm, rfl, rfl⟩ | ⟨x, b, he, hsm, _⟩
    · have := R.same hm (Nat.le_refl _) (fun k h1 h2 => by
        rcases Bool.eq_false_or_eq_true (isW cs k) with h3 | h3
        · have := (hsm k h3).1 (hall k h3); omega
        · exact h3)
      exact ⟨this.1.symm, this.2.symm⟩
    · obtain ⟨h1, h2⟩ := hsw x b he
      have := (hsm x h1).1 (hall x h1)
      omega
  obtain ⟨rfl, rfl⟩ := heq
  refine ⟨G, hP.mono fun k ⟨j, _, hj⟩ => by omega, ?_, ?_, ?_, hD, fun g cs hc => (A.glob g cs hc).mono hP.le⟩
  · rw [hsz]; exact A.size
  · rw [wbOf, (wb_nth _ _ _ _ _ _ (by rw [A.len]; omega)).1]; exact A.len
  · intro t v hv
    obtain ⟨k, hk, hvk⟩ := findVar_some hv
    rw [Nat.zero_add] at hk
    subst hk
    rw [wbOf, (wb_nth _ _ _ _ _ _ (by rw [A.len]; omega)).2 v, if_pos (Nat.zero_le _), Nat.sub_zero, hvk]
    simp only
    rcases lastDst_spec t ops.toList 0 none with ⟨k, o, h1, h2, h3, h4⟩ | ⟨h1, h2⟩
    · rw [h1, Nat.zero_add]
      simp only
      rw [Array.getElem?_toList] at h2
      have hk : k < ops.size := (Array.getElem?_eq_some_iff.1 h2).1
      have hc := C.len
      rw [R.nth cs.length _ (Nat.le_refl _) (by omega), show cs.length - 1 - (cs.length - 1 - k) = k by omega]
      refine (hT.new t k ⟨hS k hk, by simp [dstAt, h2, h3], fun m _ hmd => ?_⟩).1
      unfold dstAt at hmd
      cases hom : ops[m]? with
      | none => rw [hom] at hmd; cases hmd
      | some om =>
        rw [hom] at hmd
        exact h4 m om (by rw [Array.getElem?_toList]; exact hom) hmd
    · rw [h1]
      simp only
      rw [hT.old t (fun j _ hd => ?_)]
      · exact (A.val t v hv).mono hP.le
      · unfold dstAt at hd
        cases hom : ops[j]? with
        | none => rw [hom] at hd; cases hd
        | some om =>
          rw [hom] at hd
          exact h2 j om (by rw [Array.getElem?_toList]; exact hom) hd
end
end Go.CI

/- A deterministic interpreter over values: a region's code is the model's. -/
set_option linter.unusedVariables false
namespace Go.CI
open Go.RowKit

theorem cell_of_heap {w w' : World} (h : w'.heap = w.heap) (a : Addr) : w'.cell? a = w.cell? a := by unfold World.cell?; rw [h]
theorem frozen_of_heap {w w' : World} (h : w'.heap = w.heap) (a : Addr) : w'.frozen? a = w.frozen? a := by unfold World.frozen?; rw [h]

theorem Inv.of_heap {base : Base} {G : Gh} {h : CHeap} {w w' : World} (I : Inv base G h w) (he : w'.heap = w.heap) : Inv base G h w' := by
  obtain ⟨own, I⟩ := I
  have hl : ∀ ab i, Live w ab i → Live w' ab i := fun ab i ⟨⟨v, h1⟩, h2⟩ => ⟨⟨v, by rw [cell_of_heap he]; exact h1⟩, by rw [frozen_of_heap he]; exact h2⟩
  have hh : ∀ ab i c, Holds G w ab i c → Holds G w' ab i c := fun ab i c ⟨v, h1, h2⟩ => ⟨v, by rw [cell_of_heap he]; exact h1, h2⟩
  refine ⟨own, fun ab o c hf => ⟨(I.fzs ab o c hf).1, hh _ _ _ (I.fzs ab o c hf).2⟩, fun b ab k hm => ⟨(I.mus b ab k hm).1, (I.mus b ab k hm).2.1, fun i hi => ⟨((I.mus b ab k hm).2.2.1 i hi).1, hl _ _ ((I.mus b ab k hm).2.2.1 i hi).2⟩, fun hk => ⟨((I.mus b ab k hm).2.2.2.1 hk).1, by rw [he]; exact ((I.mus b ab k hm).2.2.2.1 hk).2⟩, fun hk => by unfold World.shape?; rw [he]; exact (I.mus b ab k hm).2.2.2.2 hk⟩, I.rws, I.tks, fun b o ho => ⟨(I.ents b o ho).1, ?_⟩, fun ab o x hx => by rw [he]; exact I.old ab o x hx, by rw [he]; exact I.top, I.nod, fun b v x hx => ⟨by rw [he]; exact (I.cln b v x hx).1, fun st T n hs => by rw [frozen_of_heap he]; exact (I.cln b v x hx).2 st T n (by unfold World.shape? at hs ⊢; rw [← he]; exact hs)⟩, I.gls, I.tyk, fun b T ht v x hx => ⟨by unfold RowB; rw [he]; exact (I.tys b T ht v x hx).1, (I.tys b T ht v x hx).2⟩, fun i x h1 b kvs h2 => by
    obtain ⟨k1, k2, ⟨mb, s, sn, l, k3, k4, k5⟩, k6⟩ := I.its i x h1 b kvs h2
    exact ⟨k1, k2, ⟨mb, s, sn, l, k3, by rw [he]; exact k4, k5⟩, k6⟩, I.itj, fun b x ht hx => by rw [he]; exact I.lits b x ht hx⟩
  have hb := (I.ents b o ho).2
  cases o with
  | cells cs => exact fun ab k hm => ⟨(hb ab k hm).1, fun i c hi => ⟨((hb ab k hm).2 i c hi).1, hh _ _ _ ((hb ab k hm).2 i c hi).2⟩⟩
  | row ver es => exact ⟨hb.1, fun ab ao k cap hr => let ⟨h1, h2, h3, h4⟩ := hb.2 ab ao k cap hr; ⟨h1, h2, fun i hi => ⟨(h3 i hi).1, hl _ _ (h3 i hi).2⟩, fun i e hie => ⟨(h4 i e hie).1, fun j c hj => ⟨((h4 i e hie).2 j c hj).1, hh _ _ _ ((h4 i e hie).2 j c hj).2⟩⟩⟩⟩
  | tok ver => exact ⟨hb.1, fun ab e k room ht => ⟨(hb.2 ab e k room ht).1, fun i hi => ⟨((hb.2 ab e k room ht).2 i hi).1, hl _ _ ((hb.2 ab e k room ht).2 i hi).2⟩⟩⟩
  | frow ver es => exact ⟨hb.1, fun ab ao k cap hr => let ⟨h0, h1, h2, h3⟩ := hb.2 ab ao k cap hr; ⟨h0, h1, fun i hi => ⟨(h2 i hi).1, by rw [he]; exact (h2 i hi).2⟩, fun i e hie => ⟨(h3 i e hie).1, fun j c hj => ⟨((h3 i e hie).2 j c hj).1, hh _ _ _ ((h3 i e hie).2 j c hj).2⟩⟩⟩⟩
  | map ck kvs => exact fun ab hm => let ⟨es, h1, h2⟩ := hb ab hm; ⟨es, by rw [he]; exact h1, h2⟩

/-- Room for new numbers. -/
theorem Inv.bump {base : Base} {G : Gh} {h : CHeap} {w : World} (I : Inv base G h w) (n : Nat) : Inv base G { h with next := h.next + n } w := by
  obtain ⟨own, I⟩ := I
  exact ⟨own, I.sub (h' := { h with next := h.next + n }) (List.Sublist.refl _) (Nat.le_add_right _ _) rfl⟩
theorem Inv.freshAt {base : Base} {G : Gh} {h : CHeap} {w : World} (I : Inv base G h w) {i : Nat} (hi : h.next ≤ i) (n : Nat) : Fresh G { h with next := h.next + n } i := by
  obtain ⟨own, I⟩ := I
  refine ⟨?_, fun v => ?_, fun v => ?_, ?_⟩
  · cases hm : G.mu i with
    | none => rfl
    | some x => have := (I.mus i x.1 x.2 hm).1; omega
  · cases hm : G.rw i v with
    | none => rfl
    | some x => have := I.rws i v x hm; omega
  · cases hm : G.tk i v with
    | none => rfl
    | some x => have := I.tks i v x hm; omega
  · show h.get i = none
    cases hm : h.get i with
    | none => rfl
    | some x => have := (I.ents i x hm).1; omega

theorem region_sim {P : Program} {base : Base} {E : Env} {T : Nat → Option CFn} {ex : CCode → CSt → Option (CExit × CSt)} {rg : Nat} {ops : Array Oper} {draw : Bool} {cc : CCode} {st st' : CSt} {x : CExit} (hE : E.P = P) (hglob : GlobsIn E.H.globals base.gl) (hmixed : P.follows .mixedOrders = true)
    (hc : cregion E rg ops.toList draw = some cc) (hx : execStep T ex cc st = some (x, st')) (hsim : SimCall P base (callFn T ex)) {G : Gh} {a : Act} {w : World} (A : AR E G st.tm st.defs a) (I : Inv base G st.h w) {Q : Exit → Act → World → Prop}
    (hQ : ∀ G' a' w', AR E G' st'.tm st'.defs a' → Post base (fun _ => False) G st.h w G' st'.h w' → Q .normal a' w') : x = .normal ∧ (Code.region rg ops draw).wp P Q a w := by
  unfold cregion at hc
  split at hc
  · rename_i cs hcs
    split at hc
    · rename_i hdst
      have C := copAt_of hcs
      have main : ∀ (wb : List (Nat × Nat)) (chk : List (Nat × Nat × Nat)) (sw : List (Nat × Nat)), wb = wbOf E.vars ops.toList → execStep T ex (.region cs wb chk sw) st = some (x, st') →
          ∃ (tr : Nat → RS) (r : Nat → CVal), Run (callFn T ex) st.tm st.h.next cs tr r ∧ tr 0 = ⟨[], { st.h with next := st.h.next + cs.length }, st.defs, []⟩ ∧ x = .normal ∧ st' = ⟨writeBack cs.length (tr cs.length).vals st.tm wb, (tr cs.length).h, (tr cs.length).defs⟩ ∧
            chk.all (checkOne st.tm cs cs.length (tr cs.length).vals ((tr cs.length).h :: (tr cs.length).hs).reverse) = true ∧ sw.all (swapOne st.tm cs cs.length (tr cs.length).vals) = true := by
        intro wb chk sw hwb hx
        simp only [execStep] at hx
        split at hx
        · rename_i s hs
          obtain ⟨tr, r, h0, hn, hst⟩ := trace_of cs _ _ _ hs
          split at hx
          · rename_i hck
            simp only [Bool.and_eq_true] at hck
            cases hx
            refine ⟨tr, r, ⟨by rw [h0], by rw [h0], hst⟩, h0, rfl, by rw [hn], ?_, ?_⟩
            · rw [hn]; exact hck.1
            · rw [hn]; exact hck.2
          · cases hx
        · cases hx
      have hres : ∀ i, i < cs.length → st.h.next + i < ({ st.h with next := st.h.next + cs.length } : CHeap).next ∧ Fresh G { st.h with next := st.h.next + cs.length } (st.h.next + i) := fun i hi => ⟨by show st.h.next + i < st.h.next + cs.length; omega, I.freshAt (by omega) _⟩
      have hfin : ∀ {w0 : World} {tr : Nat → RS} {G' : Gh} {w' : World}, w0.heap = w.heap → Below base w w0 → Post base (fun k => st.h.next ≤ k) G { st.h with next := st.h.next + cs.length } w0 G' (tr cs.length).h w' → Post base (fun _ => False) G st.h w G' (tr cs.length).h w' := fun h1 h2 hp =>
        ⟨hp.le, hp.inv, h2.trans hp.below, Nat.le_trans (Nat.le_add_right _ _) hp.next, fun i hi _ hf => hp.fresh i (Nat.lt_of_lt_of_le hi (Nat.le_add_right _ _)) (by omega) hf⟩
      have J0 : ∀ {w0 : World} {tr : Nat → RS} {r : Nat → CVal} {sw : List (Nat × Nat)}, w0.heap = w.heap → tr 0 = ⟨[], { st.h with next := st.h.next + cs.length }, st.defs, []⟩ →
          J base ops (callFn T ex) st.tm st.h.next cs tr r sw G { st.h with next := st.h.next + cs.length } w0 a (fun _ => false) a w0 := fun h1 h0 =>
        ⟨G, { st.h with next := st.h.next + cs.length }, st.defs, .inl ⟨0, Nat.zero_le _, fun j _ => by simp, by rw [h0], by rw [h0]⟩, .refl ((I.of_heap h1).bump _), ⟨fun t j hl => absurd hl.mem (by simp), fun t _ => rfl⟩, A.defs, rfl⟩
      cases draw with
      | false =>
        simp only [Bool.false_eq_true, if_false] at hc
        cases hc
        obtain ⟨tr, r, R, h0, rfl, rfl, _, _⟩ := main _ _ _ rfl hx
        refine ⟨rfl, wp_region ?_⟩
        rw [List.range_eq_range']
        refine seq_ops hE C hdst R hsim (by rw [h0]; exact A) hres (fun a' w' HJ => ?_) ops.size 0 a w (by omega) ((J0 (tr := tr) (r := r) rfl h0).congr fun j => by simp)
        obtain ⟨G', hp, hA⟩ := j_done C R (by rw [h0]; exact A) (fun a b h => by cases h) (fun i hi => by simpa using hi) HJ
        exact hQ G' a' w' hA (hfin rfl (Below.refl _ _) hp)
      | true =>
        simp only [if_true] at hc
        split at hc
        · rename_i hok
          simp only [Bool.and_eq_true] at hok
          obtain ⟨hedges, htmps, hchain, hswaps⟩ := hok
          cases hc
          obtain ⟨tr, r, R, h0, rfl, rfl, hchk, hsw⟩ := main _ _ _ rfl hx
          refine ⟨rfl, wp_region_any hmixed ?_⟩
          have B := bound_any R hchain hswaps hchk hsw
          have hrep : ∀ j, (Array.replicate ops.size false).getD j false = false := fun j => by
            by_cases hj : j < ops.size <;> simp [hj]
          refine any_ops (preOf_reach ops.toList [] [] (by simp) rfl (fun i j h => by simp at h)) hedges htmps hE C hdst R B hsim (by rw [h0]; exact A) hres (fun S a' w' hS HJ => ?_) ops.size _ a _ (by simp) ?_ (fun i o hi => absurd (show (Array.replicate ops.size false).getD i false = true from hi) (by rw [hrep]; simp)) ((J0 (tr := tr) (r := r) (w0 := { w with drawn := w.drawn + 1 }) rfl h0).congr fun j => (hrep j).symm)
          · obtain ⟨G', hp, hA⟩ := j_done C R (by rw [h0]; exact A) (fun a b h => by
              rcases B.swap with h1 | ⟨a', b', h1, h2, h3, _⟩
              · rw [h] at h1; cases h1
              · rw [h] at h1; cases h1; exact ⟨h3, h2⟩) hS HJ
            exact hQ G' a' w' hA (hfin (w0 := { w with drawn := w.drawn + 1 }) rfl ⟨rfl, rfl, rfl, Nat.le_refl _, fun _ _ => rfl⟩ hp)
          · exact Nat.le_trans List.countP_le_length (by simp)
        · cases hc
    · cases hc
  · cases hc
end Go.CI

/- A deterministic interpreter over values: code is the model's. -/
set_option linter.unusedVariables false
namespace Go.CI
open Go.RowKit

def XR : CExit → Exit → Prop
  | .normal, .normal => True
  | .exit i, .exit j => i = j
  | .ret, .ret => True
  | _, _ => False

/-- What is asked of the code: of a loop, within n rounds. -/
def WpN (P : Program) (n : Nat) (c : Code) (Q : Exit → Act → World → Prop) (a : Act) (w : World) : Prop := match c with
  | .loop body => Code.rounds P body Q n a w
  | c => c.wp P Q a w

theorem WpN.wp {P : Program} {n : Nat} {c : Code} {Q : Exit → Act → World → Prop} {a : Act} {w : World} (h : WpN P n c Q a w) : c.wp P Q a w := by
  cases c <;> first | exact h | exact wp_loop_rounds n h

def CodeOk (P : Program) (base : Base) (E : Env) (n : Nat) (c : Code) (x : CExit) (st st' : CSt) : Prop :=
  ∀ (Q : Exit → Act → World → Prop) (G : Gh) (a : Act) (w : World), AR E G st.tm st.defs a → Inv base G st.h w →
    (∀ e G' a' w', XR x e → AR E G' st'.tm st'.defs a' → Post base (fun _ => False) G st.h w G' st'.h w' → Q e a' w') → WpN P n c Q a w

def SimEx (P : Program) (base : Base) (n : Nat) (ex : CCode → CSt → Option (CExit × CSt)) : Prop :=
  ∀ (E : Env), E.P = P → GlobsIn E.H.globals base.gl → E.only = none → ∀ (c : Code) (cc : CCode) (st st' : CSt) (x : CExit), ccode E c = some cc → ex cc st = some (x, st') → CodeOk P base E n c x st st'

theorem Post.both {base : Base} {G G1 G2 : Gh} {h h1 h2 : CHeap} {w w1 w2 : World} (a : Post base (fun _ => False) G h w G1 h1 w1) (b : Post base (fun _ => False) G1 h1 w1 G2 h2 w2) : Post base (fun _ => False) G h w G2 h2 w2 :=
  (a.trans b).mono fun _ h => h.elim (fun x => x) (fun x => x)

theorem Post.lose {base : Base} {ex : Nat → Prop} {G : Gh} {h h' : CHeap} {w : World} (I : Inv base G h w) (hs : h'.ents.Sublist h.ents) (hn : h'.next = h.next) (ht : h'.tys = h.tys) : Post base ex G h w G h' w := by
  obtain ⟨own, I⟩ := I
  refine ⟨.refl G, ⟨own, I.sub hs (by omega) ht⟩, .refl _ _, by omega, fun i _ _ hf => ⟨hf.1, hf.2.1, hf.2.2.1, ?_⟩⟩
  have h0 := hf.2.2.2
  cases hg : h'.get i with
  | none => rfl
  | some o => have := getEnt_sub hs I.nod hg; unfold CHeap.get at h0; rw [h0] at this; cases this

theorem opnd_rel {E : Env} {G : Gh} {tm : List CVal} {ds : List (Nat × List CVal)} {a : Act} (ho : E.only = none) (A : AR E G tm ds a) {X : Operand} {x : COpnd} (hx : copnd E [] X = some x) : VR G (evalOpnd tm [] x) (a.eval X) := by
  cases X with
  | tmp t =>
    simp only [copnd, Env.can, ho, if_true, findLoc] at hx
    obtain ⟨v, hv, rfl⟩ := Option.map_eq_some_iff.1 hx
    exact A.val t v hv
  | const v =>
    simp only [copnd] at hx
    obtain ⟨c', hc', rfl⟩ := Option.map_eq_some_iff.1 hx
    exact ofValue_sound G v c' hc'
  | global g =>
    simp only [copnd] at hx
    obtain ⟨cs, hcs, rfl⟩ := Option.map_eq_some_iff.1 hx
    exact A.glob g cs hcs
  | func f =>
    simp only [copnd] at hx
    cases hx
    exact .fn rfl rfl (fun i c v h => by simp at h) (fun i c v h => by simp at h)

theorem execStep_sim {P : Program} {base : Base} {n : Nat} {T : Nat → Option CFn} {ex : CCode → CSt → Option (CExit × CSt)} (hmixed : P.follows .mixedOrders = true) (hex : SimEx P base n ex) (hcalls : SimCall P base (callFn T ex)) : SimEx P base (n + 1) (execStep T ex) := by
  intro E hE hglob honly c cc st st' x hc hx Q G a w A I hQ
  cases c with
  | skip =>
    simp only [ccode] at hc; cases hc
    simp only [execStep] at hx; cases hx
    exact wp_skip (hQ .normal G a w trivial A (.refl I))
  | region rg ops draw =>
    simp only [ccode] at hc
    have hc : cregion E rg ops.toList draw = some cc := by
      cases hr : cregion E rg ops.toList draw with
      | some c' => rw [hr] at hc; simpa using hc
      | none => rw [hr] at hc; simp at hc; subst hc; simp [execStep] at hx
    have hn := (region_sim hE hglob hmixed hc hx hcalls A I (Q := fun _ _ _ => True) (fun _ _ _ _ _ => trivial)).1
    subst hn
    exact (region_sim hE hglob hmixed hc hx hcalls A I (Q := Q) (fun G' a' w' hA hp => hQ .normal G' a' w' trivial hA hp)).2
  | seq u v =>
    simp only [ccode] at hc
    split at hc
    · rename_i cu cv hu hv
      cases hc
      simp only [execStep] at hx
      refine wp_seq ?_
      cases hxu : ex cu st with
      | none => rw [hxu] at hx; cases hx
      | some p =>
        obtain ⟨x1, st1⟩ := p
        rw [hxu] at hx
        refine WpN.wp (n := n) (hex E hE hglob honly u cu st st1 x1 hu hxu _ G a w A I fun e G1 a1 w1 hxr A1 hp1 => ?_)
        cases x1 with
        | normal =>
          cases e <;> first | (exact hxr.elim) | skip
          exact WpN.wp (n := n) (hex E hE hglob honly v cv st1 st' x hv hx _ G1 a1 w1 A1 hp1.inv fun e G2 a2 w2 hxr2 A2 hp2 => hQ e G2 a2 w2 hxr2 A2 (hp1.both hp2))
        | exit id =>
          simp only at hx
          cases hx
          cases e <;> first | (exact hxr.elim) | exact hQ _ G1 a1 w1 hxr A1 hp1
        | ret =>
          simp only at hx
          cases hx
          cases e <;> first | (exact hxr.elim) | exact hQ _ G1 a1 w1 hxr A1 hp1
    · cases hc
  | cond k u v =>
    simp only [ccode] at hc
    split at hc
    · rename_i ck cu cv hk hu hv
      cases hc
      have hr := opnd_rel honly A hk
      simp only [execStep] at hx
      split at hx
      · rename_i hb
        rw [hb] at hr
        exact wp_cond_true (vr_bool hr) (WpN.wp (n := n) (hex E hE hglob honly u cu st st' x hu hx Q G a w A I hQ))
      · rename_i hb
        rw [hb] at hr
        exact wp_cond_false (vr_bool hr) (WpN.wp (n := n) (hex E hE hglob honly v cv st st' x hv hx Q G a w A I hQ))
      · cases hx
    · cases hc; simp [execStep] at hx
  | block id u =>
    simp only [ccode] at hc
    obtain ⟨cu, hu, rfl⟩ := Option.map_eq_some_iff.1 hc
    simp only [execStep] at hx
    refine wp_block ?_
    cases hxu : ex cu st with
    | none => rw [hxu] at hx; cases hx
    | some p =>
      obtain ⟨x1, st1⟩ := p
      rw [hxu] at hx
      refine WpN.wp (n := n) (hex E hE hglob honly u cu st st1 x1 hu hxu _ G a w A I fun e G1 a1 w1 hxr A1 hp1 => ?_)
      cases x1 with
      | normal =>
        simp only at hx
        cases hx
        cases e <;> first | (exact hxr.elim) | exact hQ _ G1 a1 w1 hxr A1 hp1
      | exit id' =>
        cases e <;> first | (exact hxr.elim) | skip
        rename_i id''
        have hid : id' = id'' := hxr
        subst hid
        simp only at hx
        simp only [Exit.inBlock]
        split at hx
        · rename_i h1
          cases hx
          rw [if_pos h1]
          exact hQ .normal G1 a1 w1 trivial A1 hp1
        · rename_i h1
          cases hx
          rw [if_neg h1]
          exact hQ _ G1 a1 w1 rfl A1 hp1
      | ret =>
        simp only at hx
        cases hx
        cases e <;> first | (exact hxr.elim) | exact hQ _ G1 a1 w1 hxr A1 hp1
  | loop u =>
    have hc' := hc
    simp only [ccode] at hc
    obtain ⟨cu, hu, rfl⟩ := Option.map_eq_some_iff.1 hc
    generalize (!E.H.nodrop.contains E.fn) = drop at hx hc'
    simp only [execStep] at hx
    show u.wp P (Exit.then (Code.rounds P u Q n) Q) a w
    cases hxu : ex cu st with
    | none => rw [hxu] at hx; cases hx
    | some p =>
      obtain ⟨x1, st1⟩ := p
      rw [hxu] at hx
      refine WpN.wp (n := n) (hex E hE hglob honly u cu st st1 x1 hu hxu _ G a w A I fun e G1 a1 w1 hxr A1 hp1 => ?_)
      cases x1 with
      | normal =>
        cases e <;> first | (exact hxr.elim) | skip
        simp only at hx
        have hlose : Post base (fun _ => False) G1 st1.h w1 G1 (if drop = true then { st1 with h := { st1.h with ents := dropCells st1.h.ents st.h.next } } else st1).h w1 := by
          cases drop with
          | true => exact Post.lose hp1.inv (dropCells_sub _ _) rfl rfl
          | false => exact .refl hp1.inv
        have hA1 : AR E G1 (if drop = true then { st1 with h := { st1.h with ents := dropCells st1.h.ents st.h.next } } else st1).tm (if drop = true then { st1 with h := { st1.h with ents := dropCells st1.h.ents st.h.next } } else st1).defs a1 := by
          cases drop <;> exact A1
        exact hex E hE hglob honly (.loop u) (.loop drop cu) _ st' x hc' hx Q G1 a1 w1 hA1 hlose.inv fun e G2 a2 w2 hxr2 A2 hp2 => hQ e G2 a2 w2 hxr2 A2 ((hp1.both hlose).both hp2)
      | exit id =>
        simp only at hx
        cases hx
        cases e <;> first | (exact hxr.elim) | exact hQ _ G1 a1 w1 hxr A1 hp1
      | ret =>
        simp only at hx
        cases hx
        cases e <;> first | (exact hxr.elim) | exact hQ _ G1 a1 w1 hxr A1 hp1
  | exit id =>
    simp only [ccode] at hc; cases hc
    simp only [execStep] at hx; cases hx
    exact wp_exit (hQ (.exit id) G a w rfl A (.refl I))
  | ret =>
    simp only [ccode] at hc; cases hc
    simp only [execStep] at hx; cases hx
    exact wp_ret (hQ .ret G a w trivial A (.refl I))
  | _ => simp [ccode] at hc; subst hc; simp [execStep] at hx
end Go.CI

/- A deterministic interpreter over values: what a return leaves. -/
set_option linter.unusedVariables false
namespace Go.CI
open Go.RowKit

theorem dropAll_sub (l : List (Nat × CObj)) (n : Nat) : (dropAll l n).Sublist l := by
  induction l with
  | nil => exact .slnil
  | cons p r ih =>
    obtain ⟨i, q⟩ := p
    simp only [dropAll]
    split
    · exact .cons _ ih
    · exact .cons_cons _ ih
theorem dropAll_lt {l : List (Nat × CObj)} {n b : Nat} {o : CObj} (h : getEnt (dropAll l n) b = some o) : b < n := by
  have := mem_of_getEnt h
  clear h
  induction l with
  | nil => simp [dropAll] at this
  | cons p r ih =>
    obtain ⟨i, q⟩ := p
    simp only [dropAll] at this
    split at this
    · exact ih this
    · rename_i hlt
      rcases List.mem_cons.1 this with h1 | h1
      · cases h1; omega
      · exact ih h1

theorem flatC_inv {k : Nat} : ∀ {es : List CVal} {m : Nat} {c : CVal}, AllK k es → (flatC es)[m]? = some c → ∃ (i j : Nat) (e : CVal), m = i * k + j ∧ es[i]? = some e ∧ e.cells[j]? = some c
  | [], m, c, _, h => by simp [flatC] at h
  | e :: es, m, c, hk, h => by
    have he : e.cells.length = k := hk e (by simp)
    have hcons : flatC (e :: es) = e.cells ++ flatC es := by simp [flatC]
    rw [hcons] at h
    by_cases hm : m < k
    · rw [List.getElem?_append_left (by omega)] at h
      exact ⟨0, m, e, by omega, rfl, h⟩
    · rw [List.getElem?_append_right (by omega), he] at h
      obtain ⟨i, j, e', h1, h2, h3⟩ := flatC_inv (fun x hx => hk x (by simp [hx])) h
      exact ⟨i + 1, j, e', by rw [Nat.succ_mul]; omega, h2, h3⟩

section
variable {P : Program} {base : Base} {G : Gh} {h : CHeap} {w : World} {n : Nat}

/-- The frozen cells of the rows that were made behind n. -/
def Gh.freeze (G : Gh) (own : Nat → Nat → Option Own) (h : CHeap) (n : Nat) : Gh :=
  { G with fz := fun ab o => match own ab o with
      | some (.r b) => if n ≤ b then (match h.get b with
        | some (.row ver es) => match G.rw b ver with
          | some (ab', ao, _, _) => if ab' = ab ∧ ao ≤ o then (flatC es)[o - ao]? else none
          | none => none
        | _ => none) else none
      | some _ => none
      | none => G.fz ab o }
def ownFreeze (own : Nat → Nat → Option Own) (n : Nat) : Nat → Nat → Option Own := fun ab o => match own ab o with
  | some (.r b) => if n ≤ b then none else some (.r b)
  | x => x

theorem ownFreeze_some {own : Nat → Nat → Option Own} {ab o : Nat} {x : Own} (h : ownFreeze own n ab o = some x) : own ab o = some x := by
  unfold ownFreeze at h
  split at h
  · split at h
    · cases h
    · rename_i h1 _; rw [h1]; exact h
  · exact h
theorem ownFreeze_m {own : Nat → Nat → Option Own} {ab o b : Nat} (h : own ab o = some (.m b)) : ownFreeze own n ab o = some (.m b) := by
  unfold ownFreeze; rw [h]
theorem ownFreeze_t {own : Nat → Nat → Option Own} {ab o b : Nat} (h : own ab o = some (.t b)) : ownFreeze own n ab o = some (.t b) := by
  unfold ownFreeze; rw [h]
theorem ownFreeze_r {own : Nat → Nat → Option Own} {ab o b : Nat} (h : own ab o = some (.r b)) (hb : b < n) : ownFreeze own n ab o = some (.r b) := by
  unfold ownFreeze; rw [h]; simp; omega
theorem ownFreeze_none {own : Nat → Nat → Option Own} {ab o : Nat} (h : own ab o = none) : ownFreeze own n ab o = none := by
  unfold ownFreeze; rw [h]

theorem freeze_le {own : Nat → Nat → Option Own} (I : InvO base G own h w) : G.le (G.freeze own h n) :=
  ⟨fun b o c hf => by
    have := (I.fzs b o c hf).1
    simp only [Gh.freeze, this]; exact hf, fun _ _ h => h, fun _ _ _ h => h, fun _ _ _ h => h⟩

theorem freeze_inv {own : Nat → Nat → Option Own} (I : InvO base G own h w) : InvO base (G.freeze own h n) (ownFreeze own n) { h with ents := dropAll h.ents n } w where
  fzs ab o c hf := by
    have hle := freeze_le (n := n) I
    simp only [Gh.freeze] at hf
    split at hf
    · rename_i b ho
      split at hf
      · rename_i hnb
        refine ⟨by unfold ownFreeze; rw [ho]; simp [hnb], ?_⟩
        split at hf
        · rename_i ver es hg
          split at hf
          · rename_i ab' ao k cap hrw
            split at hf
            · rename_i hcond
              obtain ⟨rfl, hao⟩ := hcond
              obtain ⟨_, _, _, hel⟩ := (I.ents b _ hg).2.2 _ _ _ _ hrw
              have hk : AllK k es := fun e he => by
                obtain ⟨i, hi⟩ := List.getElem?_of_mem he
                exact (hel i e hi).1
              obtain ⟨i, j, e, h1, h2, h3⟩ := flatC_inv hk hf
              have := ((hel i e h2).2 j c h3).2
              rw [show ao + i * k + j = o by omega] at this
              exact this.mono hle fun _ h => h
            · cases hf
          · cases hf
        · cases hf
      · cases hf
    · cases hf
    · rename_i ho
      exact ⟨ownFreeze_none ho, (I.fzs ab o c hf).2.mono hle fun _ h => h⟩
  mus b ab k hm := ⟨(I.mus b ab k hm).1, (I.mus b ab k hm).2.1, fun i hi => ⟨ownFreeze_m ((I.mus b ab k hm).2.2.1 i hi).1, ((I.mus b ab k hm).2.2.1 i hi).2⟩, fun hk => ⟨ownFreeze_m ((I.mus b ab k hm).2.2.2.1 hk).1, ((I.mus b ab k hm).2.2.2.1 hk).2⟩, (I.mus b ab k hm).2.2.2.2⟩
  rws := I.rws
  tks := I.tks
  ents b o ho := by
    have hle := freeze_le (n := n) I
    have hb := dropAll_lt ho
    have h0 := I.ents b o (getEnt_sub (dropAll_sub _ _) I.nod ho)
    refine ⟨h0.1, ?_⟩
    have h1 := h0.2
    cases o with
    | cells cs => exact fun ab k hm => ⟨(h1 ab k hm).1, fun i c hi => ⟨((h1 ab k hm).2 i c hi).1, ((h1 ab k hm).2 i c hi).2.mono hle fun _ h => h⟩⟩
    | row ver es => exact ⟨h1.1, fun ab ao k cap hr => let ⟨x1, x2, x3, x4⟩ := h1.2 ab ao k cap hr; ⟨x1, x2, fun i hi => ⟨ownFreeze_r (x3 i hi).1 hb, (x3 i hi).2⟩, fun i e hie => ⟨(x4 i e hie).1, fun j c hj => ⟨((x4 i e hie).2 j c hj).1, ((x4 i e hie).2 j c hj).2.mono hle fun _ h => h⟩⟩⟩⟩
    | tok ver => exact ⟨h1.1, fun ab e k room ht => ⟨(h1.2 ab e k room ht).1, fun i hi => ⟨ownFreeze_t ((h1.2 ab e k room ht).2 i hi).1, ((h1.2 ab e k room ht).2 i hi).2⟩⟩⟩
    | frow ver es => exact ⟨h1.1, fun ab ao k cap hr => let ⟨x1, x2, x3, x4⟩ := h1.2 ab ao k cap hr; ⟨x1, x2, fun i hi => ⟨ownFreeze_r (x3 i hi).1 hb, (x3 i hi).2⟩, fun i e hie => ⟨(x4 i e hie).1, fun j c hj => ⟨((x4 i e hie).2 j c hj).1, ((x4 i e hie).2 j c hj).2.mono hle fun _ h => h⟩⟩⟩⟩
    | map ck kvs => exact fun ab hm => let ⟨es, h2, h3⟩ := h1 ab hm; ⟨es, h2, h3.mono hle⟩
  old ab o x hx := I.old ab o x (ownFreeze_some hx)
  top := I.top
  nod := ((dropAll_sub _ _).map _).nodup I.nod
  cln := I.cln
  gls g cs hg i c hc := ⟨(I.gls g cs hg i c hc).1, (freeze_le (n := n) I).fz _ _ _ (I.gls g cs hg i c hc).2⟩
  tyk := I.tyk
  tys b T ht v x hx := ⟨(I.tys b T ht v x hx).1, fun i y hy => (I.tys b T ht v x hx).2 i y (ownFreeze_some hy)⟩
  its i x h1 b kvs h2 := I.its i x h1 b kvs (getEnt_sub (dropAll_sub _ _) I.nod h2)
  lits b x ht hx := by
    obtain ⟨h0, h1, h2, h3⟩ := I.lits b x ht hx
    exact ⟨h0, h1, fun i => ownFreeze_none (h2 i), h3⟩
  itj i x j y hij h1 h2 h3 h4 := I.itj i x j y hij h1 h2 (let ⟨b, kvs, e⟩ := h3; ⟨b, kvs, getEnt_sub (dropAll_sub _ _) I.nod e⟩) (let ⟨b, kvs, e⟩ := h4; ⟨b, kvs, getEnt_sub (dropAll_sub _ _) I.nod e⟩)

theorem post_freeze_drop {own : Nat → Nat → Option Own} (I : InvO base G own h w) : Post base (fun _ => False) G h w (G.freeze own h n) { h with ents := dropAll h.ents n } w := by
  refine ⟨freeze_le I, ⟨_, freeze_inv I⟩, .refl _ _, Nat.le_refl _, fun i _ _ hf => ⟨hf.1, hf.2.1, hf.2.2.1, ?_⟩⟩
  have h0 := hf.2.2.2
  cases hg : CHeap.get { h with ents := dropAll h.ents n } i with
  | none => rfl
  | some o => have := getEnt_sub (dropAll_sub _ _) I.nod hg; unfold CHeap.get at h0; rw [h0] at this; cases this

theorem freezeCell_ok {own : Nat → Nat → Option Own} (I : InvO base G own h w) {c c' : CVal} {v : Value} (hf : freezeCell n h c = some c') (hr : VR G c v) : VR (G.freeze own h n) c' v ∧ c'.flat = c.flat := by
  have hle := freeze_le (n := n) I
  have other : c' = c.strip → VR (G.freeze own h n) c' v ∧ c'.flat = c.flat := fun e => by subst e; exact ⟨(hr.mono hle).strip, flat_strip c⟩
  cases c with
  | ref b ver k off len =>
    simp only [freezeCell] at hf
    split at hf
    · rename_i hnb
      split at hf
      · rename_i v' es hg
        split at hf
        · rename_i hcond
          simp only [Bool.and_eq_true, decide_eq_true_eq] at hcond
          obtain ⟨rfl, hlen⟩ := hcond
          cases hf
          refine ⟨?_, rfl⟩
          cases hr with
          | ref hrw hk hl hs ha =>
            rename_i ab ao cap a
            obtain ⟨_, hcap, hown, hel⟩ := (I.ents b _ hg).2.2 _ _ _ _ hrw
            have hkk : AllK k es := fun e he => by
              obtain ⟨i, hi⟩ := List.getElem?_of_mem he
              exact (hel i e hi).1
            have hcl : (cut off (off + len) es).length = len := by rw [length_cut _ _ _ hlen]; omega
            have key : VR (G.freeze own h n) (.imm .none k (cut off (off + len) es)) (.slice (some a) (cut off (off + len) es).length (cap - off)) := by
              refine .imm hs hk (by rw [hcl]; omega) ?_ trivial
              intro i e he
              rw [getElem?_cut] at he
              split at he
              · rename_i hi
                refine ⟨(hel _ e he).1, fun j c hj => ⟨((hel _ e he).2 j c hj).1, ?_⟩⟩
                have ha' := ha.resolve_left (by omega)
                subst ha'
                have hjk : j < k := by
                  have := (List.getElem?_eq_some_iff.1 hj).1
                  rw [(hel _ e he).1] at this; exact this
                have hidx : off * k + i * k + j = (off + i) * k + j := by rw [Nat.add_mul]
                have hin : (off + i) * k + j < cap * k := by
                  have : (off + i + 1) * k ≤ cap * k := Nat.mul_le_mul_right _ (by omega)
                  rw [Nat.succ_mul] at this; omega
                have ho := (hown _ hin).1
                have hpos : ao + off * k + i * k + j = ao + ((off + i) * k + j) := by omega
                show (G.freeze own h n).fz ab (ao + off * k + i * k + j) = some c
                rw [hpos]
                simp only [Gh.freeze, ho, hnb, if_true, hg, hrw]
                rw [if_pos ⟨trivial, by omega⟩, show ao + ((off + i) * k + j) - ao = (off + i) * k + j by omega]
                exact flatC_get hkk he hj
              · cases he
            rw [hcl] at key
            exact key
        · cases hf
      · cases hf
    · cases hf
  | _ => exact other (Option.some.inj hf).symm

theorem freezeCells_ok {own : Nat → Nat → Option Own} (I : InvO base G own h w) : ∀ {cs cs' : List CVal} {vs : List Value}, freezeCells n h cs = some cs' → VRs G cs vs → VRs (G.freeze own h n) cs' vs ∧ ((∀ c ∈ cs, c.flat = true) → ∀ c ∈ cs', c.flat = true)
  | [], cs', vs, hf, hr => by
    simp only [freezeCells] at hf; cases hf
    have : vs = [] := by have := hr.1; simpa using this.symm
    subst this
    exact ⟨VRs.nil _, fun _ c hc => by simp at hc⟩
  | c :: cs, cs', vs, hf, hr => by
    simp only [freezeCells] at hf
    split at hf
    · rename_i c' r' hc hrr
      cases hf
      match vs, hr with
      | [], hr => have := hr.1; simp at this
      | v :: vs, hr =>
        obtain ⟨h1, h2⟩ := freezeCell_ok I hc hr.head
        obtain ⟨h3, h4⟩ := freezeCells_ok I hrr hr.tail
        refine ⟨VRs.cons h1 h3, fun hall x hx => ?_⟩
        rcases List.mem_cons.1 hx with rfl | hx
        · rw [h2]; exact hall c (by simp)
        · exact h4 (fun y hy => hall y (by simp [hy])) x hx
    · cases hf

theorem freezeFlat_ok {own : Nat → Nat → Option Own} (I : InvO base G own h w) {c c' : CVal} {v : Value} (hf : freezeFlat n h c = some c') (hr : VR G c v) : VR (G.freeze own h n) c' v := by
  cases c with
  | agg cs =>
    simp only [freezeFlat] at hf
    obtain ⟨cs', h1, rfl⟩ := Option.map_eq_some_iff.1 hf
    cases hr with
    | agg hl hfl hv =>
      obtain ⟨h2, h3⟩ := freezeCells_ok I h1 ⟨hl, hv⟩
      exact .agg h2.1 (h3 hfl) h2.2
  | _ => simp only [freezeFlat] at hf; exact (freezeCell_ok I hf hr).1

theorem freezeAll_ok {own : Nat → Nat → Option Own} (I : InvO base G own h w) : ∀ {cs cs' : List CVal} {vs : List Value}, freezeAll n h cs = some cs' → VRs G cs vs → VRs (G.freeze own h n) cs' vs
  | [], cs', vs, hf, hr => by
    simp only [freezeAll] at hf; cases hf
    have : vs = [] := by have := hr.1; simpa using this.symm
    subst this
    exact VRs.nil _
  | c :: cs, cs', vs, hf, hr => by
    simp only [freezeAll] at hf
    split at hf
    · rename_i c' r' hc hrr
      cases hf
      match vs, hr with
      | [], hr => have := hr.1; simp at this
      | v :: vs, hr => exact VRs.cons (freezeFlat_ok I hc hr.head) (freezeAll_ok I hrr hr.tail)
    · cases hf

theorem freezeVal_ok {own : Nat → Nat → Option Own} (I : InvO base G own h w) {c c' : CVal} {v : Value} (hf : freezeVal n h c = some c') (hr : VR G c v) : VR (G.freeze own h n) c' v := by
  cases c with
  | tup cs =>
    simp only [freezeVal] at hf
    obtain ⟨cs', h1, rfl⟩ := Option.map_eq_some_iff.1 hf
    cases hr with
    | tup hl hv => have h2 := freezeAll_ok I h1 ⟨hl, hv⟩; exact .tup h2.1 h2.2
  | _ => simp only [freezeVal] at hf; exact freezeFlat_ok I hf hr

theorem finish_ok {fn : CFunc} {G0 : Gh} {h0 h' : CHeap} {w0 : World} {v v' : CVal} {u : Value} (hp : Post base (fun _ => False) G0 h0 w0 G h w) (hr : VR G v u) (hf : finishC fn n v h = some (v', h')) : ∃ G', VR G' v' u ∧ Post base (fun _ => False) G0 h0 w0 G' h' w := by
  unfold finishC at hf
  split at hf
  · cases hf
    refine ⟨G, hr, hp.both ?_⟩
    split
    · exact Post.lose hp.inv (dropCells_sub _ _) rfl rfl
    · exact .refl hp.inv
  · split at hf
    · obtain ⟨x, hx, he⟩ := Option.map_eq_some_iff.1 hf
      cases he
      obtain ⟨own, I⟩ := hp.inv
      exact ⟨_, freezeVal_ok I hx hr, hp.both (post_freeze_drop I)⟩
    · cases hf
      exact ⟨G, hr.bare, hp.both (Post.lose hp.inv (dropEnts_sub _ _) rfl rfl)⟩
end
end Go.CI

/- A deterministic interpreter over values: a call is the model's. -/
set_option linter.unusedVariables false
namespace Go.CI
open Go.RowKit

section
variable {P : Program} {base : Base} {G : Gh} {h : CHeap} {w : World}

theorem load_cell {t : TypeId} {f : ElemInfo} {b sz o : Nat} {cs : List CVal} {v : CVal} {z : Value} (I : Inv base G h w) (hf : infoOf P t = some f) (hp : VR G (.ptr b sz o) z) (hg : h.get b = some (.cells cs)) (hv : partOf cs o (kOf f) = some v) :
    ∃ u, (do loadVar t (← asAddr z) : Sem Value).run P w = .ok u w ∧ VR G v u := by
  obtain ⟨own, I⟩ := I
  cases hp with
  | ptr hm =>
    rename_i ab
    obtain ⟨_, hcel⟩ := (I.ents b _ hg).2 ab sz hm
    obtain ⟨u, hu, hr⟩ := run_loadAt (w := w) (o := 0) (ab := ab) hf hv (fun j c hj => by rw [Nat.zero_add]; exact hcel j c hj)
    rw [Nat.zero_add] at hu
    refine ⟨u, ?_, hr⟩
    simpa [Instr.loadAt, Instr.sureAddr, asAddr] using hu

theorem run_results {fn : Func} {E : Env} (hE : E.P = P) {tm : List CVal} {ds : List (Nat × List CVal)} {a : Act} {rs : List CRes} {vs : List CVal} (I : Inv base G h w) (A : AR E G tm ds a) (hr : cress E fn.results.toList = some rs) (hv : resultsC h tm rs = some vs) :
    ∃ u, (results fn a.tmps).run P w = .ok u w ∧ VR G (oneOrTuple vs) u := by
  have key : ∀ (l : List ResultVar) (rs : List CRes) (vs : List CVal), cress E l = some rs → resultsC h tm rs = some vs →
      ∃ us : List Value, (l.mapM (fun | .tmp t => pure (a.tmps.getD t undef) | .cell x t => do loadVar t (← asAddr (a.tmps.getD x undef)) : ResultVar → Sem Value)).run P w = .ok us w ∧ VRs G vs us := by
    intro l
    induction l with
    | nil =>
      intro rs vs hr hv
      simp only [cress] at hr; cases hr
      simp only [resultsC] at hv; cases hv
      exact ⟨[], rfl, VRs.nil G⟩
    | cons q l ih =>
      intro rs vs hr hv
      simp only [cress] at hr
      split at hr
      · rename_i r rs' hq hrs
        cases hr
        cases q with
        | tmp t =>
          simp only [cres] at hq
          obtain ⟨j, hj, rfl⟩ := Option.map_eq_some_iff.1 hq
          simp only [resultsC] at hv
          split at hv
          · rename_i vs' hvs
            cases hv
            obtain ⟨us, h1, h2⟩ := ih rs' vs' hrs hvs
            refine ⟨_ :: us, ?_, VRs.cons (A.val t j hj) h2⟩
            rw [List.mapM_cons]
            simp only [Sem.run_bind, Sem.run_pure, Result.andThen_ok] at h1 ⊢
            rw [h1]; rfl
          · cases hv
        | cell x t =>
          simp only [cres] at hq
          split at hq
          · rename_i j f hj hf
            cases hq
            simp only [resultsC] at hv
            split at hv
            · rename_i b sz o hb
              split at hv
              · rename_i cs hg
                split at hv
                · rename_i v vs' hv0 hvs
                  cases hv
                  obtain ⟨us, h1, h2⟩ := ih rs' vs' hrs hvs
                  have hrel := A.val x j hj
                  rw [hb] at hrel
                  subst hE
                  obtain ⟨u, hu, hru⟩ := load_cell I hf hrel hg hv0
                  refine ⟨u :: us, ?_, VRs.cons hru h2⟩
                  rw [List.mapM_cons, Sem.run_bind, hu, Result.andThen_ok, Sem.run_bind, h1]; rfl
                · cases hv
              · cases hv
            · cases hv
          · cases hq
      · cases hr
  obtain ⟨us, h1, h2⟩ := key _ rs vs hr hv
  have hrun : (results fn a.tmps).run P w = .ok (if hh : us.toArray.size = 1 then us.toArray[0] else .tuple us.toArray) w := by
    unfold results
    rw [Array.mapM_eq_mapM_toList, Sem.run_bind, Sem.run_map]
    erw [h1]
    rfl
  refine ⟨_, hrun, ?_⟩
  match vs, us, h2 with
  | [], [], h2 => exact .tup h2.1 h2.2
  | [v], [u], h2 => exact h2.head
  | v :: v' :: vs, u :: u' :: us, h2 =>
    simp only [oneOrTuple, List.size_toArray, List.length_cons]
    rw [dif_neg (by omega)]
    exact .tup h2.1 h2.2
  | [], _ :: _, h2 => have := h2.1; simp at this
  | [_], [], h2 => have := h2.1; simp at this
  | [_], _ :: _ :: _, h2 => have := h2.1; simp at this
  | _ :: _ :: _, [], h2 => have := h2.1; simp at this
  | _ :: _ :: _, [_], h2 => have := h2.1; simp at this

/-- What the run of a function's body and of its results says. -/
structure BodyRun (ex : CCode → CSt → Option (CExit × CSt)) (cd : List (Nat × List CVal) → CHeap → Option CHeap) (fn : CFunc) (args : List CVal) (h : CHeap) (v : CVal) (h' : CHeap) (x : CExit) (st : CSt) (h1 : CHeap) (vs : List CVal) : Prop where
  nargs : args.length = fn.nargs
  run : ex fn.body ⟨fn.params.map (initVar args), h, []⟩ = some (x, st)
  out : ∀ i, x ≠ .exit i
  defs : cd st.defs st.h = some h1
  res : resultsC h1 st.tm fn.results = some vs
  fin : finishC fn h.next (oneOrTuple vs) h1 = some (v, h')

theorem bodyRun_of {ex : CCode → CSt → Option (CExit × CSt)} {cd : List (Nat × List CVal) → CHeap → Option CHeap} {fn : CFunc} {args : List CVal} {h h' : CHeap} {v : CVal} (hb : callBody ex cd fn args h = some (v, h')) : ∃ x st h1 vs, BodyRun ex cd fn args h v h' x st h1 vs := by
  unfold callBody at hb
  split at hb
  · rename_i hn
    split at hb
    · cases hb
    · rename_i x st hx hne
      split at hb
      · rename_i h1 hd
        split at hb
        · rename_i vs hvs
          exact ⟨x, st, h1, vs, hn, hne, fun i e => by subst e; exact hx _ rfl, hd, hvs, hb⟩
        · cases hb
      · cases hb
    · cases hb
  · cases hb

/-- The function of the model. -/
structure FnOk (P : Program) (H : Hints) (f : Nat) (fn : CFunc) (fm : Func) (c : Code) (E : Env) : Prop where
  fnc : P.funcs[f]? = some fm
  body : fm.body = some c
  name : (fm.name == "runtime.NumGoroutine") = false
  eP : E.P = P
  eH : E.H = H
  only : E.only = none
  nt : E.ntmps = fm.ntmps
  code : ccode E c = some fn.body
  res : cress E fm.results.toList = some fn.results
  par : fn.params = E.vars.map fun t => if t < fn.nargs then some t else none

theorem fnOk_of {P : Program} {H : Hints} {f : Nat} {fn : CFunc} (h : cfunc P H f = some fn) : ∃ fm c E, FnOk P H f fn fm c E := by
  unfold cfunc at h
  split at h
  · rename_i fm hf
    split at h
    · rename_i c hb
      split at h
      · cases h
      · rename_i hname
        simp only at h
        split at h
        · rename_i b rs hb' hrs
          cases h
          exact ⟨fm, c, _, hf, hb, by simpa using hname, rfl, rfl, rfl, rfl, hb', hrs, rfl⟩
        · cases h
    · cases h
  · cases h

theorem Inv.glob {base : Base} {G : Gh} {h : CHeap} {w : World} (I : Inv base G h w) {g : Nat} {cs : List CVal} (hg : lookupG base.gl g = some cs) : VR G (.cptr cs 0) (.pointer (some ⟨g, 0, none⟩)) := by
  obtain ⟨own, I⟩ := I
  have := VR.cptr (cs := cs) (o := 0) (ab := g) (ao := 0) (fun i c hc => by rw [Nat.zero_add]; exact I.gls g cs hg i c hc)
  simpa using this

theorem ar_begin {E : Env} {H : Hints} {f : Nat} {fn : CFunc} {fm : Func} {c : Code} (F : FnOk P H f fn fm c E) {args : List CVal} {vs : List Value} (hn : args.length = fn.nargs) (hr : VRs G args vs) (hgl : ∀ g cs, lookupG H.globals g = some cs → VR G (.cptr cs 0) (.pointer (some ⟨g, 0, none⟩))) :
    AR E G (fn.params.map (initVar args)) [] { tmps := (⟨vs⟩ : Array Value) ++ Array.replicate (fm.ntmps - (⟨vs⟩ : Array Value).size) undef, defers := [] } := by
  refine ⟨?_, by rw [F.par]; simp, fun t v hv => ?_, .nil, by rw [F.eH]; exact hgl⟩
  · rw [F.nt]; simp; omega
  · obtain ⟨k, hk, hvk⟩ := findVar_some hv
    rw [Nat.zero_add] at hk
    subst hk
    rw [F.par, nth_eq, List.getElem?_map, List.getElem?_map, hvk]
    simp only [Option.map_some, Option.getD_some]
    by_cases ht : t < fn.nargs
    · rw [if_pos ht]
      have hlt : t < vs.length := Nat.lt_of_lt_of_eq ht (hn.symm.trans hr.1)
      have : ((⟨vs⟩ : Array Value) ++ Array.replicate (fm.ntmps - (⟨vs⟩ : Array Value).size) undef).getD t undef = vs[t] := by
        have h1 : t < (⟨vs⟩ : Array Value).size := hlt
        simp only [Array.getD_eq_getD_getElem?]
        rw [Array.getElem?_append_left h1]
        simp [hlt]
      rw [this]
      exact hr.2 t _ _ (getElem?_nth (Nat.lt_of_lt_of_eq ht hn.symm)) (List.getElem?_eq_getElem hlt)
    · rw [if_neg ht]; exact .undef _

/-- The deferred calls, as a return runs them. -/
theorem body_calls {n : Nat} {H : Hints} {ex : CCode → CSt → Option (CExit × CSt)} {cd : List (Nat × List CVal) → CHeap → Option CHeap} (hex : SimEx P base n ex) (hglob : GlobsIn H.globals base.gl) {f : Nat} {fn : CFunc} (hfn : cfunc P H f = some fn)
    (hcd : ∀ (fm : Func) (tmps : Array Value) (R : Ending → World → Prop) (G1 : Gh) (h1 : CHeap) (w1 : World) (ds : List (Nat × List CVal)) (dl : List Deferred) (h2 : CHeap), Inv base G1 h1 w1 → DefsR G1 ds dl → cd ds h1 = some h2 →
      (∀ G2 w2, Post base (fun _ => False) G1 h1 w1 G2 h2 w2 → ∃ v, (results fm tmps).run P w2 = .ok v w2 ∧ R (.returned v) w2) → Leaves P fm tmps R dl .returning w1)
    {args : List CVal} {vs : List Value} {v : CVal} {h' : CHeap} (hb : callBody ex cd fn args h = some (v, h')) (I : Inv base G h w) (hr : VRs G args vs) : Calls P f ⟨vs⟩ w fun e w' => ∃ u, e = .returned u ∧ CallPost base G h w v h' u w' := by
  obtain ⟨fm, c, E, F⟩ := fnOk_of hfn
  obtain ⟨x, st, h1, rs, B⟩ := bodyRun_of hb
  refine calls_of_wp_defers F.fnc F.body ?_
  refine WpN.wp (n := n) (hex E F.eP (by rw [F.eH]; exact hglob) F.only c fn.body ⟨fn.params.map (initVar args), h, []⟩ st x F.code B.run _ G _ w (ar_begin F B.nargs hr (fun g cs hc => I.glob (hglob g cs hc))) I fun e G1 a1 w1 hxr A1 hp1 => ?_)
  have fin : Leaves P fm a1.tmps (fun e w' => ∃ u, e = .returned u ∧ CallPost base G h w v h' u w') a1.defers .returning w1 := by
    refine hcd fm a1.tmps _ G1 st.h w1 st.defs a1.defers h1 hp1.inv A1.defs B.defs fun G2 w2 hp2 => ?_
    obtain ⟨u, hu, hru⟩ := run_results F.eP hp2.inv (A1.mono hp2.le) F.res B.res
    obtain ⟨G3, h3, h4⟩ := finish_ok (hp1.both hp2) hru B.fin
    exact ⟨u, hu, u, rfl, G3, h3, h4⟩
  cases x with
  | normal => cases e <;> first | (exact hxr.elim) | exact fin
  | exit i => exact absurd rfl (B.out i)
  | ret => cases e <;> first | (exact hxr.elim) | exact fin

theorem body_callsD {n : Nat} {H : Hints} {ex : CCode → CSt → Option (CExit × CSt)} (hex : SimEx P base n ex) (hglob : GlobsIn H.globals base.gl) {f : Nat} {fn : CFunc} (hfn : cfunc P H f = some fn)
    {args : List CVal} {vs : List Value} {v : CVal} {h' : CHeap} (hb : callBody ex noDefs fn args h = some (v, h')) (I : Inv base G h w) (hr : VRs G args vs) (um : FrameMode) : CallsD P f ⟨vs⟩ um w fun e u' w' => u' = um ∧ ∃ u, e = .returned u ∧ CallPost base G h w v h' u w' := by
  obtain ⟨fm, c, E, F⟩ := fnOk_of hfn
  obtain ⟨x, st, h1, rs, B⟩ := bodyRun_of hb
  refine callsD_of_wp F.fnc F.body ?_
  refine WpN.wp (n := n) (hex E F.eP (by rw [F.eH]; exact hglob) F.only c fn.body ⟨fn.params.map (initVar args), h, []⟩ st x F.code B.run _ G _ w (ar_begin F B.nargs hr (fun g cs hc => I.glob (hglob g cs hc))) I fun e G1 a1 w1 hxr A1 hp1 => ?_)
  have hdefs := B.defs
  have hno : st.defs = [] ∧ h1 = st.h := by
    cases hd : st.defs with
    | nil => rw [hd] at hdefs; simp only [noDefs] at hdefs; cases hdefs; exact ⟨rfl, rfl⟩
    | cons p l => rw [hd] at hdefs; simp [noDefs] at hdefs
  have hdl : a1.defers = [] := by
    have := A1.defs
    rw [hno.1] at this
    generalize a1.defers = dl at this
    cases this; rfl
  have fin : a1.defers = [] ∧ ∃ v', (results fm a1.tmps).run P w1 = .ok v' w1 ∧ ∃ u, Ending.returned v' = .returned u ∧ CallPost base G h w v h' u w1 := by
    have hres := B.res
    rw [hno.2] at hres
    obtain ⟨u, hu, hru⟩ := run_results F.eP hp1.inv A1 F.res hres
    have hfin := B.fin
    rw [hno.2] at hfin
    obtain ⟨G3, h3, h4⟩ := finish_ok hp1 hru hfin
    exact ⟨hdl, u, hu, u, rfl, G3, h3, h4⟩
  cases x with
  | normal => cases e <;> first | (exact hxr.elim) | exact fin
  | exit i => exact absurd rfl (B.out i)
  | ret => cases e <;> first | (exact hxr.elim) | exact fin

/-- What the table of functions holds. -/
structure TOk (P : Program) (H : Hints) (base : Base) (T : Nat → Option CFn) : Prop where
  ir : ∀ f fn, T f = some (.ir fn) → cfunc P H f = some fn
  prim : ∀ f p, T f = some (.prim p) → ∀ (G : Gh) (h : CHeap) (w : World) (xs : List CVal) (vs : List Value) (v : CVal) (h' : CHeap), p xs h = some (v, h') → Inv base G h w → VRs G xs vs → Entr P (callFunc f ⟨vs⟩) w (CallPost base G h w v h')

theorem run_enter {f : Nat} {fm : Func} {c : Code} (hf : P.funcs[f]? = some fm) (hname : (fm.name == "runtime.NumGoroutine") = false) (hb : fm.body = some c) (args : Array Value) (w : World) :
    (callFunc f args).run P w = .ok (.enter f args) w := by
  have h1 : fm.name ≠ "runtime.NumGoroutine" := by simpa using hname
  simp [callFunc, hf, h1, hb]

theorem runDefs_leaves {n : Nat} {H : Hints} {T : Nat → Option CFn} {ex : CCode → CSt → Option (CExit × CSt)} (hT : TOk P H base T) (hglob : GlobsIn H.globals base.gl) (hex : SimEx P base n ex) (fm : Func) (tmps : Array Value) (R : Ending → World → Prop) :
    ∀ (ds : List (Nat × List CVal)) (dl : List Deferred) (G1 : Gh) (h1 : CHeap) (w1 : World) (h2 : CHeap), Inv base G1 h1 w1 → DefsR G1 ds dl → runDefs T ex ds h1 = some h2 →
      (∀ G2 w2, Post base (fun _ => False) G1 h1 w1 G2 h2 w2 → ∃ v, (results fm tmps).run P w2 = .ok v w2 ∧ R (.returned v) w2) → Leaves P fm tmps R dl .returning w1
  | [], dl, G1, h1, w1, h2, I, hd, hr, hk => by
    cases hd
    simp only [runDefs] at hr; cases hr
    exact hk G1 w1 (.refl I)
  | (f, args) :: ds, dl, G1, h1, w1, h2, I, hd, hr, hk => by
    cases hd with
    | cons hv hrest =>
      rename_i vs cap dl'
      simp only [runDefs] at hr
      split at hr
      · rename_i v h' hcall
        unfold callFlat at hcall
        split at hcall
        · rename_i fn hTf
          have hfn := hT.ir f fn hTf
          obtain ⟨fm', c', E', F'⟩ := fnOk_of hfn
          refine leaves_cons (f := f) (args := ⟨vs ++ cap⟩) (by simp) ?_ ?_
          · show (callFunc f ((⟨vs⟩ : Array Value) ++ ⟨cap⟩)).run P w1 = _
            have : ((⟨vs⟩ : Array Value) ++ ⟨cap⟩) = ⟨vs ++ cap⟩ := by apply Array.ext'; simp
            rw [this]
            exact run_enter F'.fnc F'.name F'.body _ _
          · refine CallsD.mono (body_callsD hex hglob hfn hcall I hv .returning) fun e u' w' he => ?_
            obtain ⟨rfl, u, rfl, G', _, hp⟩ := he
            exact runDefs_leaves hT hglob hex fm tmps R ds dl' G' h' w' h2 hp.inv (hrest.mono hp.le) hr fun G2 w2 hp2 => hk G2 w2 (hp.both hp2)
        · cases hcall
      · cases hr

theorem callFn_sim {n : Nat} {H : Hints} {T : Nat → Option CFn} {ex : CCode → CSt → Option (CExit × CSt)} (hT : TOk P H base T) (hglob : GlobsIn H.globals base.gl) (hex : SimEx P base n ex) : SimCall P base (callFn T ex) := by
  intro G h w f xs vs v h' hcf I hr
  unfold callFn at hcf
  split at hcf
  · rename_i fn hTf
    have hfn := hT.ir f fn hTf
    obtain ⟨fm, c, E, F⟩ := fnOk_of hfn
    exact .inr ⟨f, ⟨vs⟩, run_enter F.fnc F.name F.body _ _, body_calls hex hglob hfn (fun fm tmps R G1 h1 w1 ds dl h2 I1 hd hrd hk => runDefs_leaves hT hglob hex fm tmps R ds dl G1 h1 w1 h2 I1 hd hrd hk) hcf I hr⟩
  · rename_i p hTf
    exact hT.prim f p hTf G h w xs vs v h' hcf I hr
  · cases hcf

theorem exec_sim {H : Hints} {T : Nat → Option CFn} (hmixed : P.follows .mixedOrders = true) (hT : TOk P H base T) (hglob : GlobsIn H.globals base.gl) : ∀ n, SimEx P base n (exec T n)
  | 0 => fun E _ _ _ c cc st st' x _ hx => by
    have : exec T 0 cc st = none := rfl
    rw [this] at hx; cases hx
  | n + 1 => by
    have ih := exec_sim hmixed hT hglob n
    exact execStep_sim hmixed ih (callFn_sim hT hglob ih)

/-- What is known when a call begins: cells that nobody writes. -/
def Gh.of (F : Nat → Nat → Option CVal) : Gh := ⟨F, fun _ => .none, fun _ _ => .none, fun _ _ => .none⟩
def Gh.none : Gh := Gh.of fun _ _ => .none
def noHeap : CHeap := ⟨[], 0, []⟩

structure Begins (w : World) (gl : List (Nat × List CVal)) (F : Nat → Nat → Option CVal) : Prop where
  cells : ∀ ab o c, F ab o = some c → Holds (Gh.of F) w ab o c
  globs : ∀ g cs, lookupG gl g = some cs → ∀ (i : Nat) (c : CVal), cs[i]? = some c → c.flat = true ∧ F g i = some c

theorem begins_none (w : World) : Begins w [] (fun _ _ => .none) := ⟨fun _ _ _ h => (by cases h), fun g cs h => by simp [lookupG] at h⟩

theorem inv_begin {w : World} {gl : List (Nat × List CVal)} {F : Nat → Nat → Option CVal} (B : Begins w gl F) : Inv ⟨w.heap.size, gl⟩ (Gh.of F) noHeap w :=
  ⟨fun _ _ => .none, { fzs := fun ab o c h => ⟨rfl, B.cells ab o c h⟩
                       mus := fun _ _ _ h => by simp [Gh.of] at h
                       rws := fun _ _ _ h => by simp [Gh.of] at h
                       tks := fun _ _ _ h => by simp [Gh.of] at h
                       ents := fun b o h => by simp [noHeap, CHeap.get, getEnt] at h
                       old := fun _ _ _ h => by simp at h
                       top := Nat.le_refl _
                       nod := by simp [noHeap]
                       cln := fun _ _ _ h => by simp [Gh.of] at h
                       gls := B.globs
                       tyk := fun b T h => by simp [noHeap, CHeap.ty, lookupN] at h
                       tys := fun b T h => by simp [noHeap, CHeap.ty, lookupN] at h
                       its := fun _ _ h => by simp [Gh.of] at h
                       itj := fun _ _ _ _ _ h => by simp [Gh.of] at h
                       lits := fun _ _ h => by simp [Gh.of] at h }⟩

/-- A run of the interpreter is a call in the model. -/
theorem crun_calls {H : Hints} {T : Nat → Option CFn} {n f : Nat} {fn : CFunc} {args : List Value} {cs : List CVal} {v : CVal} {h' : CHeap} {w : World} {F : Nat → Nat → Option CVal} {gl : List (Nat × List CVal)} (hgl : GlobsIn H.globals gl) (hmixed : P.follows .mixedOrders = true) (hT : TOk P H ⟨w.heap.size, gl⟩ T) (hf : T f = some (.ir fn))
    (B : Begins w gl F) (ha : VRs (Gh.of F) cs args) (hrun : crun T n f cs noHeap = some (v, h')) : Calls P f ⟨args⟩ w fun e w' => ∃ u G, e = .returned u ∧ (Gh.of F).le G ∧ VR G v u ∧ Below w.heap.size w w' ∧ Inv ⟨w.heap.size, gl⟩ G h' w' := by
  have hs := callFn_sim hT hgl (exec_sim hmixed hT hgl n) (Gh.of F) noHeap w f cs args v h' hrun (inv_begin B) ha
  have hfn := hT.ir f fn hf
  obtain ⟨fm, c, E, F'⟩ := fnOk_of hfn
  rcases hs with ⟨u, w', h1, _⟩ | ⟨f', args', h1, h2⟩
  · rw [run_enter F'.fnc F'.name F'.body] at h1; cases h1
  · rw [run_enter F'.fnc F'.name F'.body] at h1
    cases h1
    exact Calls.mono h2 fun e w' ⟨u, he, G', hv, hp⟩ => ⟨u, G', he, hp.le, hv, hp.below, hp.inv⟩
end
end Go.CI

/- A deterministic interpreter over values: functions of the model's own, without a body. -/
set_option linter.unusedVariables false
namespace Go.CI
open Go.RowKit

def cntOf (c : UInt8) : List UInt8 → Nat
  | [] => 0
  | b :: r => if b == c then cntOf c r + 1 else cntOf c r
theorem cntOf_eq (c : UInt8) : ∀ l : List UInt8, Lib.countByte l c = cntOf c l
  | [] => rfl
  | b :: r => by
    have := cntOf_eq c r
    unfold Lib.countByte at this ⊢
    rw [List.count_cons, this, cntOf]
    split <;> simp

def idxFrom (c : UInt8) : List UInt8 → Nat → Int
  | [], _ => -1
  | b :: r, i => if b == c then i else idxFrom c r (i + 1)
theorem idxFrom_eq (c : UInt8) : ∀ (l : List UInt8) (i : Nat), idxFrom c l i = if Lib.indexByte l c = -1 then -1 else Lib.indexByte l c + i
  | [], i => rfl
  | b :: r, i => by
    have h := Lib.indexByte_ge r c
    simp only [idxFrom, Lib.indexByte, beq_iff_eq]
    by_cases hb : b = c
    · simp [hb]
    · rw [if_neg hb, if_neg hb, idxFrom_eq c r (i + 1)]
      by_cases h1 : Lib.indexByte r c = -1
      · simp [h1]
      · simp only [h1, if_false]
        rw [if_neg (by omega)]
        omega
theorem idxFrom_zero (c : UInt8) (l : List UInt8) : Lib.indexByte l c = idxFrom c l 0 := by
  rw [idxFrom_eq]
  by_cases h : Lib.indexByte l c = -1
  · simp [h]
  · simp [h]

def pIndexByte (xs : List CVal) (h : CHeap) : Option (CVal × CHeap) :=
  match xs with
  | [.str s, .int .u8 c] => some (.int .i64 (idxFrom c.toNat.toUInt8 s 0), h)
  | _ => none
def pCount (xs : List CVal) (h : CHeap) : Option (CVal × CHeap) :=
  match xs with
  | [.str s, .int .u8 c] => some (.int .i64 (cntOf c.toNat.toUInt8 s), h)
  | _ => none
def pSame (xs : List CVal) (h : CHeap) : Option (CVal × CHeap) :=
  match xs with
  | [x] => some (x, h)
  | _ => none

section
variable {P : Program} {base : Base}

/-- A function without a body, of which the model knows what it gives. -/
structure ExtOk (P : Program) (f : Nat) (e : Array Value → Sem Value) : Prop where
  fn : ∃ fm, P.funcs[f]? = some fm ∧ (fm.name == "runtime.NumGoroutine") = false ∧ fm.body.isNone = true ∧ Extern.findNext fm = none ∧ Extern.find fm = some e

def SimPrim (P : Program) (base : Base) (f : Nat) (p : List CVal → CHeap → Option (CVal × CHeap)) : Prop :=
  ∀ (G : Gh) (h : CHeap) (w : World) (xs : List CVal) (vs : List Value) (v : CVal) (h' : CHeap), p xs h = some (v, h') → Inv base G h w → VRs G xs vs → Entr P (callFunc f ⟨vs⟩) w (CallPost base G h w v h')

theorem ext_gives {f : Nat} {e : Array Value → Sem Value} (X : ExtOk P f e) {G : Gh} {h : CHeap} {w : World} {vs : List Value} {v : CVal} {u : Value} (I : Inv base G h w) (hr : (e ⟨vs⟩).run P w = .ok u w) (hv : VR G v u) : Entr P (callFunc f ⟨vs⟩) w (CallPost base G h w v h) := by
  obtain ⟨fm, h1, h2, h3, h4, h5⟩ := X.fn
  refine .inl ⟨u, w, ?_, G, hv, .refl I⟩
  rw [run_callFunc_extern h1 h2 h3 h4 h5, hr]; rfl

theorem vrs_two {G : Gh} {a b : CVal} {vs : List Value} (h : VRs G [a, b] vs) : ∃ x y, vs = [x, y] ∧ VR G a x ∧ VR G b y := by
  match vs, h with
  | [x, y], h => exact ⟨x, y, rfl, h.head, h.tail.head⟩
  | [], h => have := h.1; simp at this
  | [_], h => have := h.1; simp at this
  | _ :: _ :: _ :: _, h => have := h.1; simp at this
theorem vrs_one {G : Gh} {a : CVal} {vs : List Value} (h : VRs G [a] vs) : ∃ x, vs = [x] ∧ VR G a x := by
  match vs, h with
  | [x], h => exact ⟨x, rfl, h.head⟩
  | [], h => have := h.1; simp at this
  | _ :: _ :: _, h => have := h.1; simp at this

theorem sim_same {f : Nat} (X : ExtOk P f Extern.AbiNoEscape.same) : SimPrim P base f pSame := by
  intro G h w xs vs v h' hp I hr
  unfold pSame at hp
  split at hp
  · cases hp
    obtain ⟨x, rfl, hx⟩ := vrs_one hr
    exact ext_gives X I rfl hx
  · cases hp

theorem sim_indexByte {f : Nat} (X : ExtOk P f Extern.BytealgIndexByte.indexByte) : SimPrim P base f pIndexByte := by
  intro G h w xs vs v h' hp I hr
  unfold pIndexByte at hp
  split at hp
  · rename_i s c
    cases hp
    obtain ⟨x, y, rfl, hx, hy⟩ := vrs_two hr
    obtain ⟨t, rfl, ht⟩ := vr_str hx
    have := vr_int (c := .nilp) hy
    subst this
    refine ext_gives X I (Lib.run_indexByteString t c w) ?_
    rw [ht, idxFrom_zero]; exact .int _ _
  · cases hp

theorem sim_count {f : Nat} (X : ExtOk P f Extern.BytealgCount.count) : SimPrim P base f pCount := by
  intro G h w xs vs v h' hp I hr
  unfold pCount at hp
  split at hp
  · rename_i s c
    cases hp
    obtain ⟨x, y, rfl, hx, hy⟩ := vrs_two hr
    obtain ⟨t, rfl, ht⟩ := vr_str hx
    have := vr_int (c := .nilp) hy
    subst this
    refine ext_gives X I (Lib.run_countString t c w) ?_
    rw [ht, cntOf_eq]; exact .int _ _
  · cases hp
end
end Go.CI

/- slices.Insert at any element size: what its code does, road by road. -/
set_option linter.unusedVariables false
set_option linter.unusedSimpArgs false
namespace Go.CI
open Go.Shelf Go.RowKit Go.Lib Go.Proofs

section
variable {P : Program} {ρ : Ren}

/-- 'copy' of rows, whatever the elements' size. -/
theorem run_copy_raw (w : World) {t u ty e : TypeId} {k : Nat} (ht : P.underlying t = some (.slice e)) (hz : ∀ w, (sizeOf e).run P w = .ok k w) {b o dl dc sl sc : Nat} {a : Addr} {news : List Value} (hn : news.length = min sl dl * k)
    (hcs : ∀ (j : Nat) (v : Value), news[j]? = some v → w.cell? (a.add j) = some v) (hlive : ∀ j, j < news.length → (w.cell? ⟨b, o + j, none⟩).isSome = true) (hfz : ∀ j, j < news.length → w.frozen? ⟨b, o + j, none⟩ = false) (h1 : ∀ v ∈ news, v.oneCell' = true) :
    (Builtin.copy_ #[t, u] ty #[.slice (some ⟨b, o, none⟩) dl dc, .slice (some a) sl sc]).run P w = .ok (goInt ((min sl dl : Nat) : Int)) (w.setCells b o news) := by
  have hf := run_firstCells_some (P := P) w k (min sl dl) a sl sc news hn hcs
  have hst := run_storeCells_cells (P := P) b o news 0 w (fun j hj => by rw [Nat.add_zero]; exact hlive j hj) (fun j hj => by rw [Nat.add_zero]; exact hfz j hj) h1
  rw [Nat.add_zero] at hst
  simp only [Builtin.copy_]
  simp [r_und ht, Builtin.lenOf, hz, hf, goInt, hst]

/-- The facts of the program that the walk uses: the code is the kit's own form of slices.Insert, under its own name. -/
structure InsLay (P : Program) (ρ : Ren) (nm : String) (k : Nat) (z : Value) (by_ : Nat) : Prop where
  mixed : P.follows .mixedOrders = true
  f22 : P.funcs[ρ.f 22]? = some { Body2.n22 ρ with name := nm }
  ov : ∀ args w, (callFunc (ρ.f 29) args).run P w = ((Extern.SlicesOverlaps.overlaps #[ρ.t 24, ρ.t 24] #[ρ.t 4] args).run P w).andThen fun v w' => .ok (.value v) w'
  t0 : P.underlying (ρ.t 0) = some (TypeDesc.tuple #[])
  t3 : P.underlying (ρ.t 3) = some (TypeDesc.int IntKind.i64)
  a3 : ∀ w, (isAgg (ρ.t 3)).run P w = .ok false w
  z3 : ∀ w, (Go.sizeOf (ρ.t 3)).run P w = .ok 1 w
  v3 : ∀ w, (zeroValue (ρ.t 3)).run P w = .ok (Value.int IntKind.i64 0) w
  t4 : P.underlying (ρ.t 4) = some (TypeDesc.bool)
  a4 : ∀ w, (isAgg (ρ.t 4)).run P w = .ok false w
  z4 : ∀ w, (Go.sizeOf (ρ.t 4)).run P w = .ok 1 w
  v4 : ∀ w, (zeroValue (ρ.t 4)).run P w = .ok (Value.bool false) w
  z9 : ∀ w, (Go.sizeOf (ρ.t 9)).run P w = .ok k w
  t24 : P.underlying (ρ.t 24) = some (TypeDesc.slice (ρ.t 9))
  a24 : ∀ w, (isAgg (ρ.t 24)).run P w = .ok false w
  z24 : ∀ w, (Go.sizeOf (ρ.t 24)).run P w = .ok 1 w
  v24 : ∀ w, (zeroValue (ρ.t 24)).run P w = .ok (Value.slice none 0 0) w
  i9 : (P.info? (ρ.t 9)).map (fun i => (i.zero, i.size, i.bytes)) = some (some z, k, by_)
  k0 : 0 < k

theorem n22_ntmps' (ρ : Ren) (nm : String) : ({ Body2.n22 ρ with name := nm } : Func).ntmps = 95 := Body2.n22_ntmps ρ

set_option maxHeartbeats 4000000 in
set_option maxRecDepth 100000 in
/-- There is room, i < len(s): in place. -/
theorem ins_shift {nm : String} {k by_ : Nat} {zz : Value} (L : InsLay P ρ nm k zz by_) (b off n c i m vc : Nat) (va : Addr) (cs vs : List Value) (w : World) (hi : i < n) (hm : 0 < m) (hroom : n + m ≤ c) (hnm : n + m ≤ 1073741824)
    (hcl : cs.length = n * k) (hvl : vs.length = m * k)
    (hcs : ∀ (j : Nat) (v : Value), cs[j]? = some v → w.cell? ⟨b, off + j, none⟩ = some v) (hsp : ∀ j, j < (n + m) * k → (w.cell? ⟨b, off + j, none⟩).isSome = true) (hfz : ∀ j, j < (n + m) * k → w.frozen? ⟨b, off + j, none⟩ = false)
    (hvs : ∀ (j : Nat) (v : Value), vs[j]? = some v → w.cell? (va.add j) = some v) (hsn : va.spot = none) (hva : va.block = b → va.off + m * k ≤ off + (i + m) * k ∨ off + (n + m) * k ≤ va.off) (h1c : ∀ v ∈ cs, v.oneCell' = true) (h1v : ∀ v ∈ vs, v.oneCell' = true)
    (hov : ∀ cb, (callFunc (ρ.f 29) #[.slice (some va) m vc, .slice (some ⟨b, off + (i + m) * k, none⟩) (n + m - (i + m)) cb]).run P w = .ok (.value (.bool false)) w) :
    Calls P (ρ.f 22) #[.slice (some ⟨b, off, none⟩) n c, .int .i64 i, .slice (some va) m vc] w fun e w' =>
      e = .returned (.slice (some ⟨b, off, none⟩) (n + m) c) ∧ w' = (w.drew.setCells b (off + (i + m) * k) (cs.drop (i * k))).setCells b (off + i * k) vs := by
  have t0 := L.t0; have t3 := L.t3; have a3 := L.a3; have z3 := L.z3; have v3 := L.v3; have t4 := L.t4; have a4 := L.a4; have z4 := L.z4; have v4 := L.v4; have z9 := L.z9; have t24 := L.t24; have a24 := L.a24; have z24 := L.z24; have v24 := L.v24
  have u0 := run_underlying L.t0; have u3 := run_underlying L.t3; have u4 := run_underlying L.t4; have u24 := run_underlying L.t24
  have hz1 : ¬ ((m : Int) = 0) := by omega
  have hz2 : ¬ ((i : Int) = (n : Int)) := by omega
  have hdl : (cs.drop (i * k)).length = (n - i) * k := by rw [List.length_drop, hcl, Nat.sub_mul]
  have mixed := L.mixed
  have hw1 : IntKind.i64.wrap ((i : Int) + (m : Int)) = (i : Int) + (m : Int) := by rw [IntKind.wrap_i64]; omega
  have hb1 : (0 : Int) ≤ (i : Int) + (m : Int) := by omega
  have hin : i ≤ n := by omega
  have htn : ((i : Int) + (m : Int)).toNat = i + m := by omega
  have hb2 : ¬ (c = i + m) := by omega
  have hb3 : (i : Int) ≤ (n : Int) + (m : Int) := by omega
  have hb4 : ¬ (c = i) := by omega
  have hle1 : ∀ j, j < (n - i) * k → (i + m) * k + j < (n + m) * k := fun j hj => by
    have : (i + m) * k + (n - i) * k = (n + m) * k := by rw [← Nat.add_mul]; congr 1; omega
    omega
  have hle2 : ∀ j, j < m * k → i * k + j < (n + m) * k := fun j hj => by
    have h1 : i * k + m * k ≤ (n + m) * k := by rw [← Nat.add_mul]; exact Nat.mul_le_mul_right _ (by omega)
    omega
  have hmin1 : min (n + m - i) (n + m - (i + m)) = n - i := by omega
  have hmin2 : min m (n + m - i) = m := by omega
  have hcp1 : ∀ ty dc sc, (Builtin.copy_ #[(ρ.t 24), (ρ.t 24)] ty #[.slice (some ⟨b, off + (i + m) * k, none⟩) (n + m - (i + m)) dc, .slice (some ⟨b, off + i * k, none⟩) (n + m - i) sc]).run P w.drew = .ok (goInt ((n - i : Nat) : Int)) (w.drew.setCells b (off + (i + m) * k) (cs.drop (i * k))) := fun ty dc sc => by
    have := run_copy_raw (P := P) (ty := ty) (u := ρ.t 24) w.drew (dl := n + m - (i + m)) (dc := dc) (sl := n + m - i) (sc := sc) (b := b) (o := off + (i + m) * k) (a := ⟨b, off + i * k, none⟩) (news := cs.drop (i * k)) L.t24 L.z9 (by rw [hdl, hmin1])
      (fun j v hj => by rw [Addr.add_lit, Nat.add_assoc]; exact hcs (i * k + j) v (by rwa [List.getElem?_drop] at hj))
      (fun j hj => by rw [Nat.add_assoc]; exact hsp _ (hle1 j (by rw [hdl] at hj; exact hj))) (fun j hj => by rw [Nat.add_assoc]; exact hfz _ (hle1 j (by rw [hdl] at hj; exact hj))) (fun v hv => h1c v (List.mem_of_mem_drop hv))
    rw [hmin1] at this; exact this
  obtain ⟨W1, hW1⟩ : ∃ W1, W1 = w.drew.setCells b (off + (i + m) * k) (cs.drop (i * k)) := ⟨_, rfl⟩
  have hsp1 : ∀ j, j < (n + m) * k → (W1.cell? ⟨b, off + j, none⟩).isSome = true := fun j hj => by
    rw [hW1]
    exact isSome_setCells b _ _ _ (fun q hq => by rw [Nat.add_assoc]; exact hsp _ (hle1 q (by rw [hdl] at hq; exact hq))) _ (hsp j hj)
  have hcp2 : ∀ (W : World), (∀ x, W.cell? x = W1.cell? x) → (∀ x, W.frozen? x = W1.frozen? x) → ∀ ty dc, (Builtin.copy_ #[(ρ.t 24), (ρ.t 24)] ty #[.slice (some ⟨b, off + i * k, none⟩) (n + m - i) dc, .slice (some va) m vc]).run P W = .ok (goInt ((m : Nat) : Int)) (W.setCells b (off + i * k) vs) := fun W hWc hWf ty dc => by
    have := run_copy_raw (P := P) (ty := ty) (u := ρ.t 24) W (dl := n + m - i) (dc := dc) (sl := m) (sc := vc) (b := b) (o := off + i * k) (a := va) (news := vs) L.t24 L.z9 (by rw [hvl, hmin2])
      (fun j v hj => by
        have hj' : j < m * k := by have := (List.getElem?_eq_some_iff.1 hj).1; rw [hvl] at this; exact this
        have hh := hvs j v hj
        rw [add_eq hsn] at hh ⊢
        have h3 : (i + m) * k + (n - i) * k = (n + m) * k := by rw [← Nat.add_mul]; congr 1; omega
        rw [hWc, hW1, World.cell?_setCells_out b _ _ _ _ (fun h _ => by
          rw [hdl]
          rcases hva h with h1 | h1
          · left; show va.off + j < off + (i + m) * k; omega
          · right; show off + (i + m) * k + (n - i) * k ≤ va.off + j; omega)]
        exact hh)
      (fun j hj => by rw [hWc, Nat.add_assoc]; exact hsp1 _ (hle2 j (by rw [hvl] at hj; exact hj))) (fun j hj => by rw [hWf, hW1, World.frozen?_setCells, Nat.add_assoc]; exact hfz _ (hle2 j (by rw [hvl] at hj; exact hj))) h1v
    rw [hmin2] at this; exact this
  rw [← hW1] at hcp1
  go_enter L.f22, Body2.n22_ntmps ρ
  go_wp2_with (simp only [hov])
  go_region_law_o (refine step_copy_runI rfl _ _ (ρ.t 24) (ρ.t 24) rfl _ _ (by simp [Act.eval, Act.put]) (by simp [Act.eval, Act.put]) (hcp1 _ _ _) ?_)
  go_wp2_with (at_builtin; refine wpList_copy_runI _ rfl _ _ (ρ.t 24) (ρ.t 24) rfl _ _ rfl rfl (hcp2 _ (fun _ => rfl) (fun _ => rfl) _ _) ?_)
  go_ret
  first | exact ⟨rfl, rfl⟩ | exact ⟨rfl, by rw [hW1]⟩

set_option maxHeartbeats 4000000 in
set_option maxRecDepth 100000 in
/-- At the end: the append. -/
theorem ins_end {nm : String} {k by_ : Nat} {zz : Value} (L : InsLay P ρ nm k zz by_) (base : Option Addr) (n c m vc : Nat) (va : Option Addr) (w w1 : World) (S : Value) (hm : 0 < m) (hnc : n ≤ c) (hnil : base = none → n = 0)
    (hrun : (Builtin.append_ #[(ρ.t 24), (ρ.t 24)] (ρ.t 24) #[.slice base n c, .slice va m vc]).run P w = .ok S w1) :
    Calls P (ρ.f 22) #[.slice base n c, .int .i64 n, .slice va m vc] w fun e w' => e = .returned S ∧ w' = w1 := by
  have t0 := L.t0; have t3 := L.t3; have a3 := L.a3; have z3 := L.z3; have v3 := L.v3; have t4 := L.t4; have a4 := L.a4; have z4 := L.z4; have v4 := L.v4; have z9 := L.z9; have t24 := L.t24; have a24 := L.a24; have z24 := L.z24; have v24 := L.v24
  have u0 := run_underlying L.t0; have u3 := run_underlying L.t3; have u4 := run_underlying L.t4; have u24 := run_underlying L.t24
  have mixed := L.mixed
  have hz1 : ¬ ((m : Int) = 0) := by omega
  go_enter L.f22, Body2.n22_ntmps ρ
  cases base with
  | none =>
    have h0 := hnil rfl
    subst h0
    go_wp2_with (at_builtin; refine Lib.wpList_append_run _ rfl _ _ _ _ rfl _ _ rfl rfl _ _ hrun ?_)
    go_ret
    exact ⟨rfl, rfl⟩
  | some a =>
    obtain ⟨ab, ao, asp⟩ := a
    go_wp2_with (at_builtin; refine Lib.wpList_append_run _ rfl _ _ _ _ rfl _ _ rfl rfl _ _ hrun ?_)
    all_goals (go_ret; exact ⟨rfl, rfl⟩)

theorem size_zc {z : Value} {k : Nat} (hz : z.cells.size = k) (n : Nat) : (Builtin.zeroCells z.cells n).size = n * k := by rw [size_zeroCells, hz]

set_option maxHeartbeats 4000000 in
set_option maxRecDepth 100000 in
/-- i < len(s), no room: a new row. -/
theorem ins_grow {nm : String} {k by_ : Nat} {zz : Value} (L : InsLay P ρ nm k zz by_) (hzz : zz.cells.size = k) (hby : by_ ≤ 4096) (b off n c i m vc : Nat) (va : Addr) (cs vs : List Value) (w : World) (hi : i < n) (hm : 0 < m) (hnc : n ≤ c) (hroom : c < n + m) (hbig : n + m ≤ 1073741824)
    (hcl : cs.length = n * k) (hvl : vs.length = m * k)
    (hcs : ∀ (j : Nat) (v : Value), cs[j]? = some v → w.cell? ⟨b, off + j, none⟩ = some v)
    (hvs : ∀ (j : Nat) (v : Value), vs[j]? = some v → w.cell? (va.add j) = some v) (hbw : b < w.heap.size) (hvw : va.block < w.heap.size) (h1c : ∀ v ∈ cs, v.oneCell' = true) (h1v : ∀ v ∈ vs, v.oneCell' = true) :
    Calls P (ρ.f 22) #[.slice (some ⟨b, off, none⟩) n c, .int .i64 i, .slice (some va) m vc] w fun e w' => ∃ G ROW, n + m ≤ G ∧ ROW.size = G * k ∧
      e = .returned (.slice (some ⟨w.heap.size, 0, none⟩) (n + m) G) ∧
      w' = ((((w.alloc (.cells ROW (ρ.t 9))).drew.setCells w.heap.size (i * k) vs).drew).setCells w.heap.size ((i + m) * k) (cs.drop (i * k))) ∧ (∀ (j : Nat) (v : Value), (cs.take (i * k))[j]? = some v → ROW[j]? = some v) := by
  have t0 := L.t0; have t3 := L.t3; have a3 := L.a3; have z3 := L.z3; have v3 := L.v3; have t4 := L.t4; have a4 := L.a4; have z4 := L.z4; have v4 := L.v4; have z9 := L.z9; have t24 := L.t24; have a24 := L.a24; have z24 := L.z24; have v24 := L.v24
  have u0 := run_underlying L.t0; have u3 := run_underlying L.t3; have u4 := run_underlying L.t4; have u24 := run_underlying L.t24
  have mixed := L.mixed
  obtain ⟨i0, hi0, hz0, hzs, hzb⟩ := info_parts L.i9
  have hz1 : ¬ ((m : Int) = 0) := by omega
  have hz2 : ¬ ((i : Int) = (n : Int)) := by omega
  have hz3 : (c : Int) < (n : Int) + (m : Int) := by omega
  have hkk : (n : Int) + (m : Int) - (i : Int) = ((n + m - i : Nat) : Int) := by omega
  have hik : i + (n + m - i) = n + m := by omega
  have hink : i * k ≤ n * k := Nat.mul_le_mul_right _ (by omega)
  have htl : (cs.take (i * k)).length = i * k := by rw [List.length_take, hcl]; omega
  have hold : (Builtin.firstCells i0.size i (.slice (some ⟨b, off, none⟩) i c)).run P w.drew = .ok (cs.take (i * k)).toArray w.drew := by
    rw [hzs]
    exact run_firstCells_some w.drew k i ⟨b, off, none⟩ i c (cs.take (i * k)) htl (fun j v hj => by
      rw [Addr.add_lit]
      rw [List.getElem?_take] at hj
      split at hj
      · exact hcs j v hj
      · cases hj)
  have hfit : Builtin.nextslicecap (n + m) c * by_ ≤ 281474976710656 := growslice_fits hroom (by
    have : (n + m) * by_ ≤ 1073741824 * 4096 := Nat.mul_le_mul hbig hby
    omega)
  have hfit2 : (n + m - i) * by_ ≤ 281474976710656 := by
    have : (n + m - i) * by_ ≤ 1073741824 * 4096 := Nat.mul_le_mul (by omega) hby
    omega
  have hrz : ∀ ty, (Builtin.append_ #[(ρ.t 24), (ρ.t 3)] ty #[.slice (some ⟨b, off, none⟩) i c, .int .i64 ((n : Int) + (m : Int) - (i : Int))]).run P w =
      .ok (.slice (some ⟨w.heap.size, 0, none⟩) (n + m) (grownCap w (n + m) c (ρ.t 9))) (w.drew.alloc (.cells ((cs.take (i * k)).toArray ++ Builtin.zeroCells zz.cells (n + m - i) ++ Builtin.zeroCells zz.cells (grownCap w (n + m) c (ρ.t 9) - (n + m))) (ρ.t 9))) := fun ty => by
    have h := Lib.run_append_grow_zeros w (ρ.t 24) (ρ.t 3) ty (ρ.t 9) i0 _ .i64 .i64 L.t24 L.t3 hi0 hz0 (some ⟨b, off, none⟩) i c (cs.take (i * k)) hold (n + m - i) (by omega) (by rw [hzs]; exact L.k0) (by omega) (by omega) (by rw [hzb]; exact hfit2) (by rw [hzb, hik]; exact hfit)
    rw [hik] at h
    rw [hkk]
    exact h
  obtain ⟨G, hG⟩ : ∃ G, G = grownCap w (n + m) c (ρ.t 9) := ⟨_, rfl⟩
  obtain ⟨ROW, hROW⟩ : ∃ ROW : Array Value, ROW = (cs.take (i * k)).toArray ++ Builtin.zeroCells zz.cells (n + m - i) ++ Builtin.zeroCells zz.cells (G - (n + m)) := ⟨_, rfl⟩
  rw [← hG] at hrz
  rw [← hROW] at hrz
  have hGn : n + m ≤ G := by rw [hG]; exact grownCap_ge w _ _ _
  have hRs : ROW.size = G * k := by
    rw [hROW, Array.size_append, Array.size_append, size_zc hzz, size_zc hzz, List.size_toArray, htl, ← Nat.add_mul, ← Nat.add_mul]
    congr 1; omega
  have hRl : (n + m) * k ≤ ROW.size := by rw [hRs]; exact Nat.mul_le_mul_right _ hGn
  have hRt : ∀ (j : Nat) (v : Value), (cs.take (i * k))[j]? = some v → ROW[j]? = some v := fun j v hj => by
    have hlt := (List.getElem?_eq_some_iff.1 hj).1
    rw [hROW, Array.append_assoc, Array.getElem?_append_left (by rw [List.size_toArray]; exact hlt), ← Array.getElem?_toList]
    exact hj
  obtain ⟨W1, hW1⟩ : ∃ W1, W1 = w.drew.alloc (.cells ROW (ρ.t 9)) := ⟨_, rfl⟩
  rw [← hW1] at hrz
  have hN : ∀ j, j < (n + m) * k → (W1.cell? ⟨w.heap.size, j, none⟩).isSome = true := fun j hj => by
    rw [hW1, World.cell?_alloc_at (w := w.drew) ROW _ w.heap.size j rfl, Array.getElem?_eq_getElem (by omega)]; rfl
  have hNf : ∀ j, W1.frozen? ⟨w.heap.size, j, none⟩ = false := fun j => by rw [hW1]; exact World.frozen?_alloc_at (w := w.drew) ROW _ w.heap.size j rfl
  have hOb : ∀ (a : Addr) v, a.block < w.heap.size → w.cell? a = some v → W1.cell? a = some v := fun a v ha h => by
    rw [hW1, World.cell?_alloc_old (w := w.drew) (h := fun e => by have : (w.drew).heap.size = w.heap.size := rfl; omega)]; exact h
  have hmin1 : min m (n + m - i) = m := by omega
  have hmin2 : min (n - i) (n + m - (i + m)) = n - i := by omega
  have hdl : (cs.drop (i * k)).length = (n - i) * k := by rw [List.length_drop, hcl, Nat.sub_mul]
  have hle1 : ∀ j, j < m * k → i * k + j < (n + m) * k := fun j hj => by
    have h1 : i * k + m * k ≤ (n + m) * k := by rw [← Nat.add_mul]; exact Nat.mul_le_mul_right _ (by omega)
    omega
  have hle2 : ∀ j, j < (n - i) * k → (i + m) * k + j < (n + m) * k := fun j hj => by
    have : (i + m) * k + (n - i) * k = (n + m) * k := by rw [← Nat.add_mul]; congr 1; omega
    omega
  have hab : ∀ j, (va.add j).block = va.block := fun j => by unfold Addr.add; split <;> rfl
  have hcpA : ∀ (W : World), (∀ x, W.cell? x = W1.cell? x) → (∀ x, W.frozen? x = W1.frozen? x) → ∀ ty dc, (Builtin.copy_ #[(ρ.t 24), (ρ.t 24)] ty #[.slice (some ⟨w.heap.size, i * k, none⟩) (n + m - i) dc, .slice (some va) m vc]).run P W = .ok (goInt ((m : Nat) : Int)) (W.setCells w.heap.size (i * k) vs) := fun W hWc hWf ty dc => by
    have := run_copy_raw (P := P) (ty := ty) (u := ρ.t 24) W (dl := n + m - i) (dc := dc) (sl := m) (sc := vc) (b := w.heap.size) (o := i * k) (a := va) (news := vs) L.t24 L.z9 (by rw [hvl, hmin1])
      (fun j v hj => by rw [hWc]; exact hOb _ v (by rw [hab]; exact hvw) (hvs j v hj))
      (fun j hj => by rw [hWc]; exact hN _ (hle1 j (by rw [hvl] at hj; exact hj))) (fun j hj => by rw [hWf]; exact hNf _) h1v
    rw [hmin1] at this; exact this
  have hG63 : G ≤ 9223372036854775807 := by
    have := grownCap_le_maxLen w (n + m) c (ρ.t 9) (by unfold maxLen; omega)
    rw [← hG] at this
    unfold maxLen at this
    omega
  have hGi : ¬ (G = i) := by omega
  have hGim : ¬ (G = i + m) := by omega
  have hci : ¬ (c = i) := by omega
  have hbN : b ≠ w.heap.size := by omega
  have hcpB : ∀ (W : World), (∀ x, W.cell? x = (W1.setCells w.heap.size (i * k) vs).cell? x) → (∀ x, W.frozen? x = (W1.setCells w.heap.size (i * k) vs).frozen? x) → ∀ ty dc sc, (Builtin.copy_ #[(ρ.t 24), (ρ.t 24)] ty #[.slice (some ⟨w.heap.size, (i + m) * k, none⟩) (n + m - (i + m)) dc, .slice (some ⟨b, off + i * k, none⟩) (n - i) sc]).run P W = .ok (goInt ((n - i : Nat) : Int)) (W.setCells w.heap.size ((i + m) * k) (cs.drop (i * k))) := fun W hWc hWf ty dc sc => by
    have := run_copy_raw (P := P) (ty := ty) (u := ρ.t 24) W (dl := n + m - (i + m)) (dc := dc) (sl := n - i) (sc := sc) (b := w.heap.size) (o := (i + m) * k) (a := ⟨b, off + i * k, none⟩) (news := cs.drop (i * k)) L.t24 L.z9 (by rw [hdl, hmin2])
      (fun j v hj => by
        rw [Addr.add_lit, hWc, World.cell?_setCells_out _ _ _ _ _ (fun h _ => absurd h hbN), Nat.add_assoc]
        exact hOb _ v hbw (hcs (i * k + j) v (by rwa [List.getElem?_drop] at hj)))
      (fun j hj => by rw [hWc]; exact isSome_setCells _ _ _ _ (fun t ht => hN _ (hle1 t (by rw [hvl] at ht; exact ht))) _ (hN _ (hle2 j (by rw [hdl] at hj; exact hj))))
      (fun j hj => by rw [hWf, World.frozen?_setCells]; exact hNf _) (fun v hv => h1c v (List.mem_of_mem_drop hv))
    rw [hmin2] at this; exact this
  subst hW1
  have hE1 : ∀ x, ((w.alloc (.cells ROW (ρ.t 9))).drew).cell? x = (w.drew.alloc (.cells ROW (ρ.t 9))).cell? x := fun x => rfl
  have hE2 : ∀ x, ((w.alloc (.cells ROW (ρ.t 9))).drew).frozen? x = (w.drew.alloc (.cells ROW (ρ.t 9))).frozen? x := fun x => rfl
  have hF1 : ∀ x, (((w.alloc (.cells ROW (ρ.t 9))).drew.setCells w.heap.size (i * k) vs).drew).cell? x = ((w.drew.alloc (.cells ROW (ρ.t 9))).setCells w.heap.size (i * k) vs).cell? x := fun x => rfl
  have hF2 : ∀ x, (((w.alloc (.cells ROW (ρ.t 9))).drew.setCells w.heap.size (i * k) vs).drew).frozen? x = ((w.drew.alloc (.cells ROW (ρ.t 9))).setCells w.heap.size (i * k) vs).frozen? x := fun x => rfl
  have hw1 : IntKind.i64.wrap ((i : Int) + (m : Int)) = (i : Int) + (m : Int) := by rw [IntKind.wrap_i64]; omega
  have hb1 : (0 : Int) ≤ (i : Int) + (m : Int) := by omega
  have hin : i ≤ n := by omega
  have htn : ((i : Int) + (m : Int)).toNat = i + m := by omega
  have hb3 : (i : Int) ≤ (n : Int) := by omega
  clear hkk hik hold hROW hG hRl
  go_enter L.f22, Body2.n22_ntmps ρ
  go_wp2_with (first
    | (at_builtin; refine Lib.wpList_append_run _ rfl _ _ _ _ rfl _ _ rfl rfl _ _ (hrz _) ?_)
    | (at_builtin; refine wpList_copy_runI _ rfl _ _ (ρ.t 24) (ρ.t 24) rfl _ _ rfl rfl (hcpA _ hE1 hE2 _ _) ?_)
    | (at_builtin; refine wpList_copy_runI _ rfl _ _ (ρ.t 24) (ρ.t 24) rfl _ _ rfl rfl (hcpB _ (fun _ => rfl) (fun _ => rfl) _ _ _) ?_))
  go_region_law_o (refine step_copy_runI rfl _ _ (ρ.t 24) (ρ.t 24) rfl (.slice (some ⟨w.heap.size, (i + m) * k, none⟩) (n + m - (i + m)) (G - (i + m))) (.slice (some ⟨b, off + i * k, none⟩) (n - i) (c - i)) (by simp [Act.eval, Act.put]) (by simp [Act.eval, Act.put]) (hcpB _ hF1 hF2 (ρ.t 3) (G - (i + m)) (c - i)) ?_)
  go_wp2
  go_ret
  exact ⟨G, ROW, hGn, hRs, rfl, rfl, hRt⟩
end
end Go.CI

/- slices.Insert as a function of the interpreter's own: at the end. -/
set_option linter.unusedVariables false
namespace Go.CI
open Go.RowKit

/-- slices.Insert of a list's elements. -/
def pInsert (k : Nat) (xs : List CVal) (h : CHeap) : Option (CVal × CHeap) :=
  match xs with
  | [s, .int .i64 i, .imm t l vs] =>
    if l = k && (decide (0 < vs.length) && decide (0 ≤ i)) then match elems h k s with
      | some es =>
        if i.toNat = es.length then evalAppend { h with next := h.next + 1 } h.next .ref 0 k s (vs.map CVal.bare)
        else if decide (i.toNat < es.length) && decide (es.length + vs.length ≤ sizeMost) then
          match s with
          | .ref b ver _ _ _ => if (h.ty b).isSome then none else match h.get b with
            | some (.row _ _) => some (.ref b (ver + 1) k 0 (es.length + vs.length), h.set b (.row (ver + 1) (es.take i.toNat ++ (vs.map CVal.bare ++ es.drop i.toNat))))
            | _ => none
          | _ => none
        else none
      | none => none else none
  | _ => none

section
variable {P : Program} {base : Base} {ρ : Go.Shelf.Ren}

theorem vrs_three {G : Gh} {a b c : CVal} {vs : List Value} (h : VRs G [a, b, c] vs) : ∃ x y z, vs = [x, y, z] ∧ VR G a x ∧ VR G b y ∧ VR G c z := by
  match vs, h with
  | [x, y, z], h => exact ⟨x, y, z, rfl, h.head, h.tail.head, h.tail.tail.head⟩
  | [], h => have := h.1; simp at this
  | [_], h => have := h.1; simp at this
  | [_, _], h => have := h.1; simp at this
  | _ :: _ :: _ :: _ :: _, h => have := h.1; simp at this

theorem ins_enter {nm : String} {k by_ : Nat} {zz : Value} (L : InsLay P ρ nm k zz by_) (hname : (nm == "runtime.NumGoroutine") = false) (args : Array Value) (w : World) : (callFunc (ρ.f 22) args).run P w = .ok (.enter (ρ.f 22) args) w :=
  run_enter (c := ((Go.Proofs.Body2.n22 ρ).body).getD .skip) L.f22 hname (by rfl) args w

theorem ins_post {G : Gh} {h h' : CHeap} {w : World} {v : CVal} {u : Value} {w' : World} {G' : Gh} (I : Inv base G h w) (hv : VR G' v u) (hp : Post base (· = h.next) G { h with next := h.next + 1 } w G' h' w') : CallPost base G h w v h' u w' :=
  ⟨G', hv, hp.le, hp.inv, hp.below, Nat.le_trans (Nat.le_succ _) hp.next, fun i hi _ hf => hp.fresh i (Nat.lt_succ_of_lt hi) (Nat.ne_of_lt hi) hf⟩

theorem ins_at_end {nm : String} {k by_ : Nat} {zz : Value} {g : ElemInfo} (L : InsLay P ρ nm k zz by_) (hname : (nm == "runtime.NumGoroutine") = false) (hg : infoOf P (ρ.t 9) = some g) (hgk : g.size = k) (hgb : g.bytes ≤ 4096)
    {G : Gh} {h h' : CHeap} {w : World} {s v : CVal} {S Y : Value} {t : Tag} {vs es : List CVal} (I : Inv base G h w) (hs : VR G s S) (hy : VR G (.imm t k vs) Y) (hvs : 0 < vs.length) (hes : elems h k s = some es)
    (hv : evalAppend { h with next := h.next + 1 } h.next .ref 0 k s (vs.map CVal.bare) = some (v, h')) : Entr P (callFunc (ρ.f 22) ⟨[S, .int .i64 es.length, Y]⟩) w (CallPost base G h w v h') := by
  subst hgk
  have he := e_append (P := P) (ty := ρ.t 24) (m := .ref) (id := h.next) (I.bump 1) (I.freshAt (Nat.le_refl _) 1) (Nat.lt_succ_self _) L.t24 L.t24 (.inr ⟨_, rfl⟩) hg (.inl rfl) hgb hs hy (by simp [elems]) hv
  refine .inr ⟨_, _, ins_enter L hname _ w, ?_⟩
  -- what the append gives
  have key : ∃ u w', (Builtin.append_ #[ρ.t 24, ρ.t 24] (ρ.t 24) #[S, Y]).run P w = .ok u w' ∧ CallPost base G h w v h' u w' := by
    rcases he with ⟨u, w', hr, G', hv', hp⟩ | ⟨w', hr, _⟩
    · refine ⟨u, w', ?_, ins_post I hv' hp⟩
      rw [Sem.run_bind] at hr
      cases hq : (Builtin.append_ #[ρ.t 24, ρ.t 24] (ρ.t 24) #[S, Y]).run P w with
      | ok q w2 => rw [hq] at hr; simp at hr; rw [hr.1, hr.2]
      | halt x w2 => rw [hq] at hr; simp [Result.andThen] at hr
    · rw [Sem.run_bind] at hr
      cases hq : (Builtin.append_ #[ρ.t 24, ρ.t 24] (ρ.t 24) #[S, Y]).run P w with
      | ok q w2 => rw [hq] at hr; simp at hr
      | halt x w2 => rw [hq] at hr; simp [Result.andThen] at hr
  obtain ⟨u, w1, hrun, hpost⟩ := key
  -- the two slices
  have hY : ∃ ya yc, Y = .slice (some ya) vs.length yc := by cases hy; exact ⟨_, _, rfl⟩
  obtain ⟨ya, yc, rfl⟩ := hY
  have hS : ∃ ba n c, S = .slice ba n c ∧ n = es.length ∧ n ≤ c ∧ (ba = none → n = 0) := by
    cases s <;> simp only [elems] at hes <;> first | (cases hes; done) | skip
    · unfold evalAppend at hv
      split at hv
      · rename_i h0; rw [List.map_eq_nil_iff] at h0; subst h0; simp at hvs
      · simp at hv
    · cases hes
      cases hs
      exact ⟨none, 0, 0, rfl, rfl, Nat.le_refl _, fun _ => rfl⟩
    · split at hes
      · cases hes
        cases hs
        rename_i hk hc hf ht
        exact ⟨_, _, _, rfl, rfl, ‹_›, fun h => by cases h⟩
      · cases hes
    · split at hes
      · split at hes
        · rename_i hcond
          simp only [Bool.and_eq_true, decide_eq_true_eq] at hcond
          cases hes
          cases hs
          exact ⟨_, _, _, rfl, by rw [length_cut _ _ _ hcond.2.2]; omega, by omega, fun h => by cases h⟩
        · cases hes
      · cases hes
  obtain ⟨ba, n, c, rfl, hn, hnc, hnil⟩ := hS
  rw [← hn]
  exact Calls.mono (ins_end L ba n c vs.length yc (some ya) w w1 u hvs hnc hnil hrun) fun e w' ⟨he, hw⟩ => ⟨u, he, by rw [hw]; exact hpost⟩
end
end Go.CI

/- slices.overlaps where the second slice's block is no text's. -/
set_option linter.unusedVariables false
set_option linter.unusedSimpArgs false
namespace Go.CI
open Go.RowKit

theorem run_ov_other {P : Program} (w : World) (tS tR e : TypeId) (ht : P.underlying tS = some (.slice e)) (size : Nat) (hz : ∀ w, (Go.sizeOf e).run P w = .ok size w)
    (a b : Addr) (la ca lb cb : Nat) (hne : a.block ≠ b.block) (tA tB : TypeId) (kA kB : Nat)
    (hsa : w.shape? a.block = some (tA, kA)) (hsb : w.shape? b.block = some (tB, kB)) (hkA : kA ≠ 0) (hkB : kB ≠ 0)
    (hfb : w.frozen? b = false) (hfe : w.frozen? { block := b.block, off := kB } = false) :
    (Extern.SlicesOverlaps.overlaps #[tS, tS] #[tR] #[.slice (some a) la ca, .slice (some b) lb cb]).run P w = .ok (.bool false) w := by
  have hnb : (a.block != b.block) = true := by simpa using hne
  have hnb' : (a.block == b.block) = false := by simpa using hne
  change Sem.run P (α := Value) (do
    let some t := (#[tS, tS] : Array TypeId)[0]? | stuck "slices.overlaps: no parameter types"
    let .slice elem ← underlying t | stuck "slices.overlaps: slice type expected"
    let size ← sizeOf elem
    match (some a : Option Addr), (some b : Option Addr) with
    | some a, some b =>
      if la = 0 ∨ lb = 0 ∨ size = 0 then pure (Value.bool false)
      else if a.block != b.block && (← frozen a) && (← frozen b) then unsupported .addressObserved
      else do
        if a.block != b.block then do
          noView a; noView b
          if ← mayBeOne a b then return Value.bool ((← choose (.extern "sameAddr.stringBytes" 2)) == 1)
        pure (Value.bool (a.block == b.block && a.off < b.off + lb * size && b.off < a.off + la * size))
    | _, _ => pure (Value.bool false)) w = _
  by_cases h0 : la = 0 ∨ lb = 0 ∨ size = 0
  · simp [run_underlying ht, hz, h0]
  · cases kB with
    | zero => exact absurd rfl hkB
    | succ kB =>
      cases kA with
      | zero => exact absurd rfl hkA
      | succ kA =>
        cases h1 : w.frozen? a <;> cases h2 : w.frozen? { block := a.block, off := kA + 1 } <;>
          simp [run_underlying ht, hz, h0, hnb, hnb', frozen, noView, viewAt, mayBeOne, stringish, shape, Sem.run, hsa, hsb, hfb, hfe, h1, h2]

theorem run_ov_same {P : Program} (w : World) (tS tR e : TypeId) (ht : P.underlying tS = some (.slice e)) (size : Nat) (hz : ∀ w, (Go.sizeOf e).run P w = .ok size w)
    (a b : Addr) (la ca lb cb : Nat) (he : a.block = b.block) (hd : b.off + lb * size ≤ a.off ∨ a.off + la * size ≤ b.off) :
    (Extern.SlicesOverlaps.overlaps #[tS, tS] #[tR] #[.slice (some a) la ca, .slice (some b) lb cb]).run P w = .ok (.bool false) w := by
  have hnb : (a.block != b.block) = false := by simpa using he
  have hnb' : (a.block == b.block) = true := by simpa using he
  change Sem.run P (α := Value) (do
    let some t := (#[tS, tS] : Array TypeId)[0]? | stuck "slices.overlaps: no parameter types"
    let .slice elem ← underlying t | stuck "slices.overlaps: slice type expected"
    let size ← sizeOf elem
    match (some a : Option Addr), (some b : Option Addr) with
    | some a, some b =>
      if la = 0 ∨ lb = 0 ∨ size = 0 then pure (Value.bool false)
      else if a.block != b.block && (← frozen a) && (← frozen b) then unsupported .addressObserved
      else do
        if a.block != b.block then do
          noView a; noView b
          if ← mayBeOne a b then return Value.bool ((← choose (.extern "sameAddr.stringBytes" 2)) == 1)
        pure (Value.bool (a.block == b.block && a.off < b.off + lb * size && b.off < a.off + la * size))
    | _, _ => pure (Value.bool false)) w = _
  by_cases h0 : la = 0 ∨ lb = 0 ∨ size = 0
  · simp [run_underlying ht, hz, h0]
  · simp [run_underlying ht, hz, h0, hnb, hnb', he]
    omega
end Go.CI

/- The invariant looks at memory through its cells alone. -/
set_option linter.unusedVariables false
namespace Go.CI
open Go.RowKit

theorem Inv.of_cells {base : Base} {G : Gh} {h : CHeap} {w w' : World} (I : Inv base G h w) (hc : ∀ ab i, w'.cell? ⟨ab, i, none⟩ = w.cell? ⟨ab, i, none⟩) (hf : ∀ ab i, w'.frozen? ⟨ab, i, none⟩ = w.frozen? ⟨ab, i, none⟩) (hs : w'.heap.size = w.heap.size) (hsh : ∀ ab, w'.shape? ab = w.shape? ab) (hmp : ∀ (ab : Nat) (es : Array MapEntry) (ck : Nat), w.heap[ab]? = some (Obj.map es ck) → w'.heap[ab]? = some (Obj.map es ck)) (hrb : ∀ ab T, RowB w ab T → RowB w' ab T) (hit : ∀ (ab : Nat) (m : Option Nat) (s : Nat) (sn : Array Nat) (l : Nat), w.heap[ab]? = some (Obj.mapIter m s sn l) → w'.heap[ab]? = some (Obj.mapIter m s sn l)) : Inv base G h w' := by
  obtain ⟨own, I⟩ := I
  have hl : ∀ ab i, Live w ab i → Live w' ab i := fun ab i ⟨⟨v, h1⟩, h2⟩ => ⟨⟨v, by rw [hc]; exact h1⟩, by rw [hf]; exact h2⟩
  have hh : ∀ ab i c, Holds G w ab i c → Holds G w' ab i c := fun ab i c ⟨v, h1, h2⟩ => ⟨v, by rw [hc]; exact h1, h2⟩
  refine ⟨own, fun ab o c hf => ⟨(I.fzs ab o c hf).1, hh _ _ _ (I.fzs ab o c hf).2⟩, fun b ab k hm => ⟨(I.mus b ab k hm).1, (I.mus b ab k hm).2.1, fun i hi => ⟨((I.mus b ab k hm).2.2.1 i hi).1, hl _ _ ((I.mus b ab k hm).2.2.1 i hi).2⟩, fun hk => ⟨((I.mus b ab k hm).2.2.2.1 hk).1, let ⟨es, ck, h1⟩ := ((I.mus b ab k hm).2.2.2.1 hk).2; ⟨es, ck, hmp _ _ _ h1⟩⟩, fun hk => by rw [hsh]; exact (I.mus b ab k hm).2.2.2.2 hk⟩, I.rws, I.tks, fun b o ho => ⟨(I.ents b o ho).1, ?_⟩, fun ab o x hx => by rw [hs]; exact I.old ab o x hx, by rw [hs]; exact I.top, I.nod,
    fun b v x hx => ⟨by rw [hs]; exact (I.cln b v x hx).1, fun st T n hq => by rw [hf]; exact (I.cln b v x hx).2 st T n (by rw [← hsh]; exact hq)⟩, I.gls, I.tyk, fun b T ht v x hx => ⟨hrb _ _ (I.tys b T ht v x hx).1, (I.tys b T ht v x hx).2⟩, fun i x h1 b kvs h2 => by
    obtain ⟨k1, k2, ⟨mb, s, sn, l, k3, k4, k5⟩, k6⟩ := I.its i x h1 b kvs h2
    exact ⟨k1, k2, ⟨mb, s, sn, l, k3, hit _ _ _ _ _ k4, k5⟩, k6⟩, I.itj, fun b x ht hx => by rw [hs]; exact I.lits b x ht hx⟩
  have hb := (I.ents b o ho).2
  cases o with
  | cells cs => exact fun ab k hm => ⟨(hb ab k hm).1, fun i c hi => ⟨((hb ab k hm).2 i c hi).1, hh _ _ _ ((hb ab k hm).2 i c hi).2⟩⟩
  | row ver es => exact ⟨hb.1, fun ab ao k cap hr => let ⟨h1, h2, h3, h4⟩ := hb.2 ab ao k cap hr; ⟨h1, h2, fun i hi => ⟨(h3 i hi).1, hl _ _ (h3 i hi).2⟩, fun i e hie => ⟨(h4 i e hie).1, fun j c hj => ⟨((h4 i e hie).2 j c hj).1, hh _ _ _ ((h4 i e hie).2 j c hj).2⟩⟩⟩⟩
  | frow ver es => exact ⟨hb.1, fun ab ao k cap hr => let ⟨h0, h1, h2, h3⟩ := hb.2 ab ao k cap hr; ⟨h0, h1, fun i hi => ⟨(h2 i hi).1, by rw [hs]; exact (h2 i hi).2⟩, fun i e hie => ⟨(h3 i e hie).1, fun j c hj => ⟨((h3 i e hie).2 j c hj).1, hh _ _ _ ((h3 i e hie).2 j c hj).2⟩⟩⟩⟩
  | map ck kvs => exact fun ab hm => let ⟨es, h1, h2⟩ := hb ab hm; ⟨es, hmp _ _ _ h1, h2⟩
  | tok ver => exact ⟨hb.1, fun ab e k room ht => ⟨(hb.2 ab e k room ht).1, fun i hi => ⟨((hb.2 ab e k room ht).2 i hi).1, hl _ _ ((hb.2 ab e k room ht).2 i hi).2⟩⟩⟩
end Go.CI
