/- A deterministic interpreter over values, proved sound against the model's rules (part 4 of 8): what a run of it gives, a call in the model gives. -/
import Derived.Test.YtnddcjimijmenaaGreatCi3
import Derived.Laws.StructEq
import Derived.MapKept
import Derived.Maps.RangeRun
set_option linter.unusedVariables false
set_option linter.unusedSimpArgs false

/- A deterministic interpreter over values: maps, and other operations beside the plain ones. -/
set_option linter.unusedVariables false
namespace Go.CI
open Go.RowKit

theorem cextra_cls {E : Env} {dsts : List (Option Tmp)} {op : Op} {c : COp} (h : cextra E dsts op = some c) : (∃ k xs, c = .ext k xs) ∨ (∃ k xs, c = .extl k xs) := by
  unfold cextra at h
  repeat' (split at h)
  all_goals first
    | (cases h; done)
    | (cases h; exact .inl ⟨_, _, rfl⟩)
    | (cases h; exact .inr ⟨_, _, rfl⟩)

def kindOf : KeyK → TypeDesc
  | .int k => .int k
  | .str => .string
  | .bool => .bool

theorem keyKind_und {P : Program} {t : TypeId} {kk : KeyK} (h : keyKind P t = some kk) : P.underlying t = some (kindOf kk) := by
  unfold keyKind at h
  split at h <;> cases h <;> assumption

section
variable {P : Program} {base : Base} {G : Gh} {h : CHeap} {w : World} {id : Nat}

theorem key_is {kk : KeyK} {k : CVal} {K : Value} (hk : keyIs kk k = true) (hv : VR G k K) : MapKept.IsKey (kindOf kk) K := by
  cases kk <;> cases hv <;> simp_all [keyIs, kindOf, MapKept.IsKey]

theorem str_inj {s t : ByteArray} (h : s.data.toList = t.data.toList) : s = t := by
  obtain ⟨⟨a⟩⟩ := s
  obtain ⟨⟨b⟩⟩ := t
  simp at h
  rw [h]

/-- A key is one value. -/
theorem key_val {kk : KeyK} {k : CVal} {K L : Value} (hk : keyIs kk k = true) (h1 : VR G k K) (h2 : VR G k L) : K = L := by
  cases kk <;> cases k <;> simp [keyIs] at hk
  · cases h1; cases h2; rfl
  · rename_i s
    obtain ⟨a, rfl, ha⟩ := vr_str h1
    obtain ⟨b, rfl, hb⟩ := vr_str h2
    rw [str_inj (ha.trans hb.symm)]
  · cases h1; cases h2; rfl

theorem same_now {kk : KeyK} {a b : CVal} {A B : Value} (ha : keyIs kk a = true) (hb : keyIs kk b = true) (h1 : VR G a A) (h2 : VR G b B) : Instr.sameNow (kindOf kk) A B = some (a.beq b) := by
  cases kk <;> cases a <;> simp [keyIs] at ha <;> cases b <;> simp [keyIs] at hb
  · cases h1; cases h2
    subst ha
    rename_i l n m
    subst hb
    simp only [kindOf, Instr.sameNow, CVal.beq, if_true]
    congr 1
  · rename_i s t
    obtain ⟨x, rfl, hx⟩ := vr_str h1
    obtain ⟨y, rfl, hy⟩ := vr_str h2
    simp only [kindOf, Instr.sameNow, CVal.beq]
    congr 1
    by_cases h : x = y
    · subst h
      have e : s = t := hx.symm.trans hy
      have h1 := (MapKept.bytes_beq x x).2 rfl
      rw [h1]; simp [e]
    · have h1 : (x == y) = false := by
        cases hb : (x == y) with
        | true => exact absurd ((MapKept.bytes_beq x y).1 hb) h
        | false => rfl
      rw [h1]
      have : s ≠ t := fun e => h (str_inj (by rw [hx, hy, e]))
      simp [this]
  · cases h1; cases h2
    simp [kindOf, Instr.sameNow, CVal.beq]

theorem MapRel.cons {x : Nat × CVal × CVal} {kvs : List (Nat × CVal × CVal)} {e : MapEntry} {es : List MapEntry} (h : MapRel G (x :: kvs) (e :: es)) : (x.1 = e.born ∧ VR G x.2.1 e.key ∧ VR G x.2.2 e.val) ∧ MapRel G kvs es :=
  ⟨h.2 0 x e rfl rfl, by have := h.1; simpa using this, fun i y f hy hf => h.2 (i + 1) y f (by simpa using hy) (by simpa using hf)⟩

theorem find_sim {kk : KeyK} {key : CVal} {K : Value} (hk : keyIs kk key = true) (hv : VR G key K) : ∀ (kvs : List (Nat × CVal × CVal)) (es : List MapEntry) (r : Option Nat) (i : Nat), MapRel G kvs es → findKV kk key kvs = some r →
    match r with
    | none => Instr.findNow (kindOf kk) K es i = some none
    | some j => ∃ e, es[j]? = some e ∧ e.key = K ∧ kvs[j]? = some (nthKV kvs j) ∧ Instr.findNow (kindOf kk) K es i = some (some (i + j, e.val))
  | [], es, r, i, hm, hf => by
    simp only [findKV] at hf
    cases hf
    have : es = [] := by have := hm.1; simpa using this.symm
    subst this
    rfl
  | x :: kvs, es, r, i, hm, hf => by
    match es, hm with
    | [], hm => have := hm.1; simp at this
    | e :: es, hm =>
      obtain ⟨⟨_, hx, _⟩, hm'⟩ := hm.cons
      obtain ⟨b, k, v⟩ := x
      simp only [findKV] at hf
      split at hf
      · rename_i hkk
        have hs := same_now hk hkk hv hx
        split at hf
        · rename_i hb
          cases hf
          have e1 := beq_sound _ _ hb
          subst e1
          refine ⟨e, rfl, (key_val hk hv hx).symm, rfl, ?_⟩
          simp only [Instr.findNow, hs, hb, Nat.add_zero]
        · rename_i hb
          have hb' : key.beq k = false := by simpa using hb
          split at hf
          · rename_i j hj
            cases hf
            obtain ⟨e', h1, h2, h3, h4⟩ := find_sim hk hv kvs es (some j) (i + 1) hm' hj
            refine ⟨e', by simpa using h1, h2, by simpa [nthKV] using h3, ?_⟩
            simp only [Instr.findNow, hs, hb', h4]
            rw [show i + 1 + j = i + (j + 1) by omega]
          · rename_i hj
            cases hf
            have := find_sim hk hv kvs es none (i + 1) hm' hj
            simp only [Instr.findNow, hs, hb', this]
          · cases hf
      · cases hf

theorem zeroOf_run {t : TypeId} {z : CVal} (h : zeroOf P t = some z) (G : Gh) (w : World) : ∃ Z, (zeroValue t).run P w = .ok Z w ∧ VR G z Z := by
  unfold zeroOf at h
  split at h
  · rename_i i hi
    split at h
    · rename_i Z hz
      exact ⟨Z, r_zero hi hz, ofValue_sound G Z z h⟩
    · cases h
  · cases h

theorem run_copnds2 {E : Env} {dsts : List (Option Tmp)} {ev : COpnd → CVal} {ρ : Operand → Value} {a b : Operand} {xs : List COpnd} (hr : ORel G E dsts ev ρ) (h : copnds E dsts [a, b] = some xs) : ∃ x y, xs.map ev = [x, y] ∧ VR G x (ρ a) ∧ VR G y (ρ b) := by
  have h2 := hr.list _ _ h
  have hl := h2.1
  match hx : xs.map ev, hl with
  | [x, y], _ => rw [hx] at h2; exact ⟨x, y, rfl, h2.head, h2.tail.head⟩
theorem run_copnds3 {E : Env} {dsts : List (Option Tmp)} {ev : COpnd → CVal} {ρ : Operand → Value} {a b c : Operand} {xs : List COpnd} (hr : ORel G E dsts ev ρ) (h : copnds E dsts [a, b, c] = some xs) : ∃ x y z, xs.map ev = [x, y, z] ∧ VR G x (ρ a) ∧ VR G y (ρ b) ∧ VR G z (ρ c) := by
  have h2 := hr.list _ _ h
  have hl := h2.1
  match hx : xs.map ev, hl with
  | [x, y, z], _ => rw [hx] at h2; exact ⟨x, y, z, rfl, h2.head, h2.tail.head, h2.tail.tail.head⟩
theorem run_copnds4 {E : Env} {dsts : List (Option Tmp)} {ev : COpnd → CVal} {ρ : Operand → Value} {a b c d : Operand} {xs : List COpnd} (hr : ORel G E dsts ev ρ) (h : copnds E dsts [a, b, c, d] = some xs) : ∃ x y z t, xs.map ev = [x, y, z, t] ∧ VR G x (ρ a) ∧ VR G y (ρ b) ∧ VR G z (ρ c) ∧ VR G t (ρ d) := by
  have h2 := hr.list _ _ h
  have hl := h2.1
  match hx : xs.map ev, hl with
  | [x, y, z, t], _ => rw [hx] at h2; exact ⟨x, y, z, t, rfl, h2.head, h2.tail.head, h2.tail.tail.head, h2.tail.tail.tail.head⟩
theorem run_copnds1 {E : Env} {dsts : List (Option Tmp)} {ev : COpnd → CVal} {ρ : Operand → Value} {a : Operand} {xs : List COpnd} (hr : ORel G E dsts ev ρ) (h : copnds E dsts [a] = some xs) : ∃ x, xs.map ev = [x] ∧ VR G x (ρ a) := by
  have h2 := hr.list _ _ h
  have hl := h2.1
  match hx : xs.map ev, hl with
  | [x], _ => rw [hx] at h2; exact ⟨x, rfl, h2.head⟩

/-- A map's object, as the heap has it. -/
theorem map_obj (I : Inv base G h w) {b ck : Nat} {kvs : List (Nat × CVal × CVal)} {M : Value} (hm : VR G (.map b) M) (hg : h.get b = some (.map ck kvs)) : ∃ ab es, M = .map (some ab) ∧ G.mu b = some (ab, 0) ∧ w.heap[ab]? = some (Obj.map es ck) ∧ MapRel G kvs es.toList := by
  obtain ⟨own, I⟩ := I
  cases hm with
  | map hmu =>
    rename_i ab
    obtain ⟨es, h1, h2⟩ := (I.ents b _ hg).2 ab hmu
    exact ⟨ab, es, rfl, hmu, h1, h2⟩

theorem find_run {kk : KeyK} {kt : TypeId} {k : CVal} {K : Value} {kvs : List (Nat × CVal × CVal)} {es : List MapEntry} {r : Option Nat} (hkk : keyKind P kt = some kk) (hk : keyIs kk k = true) (hv : VR G k K) (hm : MapRel G kvs es) (hf : findKV kk k kvs = some r) :
    match r with
    | none => (Instr.findKey kt K es).run P w = .ok none w
    | some j => ∃ e, es[j]? = some e ∧ e.key = K ∧ kvs[j]? = some (nthKV kvs j) ∧ (Instr.findKey kt K es).run P w = .ok (some (j, e.val)) w := by
  have h1 := find_sim hk hv kvs es r 0 hm hf
  cases r with
  | none => exact MapKept.run_findKey (keyKind_und hkk) h1
  | some j =>
    obtain ⟨e, a, b, c, d⟩ := h1
    rw [Nat.zero_add] at d
    exact ⟨e, a, b, c, MapKept.run_findKey (keyKind_und hkk) d⟩

theorem l_look {kk : KeyK} {t kt et : TypeId} {ok : Bool} {z m k v : CVal} {M K : Value} (I : Inv base G h w) (ht : P.underlying t = some (.map kt et)) (hkk : keyKind P kt = some kk) (hz : zeroOf P et = some z) (hm : VR G m M) (hk : VR G k K)
    (hv : extL h (.mlook kk ok z) [m, k] = some v) : ∃ u, (Instr.lookup t M K ok).run P w = .ok u w ∧ VR G v u := by
  obtain ⟨Z, hZ, hzv⟩ := zeroOf_run hz G w
  simp only [extL] at hv
  split at hv
  · rename_i hki
    have hck : ∀ e, (Instr.checkKey e 10000 kt K).run P w = .ok () w := fun e => MapKept.run_checkKey (keyKind_und hkk) (key_is hki hk) e 9999
    split at hv
    · cases hm
      cases hv
      have hfn : (Instr.findKey kt K []).run P w = .ok none w := MapKept.run_findKey (keyKind_und hkk) rfl
      cases ok with
      | true => exact ⟨.tuple #[Z, .bool false], by simp [Instr.lookup, r_und ht, hck, hfn, hZ, Result.andThen], .tup rfl (VRs.cons hzv (VRs.cons (.bool false) (VRs.nil G))).2⟩
      | false => exact ⟨Z, by simp [Instr.lookup, r_und ht, hck, hfn, hZ, Result.andThen], hzv⟩
    · rename_i b
      split at hv
      · rename_i ck kvs hg
        obtain ⟨ab, es, rfl, _, hheap, hrel⟩ := map_obj I hm hg
        have hgo := MapKept.run_getObj_map (P := P) hheap
        split at hv
        · rename_i j hf
          obtain ⟨e, he, hek, hkv, hfn⟩ := find_run (P := P) (w := w) hkk hki hk hrel hf
          have hr := hrel.2 j _ e hkv he
          cases hv
          cases ok with
          | true => exact ⟨.tuple #[e.val, .bool true], by simp [Instr.lookup, r_und ht, hgo, hck, hfn, Result.andThen], .tup rfl (VRs.cons hr.2.2 (VRs.cons (.bool true) (VRs.nil G))).2⟩
          | false => exact ⟨e.val, by simp [Instr.lookup, r_und ht, hgo, hck, hfn, Result.andThen], hr.2.2⟩
        · rename_i hf
          have hfn := find_run (P := P) (w := w) hkk hki hk hrel hf
          cases hv
          cases ok with
          | true => exact ⟨.tuple #[Z, .bool false], by simp [Instr.lookup, r_und ht, hgo, hck, hfn, hZ, Result.andThen], .tup rfl (VRs.cons hzv (VRs.cons (.bool false) (VRs.nil G))).2⟩
          | false => exact ⟨Z, by simp [Instr.lookup, r_und ht, hgo, hck, hfn, hZ, Result.andThen], hzv⟩
        · cases hv
      · cases hv
    · cases hv
  · cases hv

theorem hasTy_ok {l : List Nat} {t : Nat} {k : IntKind} (h : hasTy (l.filterMap (intType P)) t k = true) : ∃ i, P.info? t = some i ∧ i.comparable = true ∧ P.underlying t = some (.int k) := by
  induction l with
  | nil => simp [hasTy] at h
  | cons a r ih =>
    rw [List.filterMap_cons] at h
    cases hi : intType P a with
    | none => rw [hi] at h; exact ih h
    | some x =>
      rw [hi] at h
      obtain ⟨u, l⟩ := x
      simp only [hasTy, Bool.or_eq_true, Bool.and_eq_true, beq_iff_eq, decide_eq_true_eq] at h
      rcases h with ⟨rfl, rfl⟩ | h
      · unfold intType at hi
        split at hi
        · rename_i i k' h1 h2
          split at hi
          · cases hi; exact ⟨i, h1, by assumption, h2⟩
          · cases hi
        · cases hi
      · exact ih h

theorem eq_fin {neg : Bool} {t : TypeId} {X Y : Value} {A B : Operand} {op : BinOp} {b : Bool} (hop : op = if neg then .neq else .eql) (hg : (eqGuard op t A B X Y).run P w = .ok () w) (hs : ∀ (k l : IntKind) (m n : Int), ¬ (X = .int k m ∧ Y = .int l n))
    (hb : (Op.equal t X Y).run P w = .ok b w) (hbin : ∀ o : BinOp, o = .eql ∨ o = .neq → (binOp o t X Y).run P w = .ok (.bool (if o = .eql then b else !b)) w) : (do eqGuard op t A B X Y; binOp op t X Y : Sem Value).run P w = .ok (.bool (if neg then !b else b)) w := by
  subst hop
  rw [Sem.run_bind, hg]
  cases neg
  · show (binOp .eql t X Y).run P w = _; rw [hbin .eql (.inl rfl)]; rfl
  · show (binOp .neq t X Y).run P w = _; rw [hbin .neq (.inr rfl)]; rfl

theorem l_ieq {neg : Bool} {l : List Nat} {t : TypeId} {ms : Array (String × TypeId)} {x y v : CVal} {X Y : Value} (ht : P.underlying t = some (.interface ms)) (hx : VR G x X) (hy : VR G y Y)
    (hv : extL h (.ieq neg (l.filterMap (intType P))) [x, y] = some v) {A B : Operand} {op : BinOp} (hop : op = if neg then .neq else .eql) : ∃ u, (do eqGuard op t A B X Y; binOp op t X Y : Sem Value).run P w = .ok u w ∧ VR G v u := by
  cases x <;> cases y <;> simp only [extL] at hv <;> first | (cases hv; done) | skip
  · rename_i tx vx ty vy
    cases hx with
    | ifc hvx =>
      rename_i ux
      cases hy with
      | ifc hvy =>
        rename_i uy
        cases vx <;> cases vy <;> simp only [extL] at hv <;> first | (cases hv; done) | skip
        rename_i k a k2 b
        have e1 := vr_int (c := .nilp) hvx
        have e2 := vr_int (c := .nilp) hvy
        subst e1; subst e2
        have key : ∃ r : Bool, v = .bool (if neg then !r else r) ∧ ∀ d, (Op.equalIn (d + 2) t (.iface tx (.int k a)) (.iface ty (.int k2 b))).run P w = .ok r w := by
          split at hv
          · rename_i htt
            subst htt
            split at hv
            · rename_i hc
              simp only [Bool.and_eq_true, decide_eq_true_eq] at hc
              obtain ⟨hty, rfl⟩ := hc
              obtain ⟨i, h1, h2, h3⟩ := hasTy_ok hty
              cases hv
              refine ⟨a == b, rfl, fun d => ?_⟩
              simp [Op.equalIn, run_underlying ht, typeInfo, h1, h2, run_underlying h3]
            · cases hv
          · rename_i hne
            cases hv
            refine ⟨false, by cases neg <;> rfl, fun d => ?_⟩
            simp [Op.equalIn, run_underlying ht, hne]
        obtain ⟨r, rfl, hr⟩ := key
        refine ⟨_, eq_fin (b := r) hop (by subst hop; cases neg <;> rfl) (fun _ _ _ _ h => by cases h.1) (hr 9998) (fun o ho => ?_), .bool _⟩
        rcases ho with rfl | rfl
        · simp [binOp, Op.equal, Op.maxDepth, hr 9998]
        · simp [binOp, Op.equal, Op.maxDepth, hr 9998]
  · rename_i tx vx
    cases hv
    cases hx with
    | ifc hvx =>
      rename_i ux
      cases hy
      have hr : ∀ d, (Op.equalIn (d + 1) t (.iface tx ux) .nilIface).run P w = .ok false w := fun d => by simp [Op.equalIn, run_underlying ht]
      refine ⟨.bool (if neg then !false else false), eq_fin (b := false) hop (by subst hop; cases neg <;> rfl) (fun _ _ _ _ h => by cases h.1) (hr 9999) (fun o ho => ?_), by cases neg <;> exact .bool _⟩
      rcases ho with rfl | rfl
      · simp [binOp, Op.equal, Op.maxDepth, hr 9999]
      · simp [binOp, Op.equal, Op.maxDepth, hr 9999]
  · rename_i ty vy
    cases hv
    cases hy with
    | ifc hvy =>
      rename_i uy
      cases hx
      have hr : ∀ d, (Op.equalIn (d + 1) t .nilIface (.iface ty uy)).run P w = .ok false w := fun d => by simp [Op.equalIn, run_underlying ht]
      refine ⟨.bool (if neg then !false else false), eq_fin (b := false) hop (by subst hop; cases neg <;> rfl) (fun _ _ _ _ h => by cases h.1) (hr 9999) (fun o ho => ?_), by cases neg <;> exact .bool _⟩
      rcases ho with rfl | rfl
      · simp [binOp, Op.equal, Op.maxDepth, hr 9999]
      · simp [binOp, Op.equal, Op.maxDepth, hr 9999]

theorem part_plain {t : TypeId} {d : TypeDesc} {vs : List Value} {o : Nat} {u : Value} (hd : P.underlying t = some d) (ha : aggDesc d = false) (hu : vs[o]? = some u) : (part t ⟨vs⟩ o).run P w = .ok u w := by
  obtain ⟨ho, rfl⟩ := List.getElem?_eq_some_iff.1 hu
  simp [part, r_agg hd, ha, ho]

theorem cellEq_run {t : TypeId} {e : EqC} {x y : CVal} {X Y : Value} {r : Bool} (he : eqCOf P t = some e) (hx : VR G x X) (hy : VR G y Y) (h : cellEq e x y = some r) (d : Nat) : (Op.equalIn (d + 1) t X Y).run P w = .ok r w := by
  cases e <;> cases x <;> cases y <;> simp only [cellEq] at h <;> first | (cases h; done) | skip
  · cases hx; cases hy
    split at h
    · rename_i hk; subst hk; cases h
      unfold eqCOf at he
      split at he <;> first | (cases he; done) | skip
      rename_i k hk
      exact run_equalIn_int w d t _ k _ _ hk
    · cases h
  · cases hx; cases hy
    cases h
    unfold eqCOf at he
    split at he <;> first | (cases he; done) | skip
    rename_i hk
    rw [run_equalIn_string w d t _ _ hk, ByteArray.toList_eq, ByteArray.toList_eq]
  · cases hx; cases hy
    cases h
    unfold eqCOf at he
    split at he <;> first | (cases he; done) | skip
    rename_i hk
    exact run_equalIn_bool' w d t _ _ hk

theorem eqCells_run {cs ds : List CVal} {vs us : List Value} (hx : VRs G cs vs) (hy : VRs G ds us) (d : Nat) : ∀ (fs : List Field) (l : List (EqC × Nat)) (r : Bool), eqCells P fs = some l → cellsEq cs ds l = some r → (Op.eqFields (d + 1) ⟨vs⟩ ⟨us⟩ fs).run P w = .ok r w := by
  intro fs
  induction fs with
  | nil => intro l r h1 h2; cases h1; cases h2; rfl
  | cons f fs ih =>
    intro l r h1 h2
    unfold eqCells at h1
    unfold Op.eqFields
    by_cases hn : f.name ≠ "_"
    · rw [if_pos hn] at h1 ⊢
      split at h1
      · rename_i e l' he hl
        cases h1
        unfold cellsEq at h2
        split at h2
        · rename_i x y hxo hyo
          have hlx : f.offset < vs.length := by rw [← hx.1]; exact (List.getElem?_eq_some_iff.1 hxo).1
          have hly : f.offset < us.length := by rw [← hy.1]; exact (List.getElem?_eq_some_iff.1 hyo).1
          have hX := List.getElem?_eq_getElem hlx
          have hY := List.getElem?_eq_getElem hly
          have hvx := hx.2 _ _ _ hxo hX
          have hvy := hy.2 _ _ _ hyo hY
          have hd : ∃ d, P.underlying f.type = some d ∧ aggDesc d = false := by
            unfold eqCOf at he
            split at he <;> first | (cases he; done) | skip
            · rename_i h; exact ⟨_, h, rfl⟩
            · rename_i h; exact ⟨_, h, rfl⟩
            · rename_i h; exact ⟨_, h, rfl⟩
          obtain ⟨dd, hd1, hd2⟩ := hd
          rw [Sem.run_bind, part_plain hd1 hd2 hX, Result.andThen_ok, Sem.run_bind, part_plain hd1 hd2 hY, Result.andThen_ok, Sem.run_bind]
          split at h2
          · rename_i hc
            rw [cellEq_run he hvx hvy hc d, Result.andThen_ok]
            simp only [Bool.not_true, Bool.false_eq_true, if_false]
            exact ih _ _ hl h2
          · rename_i hc
            cases h2
            rw [cellEq_run he hvx hvy hc d, Result.andThen_ok]
            simp
          · cases h2
        · cases h2
      · cases h1
    · rw [if_neg hn] at h1 ⊢
      exact ih _ _ h1 h2

theorem l_aeq {neg : Bool} {l : List (EqC × Nat)} {t : TypeId} {fs : Array Field} {x y v : CVal} {X Y : Value} (ht : P.underlying t = some (.struct fs)) (hl : eqCells P fs.toList = some l) (hs : P.stoodInHeld t = false) (hg : P.eqGuardType P.depth t = false) (hx : VR G x X) (hy : VR G y Y)
    (hv : extL h (.aeq neg l) [x, y] = some v) {A B : Operand} {op : BinOp} (hop : op = if neg then .neq else .eql) : ∃ u, (do eqGuard op t A B X Y; binOp op t X Y : Sem Value).run P w = .ok u w ∧ VR G v u := by
  cases x <;> cases y <;> simp only [extL] at hv <;> first | (cases hv; done) | skip
  split at hv
  · rename_i b hb
    cases hv
    cases hx with
    | agg hlx hfx hx =>
      rename_i cs vs
      cases hy with
      | agg hly hfy hy =>
        rename_i ds us
        have hfo : P.fieldsOf t = fs := by unfold Program.fieldsOf; rw [ht]
        have he : (Op.equalIn 10000 t (.agg ⟨vs⟩) (.agg ⟨us⟩)).run P w = .ok b w := by
          rw [run_equalIn_agg w 9999 t _ _ (by rw [hfo]; exact ht) hs, hfo]
          exact eqCells_run ⟨hlx, hx⟩ ⟨hly, hy⟩ 9998 _ _ _ hl hb
        refine ⟨.bool (if neg then !b else b), ?_, .bool _⟩
        rw [Sem.run_bind, run_eqGuard_agg w op t A B _ _ hg, Result.andThen_ok]
        subst hop
        cases neg
        · show (binOp .eql t _ _).run P w = _; rw [run_eql_struct, he]; rfl
        · show (binOp .neq t _ _).run P w = _; rw [run_neq_struct, he]; rfl
  · cases hv

/-! What is written. -/

theorem cell_map {ab i : Nat} {es : Array MapEntry} {ck : Nat} (h : w.heap[ab]? = some (Obj.map es ck)) : w.cell? ⟨ab, i, none⟩ = none := by simp [World.cell?, h]
theorem shape_map {ab : Nat} {es : Array MapEntry} {ck : Nat} (h : w.heap[ab]? = some (Obj.map es ck)) : w.shape? ab = none := by simp [World.shape?, h]
theorem frozen_map {ab i : Nat} {es : Array MapEntry} {ck : Nat} (h : w.heap[ab]? = some (Obj.map es ck)) : w.frozen? ⟨ab, i, none⟩ = false := by simp [World.frozen?, h]

def setMap (w : World) (ab : Nat) (es : Array MapEntry) (ck : Nat) : World := { w with heap := w.heap.setIfInBounds ab (.map es ck) }

section
variable {ab ck ck' : Nat} {es es' : Array MapEntry}
theorem setMap_at (h : w.heap[ab]? = some (Obj.map es ck)) : (setMap w ab es' ck').heap[ab]? = some (Obj.map es' ck') := (MapKept.heap_set h).1
theorem setMap_other (h : w.heap[ab]? = some (Obj.map es ck)) {a : Nat} (hne : a ≠ ab) : (setMap w ab es' ck').heap[a]? = w.heap[a]? := (MapKept.heap_set h).2 a hne
theorem setMap_size : (setMap w ab es' ck').heap.size = w.heap.size := by simp [setMap]
theorem setMap_cell (h : w.heap[ab]? = some (Obj.map es ck)) (a i : Nat) : (setMap w ab es' ck').cell? ⟨a, i, none⟩ = w.cell? ⟨a, i, none⟩ := by
  by_cases he : a = ab
  · subst he; rw [cell_map h, cell_map (setMap_at h)]
  · unfold World.cell?; rw [setMap_other h he]
theorem setMap_shape (h : w.heap[ab]? = some (Obj.map es ck)) (a : Nat) : (setMap w ab es' ck').shape? a = w.shape? a := by
  by_cases he : a = ab
  · subst he; rw [shape_map h, shape_map (setMap_at h)]
  · unfold World.shape?; rw [setMap_other h he]
theorem setMap_frozen (h : w.heap[ab]? = some (Obj.map es ck)) (a i : Nat) : (setMap w ab es' ck').frozen? ⟨a, i, none⟩ = w.frozen? ⟨a, i, none⟩ := by
  by_cases he : a = ab
  · subst he; rw [frozen_map h, frozen_map (setMap_at h)]
  · unfold World.frozen?; rw [setMap_other h he]

theorem chg_setMap {own : Nat → Nat → Option Own} {b : Nat} (ho : own ab 0 = some (.m b)) (h : w.heap[ab]? = some (Obj.map es ck)) : Chg (.m b) own own w (setMap w ab es' ck') where
  live a i hl := by obtain ⟨⟨v, hv⟩, hf⟩ := hl; exact ⟨⟨v, by rw [setMap_cell h]; exact hv⟩, by rw [setMap_frozen h]; exact hf⟩
  cell a i v _ hv := by rw [setMap_cell h]; exact hv
  own _ _ _ _ := rfl
  ownm _ _ _ h := h
  size := by rw [setMap_size]; exact Nat.le_refl _
  mark a hc := ⟨by rw [setMap_size]; exact hc.1, fun st T n hs => by rw [setMap_frozen h]; exact hc.2 st T n (by rw [setMap_shape h] at hs; exact hs)⟩
  shp a x hs := by rw [setMap_shape h]; exact hs
  obj a es2 ck2 hne he := by
    have : a ≠ ab := fun e => hne (by rw [e]; exact ho)
    rw [setMap_other h this]; exact he
  objs a es2 ck2 he := by
    by_cases e : a = ab
    · subst e; exact ⟨_, _, setMap_at h⟩
    · exact ⟨es2, ck2, by rw [setMap_other h e]; exact he⟩
  rowb a T hr := by
    obtain ⟨c, lo, hi, he, h1, h2⟩ := hr
    have hne : a ≠ ab := fun e => by rw [e, h] at he; cases he
    exact ⟨c, lo, hi, by rw [setMap_other h hne]; exact he, h1, h2⟩
  sole _ _ _ _ h := h
  itr a m s sn l he := by
    have : a ≠ ab := fun e => by rw [e, h] at he; cases he
    rw [setMap_other h this]; exact he

theorem post_map (I : Inv base G h w) {b : Nat} {kvs kvs' : List (Nat × CVal × CVal)} (hmu : G.mu b = some (ab, 0)) (hg : h.get b = some (.map ck kvs)) (hh : w.heap[ab]? = some (Obj.map es ck)) (hr : MapRel G kvs' es'.toList) :
    Post base (· = id) G h w G (h.set b (.map ck' kvs')) (setMap w ab es' ck') := by
  obtain ⟨own, I⟩ := I
  obtain ⟨hbn, hab, _, hbk⟩ := I.mus b ab 0 hmu
  have ho := (hbk.1 rfl).1
  refine ⟨.refl G, ⟨own, I.step (IT := it_at b (fun q hq => ⟨rfl, rfl, get_set_other hq⟩) (fun x c kvs2 h9 _ => by have := (I.its b x h9 _ _ hg).2.1; rw [hmu] at this; cases this)) (x := .m b) (.refl G) (chg_setMap ho hh) (Nat.le_refl _) (fun _ _ _ h => .inl h) (fun _ _ _ h => .inl h) (fun _ _ _ h => .inl h) (fun _ _ _ h => .inl h) ?_ ?_ (nodup_set h b _ I.nod) (fun _ _ h => .inl ⟨h, fun _ _ h => h⟩)⟩,
    ⟨rfl, rfl, rfl, by rw [setMap_size]; exact Nat.le_refl _, fun k hk => setMap_other hh (by omega)⟩, Nat.le_refl _, fun i _ _ hf => ?_⟩
  · intro b' q hq
    by_cases hbb : b' = b
    · subst hbb
      rw [get_set_self hg] at hq
      cases hq
      refine .inr ⟨hbn, fun ab' hm' => ?_⟩
      rw [hmu] at hm'
      cases hm'
      exact ⟨es', setMap_at hh, hr⟩
    · rw [get_set_other hbb] at hq
      exact .inl ⟨hq, ⟨rfl, fun _ => rfl, fun _ => rfl⟩, by simp; exact fun e => hbb e.symm, by simp, by simp⟩
  · intro a i y hy; rw [setMap_size]; exact I.old a i y hy
  · obtain ⟨h1, h2, h3, h4⟩ := hf
    exact ⟨h1, h2, h3, by rw [get_set_other (fun e => by rw [e, hg] at h4; cases h4)]; exact h4⟩
end

theorem post_newmap (I : Inv base G h w) (hf : Fresh G h id) (hid : id < h.next) : Post base (· = id) G h w (G.withMu id w.heap.size 0) (h.put id (.map 0 [])) (w.alloc (.map #[] 0)) := by
  obtain ⟨own, I⟩ := I
  have hle : G.le (G.withMu id w.heap.size 0) := le_withMu hf.1
  have same : ∀ b, b ≠ id → G.Same (G.withMu id w.heap.size 0) b := fun b hb => ⟨by show (if b = id then _ else _) = _; rw [if_neg hb], fun _ => rfl, fun _ => rfl⟩
  refine ⟨hle, ⟨_, I.step (IT := it_at id (fun b hb => ⟨rfl, if_neg hb, put_other hb⟩) (fun x c kvs h1 _ => by have h2 : G.rw id 0 = some x := h1; rw [hf.2.1 0] at h2; cases h2)) (own' := fun a i => if a = w.heap.size then (if i = 0 then some (.m id) else none) else own a i) (x := .r id) hle (chg_allocO I _ (fun i => if i = 0 then some (.m id) else none) _) (Nat.le_refl _)
    (fun ab o c hf => .inl hf) ?_ (fun b v y hy => .inl hy) (fun b v y hy => .inl hy) ?_ ?_ ?_ (fun _ _ h => .inl ⟨h, fun _ _ h => h⟩)⟩, (Below.refl _ _).alloc I.top _, Nat.le_refl _, fun i hi hne hfr => ?_⟩
  · intro b ab k hm
    by_cases hb : b = id
    · subst hb
      have hm : (if b = b then some (w.heap.size, 0) else G.mu b) = some (ab, k) := hm
      rw [if_pos rfl] at hm
      cases hm
      exact .inr ⟨hid, I.top, fun i hi => absurd hi (by simp [szOf]), fun _ => ⟨by simp, #[], 0, heap_new _⟩, fun hk => absurd rfl hk⟩
    · have hm : (if b = id then some (w.heap.size, 0) else G.mu b) = some (ab, k) := hm
      rw [if_neg hb] at hm
      exact .inl hm
  · intro b o hb
    rw [getEnt_put] at hb
    split at hb
    · rename_i e
      subst e
      cases hb
      refine .inr ⟨hid, fun ab hm => ?_⟩
      have hm : (if id = id then some (w.heap.size, 0) else G.mu id) = some (ab, 0) := hm
      rw [if_pos rfl] at hm
      cases hm
      exact ⟨#[], heap_new _, rfl, fun i x e hx => by simp at hx⟩
    · rename_i hne
      have hne' : b ≠ id := fun e => hne e.symm
      exact .inl ⟨hb, same b hne', by simp, by simp; exact fun e => hne e, by simp⟩
  · intro ab o y ho
    show ab < (w.heap.push _).size
    rw [Array.size_push]
    have ho : (if ab = w.heap.size then (if o = 0 then some (Own.m id) else none) else own ab o) = some y := ho
    split at ho
    · omega
    · have := I.old _ _ _ ho; omega
  · show (List.map (·.1) ((id, CObj.map 0 []) :: h.ents)).Nodup
    rw [List.map_cons, List.nodup_cons]
    exact ⟨fun hm => getEnt_mem hm hf.2.2.2, I.nod⟩
  · obtain ⟨h1, h2, h3, h4⟩ := hfr
    exact ⟨by rw [(same i hne).1]; exact h1, h2, h3, by rw [getEnt_put, if_neg (fun e => hne e.symm)]; exact h4⟩

theorem get_setKV : ∀ (l : List (Nat × CVal × CVal)) (j : Nat) (y : Nat × CVal × CVal) (i : Nat), (setKV l j y)[i]? = if i = j ∧ i < l.length then some y else l[i]?
  | [], j, y, i => by simp [setKV]
  | x :: r, 0, y, i => by cases i <;> simp [setKV]
  | x :: r, j + 1, y, i => by
    cases i with
    | zero => simp [setKV]
    | succ i => simp only [setKV, List.getElem?_cons_succ, get_setKV r j y i, List.length_cons, Nat.add_lt_add_iff_right, Nat.add_right_cancel_iff]
theorem length_setKV : ∀ (l : List (Nat × CVal × CVal)) (j : Nat) (y : Nat × CVal × CVal), (setKV l j y).length = l.length
  | [], _, _ => rfl
  | _ :: _, 0, _ => rfl
  | x :: r, j + 1, y => by simp [setKV, length_setKV r j y]

theorem MapRel.modify {kvs : List (Nat × CVal × CVal)} {es : Array MapEntry} (hr : MapRel G kvs es.toList) {j : Nat} {y : Nat × CVal × CVal} {f : MapEntry → MapEntry} (hn : ∀ e, es[j]? = some e → y.1 = (f e).born ∧ VR G y.2.1 (f e).key ∧ VR G y.2.2 (f e).val) :
    MapRel G (setKV kvs j y) (es.modify j f).toList := by
  refine ⟨by rw [length_setKV, hr.1]; simp, fun i x e hx he => ?_⟩
  rw [Array.getElem?_toList, Array.getElem?_modify] at he
  rw [get_setKV] at hx
  by_cases hij : j = i
  · subst hij
    rw [if_pos rfl] at he
    obtain ⟨e0, h0, rfl⟩ := Option.map_eq_some_iff.1 he
    have hlt : j < kvs.length := by rw [hr.1, Array.length_toList]; exact (Array.getElem?_eq_some_iff.1 h0).1
    rw [if_pos ⟨rfl, hlt⟩] at hx
    cases hx
    exact hn e0 h0
  · rw [if_neg hij] at he
    rw [if_neg (fun h => hij h.1.symm)] at hx
    exact hr.2 i x e hx (by rw [Array.getElem?_toList]; exact he)

theorem MapRel.push {kvs : List (Nat × CVal × CVal)} {es : Array MapEntry} (hr : MapRel G kvs es.toList) {x : Nat × CVal × CVal} {e : MapEntry} (hn : x.1 = e.born ∧ VR G x.2.1 e.key ∧ VR G x.2.2 e.val) : MapRel G (kvs ++ [x]) (es.push e).toList := by
  refine ⟨by simp [hr.1], fun i y f hy hf => ?_⟩
  rw [Array.toList_push] at hf
  by_cases hi : i < kvs.length
  · rw [List.getElem?_append_left hi] at hy
    rw [List.getElem?_append_left (hr.1 ▸ hi)] at hf
    exact hr.2 i y f hy hf
  · have hl := (List.getElem?_eq_some_iff.1 hy).1
    have : i = kvs.length := by simp at hl; omega
    subst this
    rw [List.getElem?_append_right (Nat.le_refl _)] at hy
    rw [List.getElem?_append_right (by rw [hr.1]; exact Nat.le_refl _), ← hr.1] at hf
    simp at hy hf
    subst hy; subst hf
    exact hn

theorem MapRel.erase {kvs : List (Nat × CVal × CVal)} {es : Array MapEntry} (hr : MapRel G kvs es.toList) (j : Nat) : MapRel G (kvs.eraseIdx j) (es.eraseIdxIfInBounds j).toList := by
  have e : (es.eraseIdxIfInBounds j).toList = es.toList.eraseIdx j := by
    unfold Array.eraseIdxIfInBounds
    split
    · simp
    · rw [List.eraseIdx_of_length_le (by simp; omega)]
  rw [e]
  refine ⟨by rw [List.length_eraseIdx, List.length_eraseIdx, hr.1], fun i x f hx hf => ?_⟩
  rw [List.getElem?_eraseIdx] at hx hf
  split at hx
  · rename_i h; rw [if_pos h] at hf; exact hr.2 _ _ _ hx hf
  · rename_i h; rw [if_neg h] at hf; exact hr.2 _ _ _ hx hf

theorem same_bits {d : TypeDesc} {K : Value} (h : MapKept.IsKey d K) : Instr.sameBits 10000 K K = true := by
  cases d <;> cases K <;> simp_all [MapKept.IsKey, Instr.sameBits]
  all_goals exact (MapKept.bytes_beq _ _).2 rfl

theorem run_stays {d : TypeDesc} {K : Value} (h : MapKept.IsKey d K) : (Instr.keyThatStays K K).run P w = .ok K w := by
  simp [Instr.keyThatStays, same_bits h]

theorem run_setMap {ab ck ck' : Nat} {es es' : Array MapEntry} (h : w.heap[ab]? = some (Obj.map es ck)) : (setObj ab (.map es' ck')).run P w = .ok () (setMap w ab es' ck') := MapKept.run_setObj_map _ h

theorem born_sim {st : Int} : ∀ (kvs : List (Nat × CVal × CVal)) (es : List MapEntry) (j : Nat), MapRel G kvs es → findBorn st kvs = some j → es.findIdx? (fun e => (e.born : Int) == st) = some j ∧ kvs[j]? = some (nthKV kvs j)
  | [], _, _, _, h => by simp [findBorn] at h
  | x :: kvs, es, j, hm, hf => by
    match es, hm with
    | [], hm => have := hm.1; simp at this
    | e :: es, hm =>
      obtain ⟨⟨hb, _, _⟩, hm'⟩ := hm.cons
      obtain ⟨b, k, v⟩ := x
      simp only at hb
      subst hb
      simp only [findBorn] at hf
      split at hf
      · rename_i h1
        cases hf
        exact ⟨by rw [List.findIdx?_cons]; simp only [h1, if_true], rfl⟩
      · rename_i h1
        obtain ⟨j', hj', rfl⟩ := Option.map_eq_some_iff.1 hf
        obtain ⟨h2, h3⟩ := born_sim kvs es j' hm' hj'
        refine ⟨?_, by simpa [nthKV] using h3⟩
        rw [List.findIdx?_cons, h2]
        simp only [h1]; rfl

theorem e_mset {kk : KeyK} {t kt et : TypeId} {m k v c : CVal} {M K V : Value} {h' : CHeap} (I : Inv base G h w) (ht : P.underlying t = some (.map kt et)) (hkk : keyKind P kt = some kk) (hm : VR G m M) (hk : VR G k K) (hv : VR G v V)
    (hx : extE h id (.mset kk) [m, k, v] = some (c, h')) : OutE P base G h id c h' (do Instr.mapUpdate t M K V; pure .skip) w := by
  cases m <;> simp only [extE] at hx <;> first | (cases hx; done) | skip
  rename_i b
  split at hx
  · rename_i ck kvs hg
    split at hx
    · rename_i hki
      obtain ⟨ab, es, rfl, hmu, hheap, hrel⟩ := map_obj I hm hg
      have hgo := MapKept.run_getObj_map (P := P) hheap
      have hck : ∀ e, (Instr.checkKey e 10000 kt K).run P w = .ok () w := fun e => MapKept.run_checkKey (keyKind_und hkk) (key_is hki hk) e 9999
      split at hx
      · rename_i j hf
        obtain ⟨e, he, hek, hkv, hfn⟩ := find_run (P := P) (w := w) hkk hki hk hrel hf
        cases hx
        rw [Array.getElem?_toList] at he
        have hst := run_stays (P := P) (w := w) (key_is hki hk)
        refine .inr ⟨setMap w ab (es.modify j fun e => { e with key := K, val := V }) ck, ?_, G, .undef _, post_map I hmu hg hheap (hrel.modify fun e' he' => ?_)⟩
        · simp [Instr.mapUpdate, r_und ht, hgo, hck, hfn, Result.andThen, he, hek, hst, run_setMap hheap]
        · rw [he] at he'; cases he'
          exact ⟨(hrel.2 j _ e hkv (by rw [Array.getElem?_toList]; exact he)).1, hk, hv⟩
      · rename_i hf
        have hfn := find_run (P := P) (w := w) hkk hki hk hrel hf
        cases hx
        refine .inr ⟨setMap w ab (es.push { key := K, val := V, born := ck }) (ck + 1), ?_, G, .undef _, post_map I hmu hg hheap (hrel.push ⟨rfl, hk, hv⟩)⟩
        simp [Instr.mapUpdate, r_und ht, hgo, hck, hfn, Result.andThen, run_setMap hheap]
      · cases hx
    · cases hx
  · cases hx

theorem e_mentry {kk : KeyK} {t kt et : TypeId} {m k z c : CVal} {M K : Value} {h' : CHeap} (I : Inv base G h w) (ht : P.underlying t = some (.map kt et)) (hkk : keyKind P kt = some kk) (hz : zeroOf P et = some z) (hm : VR G m M) (hk : VR G k K)
    (hx : extE h id (.mentry kk z) [m, k] = some (c, h')) : OutE P base G h id c h' (do pure (.value (← Instr.mapEntry t M K))) w := by
  obtain ⟨Z, hZ, hzv⟩ := zeroOf_run hz G w
  cases m <;> simp only [extE] at hx <;> first | (cases hx; done) | skip
  rename_i b
  split at hx
  · rename_i ck kvs hg
    split at hx
    · rename_i hki
      obtain ⟨ab, es, rfl, hmu, hheap, hrel⟩ := map_obj I hm hg
      have hgo := MapKept.run_getObj_map (P := P) hheap
      have hck : ∀ e, (Instr.checkKey e 10000 kt K).run P w = .ok () w := fun e => MapKept.run_checkKey (keyKind_und hkk) (key_is hki hk) e 9999
      split at hx
      · rename_i j hf
        obtain ⟨e, he, hek, hkv, hfn⟩ := find_run (P := P) (w := w) hkk hki hk hrel hf
        cases hx
        have hr := hrel.2 j _ e hkv he
        rw [Array.getElem?_toList] at he
        have hst := run_stays (P := P) (w := w) (key_is hki hk)
        refine .inl ⟨.tuple #[e.val, goInt e.born], setMap w ab (es.modify j fun e => { e with key := K }) ck, ?_, G, .tup rfl (VRs.cons hr.2.2 (VRs.cons (by rw [hr.1]; exact .int _ _) (VRs.nil G))).2, post_map I hmu hg hheap (hrel.modify fun e' he' => ?_)⟩
        · simp [Instr.mapEntry, r_und ht, hgo, hck, hfn, Result.andThen, he, hek, hst, run_setMap hheap]
        · rw [he] at he'; cases he'
          exact ⟨hr.1, hk, hr.2.2⟩
      · rename_i hf
        have hfn := find_run (P := P) (w := w) hkk hki hk hrel hf
        cases hx
        refine .inl ⟨.tuple #[Z, goInt ck], setMap w ab (es.push { key := K, val := Z, born := ck }) (ck + 1), ?_, G, .tup rfl (VRs.cons hzv (VRs.cons (.int _ _) (VRs.nil G))).2, post_map I hmu hg hheap (hrel.push ⟨rfl, hk, hzv⟩)⟩
        simp [Instr.mapEntry, r_und ht, hgo, hck, hfn, hZ, Result.andThen, run_setMap hheap]
      · cases hx
    · cases hx
  · cases hx

theorem e_mestore {t : TypeId} {m s v c : CVal} {M S V : Value} {h' : CHeap} (I : Inv base G h w) (hm : VR G m M) (hs : VR G s S) (hv : VR G v V)
    (hx : extE h id .mestore [m, s, v] = some (c, h')) : OutE P base G h id c h' (do Instr.entryStore t M S V; pure .skip) w := by
  cases m <;> cases s <;> simp only [extE] at hx <;> first | (cases hx; done) | skip
  rename_i b kd st
  split at hx
  · rename_i ck kvs hg
    obtain ⟨ab, es, rfl, hmu, hheap, hrel⟩ := map_obj I hm hg
    have hgo := MapKept.run_getObj_map (P := P) hheap
    have := vr_int (c := .nilp) hs
    subst this
    split at hx
    · rename_i j hf
      obtain ⟨h1, hkv⟩ := born_sim kvs es.toList j hrel hf
      have h2 : es.findIdx? (fun e => (e.born : Int) == st) = some j := by rw [← h1]; obtain ⟨l⟩ := es; simp
      cases hx
      refine .inr ⟨setMap w ab (es.modify j fun e => { e with val := V }) ck, ?_, G, .undef _, post_map I hmu hg hheap (hrel.modify fun e he => ?_)⟩
      · simp [Instr.entryStore, hgo, Result.andThen, asInt, asIntOf, h2, run_setMap hheap]
      · have hr := hrel.2 j _ e hkv (by rw [Array.getElem?_toList]; exact he)
        exact ⟨hr.1, hr.2.1, hv⟩
    · cases hx
  · cases hx

theorem e_mdel {kk : KeyK} {t u kt et ty : TypeId} {m k c : CVal} {M K : Value} {h' : CHeap} (I : Inv base G h w) (ht : P.underlying t = some (.map kt et)) (hkk : keyKind P kt = some kk) (hm : VR G m M) (hk : VR G k K)
    (hx : extE h id (.mdel kk) [m, k] = some (c, h')) : OutE P base G h id c h' (do pure (.value (← Builtin.delete_ #[t, u] ty #[M, K]))) w := by
  cases m <;> simp only [extE] at hx <;> first | (cases hx; done) | skip
  rename_i b
  split at hx
  · rename_i ck kvs hg
    split at hx
    · rename_i hki
      obtain ⟨ab, es, rfl, hmu, hheap, hrel⟩ := map_obj I hm hg
      have hgo := MapKept.run_getObj_map (P := P) hheap
      have hck : ∀ e, (Instr.checkKey e 10000 kt K).run P w = .ok () w := fun e => MapKept.run_checkKey (keyKind_und hkk) (key_is hki hk) e 9999
      split at hx
      · rename_i j hf
        obtain ⟨e, he, hek, hkv, hfn⟩ := find_run (P := P) (w := w) hkk hki hk hrel hf
        cases hx
        refine .inl ⟨.tuple #[], setMap w ab (es.eraseIdxIfInBounds j) ck, ?_, G, .tup rfl (VRs.nil G).2, post_map I hmu hg hheap (hrel.erase j)⟩
        simp [Builtin.delete_, r_und ht, hgo, hck, hfn, Result.andThen, run_setMap hheap]
      · rename_i hf
        have hfn := find_run (P := P) (w := w) hkk hki hk hrel hf
        cases hx
        refine .inl ⟨.tuple #[], setMap w ab es ck, ?_, G, .tup rfl (VRs.nil G).2, post_map I hmu hg hheap hrel⟩
        simp [Builtin.delete_, r_und ht, hgo, hck, hfn, Result.andThen, run_setMap hheap]
      · cases hx
    · cases hx
  · cases hx

/-- A row seen from elsewhere: nobody asks its elements. -/
theorem post_alias (I : Inv base G h w) (hfr : Fresh G h id) (hid : id < h.next) {ab ao k cap : Nat} (hcl : Clean w ab) (hal : ∃ c u z, G.rw c u = some z ∧ z.1 = ab) : Post base (· = id) G h w (G.withRw id 0 (ab, ao, k, cap)) h w := by
  have hle : G.le (G.withRw id 0 (ab, ao, k, cap)) := le_withRw (hfr.2.1 0)
  obtain ⟨own, I⟩ := I
  have hty := I.ty_fresh hfr
  have hh : ∀ a i x, Holds G w a i x → Holds (G.withRw id 0 (ab, ao, k, cap)) w a i x := fun a i x hx => hx.mono hle fun _ h => h
  refine ⟨hle, ⟨own, ?_⟩, .refl _ _, Nat.le_refl _, fun i hi he hf => ⟨hf.1, fun v => by rw [withRw_other he]; exact hf.2.1 v, hf.2.2.1, hf.2.2.2⟩⟩
  exact {
    fzs := fun a o c hf => ⟨(I.fzs a o c hf).1, hh _ _ _ (I.fzs a o c hf).2⟩
    mus := I.mus
    its := fun i x h1 c kvs h2 => by
      by_cases hb : i = id
      · subst hb; rw [hfr.2.2.2] at h2; cases h2
      · rw [withRw_other hb] at h1; exact I.its i x h1 c kvs h2
    itj := fun i x j y hne h1 h2 h3 h4 => by
      have hi : i ≠ id := fun e => by subst e; obtain ⟨c, kvs, h5⟩ := h3; rw [hfr.2.2.2] at h5; cases h5
      have hj : j ≠ id := fun e => by subst e; obtain ⟨c, kvs, h5⟩ := h4; rw [hfr.2.2.2] at h5; cases h5
      rw [withRw_other hi] at h1
      rw [withRw_other hj] at h2
      exact I.itj i x j y hne h1 h2 h3 h4
    rws := fun b v x hx => by
      by_cases hb : b = id
      · subst hb; exact hid
      · rw [withRw_other hb] at hx; exact I.rws b v x hx
    tks := I.tks
    lits := fun b x ht hx => by
      obtain ⟨h0, h1, h2, h3⟩ := I.lits b x ht hx
      refine ⟨h0, h1, h2, fun c v y hy => ?_⟩
      rcases lr_withRw (b := id) (ver := 0) (x := (ab, ao, k, cap)) (n := w.heap.size) (.inr hal) hy with ⟨c', u, z, h4, h5⟩ | h4
      · rw [← h5]; exact h3 c' u z h4
      · omega
    ents := fun b o ho => by
      have hb : b ≠ id := fun e => by subst e; rw [hfr.2.2.2] at ho; cases ho
      obtain ⟨h1, h2⟩ := I.ents b o ho
      refine ⟨h1, ?_⟩
      cases o with
      | cells cs => exact fun a k hm => ⟨(h2 a k hm).1, fun i c hi => ⟨((h2 a k hm).2 i c hi).1, hh _ _ _ ((h2 a k hm).2 i c hi).2⟩⟩
      | row ver es => exact ⟨fun v x hx => h2.1 v x (by rw [← withRw_other hb]; exact hx), fun a o k c hr => let ⟨x1, x2, x3, x4⟩ := h2.2 a o k c (by rw [← withRw_other hb]; exact hr); ⟨x1, x2, x3, fun i e hie => ⟨(x4 i e hie).1, fun j c hj => ⟨((x4 i e hie).2 j c hj).1, hh _ _ _ ((x4 i e hie).2 j c hj).2⟩⟩⟩⟩
      | frow ver es => exact ⟨fun v x hx => h2.1 v x (by rw [← withRw_other hb]; exact hx), fun a o k c hr => let ⟨x1, x2, x3, x4⟩ := h2.2 a o k c (by rw [← withRw_other hb]; exact hr); ⟨x1, x2, x3, fun i e hie => ⟨(x4 i e hie).1, fun j c hj => ⟨((x4 i e hie).2 j c hj).1, hh _ _ _ ((x4 i e hie).2 j c hj).2⟩⟩⟩⟩
      | tok ver => exact h2
      | map ck kvs => exact fun a hm => let ⟨es, h3, h4⟩ := h2 a hm; ⟨es, h3, h4.mono hle⟩
    old := I.old
    top := I.top
    nod := I.nod
    cln := fun b v x hx => by
      by_cases hb : b = id
      · subst hb
        by_cases hv : v = 0
        · subst hv; rw [withRw_self] at hx; cases hx; exact hcl
        · exfalso
          have : (G.withRw b 0 (ab, ao, k, cap)).rw b v = G.rw b v := by show (if b = b ∧ v = 0 then _ else _) = _; rw [if_neg (fun e => hv e.2)]
          rw [this, hfr.2.1 v] at hx; cases hx
      · rw [withRw_other hb] at hx; exact I.cln b v x hx
    gls := I.gls
    tyk := fun b T ht => by
      have hb : b ≠ id := fun e => by subst e; rw [hty] at ht; cases ht
      obtain ⟨v, hv⟩ := I.tyk b T ht
      exact ⟨v, by rw [withRw_other hb]; exact hv⟩
    tys := fun b T ht v x hx => by
      have hb : b ≠ id := fun e => by subst e; rw [hty] at ht; cases ht
      rw [withRw_other hb] at hx
      exact I.tys b T ht v x hx }

theorem zero_cells {g : ElemInfo} {i : TypeInfo} {e : TypeId} {d : TypeDesc} {z : Value} (ok : InfoOk P e g i d z) (G : Gh) (n : Nat) : VRs G (flatC (List.replicate n (mkElem g.agg g.zero))) (Builtin.zeroCells z.cells n).toList := by
  have := zero_row ok G n
  rw [← ok.zsize] at this
  exact this
theorem zero_elems {g : ElemInfo} {i : TypeInfo} {e : TypeId} {d : TypeDesc} {z : Value} (ok : InfoOk P e g i d z) (n : Nat) : AllK g.size (List.replicate n (mkElem g.agg g.zero)) ∧ AllFlat (List.replicate n (mkElem g.agg g.zero)) :=
  ⟨fun e he => by rw [(List.mem_replicate.1 he).2, elem_cells ok, ok.len], fun e he => by rw [(List.mem_replicate.1 he).2, elem_cells ok]; exact ok.flat⟩

theorem e_clear {t e ty : TypeId} {g : ElemInfo} {x v : CVal} {X : Value} {h' : CHeap} (I : Inv base G h w) (ht : P.underlying t = some (.slice e)) (hg : infoOf P e = some g) (hx : VR G x X)
    (hv : extE h id (.clear g.agg g.zero) [x] = some (v, h')) : OutE P base G h id v h' (do pure (.value (← Builtin.clear_ #[t] ty #[X]))) w := by
  obtain ⟨i, d', z, ok⟩ := infoOf_ok hg
  cases x <;> simp only [extE] at hv <;> first | (cases hv; done) | skip
  · cases hv
    cases hx
    refine .inl ⟨.tuple #[], w, ?_, G, .tup rfl (VRs.nil G).2, .refl I⟩
    simp [Builtin.clear_, r_und ht]
  · rename_i b ver l off len
    split at hv
    · rename_i v' es hgb
      split at hv
      · rename_i hc
        simp only [Bool.and_eq_true, decide_eq_true_eq, beq_iff_eq] at hc
        obtain ⟨hk, rfl, hle⟩ := hc
        rw [ok.len] at hk
        subst hk
        cases hv
        cases hx with
        | ref hw hkl hll hs ha =>
          rename_i ab ao cap a
          have I' := I
          obtain ⟨own, Io⟩ := I
          obtain ⟨hbn, hvmax, hrow⟩ := Io.ents b _ hgb
          obtain ⟨hab, hcapl, hown, hel2⟩ := hrow _ _ _ _ hw
          have hz := zero_cells ok G len
          have hp := post_over_row (id := id) (o := off) I' (zero_elems ok len).1 (zero_elems ok len).2 hgb hw (by rw [List.length_replicate]; omega) hz
          have hnl : (Builtin.zeroCells z.cells len).toList.length = len * g.size := by rw [Array.length_toList, size_zeroCells, ok.zsize]
          have hone := one_of_vrs hz (flat_flatC (zero_elems ok len).2)
          cases len with
          | zero =>
            have hne : (Builtin.zeroCells z.cells 0).toList = [] := List.eq_nil_of_length_eq_zero (by rw [hnl, Nat.zero_mul])
            rw [hne, setCells_nil] at hp
            refine .inl ⟨.tuple #[], w, ?_, G, .tup rfl (VRs.nil G).2, hp⟩
            simp [Builtin.clear_, r_und ht]
          | succ m =>
            have ha2 := ha.resolve_left (by omega)
            subst ha2
            refine .inl ⟨.tuple #[], _, ?_, G, .tup rfl (VRs.nil G).2, hp⟩
            have hst := run_storeCells_cells (P := P) ab (ao + off * g.size) (Builtin.zeroCells z.cells (m + 1)).toList 0 w (fun j hj => by
                rw [Nat.add_zero]
                have h1 : (off + (m + 1)) * g.size ≤ cap * g.size := Nat.mul_le_mul_right _ (by omega)
                obtain ⟨v, hv⟩ := (hown (off * g.size + j) (by rw [Nat.add_mul] at h1; omega)).2.1
                rw [← Nat.add_assoc] at hv
                rw [hv]; rfl) (fun j hj => by
                rw [Nat.add_zero]
                have h1 : (off + (m + 1)) * g.size ≤ cap * g.size := Nat.mul_le_mul_right _ (by omega)
                have := (hown (off * g.size + j) (by rw [Nat.add_mul] at h1; omega)).2.2
                rw [← Nat.add_assoc] at this
                exact this) hone
            rw [Nat.add_zero] at hst
            simp [Builtin.clear_, r_und ht, r_zero ok.info ok.zero, hst]
      · cases hv
    · cases hv

theorem e_slc3 {t e : TypeId} {g : ElemInfo} {x lo hi mx v : CVal} {X LO HI MX : Value} {h' : CHeap} (I : Inv base G h w) (hfr : Fresh G h id) (hid : id < h.next) (ht : P.underlying t = some (.slice e)) (hg : infoOf P e = some g) (hx : VR G x X) (hlo : VR G lo LO) (hhi : VR G hi HI) (hmx : VR G mx MX)
    (hv : extE h id (.slc3 g.size) [x, lo, hi, mx] = some (v, h')) : OutE P base G h id v h' (do pure (.value (← Instr.sliceAt t X (some LO) (some HI) (some MX)))) w := by
  obtain ⟨i, d', z, ok⟩ := infoOf_ok hg
  cases x <;> first | (simp only [extE] at hv; cases hv; done) | skip
  rename_i b ver l off len
  cases lo <;> first | (simp only [extE] at hv; cases hv; done) | skip
  rename_i kl lo
  cases hi <;> first | (simp only [extE] at hv; cases hv; done) | skip
  rename_i kh hi
  cases mx <;> first | (simp only [extE] at hv; cases hv; done) | skip
  rename_i km mx
  simp only [extE] at hv
  split at hv
  · rename_i hc
    simp only [Bool.and_eq_true, decide_eq_true_eq, beq_iff_eq] at hc
    obtain ⟨rfl, h0, h1, h2, h3⟩ := hc
    cases hv
    cases hx with
    | ref hw hkl hll hs ha =>
      rename_i ab ao cap a
      have e3 := run_bound (P := P) (w := w) (d := 0) (lo := some (.int km mx)) (x := some MX) (n := mx.toNat) (y := cap - off) (code := .slice3Acap) hmx (by simp [optBound]; omega) (by omega)
      have e2 := run_bound (P := P) (w := w) (d := 0) (lo := some (.int kh hi)) (x := some HI) (n := hi.toNat) (y := mx.toNat) (code := .slice3B) hhi (by simp [optBound]; omega) (by omega)
      have e1 := run_bound (P := P) (w := w) (d := 0) (lo := some (.int kl lo)) (x := some LO) (n := lo.toNat) (y := hi.toNat) (code := .slice3C) hlo (by simp [optBound]; omega) (by omega)
      have hcl : Clean w ab := by obtain ⟨own, I⟩ := I; exact I.cln b ver _ hw
      have hrun : (Instr.sliceAt t (.slice (some a) len (cap - off)) (some LO) (some HI) (some MX)).run P w = .ok (.slice (if mx.toNat = lo.toNat then some a else (some a).map (·.add (lo.toNat * g.size))) (hi.toNat - lo.toNat) (mx.toNat - lo.toNat)) w := by
        have hb : (Instr.sliceBounds true len (cap - off) (some LO) (some HI) (some MX)).run P w = .ok (lo.toNat, hi.toNat, mx.toNat) w := by
          unfold Instr.sliceBounds
          simp at e1 e2 e3
          simp [e1, e2, e3]
        simp [Instr.sliceAt, Instr.slice, r_und ht, hb, r_size ok.info, ok.size]
      obtain ⟨a', hs', hrun', ha'⟩ : ∃ a' : Addr, a'.spot = none ∧ (Instr.sliceAt t (.slice (some a) len (cap - off)) (some LO) (some HI) (some MX)).run P w = .ok (.slice (some a') (hi.toNat - lo.toNat) (mx.toNat - lo.toNat)) w ∧ (mx.toNat - lo.toNat = 0 ∨ a' = ⟨ab, ao + (off + lo.toNat) * g.size, none⟩) := by
        by_cases he : mx.toNat = lo.toNat
        · rw [if_pos he] at hrun
          exact ⟨a, hs, hrun, .inl (by omega)⟩
        · rw [if_neg he] at hrun
          have ha2 := ha.resolve_left (by omega)
          subst ha2
          refine ⟨_, ?_, hrun, .inr ?_⟩
          · show (Addr.add ⟨ab, ao + off * g.size, none⟩ (lo.toNat * g.size)).spot = none
            rw [add_eq rfl]
          · show Addr.add ⟨ab, ao + off * g.size, none⟩ (lo.toNat * g.size) = _
            rw [add_eq rfl]
            simp only [Addr.mk.injEq, true_and, and_true]
            rw [Nat.add_mul]; omega
      refine .inl ⟨_, w, by rw [Sem.run_bind, hrun']; rfl, G.withRw id 0 (ab, ao + (off + lo.toNat) * g.size, g.size, mx.toNat - lo.toNat), ?_, post_alias I hfr hid hcl ⟨b, ver, _, hw, rfl⟩⟩
      have hlen : (hi - lo).toNat = hi.toNat - lo.toNat := by omega
      rw [hlen]
      have := VR.ref (G := G.withRw id 0 (ab, ao + (off + lo.toNat) * g.size, g.size, mx.toNat - lo.toNat)) (b := id) (ver := 0) (off := 0) (len := hi.toNat - lo.toNat) (a := a') (withRw_self _ _ _ _) ok.pos (by omega) hs' (by
        rcases ha' with h | h
        · exact .inl (by omega)
        · exact .inr (by rw [h]; simp))
      exact this
  · cases hv

theorem e_apmake {t u e ty : TypeId} {kd : IntKind} {g : ElemInfo} {T : Nat} {x n v : CVal} {X N : Value} {h' : CHeap} (I : Inv base G h w) (hfr : Fresh G h id) (hid : id < h.next) (ht : P.underlying t = some (.slice e)) (hu : P.underlying u = some (.int kd)) (hg : infoOf P e = some g) (hT : T = 0 ∨ T = e + 1) (hb : g.bytes ≤ 4096) (hx : VR G x X) (hn : VR G n N)
    (hv : extE h id (.apmake T g.agg g.zero) [x, n] = some (v, h')) : OutE P base G h id v h' (do pure (.value (← Builtin.append_ #[t, u] ty #[X, N]))) w := by
  obtain ⟨i, d', z, ok⟩ := infoOf_ok hg
  cases x <;> first | (simp only [extE] at hv; cases hv; done) | skip
  cases n <;> first | (simp only [extE] at hv; cases hv; done) | skip
  rename_i kn n
  simp only [extE] at hv
  split at hv
  · rename_i hc
    simp only [Bool.and_eq_true, decide_eq_true_eq] at hc
    obtain ⟨h0, hmost⟩ := hc
    cases hv
    cases hx
    cases hn
    have hm : (sizeMost : Int) = 1073741824 := rfl
    have hw64 : IntKind.i64.wrap n = n := by simp [IntKind.wrap, IntKind.bits, IntKind.signed]; omega
    have hby : i.bytes ≤ 4096 := by rw [← ok.bytes]; exact hb
    have hcapge : n.toNat ≤ grownCap w n.toNat 0 e := grownCap_ge w _ _ _
    have hgc : (Question.appendCap n.toNat 0 e).cut (w.tape w.drawn (.appendCap n.toNat 0 e)) = grownCap w n.toNat 0 e := rfl
    have h5 : (Question.appendCap n.toNat 0 e).forced = false := rfl
    have h1 : Builtin.nextslicecap n.toNat 0 * i.bytes ≤ 281474976710656 := growslice_fits (by omega) (by
      have : n.toNat * i.bytes ≤ 1073741824 * 4096 := Nat.mul_le_mul (by omega) hby
      omega)
    have hmul : n * (i.bytes : Int) ≤ 1073741824 * 4096 := Int.mul_le_mul (by omega) (by omega) (by omega) (by omega)
    have hne : n.toNat * i.size ≠ 0 := Nat.mul_ne_zero (by omega) (by have := ok.pos; rw [ok.size] at this; omega)
    have hrun : (Builtin.append_ #[t, u] ty #[.slice none 0 0, .int kn n]).run P w = .ok (.slice (some ⟨w.heap.size, 0, none⟩) n.toNat (grownCap w n.toNat 0 e)) (w.drew.alloc (.cells (Builtin.zeroCells z.cells n.toNat ++ Builtin.zeroCells z.cells (grownCap w n.toNat 0 e - n.toNat)) e)) := by
      have h2 : ¬ n ≤ 0 := by omega
      have h4 : ¬ 281474976710656 < Builtin.nextslicecap n.toNat 0 * i.bytes := by omega
      have h6 : ¬ n < 0 := by omega
      have h7 : ¬ 281474976710656 < n * (i.bytes : Int) := by omega
      have h9 : IntKind.i64.max = 9223372036854775807 := rfl
      have h8 : ¬ 9223372036854775807 < max n 0 := by omega
      simp [Builtin.append_, r_und ht, r_und hu, r_size ok.info, r_info ok.info, r_zero ok.info ok.zero, asInt, asIntOf, hw64, h2, h4, h5, h6, h7, h8, h9, hne, hgc, newRow, Builtin.firstCells]
    have hz := zero_cells ok G n.toNat
    have hzk := zero_elems (P := P) ok n.toNat
    refine .inl ⟨_, _, by rw [Sem.run_bind, hrun]; rfl, G.withRw id 0 (w.heap.size, 0, g.size, grownCap w n.toNat 0 e), by rw [ok.len]; exact vr_row0 ok.pos hcapge, Post.drewL (post_new_row (lo := 0) (hi := 0) (cap := grownCap w n.toNat 0 e) I.drew (Nat.le_refl _) hid (fresh_lt hfr).1 hzk.1 hzk.2 (by rw [List.length_replicate]; exact hcapge) (by
        rw [Array.size_append, size_zeroCells, size_zeroCells, ok.zsize, ← Nat.add_mul]
        rw [show n.toNat + (grownCap w n.toNat 0 e - n.toNat) = grownCap w n.toNat 0 e by omega]
        exact Nat.le_refl _) (fun j c hc => by
        have hj := (List.getElem?_eq_some_iff.1 hc).1
        rw [hz.1, Array.length_toList] at hj
        refine ⟨_, ?_, hz.2 j c _ hc (by rw [Array.getElem?_toList]; exact Array.getElem?_eq_getElem hj)⟩
        rw [Array.getElem?_append_left hj]; exact Array.getElem?_eq_getElem hj) (by rw [note_get]; exact put_self _ _ _) (fun b' hne => by rw [note_get]; exact put_other hne) (note_next _ _ _) (by rw [note_ents]; obtain ⟨_, I⟩ := I; exact nodup_put I.nod hfr.2.2.2) ⟨Nat.le_refl _, Nat.zero_le _⟩ (new_ty I.drew hfr hT) new_tyo)⟩
  · cases hv

theorem l_slcx {t e : TypeId} {g : ElemInfo} {x lo hi v : CVal} {X LO HI : Value} (I : Inv base G h w) (ht : P.underlying t = some (.slice e)) (hg : infoOf P e = some g) (hx : VR G x X) (hlo : VR G lo LO) (hhi : VR G hi HI)
    (hv : extL h (.slcx g.size) [x, lo, hi] = some v) : ∃ V, (Instr.sliceAt t X (some LO) (some HI) none).run P w = .ok V w ∧ VR G v V := by
  obtain ⟨i, d', z, ok⟩ := infoOf_ok hg
  cases x <;> first | (simp only [extL] at hv; cases hv; done) | skip
  rename_i b ver l off len
  cases lo <;> first | (simp only [extL] at hv; cases hv; done) | skip
  rename_i kl lo
  cases hi <;> first | (simp only [extL] at hv; cases hv; done) | skip
  rename_i kh hi
  simp only [extL] at hv
  split at hv
  · rename_i v' es hgb
    split at hv
    · rename_i hc
      simp only [Bool.and_eq_true, decide_eq_true_eq] at hc
      obtain ⟨rfl, rfl, h0, h1, h2⟩ := hc
      cases hv
      cases hx with
      | ref hw hkl hll hs ha =>
        rename_i ab ao cap a
        obtain ⟨own, Io⟩ := I
        obtain ⟨hbn, hvmax, hrow⟩ := Io.ents b _ hgb
        obtain ⟨hab, hcapl, hown, hel2⟩ := hrow _ _ _ _ hw
        have e2 := run_bound (P := P) (w := w) (d := 0) (lo := some (.int kh hi)) (x := some HI) (n := hi.toNat) (y := cap - off) (code := .sliceAcap) hhi (by simp [optBound]; omega) (by omega)
        have e1 := run_bound (P := P) (w := w) (d := 0) (lo := some (.int kl lo)) (x := some LO) (n := lo.toNat) (y := hi.toNat) (code := .sliceB) hlo (by simp [optBound]; omega) (by omega)
        have hrun : (Instr.sliceAt t (.slice (some a) len (cap - off)) (some LO) (some HI) none).run P w = .ok (.slice (if cap - off = lo.toNat then some a else (some a).map (·.add (lo.toNat * g.size))) (hi.toNat - lo.toNat) (cap - off - lo.toNat)) w := by
          have hb : (Instr.sliceBounds true len (cap - off) (some LO) (some HI) none).run P w = .ok (lo.toNat, hi.toNat, cap - off) w := by
            unfold Instr.sliceBounds
            simp at e1 e2
            simp [e1, e2]
          simp [Instr.sliceAt, Instr.slice, r_und ht, hb, r_size ok.info, ok.size]
        have hlen : (hi - lo).toNat = hi.toNat - lo.toNat := by omega
        rw [hlen]
        by_cases he : cap - off = lo.toNat
        · rw [if_pos he] at hrun
          refine ⟨_, hrun, ?_⟩
          have := VR.ref (off := off + lo.toNat) (len := hi.toNat - lo.toNat) (a := a) hw ok.pos (by omega) hs (.inl (by omega))
          rw [show cap - (off + lo.toNat) = cap - off - lo.toNat from by omega] at this
          exact this
        · rw [if_neg he] at hrun
          have ha2 := ha.resolve_left (by omega)
          subst ha2
          refine ⟨_, hrun, ?_⟩
          have := VR.ref (off := off + lo.toNat) (len := hi.toNat - lo.toNat) (a := ⟨ab, ao + (off + lo.toNat) * g.size, none⟩) hw ok.pos (by omega) rfl (.inr rfl)
          rw [show cap - (off + lo.toNat) = cap - off - lo.toNat from by omega, Nat.add_mul, ← Nat.add_assoc] at this
          show VR G _ (.slice (some (Addr.add ⟨ab, ao + off * g.size, none⟩ (lo.toNat * g.size))) _ _)
          rw [add_eq rfl]
          exact this
    · cases hv
  · cases hv

/-! Iterators over maps of one entry at most. -/
theorem mapRel_one {G : Gh} {born : Nat} {k v : CVal} {es : Array MapEntry} (h : MapRel G [(born, k, v)] es.toList) : ∃ e, es = #[e] ∧ born = e.born ∧ VR G k e.key ∧ VR G v e.val := by
  obtain ⟨l⟩ := es
  match l, h with
  | [e], h => exact ⟨e, rfl, h.2 0 _ _ rfl rfl⟩
  | [], h => exact absurd h.1 (by simp)
  | _ :: _ :: _, h => exact absurd h.1 (by simp)
theorem mapRel_nil {G : Gh} {es : Array MapEntry} (h : MapRel G [] es.toList) : es = #[] := by
  obtain ⟨l⟩ := es
  match l, h with
  | [], h => rfl
  | _ :: _, h => exact absurd h.1 (by simp)

/-- What an iterator's number says. -/
theorem iter_obj {own : Nat → Nat → Option Own} (I : InvO base G own h w) {i b ck : Nat} {st es : List (Nat × CVal × CVal)} {X : Value} (hx : VR G (.eptr i 0 b 0) X) (hi : h.get i = some (.map b st)) (hb : h.get b = some (.map ck es)) :
    ∃ ab mb since seen last E, X = .pointer (some ⟨ab, 0, none⟩) ∧ G.rw i 0 = some (ab, 0, 0, 0) ∧ G.mu i = none ∧ G.mu b = some (mb, 0) ∧ w.heap[ab]? = some (Obj.mapIter (some mb) since seen last) ∧ since ≤ last ∧ base ≤ ab ∧ (∀ z r, st = z :: r → z.1 = since) ∧ (∀ z, st = [z] → seen = #[]) ∧ (∀ z s r, st = z :: s :: r → seen = #[s.1] ∧ ∀ k n, s.2.1 = .int k n → n = (last : Int)) ∧
      w.heap[mb]? = some (Obj.map E ck) ∧ MapRel G es E.toList := by
  cases hx with
  | eptr hrw =>
    rename_i ab ao k cap
    obtain ⟨h0, hmu, ⟨mb, since, seen, last, g1, g2, g3, g4, g5, g6⟩, g7⟩ := I.its i _ hrw b st hi
    simp only [Prod.mk.injEq] at h0
    obtain ⟨rfl, rfl, rfl⟩ := h0
    obtain ⟨E, e1, e2⟩ := (I.ents b _ hb).2 mb g1
    exact ⟨ab, mb, since, seen, last, E, by simp, hrw, hmu, g1, g2, g3, g7, g4, g5, g6, e1, e2⟩

theorem l_ent {x v : CVal} {X : Value} (I : Inv base G h w) (hx : VR G x X) (hv : extL h .ent [x] = some v) : ∃ V, (Instr.entry X).run P w = .ok V w ∧ VR G v V := by
  cases x <;> first | (simp only [extL] at hv; cases hv; done) | skip
  rename_i i ver b o
  rcases ver with _ | ver <;> rcases o with _ | o <;> simp only [extL] at hv <;> first | (cases hv; done) | skip
  split at hv
  · rename_i b' z sb kk last y rest ck born k v' hgi hgb
    split at hv
    · rename_i hc
      simp only [Bool.and_eq_true, decide_eq_true_eq] at hc
      obtain ⟨rfl, rfl, hl⟩ := hc
      cases hv
      obtain ⟨own, Io⟩ := I
      obtain ⟨ab, mb, since, seen, last', E, rfl, _, _, _, g2, g3, _, g4, g5, g6, e1, e2⟩ := iter_obj Io hx hgi hgb
      obtain ⟨h1, h2⟩ := g6 _ _ _ rfl
      have h3 := h2 _ _ rfl
      obtain ⟨e, rfl, hbe, hk, hv'⟩ := mapRel_one e2
      have h4 : ck = last' := by omega
      subst h4
      rw [h1, hbe] at g2
      refine ⟨_, run_entry_at w ab mb since #[] #[e] ck e g2 e1 (by simp) (by simp), .tup rfl ?_⟩
      intro j c V hc' hV
      match j, hc', hV with
      | 0, hc', hV => cases hc'; cases hV; exact hk
      | 1, hc', hV => cases hc'; cases hV; exact hv'
      | j + 2, hc', hV => simp at hc'
    · cases hv
  · cases hv

theorem setBlock_other {w : World} {b c : Nat} {o : Obj} (h : c ≠ b) : (ChangeMaps.setBlock w b o).heap[c]? = w.heap[c]? := by
  unfold ChangeMaps.setBlock
  simp only [Array.getElem?_setIfInBounds]
  rw [if_neg (Ne.symm h)]
theorem setBlock_at {w : World} {b : Nat} {o o' : Obj} (h : w.heap[b]? = some o') : (ChangeMaps.setBlock w b o).heap[b]? = some o := by
  unfold ChangeMaps.setBlock
  have := (Array.getElem?_eq_some_iff.1 h).1
  simp [Array.getElem?_setIfInBounds, this]

/-- An iterator steps. -/
theorem post_iter {i b ab mb since last sb ck : Nat} {seen : Array Nat} {s0 : Nat × CVal × CVal} {st : List (Nat × CVal × CVal)} (I : Inv base G h w) (hab : base ≤ ab) (hi : h.get i = some (.map b st)) (hrw : G.rw i 0 = some (ab, 0, 0, 0)) (hmu : G.mu i = none) (hmb : G.mu b = some (mb, 0))
    (hw : w.heap[ab]? = some (Obj.mapIter (some mb) since seen last)) (h0 : s0.1 = since) (hck : since ≤ ck) :
    Post base (· = id) G h w G (h.set i (.map b [s0, (sb, .int .i64 ck, .undef)])) (ChangeMaps.setBlock w ab (.mapIter (some mb) since #[sb] ck)) := by
  obtain ⟨own, I⟩ := I
  have hsz : (ChangeMaps.setBlock w ab (.mapIter (some mb) since #[sb] ck)).heap.size = w.heap.size := by unfold ChangeMaps.setBlock; simp
  have hcell : ∀ a o, (ChangeMaps.setBlock w ab (.mapIter (some mb) since #[sb] ck)).cell? ⟨a, o, none⟩ = w.cell? ⟨a, o, none⟩ := fun a o => by
    unfold World.cell?
    by_cases e : a = ab
    · subst e; rw [setBlock_at hw, hw]
    · rw [setBlock_other e]
  have hfro : ∀ a o, (ChangeMaps.setBlock w ab (.mapIter (some mb) since #[sb] ck)).frozen? ⟨a, o, none⟩ = w.frozen? ⟨a, o, none⟩ := fun a o => by
    unfold World.frozen?
    by_cases e : a = ab
    · subst e; rw [setBlock_at hw, hw]
    · rw [setBlock_other e]
  have hshp : ∀ a, (ChangeMaps.setBlock w ab (.mapIter (some mb) since #[sb] ck)).shape? a = w.shape? a := fun a => by
    unfold World.shape?
    by_cases e : a = ab
    · subst e; rw [setBlock_at hw, hw]
    · rw [setBlock_other e]
  have hne : ∀ {a : Nat} {o : Obj}, w.heap[a]? = some o → (∀ m s sn l, o ≠ Obj.mapIter m s sn l) → a ≠ ab := fun h1 h2 e => by
    subst e; rw [hw] at h1; cases h1; exact h2 _ _ _ _ rfl
  have hC : Chg0 (.t i) own own w (ChangeMaps.setBlock w ab (.mapIter (some mb) since #[sb] ck)) := {
    live := fun a o hl => by obtain ⟨⟨v, hv⟩, hf⟩ := hl; exact ⟨⟨v, by rw [hcell]; exact hv⟩, by rw [hfro]; exact hf⟩
    cell := fun a o v _ hv => by rw [hcell]; exact hv
    own := fun _ _ _ _ => rfl
    ownm := fun _ _ _ h => h
    size := by rw [hsz]; exact Nat.le_refl _
    mark := fun a hc => ⟨by rw [hsz]; exact hc.1, fun st T n hs => by rw [hfro]; exact hc.2 st T n (by rw [hshp] at hs; exact hs)⟩
    shp := fun a x hs => by rw [hshp]; exact hs
    obj := fun a es ck _ he => by rw [setBlock_other (hne he (fun _ _ _ _ e => by cases e))]; exact he
    objs := fun a es ck he => ⟨es, ck, by rw [setBlock_other (hne he (fun _ _ _ _ e => by cases e))]; exact he⟩
    rowb := fun a T hr => by
      obtain ⟨c, lo, hi, he, h1, h2⟩ := hr
      exact ⟨c, lo, hi, by rw [setBlock_other (hne he (fun _ _ _ _ e => by cases e))]; exact he, h1, h2⟩
    sole := fun _ _ _ _ h => h }
  have hset : ∀ c kvs, (h.set i (.map b [s0, (sb, .int .i64 ck, .undef)])).get i = some (.map c kvs) → c = b ∧ kvs = [s0, (sb, .int .i64 ck, .undef)] := fun c kvs h1 => by
    rw [get_set, if_pos rfl, hi] at h1
    cases h1; exact ⟨rfl, rfl⟩
  refine ⟨.refl G, ⟨own, I.step0 (x := .t i) (.refl G) hC (Nat.le_refl _) (fun _ _ _ h => .inl h) (fun _ _ _ h => .inl h) (fun _ _ _ h => .inl h) (fun _ _ _ h => .inl h) ?_ ?_ (nodup_set h i _ I.nod) (fun _ _ h => .inl ⟨h, fun _ _ h => h⟩) ?_ ?_⟩, ⟨rfl, rfl, rfl, by rw [hsz]; exact Nat.le_refl _, fun k hk => setBlock_other (by omega)⟩, Nat.le_refl _, fun j _ _ hf => ?_⟩
  · intro b' q hq
    by_cases hbb : b' = i
    · subst hbb
      obtain ⟨hin, _⟩ := I.ents b' _ hi
      rw [get_set, if_pos rfl, hi] at hq
      cases hq
      exact .inr ⟨hin, fun a hm => by rw [hmu] at hm; cases hm⟩
    · rw [get_set_other hbb] at hq
      exact .inl ⟨hq, ⟨rfl, fun _ => rfl, fun _ => rfl⟩, by simp, by simp, by simp; exact fun e => hbb e.symm⟩
  · intro a j y hy; rw [hsz]; exact I.old a j y hy
  · intro j x h1 c kvs h2
    by_cases e : j = i
    · subst e
      rw [hrw] at h1; cases h1
      obtain ⟨rfl, rfl⟩ := hset c kvs h2
      exact ⟨rfl, hmu, ⟨mb, since, #[sb], ck, hmb, setBlock_at hw, hck, fun z r e => by cases e; exact h0, fun z e => by simp at e, fun z s r e => by cases e; exact ⟨rfl, fun k n e => by cases e; rfl⟩⟩, hab⟩
    · rw [get_set_other e] at h2
      obtain ⟨k1, k2, ⟨mb', s', sn', l', k3, k4, k5⟩, k6⟩ := I.its j x h1 c kvs h2
      exact ⟨k1, k2, ⟨mb', s', sn', l', k3, by rw [setBlock_other (I.itj j x i _ e h1 hrw ⟨c, kvs, h2⟩ ⟨_, _, hi⟩)]; exact k4, k5⟩, k6⟩
  · intro j x k y hjk h1 h2 h3 h4
    have old : ∀ j, (∃ c kvs, (h.set i (.map b [s0, (sb, .int .i64 ck, .undef)])).get j = some (.map c kvs)) → ∃ c kvs, h.get j = some (.map c kvs) := fun j ⟨c, kvs, h5⟩ => by
      by_cases e : j = i
      · subst e; exact ⟨_, _, hi⟩
      · rw [get_set_other e] at h5; exact ⟨c, kvs, h5⟩
    exact I.itj j x k y hjk h1 h2 (old j h3) (old k h4)
  · obtain ⟨h1, h2, h3, h4⟩ := hf
    exact ⟨h1, h2, h3, by rw [get_set_other (fun e => by rw [e, hi] at h4; cases h4)]; exact h4⟩

theorem e_nxt {ty : TypeId} {x v : CVal} {X : Value} {h' : CHeap} (I : Inv base G h w) (hx : VR G x X) (hv : extE h id .nxt [x] = some (v, h')) : OutE P base G h id v h' (do pure (.value (← Instr.next X false ty))) w := by
  cases x <;> first | (simp only [extE] at hv; cases hv; done) | skip
  rename_i i ver b o
  rcases ver with _ | ver <;> rcases o with _ | o <;> simp only [extE] at hv <;> first | (cases hv; done) | skip
  split at hv
  · rename_i b' st ck es hgi hgb
    split at hv
    · rename_i hbb
      subst hbb
      have I0 := I
      obtain ⟨own, Io⟩ := I
      obtain ⟨ab, mb, since, seen, last, E, rfl, hrw, hmu, hmb, g2, g3, g7, g4, g5, g6, e1, e2⟩ := iter_obj Io hx hgi hgb
      split at hv
      · -- not stepped, empty
        rename_i s0
        cases hv
        have := mapRel_nil e2
        subst this
        rcases run_next_at w ty ab mb since last seen #[] ck g2 e1 (by simp) g3 with ⟨_, hr⟩ | ⟨e, he, _⟩
        · exact .inl ⟨_, w, by rw [Sem.run_bind, hr]; rfl, G, .tup rfl (VRs.cons (.bool false) (VRs.nil G)).2, .refl I0⟩
        · simp [leftOf] at he
      · -- not stepped, one entry
        rename_i s0 born k v'
        split at hv
        · rename_i hlt
          simp only [Bool.and_eq_true, decide_eq_true_eq] at hlt
          obtain ⟨hlt, hcks⟩ := hlt
          cases hv
          obtain ⟨e, rfl, rfl, hk, hv'⟩ := mapRel_one e2
          have hs : seen = #[] := g5 _ rfl
          have h0 := g4 _ _ rfl
          subst hs
          have hold : ∀ x ∈ (#[e] : Array MapEntry).toList, x.born < since := fun x hx => by simp at hx; subst hx; omega
          rcases run_next_at w ty ab mb since last #[] #[e] ck g2 e1 hold g3 with ⟨h1, _⟩ | ⟨e', he, w1, hw1, hr⟩
          · simp [leftOf] at h1
          · have : e' = e := by simpa [leftOf] using he
            subst this
            refine .inl ⟨_, _, by rw [Sem.run_bind, hr]; rfl, G, .tup rfl (VRs.cons (.bool true) (VRs.cons hk (VRs.cons hv' (VRs.nil G)))).2, ?_⟩
            have hsc : since ≤ ck := by omega
            rcases hw1 with rfl | rfl
            · exact post_iter I0 g7 hgi hrw hmu hmb g2 h0 hsc
            · exact Post.drewL (post_iter I0.drew g7 hgi hrw hmu hmb g2 h0 hsc)
        · cases hv
      · -- stepped, gone
        cases hv
        have := mapRel_nil e2
        subst this
        rcases run_next_at w ty ab mb since last seen #[] ck g2 e1 (by simp) g3 with ⟨_, hr⟩ | ⟨e, he, _⟩
        · exact .inl ⟨_, w, by rw [Sem.run_bind, hr]; rfl, G, .tup rfl (VRs.cons (.bool false) (VRs.nil G)).2, .refl I0⟩
        · simp [leftOf] at he
      · -- stepped, there
        rename_i s0 sb kk lst y born k v'
        split at hv
        · rename_i hc
          simp only [Bool.and_eq_true, decide_eq_true_eq] at hc
          obtain ⟨rfl, hlt, _⟩ := hc
          cases hv
          obtain ⟨e, rfl, rfl, hk, hv'⟩ := mapRel_one e2
          obtain ⟨hs, _⟩ := g6 _ _ _ rfl
          have h0 := g4 _ _ rfl
          subst hs
          have hold : ∀ x ∈ (#[e] : Array MapEntry).toList, x.born < since := fun x hx => by simp at hx; subst hx; omega
          rcases run_next_at w ty ab mb since last #[e.born] #[e] ck g2 e1 hold g3 with ⟨_, hr⟩ | ⟨e', he, _⟩
          · exact .inl ⟨_, w, by rw [Sem.run_bind, hr]; rfl, G, .tup rfl (VRs.cons (.bool false) (VRs.nil G)).2, .refl I0⟩
          · simp [leftOf] at he
        · cases hv
      · cases hv
    · cases hv
  · cases hv

/-- A new iterator. -/
theorem post_newiter (I : Inv base G h w) (hf : Fresh G h id) (hid : id < h.next) {b mb ck : Nat} (hmb : G.mu b = some (mb, 0)) :
    Post base (· = id) G h w (G.withRw id 0 (w.heap.size, 0, 0, 0)) (h.put id (.map b [(ck, .undef, .undef)])) (w.alloc (.mapIter (some mb) ck #[] ck)) := by
  obtain ⟨own, I⟩ := I
  have hle : G.le (G.withRw id 0 (w.heap.size, 0, 0, 0)) := le_withRw (hf.2.1 0)
  have hbi : ∀ {j : Nat} {x : Nat × Nat × Nat × Nat}, G.rw j 0 = some x → j ≠ id := fun h1 e => by subst e; rw [hf.2.1 0] at h1; cases h1
  have hold : ∀ {ab : Nat} {o : Obj}, w.heap[ab]? = some o → (w.alloc (Obj.mapIter (some mb) ck #[] ck)).heap[ab]? = some o := fun {ab o} he => by
    rw [Below.heap_alloc _ _ _ (Array.getElem?_eq_some_iff.1 he).1]; exact he
  have htyf := I.ty_fresh hf
  refine ⟨hle, ⟨_, I.step0 (LR := fun c v y hy => lr_withRw (.inl (Nat.le_refl _)) hy) (own' := fun a i => if a = w.heap.size then none else own a i) (x := .r id) hle (chg_allocO I _ (fun _ => none) _).toChg0 (Nat.le_refl _) (fun _ _ _ h => .inl h) (fun _ _ _ h => .inl h) ?_ (fun _ _ _ h => .inl h) ?_ ?_ (nodup_put I.nod hf.2.2.2) ?_ ?_ ?_⟩, (Below.refl _ _).alloc I.top _, Nat.le_refl _, fun i hi hne hfr => ?_⟩
  · intro c v y hy
    by_cases hc : c = id
    · subst hc
      by_cases hv : v = 0
      · subst hv
        rw [withRw_self] at hy
        cases hy
        refine .inr ⟨hid, by show w.heap.size < (w.heap.push _).size; rw [Array.size_push]; omega, fun st T n hs => ?_⟩
        unfold World.shape? at hs
        rw [heap_new] at hs
        cases hs
      · have hy : (if c = c ∧ v = 0 then some (w.heap.size, 0, 0, 0) else G.rw c v) = some y := hy
        rw [if_neg (fun e => hv e.2), hf.2.1 v] at hy; cases hy
    · rw [withRw_other hc] at hy; exact .inl hy
  · intro c o hc
    by_cases hci : c = id
    · subst hci
      rw [put_self] at hc
      cases hc
      exact .inr ⟨hid, fun a hm => by have hm : G.mu c = some (a, 0) := hm; rw [hf.1] at hm; cases hm⟩
    · rw [put_other hci] at hc
      exact .inl ⟨hc, ⟨rfl, fun v => withRw_other hci, fun _ => rfl⟩, by simp, by simp; exact fun e => hci e.symm, by simp⟩
  · intro a o y ho
    show a < (w.heap.push _).size
    rw [Array.size_push]
    have ho : (if a = w.heap.size then none else own a o) = some y := ho
    split at ho
    · cases ho
    · have := I.old _ _ _ ho; omega
  · intro c T hc
    have hc0 : h.ty c = some T := hc
    have hci : c ≠ id := fun e => by rw [e, htyf] at hc0; cases hc0
    exact .inl ⟨hc0, fun v y hy => by rw [withRw_other hci] at hy; exact hy⟩
  · intro j x h1 c kvs h2
    by_cases e : j = id
    · subst e
      rw [withRw_self] at h1
      cases h1
      rw [put_self] at h2
      cases h2
      exact ⟨rfl, hf.1, ⟨mb, ck, #[], ck, hmb, heap_new _, Nat.le_refl _, fun z r e => by cases e; rfl, fun _ _ => rfl, fun z s r e => by simp at e⟩, I.top⟩
    · rw [withRw_other e] at h1
      rw [put_other e] at h2
      obtain ⟨k1, k2, ⟨mb', s', sn', l', k3, k4, k5⟩, k6⟩ := I.its j x h1 c kvs h2
      exact ⟨k1, k2, ⟨mb', s', sn', l', k3, hold k4, k5⟩, k6⟩
  · intro j x k y hjk h1 h2 h3 h4
    have lt : ∀ {j x}, j ≠ id → G.rw j 0 = some x → (∃ c kvs, (h.put id (.map b [(ck, .undef, .undef)])).get j = some (.map c kvs)) → x.1 < w.heap.size := fun hj h5 ⟨c, kvs, h6⟩ => by
      rw [put_other hj] at h6
      obtain ⟨_, _, ⟨_, _, _, _, _, k4, _⟩, _⟩ := I.its _ _ h5 c kvs h6
      exact (Array.getElem?_eq_some_iff.1 k4).1
    by_cases e : j = id
    · subst e
      have hk : k ≠ j := Ne.symm hjk
      rw [withRw_self] at h1
      rw [withRw_other hk] at h2
      cases h1
      exact Nat.ne_of_gt (lt hk h2 h4)
    · rw [withRw_other e] at h1
      by_cases e2 : k = id
      · subst e2
        rw [withRw_self] at h2
        cases h2
        exact Nat.ne_of_lt (lt e h1 h3)
      · rw [withRw_other e2] at h2
        obtain ⟨c, kvs, h5⟩ := h3
        obtain ⟨c2, kvs2, h6⟩ := h4
        rw [put_other e] at h5
        rw [put_other e2] at h6
        exact I.itj j x k y hjk h1 h2 ⟨c, kvs, h5⟩ ⟨c2, kvs2, h6⟩
  · obtain ⟨h1, h2, h3, h4⟩ := hfr
    exact ⟨h1, fun v => by rw [withRw_other hne]; exact h2 v, h3, by rw [put_other hne]; exact h4⟩

theorem e_rng {t kt et : TypeId} {m v : CVal} {M : Value} {h' : CHeap} (I : Inv base G h w) (hf : Fresh G h id) (hid : id < h.next) (ht : P.underlying t = some (.map kt et)) (hm : VR G m M) (hv : extE h id .rng [m] = some (v, h')) : OutE P base G h id v h' (do pure (.value (← Instr.range t M))) w := by
  cases m <;> simp only [extE] at hv <;> first | (cases hv; done) | skip
  rename_i b
  split at hv
  · rename_i ck kvs hg
    split at hv
    · obtain ⟨ab, es, rfl, hmu, hheap, hrel⟩ := map_obj I hm hg
      cases hv
      refine .inl ⟨_, _, by rw [Sem.run_bind, run_range_map w t kt et ab es ck ht hheap]; rfl, G.withRw id 0 (w.heap.size, 0, 0, 0), ?_, post_newiter I hf hid hmu⟩
      have := VR.eptr (G := G.withRw id 0 (w.heap.size, 0, 0, 0)) (b := id) (ver := 0) (i := b) (o := 0) (withRw_self G id 0 (w.heap.size, 0, 0, 0))
      simpa using this
    · cases hv
  · cases hv

/-- A literal's row in a new block, that nobody writes. -/
theorem post_newlit (I : Inv base G h w) (hf : Fresh G h id) (hid : id < h.next) (arr : Array Value) (T : TypeId) (cs : List CVal) (hc : ∀ (i : Nat) (c : CVal), cs[i]? = some c → ∃ v, arr[i]? = some v ∧ VR G c v) :
    Post base (· = id) G h w ((G.withFz w.heap.size cs).withTk id 0 (w.heap.size, 0, 0, 0)) h (w.alloc (.cells arr T (0, 0))) := by
  obtain ⟨own, I⟩ := I
  have hle1 : G.le (G.withFz w.heap.size cs) := ⟨fun b o c hb => by
    obtain ⟨_, v, hv, _⟩ := I.fzs b o c hb
    show (if b = w.heap.size then cs[o]? else G.fz b o) = some c
    rw [if_neg (by have := cell_lt hv; omega)]; exact hb, fun _ _ h => h, fun _ _ _ h => h, fun _ _ _ h => h⟩
  have hle : G.le ((G.withFz w.heap.size cs).withTk id 0 (w.heap.size, 0, 0, 0)) := hle1.trans (le_withTk (by show G.tk id 0 = none; exact hf.2.2.1 0))
  have hLT : ∀ b x, ((G.withFz w.heap.size cs).withTk id 0 (w.heap.size, 0, 0, 0)).tk b 0 = some x → x.2.2.1 = 0 → G.tk b 0 = some x ∨ (base ≤ x.1 ∧ x.1 < (w.alloc (.cells arr T (0, 0))).heap.size ∧ (∀ i, (fun a i => if a = w.heap.size then none else own a i) x.1 i = none) ∧ ∀ c v y, ((G.withFz w.heap.size cs).withTk id 0 (w.heap.size, 0, 0, 0)).rw c v = some y → y.1 ≠ x.1) := fun b x hx hz => by
    have hx : (if b = id ∧ 0 = 0 then some (w.heap.size, 0, 0, 0) else G.tk b 0) = some x := hx
    split at hx
    · cases hx
      refine .inr ⟨I.top, ?_, fun i => ?_, fun c v y hy => ?_⟩
      · show w.heap.size < (w.heap.push _).size
        rw [Array.size_push]; omega
      · show (if w.heap.size = w.heap.size then none else own w.heap.size i) = none
        rw [if_pos rfl]
      · have hy : G.rw c v = some y := hy
        have := (I.cln c v y hy).1
        show y.1 ≠ w.heap.size
        omega
    · exact .inl hx
  refine ⟨hle, ⟨_, I.step (LT := hLT) (own' := fun a i => if a = w.heap.size then none else own a i) (x := .m h.next) hle (chg_alloc I arr T (0, 0) (fun _ => none) _) (Nat.le_refl _) ?_ (fun b ab k hm => .inl hm) (fun b v y hy => .inl hy) ?_ ?_ ?_ I.nod (fun _ _ h => .inl ⟨h, fun _ _ h => h⟩)⟩, (Below.refl _ _).alloc I.top _, Nat.le_refl _,
    fun i _ hne hfr => ⟨hfr.1, hfr.2.1, fun v => by rw [withTk_other hne]; exact hfr.2.2.1 v, hfr.2.2.2⟩⟩
  · intro ab o c hf'
    have hf' : (if ab = w.heap.size then cs[o]? else G.fz ab o) = some c := hf'
    by_cases hab : ab = w.heap.size
    · refine .inr ⟨by simp [hab], ?_⟩
      rw [if_pos hab] at hf'
      obtain ⟨v, hv, hr⟩ := hc o c hf'
      exact ⟨v, by rw [hab, cell_new]; exact hv, hr.mono hle⟩
    · rw [if_neg hab] at hf'; exact .inl hf'
  · intro b v y hy
    by_cases hb : b = id
    · exact .inr (by omega)
    · rw [withTk_other hb] at hy; exact .inl hy
  · intro b o hb
    have hbi : b ≠ id := fun e => by subst e; rw [hf.2.2.2] at hb; cases hb
    have := (I.ents b o hb).1
    exact .inl ⟨hb, ⟨rfl, fun _ => rfl, fun v => withTk_other hbi⟩, by simp; omega, by simp, by simp⟩
  · intro ab o y ho
    show ab < (w.heap.push _).size
    rw [Array.size_push]
    have ho : (if ab = w.heap.size then none else own ab o) = some y := ho
    split at ho
    · cases ho
    · have := I.old _ _ _ ho; omega

/-- A block of which nobody owns a cell gets a mark. -/
theorem post_mark (I : Inv base G h w) (ex : Nat → Prop) {i ab : Nat} (ht : G.tk i 0 = some (ab, 0, 0, 0)) (o n : Nat) : Post base ex G h w G h (w.freeze ⟨ab, o, none⟩ n) := by
  by_cases hn : n = 0
  · have : w.freeze ⟨ab, o, none⟩ n = w := by unfold World.freeze; rw [if_pos hn]
    rw [this]
    exact ⟨.refl G, I, .refl _ _, Nat.le_refl _, fun _ _ _ hf => hf⟩
  obtain ⟨own, I⟩ := I
  obtain ⟨hab, _, hown, hrw⟩ := I.lits i _ ht rfl
  have hab : base.n ≤ ab := hab
  have hb : Below base w (w.freeze ⟨ab, o, none⟩ n) := by
    unfold World.freeze
    rw [if_neg hn]
    exact ⟨rfl, rfl, rfl, by simp, fun k hk => by
      simp only [Array.getElem?_modify]
      rw [if_neg (by omega)]⟩
  have hsz : (w.freeze ⟨ab, o, none⟩ n).heap.size = w.heap.size := by unfold World.freeze; split <;> simp
  have ho : ∀ a, a ≠ ab → (w.freeze ⟨ab, o, none⟩ n).heap[a]? = w.heap[a]? := fun a ha => by
    unfold World.freeze
    rw [if_neg hn]
    simp only [Array.getElem?_modify]
    rw [if_neg (fun e => ha e.symm)]
  have hs : (w.freeze ⟨ab, o, none⟩ n).heap[ab]? = w.heap[ab]?.map fun
      | .cells c elem (lo, hi) => .cells c elem (if lo == hi then (o, o + n) else (min lo o, max hi (o + n)))
      | o => o := by
    unfold World.freeze
    rw [if_neg hn]
    simp only [Array.getElem?_modify, if_true]
    rfl
  have hcell : ∀ a j, (w.freeze ⟨ab, o, none⟩ n).cell? ⟨a, j, none⟩ = w.cell? ⟨a, j, none⟩ := fun a j => by
    unfold World.cell?
    by_cases ha : a = ab
    · subst ha
      simp only [hs]
      cases w.heap[a]? with
      | none => rfl
      | some q => cases q <;> rfl
    · simp only [ho a ha]
  have hshape : ∀ a, (w.freeze ⟨ab, o, none⟩ n).shape? a = w.shape? a := fun a => by
    unfold World.shape?
    by_cases ha : a = ab
    · subst ha
      simp only [hs]
      cases w.heap[a]? with
      | none => rfl
      | some q => cases q <;> rfl
    · simp only [ho a ha]
  have hfr : ∀ a j, a ≠ ab → (w.freeze ⟨ab, o, none⟩ n).frozen? ⟨a, j, none⟩ = w.frozen? ⟨a, j, none⟩ := fun a j ha => by
    unfold World.frozen?
    simp only [ho a ha]
  have hmap : ∀ (a : Nat) (es : Array MapEntry) (ck : Nat), w.heap[a]? = some (Obj.map es ck) → (w.freeze ⟨ab, o, none⟩ n).heap[a]? = some (Obj.map es ck) := fun a es ck hm => by
    by_cases ha : a = ab
    · subst ha; rw [hs, hm]; rfl
    · rw [ho a ha]; exact hm
  have hitr : ∀ (a : Nat) (m : Option Nat) (s : Nat) (sn : Array Nat) (l : Nat), w.heap[a]? = some (Obj.mapIter m s sn l) → (w.freeze ⟨ab, o, none⟩ n).heap[a]? = some (Obj.mapIter m s sn l) := fun a m s sn l hm => by
    by_cases ha : a = ab
    · subst ha; rw [hs, hm]; rfl
    · rw [ho a ha]; exact hm
  have hlive : ∀ a j y, own a j = some y → Live w a j → Live (w.freeze ⟨ab, o, none⟩ n) a j := fun a j y hy hl => by
    have ha : a ≠ ab := fun e => by subst e; rw [hown j] at hy; cases hy
    exact ⟨by obtain ⟨v, hv⟩ := hl.1; exact ⟨v, by rw [hcell]; exact hv⟩, by rw [hfr a j ha]; exact hl.2⟩
  have hh : ∀ a j x, Holds G w a j x → Holds G (w.freeze ⟨ab, o, none⟩ n) a j x := fun a j x ⟨v, h1, h2⟩ => ⟨v, by rw [hcell]; exact h1, h2⟩
  refine ⟨.refl G, ⟨own, ?_⟩, hb, Nat.le_refl _, fun _ _ _ hf => hf⟩
  exact {
    fzs := fun a o c hf => ⟨(I.fzs a o c hf).1, hh _ _ _ (I.fzs a o c hf).2⟩
    mus := fun b' a k' hm => by
      obtain ⟨h1, h2, h3, h4⟩ := I.mus b' a k' hm
      refine ⟨h1, h2, fun i hi => ⟨(h3 i hi).1, hlive _ _ _ (h3 i hi).1 (h3 i hi).2⟩, fun hk => ⟨(h4.1 hk).1, ?_⟩, fun hk => by rw [hshape]; exact h4.2 hk⟩
      obtain ⟨es, ck, h5⟩ := (h4.1 hk).2
      exact ⟨es, ck, hmap _ _ _ h5⟩
    rws := I.rws
    tks := I.tks
    ents := fun b' q hq => by
      obtain ⟨h1, h2⟩ := I.ents b' q hq
      refine ⟨h1, ?_⟩
      cases q with
      | cells cs => exact fun ab k hm => ⟨(h2 ab k hm).1, fun i c hi => ⟨((h2 ab k hm).2 i c hi).1, hh _ _ _ ((h2 ab k hm).2 i c hi).2⟩⟩
      | row ver es => exact ⟨h2.1, fun ab ao k cap hr => let ⟨x1, x2, x3, x4⟩ := h2.2 ab ao k cap hr; ⟨x1, x2, fun i hi => ⟨(x3 i hi).1, hlive _ _ _ (x3 i hi).1 (x3 i hi).2⟩, fun i e hie => ⟨(x4 i e hie).1, fun j c hj => ⟨((x4 i e hie).2 j c hj).1, hh _ _ _ ((x4 i e hie).2 j c hj).2⟩⟩⟩⟩
      | frow ver es => exact ⟨h2.1, fun ab ao k cap hr => let ⟨x1, x2, x3, x4⟩ := h2.2 ab ao k cap hr; ⟨x1, x2, fun i hi => ⟨(x3 i hi).1, by rw [hsz]; exact (x3 i hi).2⟩, fun i e hie => ⟨(x4 i e hie).1, fun j c hj => ⟨((x4 i e hie).2 j c hj).1, hh _ _ _ ((x4 i e hie).2 j c hj).2⟩⟩⟩⟩
      | tok ver => exact ⟨h2.1, fun ab e k room ht => ⟨(h2.2 ab e k room ht).1, fun i hi => ⟨((h2.2 ab e k room ht).2 i hi).1, hlive _ _ _ ((h2.2 ab e k room ht).2 i hi).1 ((h2.2 ab e k room ht).2 i hi).2⟩⟩⟩
      | map ck kvs => exact fun ab hm => let ⟨es, h3, h4⟩ := h2 ab hm; ⟨es, hmap _ _ _ h3, h4⟩
    old := fun ab o x hx => by rw [hsz]; exact I.old ab o x hx
    top := by rw [hsz]; exact I.top
    nod := I.nod
    cln := fun b v x hx => by
      obtain ⟨h1, h2⟩ := I.cln b v x hx
      have ha : x.1 ≠ ab := hrw b v x hx
      exact ⟨by rw [hsz]; exact h1, fun st T N hq => by rw [hfr _ _ ha]; exact h2 st T N (by rw [← hshape]; exact hq)⟩
    gls := I.gls
    tyk := I.tyk
    tys := fun b T ht v x hx => ⟨by
      obtain ⟨c, lo, hi, h1, h2⟩ := (I.tys b T ht v x hx).1
      exact ⟨c, lo, hi, by rw [ho _ (hrw b v x hx)]; exact h1, h2⟩, (I.tys b T ht v x hx).2⟩
    its := fun i x h1 b kvs h2 => by
      obtain ⟨k1, k2, ⟨mb, s, sn, l, k3, k4, k5⟩, k6⟩ := I.its i x h1 b kvs h2
      exact ⟨k1, k2, ⟨mb, s, sn, l, k3, hitr _ _ _ _ _ k4, k5⟩, k6⟩
    itj := I.itj
    lits := fun b x ht hx => by rw [hsz]; exact I.lits b x ht hx }

theorem e_blit {t e : TypeId} {g : ElemInfo} {len : Nat} {ps : List (Nat × COpnd)} {Ps : Array (Nat × Operand)} {ev : COpnd → CVal} {ρ : Operand → Value} {v : CVal} {h' : CHeap} (I : Inv base G h w) (hfr : Fresh G h id) (hid : id < h.next) (ht : P.underlying t = some (.slice e)) (hg : infoOf P e = some g) (hlen : len * g.size ≤ 16777216)
    (hp : Both (fun p Q => p.1 = Q.1 ∧ VR G (ev p.2) (ρ Q.2)) ps Ps.toList) (hv : extE h id (.blit g.agg g.zero len (ps.map (·.1))) ((ps.map (·.2)).map ev) = some (v, h')) :
    OutE P base G h id v h' (do pure (.value (← Instr.buildSlice t len (Ps.map fun (i, x) => (i, ρ x))))) w := by
  obtain ⟨i, d, z, ok⟩ := infoOf_ok hg
  simp only [extE] at hv
  have hz : (ps.map (·.1)).zip (((ps.map (·.2)).map ev).map CVal.bare) = ps.map fun p => (p.1, (ev p.2).bare) := by
    rw [List.map_map, List.map_map, List.zip_map']
    rfl
  rw [hz, ok.len] at hv
  obtain ⟨es, hes, hvh⟩ := Option.map_eq_some_iff.1 hv
  cases hvh
  have hk0 : AllK g.size (List.replicate len (mkElem g.agg g.zero)) := by
    intro e he; rw [(List.mem_replicate.1 he).2, elem_cells ok, ok.len]
  have hf0 : ∀ e ∈ List.replicate len (mkElem g.agg g.zero), ∀ c ∈ e.cells, c.flat = true := by
    intro e he; rw [(List.mem_replicate.1 he).2, elem_cells ok]; exact ok.flat
  obtain ⟨arr, h1, h2, h3, h4, h5⟩ := fill_elems g.size ok.pos ev ρ ps Ps.toList _ _ es hp hk0 (zero_row ok G len) hf0 hes
  rw [List.length_replicate] at h5
  have hrun := run_buildSlice (w := w) (Ps := Ps.map fun (i, x) => (i, ρ x)) ht ok hlen (by rw [Array.toList_map]; exact h1)
  refine .inl ⟨_, _, by rw [Sem.run_bind, hrun]; rfl, _, ?_, post_newlit I hfr hid arr e (flatC es) (fun j c hc => by
    have hj : j < arr.toList.length := by rw [← h3.1]; exact (List.getElem?_eq_some_iff.1 hc).1
    exact ⟨arr.toList[j], by rw [← Array.getElem?_toList]; exact List.getElem?_eq_getElem hj, h3.2 j c _ hc (List.getElem?_eq_getElem hj)⟩)⟩
  have := VR.imm (G := (G.withFz w.heap.size (flatC es)).withTk id 0 (w.heap.size, 0, 0, 0)) (t := .lit id) (k := g.size) (es := es) (a := ⟨w.heap.size, 0, none⟩) (cap := len) rfl ok.pos (by omega) (fun i e he => froz_new h2 h4 w.heap.size i e he) ⟨withTk_self _ _ _ _, h5.symm⟩
  rw [h5] at this
  exact this

theorem e_cvb {s d e : TypeId} {x v : CVal} {X : Value} {h' : CHeap} (I : Inv base G h w) (hs : P.underlying s = some (.slice e)) (hd : s = d) (he : P.underlying e = some (.int .u8)) (hx : VR G x X) (hv : extE h id .cvb [x] = some (v, h')) : OutE P base G h id v h' (do pure (.value (← convert s d X))) w := by
  subst hd
  cases x with
  | imm t k es =>
    cases t with
    | lit li =>
      simp only [extE] at hv
      cases hv
      cases hx with
      | imm hsp hk hcap hfz htg =>
        rename_i a cap
        obtain ⟨ht, hce⟩ := htg
        have hrun : (convert s s (.slice (some a) es.length cap)).run P w = .ok (.slice (some a) es.length cap) (match w.shape? a.block with | some (_, n) => w.freeze ⟨a.block, n, none⟩ 1 | none => w) := by
          simp [convert, r_und hs, r_und he, markStringish]
          cases w.shape? a.block with
          | none => rfl
          | some q => rfl
        refine .inl ⟨_, _, by rw [Sem.run_bind, hrun]; rfl, G, .imm hsp hk hcap hfz hce, ?_⟩
        split
        · exact post_mark I _ ht _ _
        · exact ⟨.refl G, I, .refl _ _, Nat.le_refl _, fun _ _ _ hf => hf⟩
    | _ => simp [extE] at hv
  | _ => simp [extE] at hv

theorem simLX {E : Env} {dsts : List (Option Tmp)} {o : Oper} {c : COp} {ev : COpnd → CVal} {ρ : Operand → Value} {v : CVal} (hE : E.P = P) (hc : cextra E dsts o.op = some c) (hcls : c.cls = .l)
    (hr : ORel G E dsts ev ρ) (hv : evalL ev h c = some v) (I : Inv base G h w) : ∃ u, (execOp ρ o).run P w = .ok (.value u) w ∧ VR G v u := by
  subst hE
  obtain ⟨dst, op, type, pos, after, guard⟩ := o
  cases op <;> simp only [cextra] at hc <;> first | (cases hc; done) | skip
  case makeMap t r =>
    cases r with
    | some r => simp only at hc; cases hc
    | none =>
      simp only at hc
      split at hc
      · cases hc; simp [COp.cls] at hcls
      · cases hc
  case lookup t m k ok =>
    split at hc
    · rename_i kt et xs ht hxs
      split at hc
      · rename_i kk z hkk hz
        cases hc
        obtain ⟨x, y, hxy, h1, h2⟩ := run_copnds2 hr hxs
        simp only [evalL, hxy] at hv
        obtain ⟨u, hu, huv⟩ := l_look I ht hkk hz h1 h2 hv
        exact ⟨u, by simp [execOp, hu], huv⟩
      · cases hc
    · cases hc
  case binOp op t x y z =>
    split at hc
    · rename_i ms xs ht hxs
      have fin : ∀ neg, op = (if neg then .neq else .eql) → c = .extl (.ieq neg (E.H.ifts.filterMap (intType E.P))) xs → ∃ u, (execOp ρ ⟨dst, .binOp op t x y z, type, pos, after, guard⟩).run E.P w = .ok (.value u) w ∧ VR G v u := fun neg hop he => by
        subst he
        obtain ⟨a, b, hab, h1, h2⟩ := run_copnds2 hr hxs
        simp only [evalL, hab] at hv
        obtain ⟨u, hu, huv⟩ := l_ieq ht h1 h2 hv (A := x) (B := y) hop
        exact ⟨u, by simp only [execOp]; rw [Sem.run_bind, hu]; rfl, huv⟩
      cases op <;> simp only at hc <;> first | (cases hc; done) | skip
      · cases hc; exact fin false rfl rfl
      · cases hc; exact fin true rfl rfl
    · rename_i fs xs ht hxs
      split at hc
      · rename_i l hl
        split at hc
        · cases hc
        · rename_i hsg
          simp only [Bool.or_eq_true, not_or, Bool.not_eq_true] at hsg
          have fin : ∀ neg, op = (if neg then .neq else .eql) → c = .extl (.aeq neg l) xs → ∃ u, (execOp ρ ⟨dst, .binOp op t x y z, type, pos, after, guard⟩).run E.P w = .ok (.value u) w ∧ VR G v u := fun neg hop he => by
            subst he
            obtain ⟨a, b, hab, h1, h2⟩ := run_copnds2 hr hxs
            simp only [evalL, hab] at hv
            obtain ⟨u, hu, huv⟩ := l_aeq ht hl hsg.1 hsg.2 h1 h2 hv (A := x) (B := y) hop
            exact ⟨u, by simp only [execOp]; rw [Sem.run_bind, hu]; rfl, huv⟩
          cases op <;> simp only at hc <;> first | (cases hc; done) | skip
          · cases hc; exact fin false rfl rfl
          · cases hc; exact fin true rfl rfl
      · cases hc
    · cases hc
  case call cl =>
    obtain ⟨cal, args, argTypes⟩ := cl
    simp only at hc
    split at hc
    · skip
      split at hc
      · rename_i t x hat har
        split at hc
        · rename_i kt et xs ht hxs
          cases hc
          obtain ⟨y, hy, h1⟩ := run_copnds1 hr hxs
          simp only [evalL, hy] at hv
          have ha : args = #[x] := by obtain ⟨l⟩ := args; simp at har; rw [har]
          have hb : argTypes = #[t] := by obtain ⟨l⟩ := argTypes; simp at hat; rw [hat]
          subst ha; subst hb
          cases y <;> simp only [extL] at hv <;> first | (cases hv; done) | skip
          · cases hv
            generalize hz : ρ x = z at h1
            cases h1
            exact ⟨.int .i64 0, by simp [execOp, resolve, invoke, builtin, Builtin.len_, r_und ht, hz, goInt], .int _ _⟩
          · rename_i b
            split at hv
            · rename_i ck kvs hg
              cases hv
              obtain ⟨ab, es, hM, hmu, hheap, hrel⟩ := map_obj I h1 hg
              have hgo := MapKept.run_getObj_map (P := E.P) hheap
              refine ⟨.int .i64 es.size, by simp [execOp, resolve, invoke, builtin, Builtin.len_, r_und ht, hM, hgo, goInt, Result.andThen], ?_⟩
              have : kvs.length = es.size := by rw [hrel.1, Array.length_toList]
              rw [this]; exact .int _ _
            · cases hv
        · cases hc
      · cases hc
    · skip
      split at hc
      · rename_i t x hat har
        split at hc
        · rename_i et xs ht hxs
          cases hc
          obtain ⟨y, hy, h1⟩ := run_copnds1 hr hxs
          simp only [evalL, hy] at hv
          have ha : args = #[x] := by obtain ⟨l⟩ := args; simp at har; rw [har]
          have hb : argTypes = #[t] := by obtain ⟨l⟩ := argTypes; simp at hat; rw [hat]
          subst ha; subst hb
          cases y <;> simp only [extL] at hv <;> first | (cases hv; done) | skip
          · cases hv
            generalize hz : ρ x = z at h1
            cases h1
            exact ⟨.int .i64 0, by simp [execOp, resolve, invoke, builtin, Builtin.cap_, r_und ht, hz, goInt], .int _ _⟩
          · rename_i tg k es
            cases tg <;> simp only at hv <;> first | (cases hv; done) | skip
            cases hv
            generalize hz : ρ x = z at h1
            cases h1 with
            | imm hs hk hcp hf htg =>
              rename_i a cap
              have htg : cap = es.length := htg
              subst htg
              exact ⟨.int .i64 es.length, by simp [execOp, resolve, invoke, builtin, Builtin.cap_, r_und ht, hz, goInt], .int _ _⟩
        · cases hc
      · cases hc
    · split at hc
      · split at hc
        · split at hc
          · cases hc; simp [COp.cls] at hcls
          · cases hc
        · cases hc
      · cases hc
    · split at hc
      · split at hc
        · split at hc
          · cases hc; simp [COp.cls] at hcls
          · cases hc
        · cases hc
      · cases hc
    · split at hc
      · split at hc
        · split at hc
          · split at hc
            · cases hc; simp [COp.cls] at hcls
            · cases hc
          · cases hc
        · cases hc
      · cases hc
    · cases hc
  case entry x =>
    split at hc
    · rename_i xs hxs
      cases hc
      obtain ⟨a, hab, h1⟩ := run_copnds1 hr hxs
      simp only [evalL, hab] at hv
      obtain ⟨V, hV, hR⟩ := l_ent (P := E.P) I h1 hv
      exact ⟨V, by simp [execOp, hV], hR⟩
    · cases hc
  case next x s =>
    cases s <;> simp only [cextra] at hc <;> first | (cases hc; done) | skip
    exfalso
    split at hc
    · cases hc; simp [COp.cls] at hcls
    · cases hc
  case slice t x lo hi mx =>
    cases lo <;> cases hi <;> cases mx <;> simp only [cextra] at hc <;> first | (cases hc; done) | skip
    · rename_i lo hi
      split at hc
      · rename_i e xs ht hxs
        split at hc
        · rename_i g hg
          cases hc
          obtain ⟨a, b, d, hab, h1, h2, h3⟩ := run_copnds3 hr hxs
          simp only [evalL, hab] at hv
          obtain ⟨V, hV, hR⟩ := l_slcx I ht hg h1 h2 h3 hv
          exact ⟨V, by simp [execOp, hV], hR⟩
        · cases hc
      · cases hc
    · exfalso
      split at hc
      · split at hc
        · cases hc; simp [COp.cls] at hcls
        · cases hc
      · cases hc
  all_goals
    exfalso
    revert hcls
    repeat' (split at hc)
    all_goals first
      | (cases hc; done)
      | (cases hc; simp [COp.cls]; done)

theorem simEX {E : Env} {dsts : List (Option Tmp)} {o : Oper} {c : COp} {cf : Nat → List CVal → CHeap → Option (CVal × CHeap)} {ev : COpnd → CVal} {ρ : Operand → Value} {v : CVal} {h' : CHeap} (hE : E.P = P) (hc : cextra E dsts o.op = some c) (hcls : c.cls = .e)
    (hr : ORel G E dsts ev ρ) (hv : evalE cf ev h id c = some (v, h')) (I : Inv base G h w) (hid : id < h.next) (hf : Fresh G h id) : OutE P base G h id v h' (execOp ρ o) w := by
  subst hE
  obtain ⟨dst, op, type, pos, after, guard⟩ := o
  cases op <;> simp only [cextra] at hc <;> first | (cases hc; done) | skip
  case makeMap t r =>
    cases r with
    | some r => simp only at hc; cases hc
    | none =>
    simp only at hc
    split at hc
    · cases hc
      simp only [evalE, extE] at hv
      cases hv
      refine .inl ⟨.map (some w.heap.size), w.alloc (.map #[] 0), ?_, G.withMu id w.heap.size 0, .map ?_, post_newmap I hf hid⟩
      · simp [execOp, Instr.makeMap, Result.andThen]
      · show (if id = id then _ else _) = _; rw [if_pos rfl]
    · cases hc
  case buildSlice t len parts =>
    split at hc
    · rename_i e ps hu hps
      split at hc
      · rename_i g hg
        split at hc
        · rename_i hlen
          cases hc
          simp only [evalE] at hv
          exact e_blit I hf hid hu hg hlen (hr.parts _ _ hps) hv
        · cases hc
      · cases hc
    · cases hc
  case convert s d x =>
    split at hc
    · rename_i e1 e xs hs hd hxs
      split at hc
      · rename_i he
        split at hc
        · rename_i hsd
          cases hc
          have hsd : s = d := by simpa using hsd
          obtain ⟨a, hab, h1⟩ := run_copnds1 hr hxs
          simp only [evalE, hab] at hv
          exact e_cvb I (hsd ▸ hd) hsd he h1 hv
        · cases hc
      · cases hc
    · cases hc
  case range t x =>
    split at hc
    · rename_i kt et xs ht hxs
      cases hc
      obtain ⟨a, hab, h1⟩ := run_copnds1 hr hxs
      simp only [evalE, hab] at hv
      exact e_rng I hf hid ht h1 hv
    · cases hc
  case next x s =>
    cases s <;> simp only [cextra] at hc <;> first | (cases hc; done) | skip
    split at hc
    · rename_i xs hxs
      cases hc
      obtain ⟨a, hab, h1⟩ := run_copnds1 hr hxs
      simp only [evalE, hab] at hv
      exact e_nxt I h1 hv
    · cases hc
  case mapUpdate t m k x =>
    split at hc
    · rename_i kt et xs ht hxs
      split at hc
      · rename_i kk hkk
        cases hc
        obtain ⟨a, b, d, habd, h1, h2, h3⟩ := run_copnds3 hr hxs
        simp only [evalE, habd] at hv
        exact e_mset I ht hkk h1 h2 h3 hv
      · cases hc
    · cases hc
  case insert t m k x =>
    split at hc
    · rename_i kt et xs ht hxs
      split at hc
      · rename_i kk hkk
        cases hc
        obtain ⟨a, b, d, habd, h1, h2, h3⟩ := run_copnds3 hr hxs
        simp only [evalE, habd] at hv
        exact e_mset I ht hkk h1 h2 h3 hv
      · cases hc
    · cases hc
  case mapEntry t m k =>
    split at hc
    · rename_i kt et xs ht hxs
      split at hc
      · rename_i kk z hkk hz
        cases hc
        obtain ⟨a, b, hab, h1, h2⟩ := run_copnds2 hr hxs
        simp only [evalE, hab] at hv
        exact e_mentry I ht hkk hz h1 h2 hv
      · cases hc
    · cases hc
  case entryStore t m s x =>
    split at hc
    · rename_i xs hxs
      cases hc
      obtain ⟨a, b, d, habd, h1, h2, h3⟩ := run_copnds3 hr hxs
      simp only [evalE, habd] at hv
      exact e_mestore I h1 h2 h3 hv
    · cases hc
  case call cl =>
    obtain ⟨cal, args, argTypes⟩ := cl
    simp only at hc
    split at hc
    · split at hc
      · split at hc
        · cases hc; simp [COp.cls] at hcls
        · cases hc
      · cases hc
    · split at hc
      · split at hc
        · cases hc; simp [COp.cls] at hcls
        · cases hc
      · cases hc
    · skip
      split at hc
      · rename_i t u m k hat har
        split at hc
        · rename_i kt et xs ht hxs
          split at hc
          · rename_i kk hkk
            cases hc
            obtain ⟨a, b, hab, h1, h2⟩ := run_copnds2 hr hxs
            simp only [evalE, hab] at hv
            have ha : args = #[m, k] := by obtain ⟨l⟩ := args; simp at har; rw [har]
            have hb : argTypes = #[t, u] := by obtain ⟨l⟩ := argTypes; simp at hat; rw [hat]
            subst ha; subst hb
            have := e_mdel (u := u) (ty := type) I ht hkk h1 h2 hv
            simpa [execOp, resolve, invoke, builtin] using this
          · cases hc
        · cases hc
      · cases hc
    · split at hc
      · rename_i t x hat har
        split at hc
        · rename_i e xs ht hxs
          split at hc
          · rename_i g hg
            cases hc
            obtain ⟨a, hab, h1⟩ := run_copnds1 hr hxs
            simp only [evalE, hab] at hv
            have ha : args = #[x] := by obtain ⟨l⟩ := args; simp at har; rw [har]
            have hb : argTypes = #[t] := by obtain ⟨l⟩ := argTypes; simp at hat; rw [hat]
            subst ha; subst hb
            have := e_clear (id := id) (ty := type) I ht hg h1 hv
            simpa [execOp, resolve, invoke, builtin] using this
          · cases hc
        · cases hc
      · cases hc
    · split at hc
      · rename_i t u x n hat har
        split at hc
        · rename_i e kd xs ht hu hxs
          split at hc
          · rename_i g hg
            split at hc
            · rename_i hsm
              cases hc
              obtain ⟨a, b, hab, h1, h2⟩ := run_copnds2 hr hxs
              simp only [evalE, hab] at hv
              have ha : args = #[x, n] := by obtain ⟨l⟩ := args; simp at har; rw [har]
              have hb : argTypes = #[t, u] := by obtain ⟨l⟩ := argTypes; simp at hat; rw [hat]
              subst ha; subst hb
              have := e_apmake (ty := type) I hf hid ht hu hg (noteOf_or _ _) (by simpa [smallBytes] using hsm) h1 h2 hv
              simpa [execOp, resolve, invoke, builtin] using this
            · cases hc
          · cases hc
        · cases hc
      · cases hc
    · cases hc
  case slice t x lo hi mx =>
    cases lo <;> cases hi <;> cases mx <;> simp only [cextra] at hc <;> first | (cases hc; done) | skip
    · exfalso
      split at hc
      · split at hc
        · cases hc; simp [COp.cls] at hcls
        · cases hc
      · cases hc
    · rename_i lo hi mx
      split at hc
      · rename_i e xs ht hxs
        split at hc
        · rename_i g hg
          cases hc
          obtain ⟨a, b, c, d, hab, h1, h2, h3, h4⟩ := run_copnds4 hr hxs
          simp only [evalE, hab] at hv
          exact e_slc3 I hf hid ht hg h1 h2 h3 h4 hv
        · cases hc
      · cases hc
  all_goals
    exfalso
    revert hcls
    repeat' (split at hc)
    all_goals first
      | (cases hc; done)
      | (cases hc; simp [COp.cls]; done)
end
end Go.CI

/- A deterministic interpreter over values: one operation of a region, in the model. -/
set_option linter.unusedVariables false
namespace Go.CI
open Go.RowKit

/-- What a call gives: at once, or by entering a function. -/
def Entr (P : Program) (s : Sem Next) (w : World) (Q : Value → World → Prop) : Prop :=
  (∃ u w', s.run P w = .ok (.value u) w' ∧ Q u w') ∨ ∃ f args, s.run P w = .ok (.enter f args) w ∧ Calls P f args w fun e w' => ∃ u, e = .returned u ∧ Q u w'

def CallPost (base : Base) (G : Gh) (h : CHeap) (w : World) (v : CVal) (h' : CHeap) (u : Value) (w' : World) : Prop := ∃ G', VR G' v u ∧ Post base (fun _ => False) G h w G' h' w'

/-- Our calls are the model's. -/
def SimCall (P : Program) (base : Base) (cf : Nat → List CVal → CHeap → Option (CVal × CHeap)) : Prop :=
  ∀ (G : Gh) (h : CHeap) (w : World) (f : Nat) (xs : List CVal) (vs : List Value) (v : CVal) (h' : CHeap), cf f xs h = some (v, h') → Inv base G h w → VRs G xs vs → Entr P (callFunc f ⟨vs⟩) w (CallPost base G h w v h')

inductive DefsR (G : Gh) : List (Nat × List CVal) → List Deferred → Prop
  | nil : DefsR G [] []
  | cons {f : Nat} {xs : List CVal} {vs cap : List Value} {ds : List (Nat × List CVal)} {dl : List Deferred} (h : VRs G xs (vs ++ cap)) (r : DefsR G ds dl) : DefsR G ((f, xs) :: ds) ({ target := .fn (.func f) ⟨cap⟩, args := ⟨vs⟩ } :: dl)

theorem DefsR.mono {G G' : Gh} (hg : G.le G') {ds : List (Nat × List CVal)} {dl : List Deferred} (h : DefsR G ds dl) : DefsR G' ds dl := by
  induction h with
  | nil => exact .nil
  | cons h _ ih => exact .cons (h.mono hg) ih

theorem cop_call {E : Env} {rg i : Nat} {dsts : List (Option Tmp)} {earlier later : List Oper} {o : Oper} {c : COp} (hc : cop0 E rg i dsts earlier later o = some c) :
    (∀ keep f xs, c = .call keep f xs → ∃ cl, o.op = .call cl ∧ cl.callee = .value (.func f) ∧ copnds E dsts cl.args.toList = some xs) ∧
    (∀ keep x xs, c = .callv keep x xs → ∃ cl X, o.op = .call cl ∧ cl.callee = .value X ∧ copnd E dsts X = some x ∧ copnds E dsts cl.args.toList = some xs) ∧
    (∀ x xs, c = .defer x xs → ∃ cl X, o.op = .defer cl ∧ cl.callee = .value X ∧ copnd E dsts X = some x ∧ copnds E dsts cl.args.toList = some xs) := by
  obtain ⟨dst, op, type, pos, after, guard⟩ := o
  cases op
  case slice t x lo hi mx =>
    cases mx with
    | some m => simp [cop0] at hc
    | none =>
      simp only [cop0] at hc
      split at hc
      · cases hc; simp
      · split at hc
        · cases hc; simp
        · cases hc
      · cases hc
  all_goals simp only [cop0] at hc
  all_goals try (cases hc; done)
  case call cl =>
    split at hc
    · rename_i f hf
      obtain ⟨xs, hxs, rfl⟩ := Option.map_eq_some_iff.1 hc
      refine ⟨fun keep f' xs' he => ?_, fun _ _ _ he => by simp at he, fun _ _ he => by simp at he⟩
      cases he
      exact ⟨cl, rfl, hf, hxs⟩
    · rename_i X hX
      split at hc
      · rename_i x xs hx hxs
        cases hc
        refine ⟨fun _ _ _ he => by simp at he, fun keep x' xs' he => ?_, fun _ _ he => by simp at he⟩
        cases he
        exact ⟨cl, _, rfl, hX, hx, hxs⟩
      · cases hc
    all_goals
      try (cases hc; done)
      (repeat' (split at hc))
    all_goals first
      | (cases hc; done)
      | (cases hc; simp; done)
      | (obtain ⟨y, _, rfl⟩ := Option.map_eq_some_iff.1 hc; simp; done)
  case defer cl =>
    split at hc
    · rename_i X hX
      split at hc
      · rename_i x xs hx hxs
        cases hc
        refine ⟨fun _ _ _ he => by simp at he, fun _ _ _ he => by simp at he, fun x' xs' he => ?_⟩
        cases he
        exact ⟨cl, _, rfl, hX, hx, hxs⟩
      · cases hc
    · cases hc
  all_goals
    first
      | (obtain ⟨y, _, rfl⟩ := Option.map_eq_some_iff.1 hc; simp; done)
      | (repeat' (split at hc))
  all_goals first
    | (cases hc; done)
    | (cases hc; simp; done)
    | (obtain ⟨y, _, rfl⟩ := Option.map_eq_some_iff.1 hc; simp; done)

section
variable {P : Program} {base : Base} {G : Gh} {h : CHeap} {w : World} {id : Nat}

theorem arr_map (a : Array Operand) (ρ : Operand → Value) : a.map ρ = ⟨a.toList.map ρ⟩ := by
  apply Array.ext'
  simp

theorem entr_wp {o : Oper} {a : Act} {K : Act → World → Prop} {Q : Exit → Act → World → Prop} {R : Value → World → Prop} (hs : Entr P (execOp a.eval o) w R) (hK : ∀ u w', R u w' → K (a.put o.dst u) w') : o.wp P a w K Q := by
  unfold Oper.wp
  rcases hs with ⟨u, w', hr, hq⟩ | ⟨f, args, hr, hq⟩
  · rw [hr, Oper.upon_value]; exact hK u w' hq
  · rw [hr, Oper.upon_enter]
    exact Calls.mono hq fun e w' he => by
      obtain ⟨u, rfl, hu⟩ := he
      exact hK u w' hu

theorem gives_wp {o : Oper} {a : Act} {K : Act → World → Prop} {Q : Exit → Act → World → Prop} {R : Value → World → Prop} (hs : Gives P (execOp a.eval o) w R) (hK : ∀ u w', R u w' → K (a.put o.dst u) w') : o.wp P a w K Q := by
  unfold Oper.wp
  rcases hs with ⟨u, w', hr, hq⟩ | ⟨w', hr, hq⟩
  · rw [hr, Oper.upon_value]; exact hK u w' hq
  · rw [hr, Oper.upon_skip]; exact hK undef w' hq

/-- The call of a function value. -/
theorem run_callv {o : Oper} {cl : Call} {X : Operand} {ρ : Operand → Value} {f : Nat} {first cap : List Value} (ho : o.op = .call cl) (hc : cl.callee = .value X) (hX : ρ X = .func (.func f) ⟨first⟩ ⟨cap⟩) :
    (execOp ρ o).run P w = (callFunc f ⟨first ++ (cl.args.toList.map ρ ++ cap)⟩).run P w := by
  have : (⟨first ++ (cl.args.toList.map ρ ++ cap)⟩ : Array Value) = (⟨first⟩ ++ cl.args.map ρ) ++ ⟨cap⟩ := by
    apply Array.ext'
    simp [Array.toList_append]
  rw [this]
  simp [execOp, ho, resolve, hc, hX, Deferred.ofValue, invoke]

theorem run_defer {o : Oper} {cl : Call} {X : Operand} {ρ : Operand → Value} {f : Nat} {first cap : List Value} (ho : o.op = .defer cl) (hc : cl.callee = .value X) (hX : ρ X = .func (.func f) ⟨first⟩ ⟨cap⟩) :
    (execOp ρ o).run P w = .ok (.defer { target := .fn (.func f) ⟨cap⟩, args := ⟨first ++ cl.args.toList.map ρ⟩ }) w := by
  have : (⟨first ++ cl.args.toList.map ρ⟩ : Array Value) = (⟨first⟩ ++ cl.args.map ρ) := by
    apply Array.ext'
    simp [Array.toList_append]
  rw [this]
  simp [execOp, ho, resolve, hc, hX, Deferred.ofValue]

theorem Entr.of_run {s s' : Sem Next} {Q : Value → World → Prop} (h : s.run P w = s'.run P w) (he : Entr P s' w Q) : Entr P s w Q := by
  unfold Entr at *; rw [h]; exact he

theorem VRs.ofBare {G : Gh} {cs : List CVal} {vs : List Value} (h : VRs G cs vs) : VRs G (cs.map CVal.bare) vs := h.map _ fun _ _ hv => hv.bare

theorem op_step {ops : Array Oper} {Q : Exit → Act → World → Prop} {E : Env} {rg i j : Nat} {dsts : List (Option Tmp)} {earlier later : List Oper} {o : Oper} {c : COper} {cf : Nat → List CVal → CHeap → Option (CVal × CHeap)} {ev : COpnd → CVal} {wt : Bool} {v : CVal} {h' : CHeap} {ds ds' : List (Nat × List CVal)} {a : Act} {K : Act → World → Prop}
    (hE : E.P = P) (hcs : c.op = (cop E rg j dsts earlier later o).getD .stuck) (hdst : o.dst ≠ none → c.op.isStore = false) (hsim : SimCall P base cf)
    (hr : ORel G E dsts ev a.eval) (hg : Region.wanted o (yielded ops a.tmps) = wt) (ht : Trans cf ev id c wt v h ds h' ds') (I : Inv base G h w) (hid : id < h.next) (hf : Fresh G h id) (hd : DefsR G ds a.defers) (ho : ops[i]? = some o)
    (hK : ∀ u w' G' dl, VR G' v u → (v = .undef → o.dst ≠ none → u = undef) → Post base (· = id) G h w G' h' w' → DefsR G' ds' dl → K (({ a with defers := dl } : Act).put o.dst u) w') : wpOp P ops Q i K a w := by
  unfold wpOp
  simp only [ho, hg]
  unfold Trans at ht
  cases wt with
  | false =>
    simp only [Bool.false_eq_true, if_false] at ht ⊢
    obtain ⟨rfl, rfl, rfl⟩ := ht
    exact hK undef w G a.defers (.undef _) (fun _ _ => rfl) (.refl I) hd
  | true =>
    simp only [if_true] at ht ⊢
    left
    have hc : cop E rg j dsts earlier later o = some c.op := by
      cases hco : cop E rg j dsts earlier later o with
      | some c' => rw [hco] at hcs; rw [hcs]; rfl
      | none =>
        rw [hco] at hcs
        have hcs' : c.op = .stuck := hcs
        rw [hcs'] at ht
        have := ht.1
        simp [evalP] at this
    cases hcl : c.op.cls with
    | p =>
      rw [hcl] at ht
      obtain ⟨hv, hu, rfl, rfl⟩ := ht
      have hc := (cop_cases hc).resolve_right fun h => by
        rcases cextra_cls h with ⟨k, xs, e⟩ | ⟨k, xs, e⟩ <;> (rw [e] at hcl; simp [COp.cls] at hcl)
      refine gives_wp (simP hE hc hcl hr hv I hid hf) fun u w' ⟨G', h1, h2⟩ => hK u w' G' a.defers h1 (fun e => ?_) h2 (hd.mono h2.le)
      subst e; cases hu
    | l =>
      rw [hcl] at ht
      obtain ⟨hv, hu, rfl, rfl⟩ := ht
      obtain ⟨u, hu1, hu2⟩ := (cop_cases hc).elim (fun h => simL hE h hcl hr hv I) (fun h => simLX hE h hcl hr hv I)
      unfold Oper.wp
      rw [hu1, Oper.upon_value]
      refine hK u w G a.defers hu2 (fun e => ?_) (.refl I) hd
      subst e; cases hu
    | d =>
      rw [hcl] at ht
      obtain ⟨x, args, f, first, cap, hop, hx, rfl, rfl, rfl⟩ := ht
      have hc := (cop_cases hc).resolve_right fun h => by
        rcases cextra_cls h with ⟨k, xs, e⟩ | ⟨k, xs, e⟩ <;> (rw [e] at hcl; simp [COp.cls] at hcl)
      obtain ⟨cl, X, ho', hcal, hX, hargs⟩ := (cop_call hc).2.2 x args hop
      have h1 := hr X x hX
      rw [hx] at h1
      generalize hz : a.eval X = z at h1
      cases h1 with
      | fn hl1 hl2 hf1 hf2 =>
        unfold Oper.wp
        rw [run_defer ho' hcal hz, Oper.upon_defer]
        refine hK undef w G _ (.undef _) (fun _ _ => rfl) (.refl I) (.cons ?_ hd)
        rw [List.append_assoc]
        exact VRs.append ⟨hl1, hf1⟩ (VRs.append (hr.list _ _ hargs) ⟨hl2, hf2⟩)
    | e =>
      rw [hcl] at ht
      obtain ⟨hv, hu, rfl⟩ := ht
      have hund : v = .undef → o.dst ≠ none → ∀ u : Value, u = undef := fun e hn => by
        subst e
        have := hu rfl
        rw [hdst hn] at this; cases this
      by_cases hcall : c.op.isCall = true
      · have hc := (cop_cases hc).resolve_right fun h => by
          rcases cextra_cls h with ⟨k, xs, e⟩ | ⟨k, xs, e⟩ <;> (rw [e] at hcall; simp [COp.isCall] at hcall)
        have key : ∃ f xs vs, cf f xs h = some (v, h') ∧ VRs G xs vs ∧ (execOp a.eval o).run P w = (callFunc f ⟨vs⟩).run P w := by
          cases hop : c.op <;> rw [hop] at hcall <;> first | (simp [COp.isCall] at hcall; done) | skip
          · rename_i keep f xs
            obtain ⟨cl, ho', hcal, hargs⟩ := (cop_call hc).1 _ _ _ hop
            rw [hop] at hv
            simp only [evalE] at hv
            refine ⟨f, _, cl.args.toList.map a.eval, hv, ?_, ?_⟩
            · have := hr.list _ _ hargs
              cases keep with
              | true => exact this
              | false =>
                have h2 := this.ofBare
                rw [List.map_map] at h2
                exact h2
            · have := run_callv (P := P) (w := w) (ρ := a.eval) (first := []) (cap := []) ho' hcal rfl
              simpa using this
          · rename_i keep x xs
            obtain ⟨cl, X, ho', hcal, hX, hargs⟩ := (cop_call hc).2.1 _ _ _ hop
            rw [hop] at hv
            simp only [evalE] at hv
            have h1 := hr X x hX
            generalize hz : a.eval X = z at h1
            split at hv
            · rename_i f first cap hx
              rw [hx] at h1
              cases h1 with
              | fn hl1 hl2 hf1 hf2 =>
                refine ⟨f, _, _, hv, VRs.append ⟨hl1, hf1⟩ (VRs.append ?_ ⟨hl2, hf2⟩), run_callv ho' hcal hz⟩
                have := hr.list _ _ hargs
                cases keep with
                | true => exact this
                | false =>
                  have h2 := this.ofBare
                  rw [List.map_map] at h2
                  exact h2
            · cases hv
        obtain ⟨f, xs, vs, hcf, hvs, hrun⟩ := key
        refine entr_wp (Entr.of_run hrun (hsim G h w f xs vs v h' hcf I hvs)) fun u w' ⟨G', h1, h2⟩ => hK u w' G' a.defers h1 (fun e hn => hund e hn u) (h2.mono fun _ hh => hh.elim) (hd.mono h2.le)
      · have hcall' : c.op.isCall = false := by simpa using hcall
        exact gives_wp ((cop_cases hc).elim (fun h => simE hE h hcl hcall' hr hv I hid hf) (fun h => simEX hE h hcl hr hv I hid hf)) fun u w' ⟨G', h1, h2⟩ => hK u w' G' a.defers h1 (fun e hn => hund e hn u) h2 (hd.mono h2.le)
end
end Go.CI
