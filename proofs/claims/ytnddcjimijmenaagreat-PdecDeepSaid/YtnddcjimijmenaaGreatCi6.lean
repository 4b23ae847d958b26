/- A deterministic interpreter over values, proved sound against the model's rules (part 6 of 8): what a run of it gives, a call in the model gives. -/
import Derived.Test.YtnddcjimijmenaaGreatCi5
import Derived.ChangeSame
import Derived.Below
set_option linter.unusedVariables false
set_option linter.unusedSimpArgs false

/- slices.Insert as a function of the interpreter's own: in the middle. -/
set_option linter.unusedVariables false
namespace Go.CI
open Go.RowKit

theorem flat_vals {G : Gh} {w : World} {ab ao k : Nat} {es : List CVal} (hk : AllK k es) (he : ∀ (i : Nat) (e : CVal), es[i]? = some e → ∀ (j : Nat) (x : CVal), e.cells[j]? = some x → x.flat = true ∧ Holds G w ab (ao + i * k + j) x) :
    ∃ cs : List Value, VRs G (flatC es) cs ∧ ∀ (j : Nat) (v : Value), cs[j]? = some v → w.cell? ⟨ab, ao + j, none⟩ = some v :=
  row_values (flatC es) ao fun j c hj => by
    obtain ⟨i, q, e, h1, h2, h3⟩ := flatC_inv hk hj
    have := (he i e h2 q c h3).2
    rw [show ao + i * k + q = ao + j by omega] at this
    exact this

theorem setCells_append (b : Nat) : ∀ (x y : List Value) (o : Nat) (w : World), w.setCells b o (x ++ y) = (w.setCells b o x).setCells b (o + x.length) y
  | [], y, o, w => rfl
  | v :: x, y, o, w => by
    rw [List.cons_append, World.setCells, setCells_append b x y, World.setCells, List.length_cons, show o + 1 + x.length = o + (x.length + 1) by omega]

theorem cells_comm {w : World} {b o1 o2 : Nat} {x y : List Value} (hd : o1 + x.length ≤ o2) (h1 : ∀ j, j < x.length → (w.cell? ⟨b, o1 + j, none⟩).isSome = true) (h2 : ∀ j, j < y.length → (w.cell? ⟨b, o2 + j, none⟩).isSome = true) (ab i : Nat) :
    ((w.setCells b o2 y).setCells b o1 x).cell? ⟨ab, i, none⟩ = ((w.setCells b o1 x).setCells b o2 y).cell? ⟨ab, i, none⟩ := by
  by_cases hb : ab = b
  · subst hb
    by_cases c1 : o1 ≤ i ∧ i < o1 + x.length
    · have e1 := World.cell?_setCells_in ab x o1 (w.setCells ab o2 y) (fun j hj => Go.Proofs.isSome_setCells ab y o2 w h2 _ (h1 j hj)) (i - o1) (by omega)
      have e2 := World.cell?_setCells_in ab x o1 w h1 (i - o1) (by omega)
      rw [show o1 + (i - o1) = i by omega] at e1 e2
      rw [e1, setCells_out (fun _ => by omega), e2]
    · by_cases c2 : o2 ≤ i ∧ i < o2 + y.length
      · have e1 := World.cell?_setCells_in ab y o2 (w.setCells ab o1 x) (fun j hj => Go.Proofs.isSome_setCells ab x o1 w h1 _ (h2 j hj)) (i - o2) (by omega)
        have e2 := World.cell?_setCells_in ab y o2 w h2 (i - o2) (by omega)
        rw [show o2 + (i - o2) = i by omega] at e1 e2
        rw [e1, setCells_out (fun _ => by omega), e2]
      · rw [setCells_out (fun _ => by omega), setCells_out (fun _ => by omega), setCells_out (fun _ => by omega), setCells_out (fun _ => by omega)]
  · rw [setCells_out (fun e => absurd e hb), setCells_out (fun e => absurd e hb), setCells_out (fun e => absurd e hb), setCells_out (fun e => absurd e hb)]

section
variable {P : Program} {base : Base} {ρ : Go.Shelf.Ren}

/-- What the model's two writes leave is what one write leaves. -/
theorem post_two {base : Base} {G G' : Gh} {h h' : CHeap} {w : World} {ex : Nat → Prop} {b o1 o2 : Nat} {x y : List Value} (hb : base ≤ b) (ho : o2 = o1 + x.length) (h1 : ∀ j, j < x.length → (w.cell? ⟨b, o1 + j, none⟩).isSome = true) (h2 : ∀ j, j < y.length → (w.cell? ⟨b, o2 + j, none⟩).isSome = true)
    (hp : Post base ex G h w G' h' (w.setCells b o1 (x ++ y))) : Post base ex G h w G' h' ((w.drew.setCells b o2 y).setCells b o1 x) := by
  refine ⟨hp.le, hp.inv.of_cells (fun ab i => ?_) (fun ab i => ?_) ?_ (fun ab => ?_) ?_ ?_ ?_, ?_, hp.next, hp.fresh⟩
  · rw [setCells_append, ← ho]
    have := cells_comm (w := w.drew) (b := b) (o1 := o1) (o2 := o2) (x := x) (y := y) (by omega) h1 h2 ab i
    rw [this]
    have hdr : ∀ (u : List Value) (o : Nat) (w : World), (w.drew.setCells b o u) = (w.setCells b o u).drew := fun u o w => (Go.Proofs.drew_setCells b u o w).symm
    rw [hdr, hdr]; rfl
  · rw [World.frozen?_setCells, World.frozen?_setCells, World.frozen?_setCells]; rfl
  · rw [setCells_size, setCells_size, setCells_size]; rfl
  · rw [shape_setCells, shape_setCells, shape_setCells]; rfl
  · intro ab es ck hm
    refine map_setCells b x o1 _ (map_setCells b y o2 w.drew ?_)
    show w.heap[ab]? = _
    exact map_of_setCells hm
  · intro ab T hr
    refine rowb_setCells b x o1 _ (rowb_setCells b y o2 w.drew ?_)
    show RowB w ab T
    exact rowb_of_setCells hr
  · intro ab m s sn l hm
    refine iter_setCells b x o1 _ (iter_setCells b y o2 w.drew ?_)
    show w.heap[ab]? = _
    exact iter_of_setCells hm
  · exact ((Below.refl base w).drew.trans (below_setCells hb _ _ _)).trans (below_setCells hb _ _ _)
end
end Go.CI

/- slices.Insert as a function of the interpreter's own: in the middle, with room. -/
set_option linter.unusedVariables false
namespace Go.CI
open Go.RowKit

theorem cut_take {α : Type} (off i len : Nat) (l : List α) (h : i ≤ len) : cut off (off + i) l = (cut off (off + len) l).take i := by
  unfold cut
  rw [List.take_drop, List.take_take]
  congr 2; omega
theorem flatC_drop {k : Nat} {es : List CVal} (hk : AllK k es) (n : Nat) : flatC (es.drop n) = (flatC es).drop (n * k) := by
  have h1 : flatC es = flatC (es.take n) ++ flatC (es.drop n) := by rw [← flatC_append, List.take_append_drop]
  by_cases hn : n ≤ es.length
  · have h2 : (flatC (es.take n)).length = n * k := by rw [flatC_length (allK_take hk n), List.length_take]; congr 1; omega
    rw [h1, ← h2, List.drop_left]
  · rw [List.drop_eq_nil_of_le (by omega : es.length ≤ n)]
    have : (flatC es).length ≤ n * k := by rw [flatC_length hk]; exact Nat.mul_le_mul_right _ (by omega)
    rw [List.drop_eq_nil_of_le this]; rfl
theorem allK_drop {k : Nat} {a : List CVal} (ha : AllK k a) (n : Nat) : AllK k (a.drop n) := fun e he => ha e (List.mem_of_mem_drop he)
theorem allFlat_drop {a : List CVal} (ha : AllFlat a) (n : Nat) : AllFlat (a.drop n) := fun e he => ha e (List.mem_of_mem_drop he)

section
variable {P : Program} {base : Base} {ρ : Go.Shelf.Ren}

theorem post_world {ex : Nat → Prop} {G G' : Gh} {h h' : CHeap} {w w1 w2 : World} (p : Post base ex G h w G' h' w1) (hc : ∀ ab i, w2.cell? ⟨ab, i, none⟩ = w1.cell? ⟨ab, i, none⟩) (hf : ∀ ab i, w2.frozen? ⟨ab, i, none⟩ = w1.frozen? ⟨ab, i, none⟩) (hs : w2.heap.size = w1.heap.size) (hsh : ∀ ab, w2.shape? ab = w1.shape? ab) (hmp : ∀ (ab : Nat) (es : Array MapEntry) (ck : Nat), w1.heap[ab]? = some (Obj.map es ck) → w2.heap[ab]? = some (Obj.map es ck)) (hrb : ∀ ab T, RowB w1 ab T → RowB w2 ab T) (hit : ∀ (ab : Nat) (m : Option Nat) (s : Nat) (sn : Array Nat) (l : Nat), w1.heap[ab]? = some (Obj.mapIter m s sn l) → w2.heap[ab]? = some (Obj.mapIter m s sn l)) (hb : Below base w w2) :
    Post base ex G h w G' h' w2 := ⟨p.le, p.inv.of_cells hc hf hs hsh hmp hrb hit, hb, p.next, p.fresh⟩

theorem heap_alloc (w : World) (o : Obj) (ab : Nat) : (w.alloc o).heap[ab]? = if ab = w.heap.size then some o else w.heap[ab]? := by
  show (w.heap.push o)[ab]? = _
  rw [Array.getElem?_push]
theorem shape_alloc (w : World) (A : Array Value) (T : TypeId) (fr : Nat × Nat) (ab : Nat) : (w.alloc (.cells A T fr)).shape? ab = if ab = w.heap.size then some (T, A.size) else w.shape? ab := by
  by_cases h : ab = w.heap.size
  · rw [if_pos h]; unfold World.shape?; rw [heap_alloc, if_pos h]
  · rw [if_neg h]; unfold World.shape?; rw [heap_alloc, if_neg h]
theorem frozen_alloc0 (w : World) (A : Array Value) (T : TypeId) (ab i : Nat) : (w.alloc (.cells A T (0, 0))).frozen? ⟨ab, i, none⟩ = if ab = w.heap.size then false else w.frozen? ⟨ab, i, none⟩ := by
  by_cases h : ab = w.heap.size
  · rw [if_pos h]; unfold World.frozen?
    show (match (w.alloc (.cells A T (0, 0))).heap[ab]? with | some (.cells _ _ (lo, hi)) => decide (lo ≤ i) && decide (i < hi) | _ => false) = _
    rw [heap_alloc, if_pos h]; simp
  · rw [if_neg h]; unfold World.frozen?
    show (match (w.alloc (.cells A T (0, 0))).heap[ab]? with | some (.cells _ _ (lo, hi)) => decide (lo ≤ i) && decide (i < hi) | _ => false) = _
    rw [heap_alloc, if_neg h]; rfl

theorem shape_of_cell {w : World} {ab i : Nat} {v : Value} (h : w.cell? ⟨ab, i, none⟩ = some v) : ∃ T n, w.shape? ab = some (T, n) ∧ n ≠ 0 := by
  unfold World.cell? at h
  unfold World.shape?
  split at h
  · rename_i c T fr hh
    rw [hh]
    simp only [Option.isSome_none, Bool.false_eq_true, if_false] at h
    have := (Array.getElem?_eq_some_iff.1 h).1
    exact ⟨T, c.size, rfl, by omega⟩
  · cases h

/-- Two ranges of one block, of which the one has no owner and the other one. -/
theorem apart_of_own {own : Nat → Nat → Option Own} {ab a la b lb q : Nat} (hla : 0 < la) (hlb : 0 < lb) (h1 : ∀ j, j < la → own ab (a + j) = none) (h2 : ∀ j, j < lb → own ab (b + j) = some (.r q)) : b + lb ≤ a ∨ a + la ≤ b := by
  rcases Nat.lt_or_ge a (b + lb) with h3 | h3
  · rcases Nat.lt_or_ge b (a + la) with h4 | h4
    · exfalso
      rcases Nat.le_total a b with h5 | h5
      · have e1 := h1 (b - a) (by omega)
        have e2 := h2 0 hlb
        rw [show a + (b - a) = b + 0 by omega, e2] at e1; cases e1
      · have e1 := h1 0 hla
        have e2 := h2 (a - b) (by omega)
        rw [show b + (a - b) = a + 0 by omega, e1] at e2; cases e2
    · exact .inr h4
  · exact .inl h3

theorem ins_mid {nm : String} {k by_ : Nat} {zz : Value} (L : InsLay P ρ nm k zz by_) (hname : (nm == "runtime.NumGoroutine") = false) (hzz : zz.cells.size = k) (hby : by_ ≤ 4096)
    {G : Gh} {h : CHeap} {w : World} {S Y : Value} {t : Tag} {vs es0 : List CVal} {b ver off len i : Nat} (I : Inv base G h w) (hs : VR G (.ref b ver k off len) S) (hy : VR G (.imm t k vs) Y) (hvs : 0 < vs.length) (hgb : h.get b = some (.row ver es0)) (hnt : h.ty b = none) (hle : off + len ≤ es0.length) (hi : i < len) (hmost : len + vs.length ≤ sizeMost) :
    Entr P (callFunc (ρ.f 22) ⟨[S, .int .i64 i, Y]⟩) w (CallPost base G h w (.ref b (ver + 1) k 0 (len + vs.length)) (h.set b (.row (ver + 1) ((cut off (off + len) es0).take i ++ (vs.map CVal.bare ++ (cut off (off + len) es0).drop i))))) := by
  refine .inr ⟨_, _, ins_enter L hname _ w, ?_⟩
  have I' := I
  obtain ⟨own, Io⟩ := I
  have hle' : elems h k (.ref b ver k off len) = some (cut off (off + len) es0) := by simp [elems, hgb, hle]
  have hcl : (cut off (off + len) es0).length = len := by rw [length_cut _ _ _ hle]; omega
  generalize hes : cut off (off + len) es0 = es at *
  -- the elements
  have hel := elems_cells Io hle' hs
  rcases hel with ⟨s, h1, _⟩ | ⟨h1, _⟩ | ⟨a, c, rfl, ha, hke, hk0, hcap, hec⟩
  · cases h1
  · cases h1
  have hely := elems_cells (k := k) (es := vs) Io (by simp [elems]) hy
  rcases hely with ⟨s, h1, _⟩ | ⟨h1, _⟩ | ⟨va, vc, rfl, hva, hkv, _, hvcap, hvcell⟩
  · cases h1
  · cases h1
  obtain ⟨cs, hcv, hcc⟩ := flat_vals hke hec
  obtain ⟨vv, hvv, hvc⟩ := flat_vals hkv hvcell
  have hfe : AllFlat es := fun e he x hx => by
    obtain ⟨q, hq⟩ := List.getElem?_of_mem he
    obtain ⟨j, hj⟩ := List.getElem?_of_mem hx
    exact (hec q e hq j x hj).1
  have hfv : AllFlat vs := fun e he x hx => by
    obtain ⟨q, hq⟩ := List.getElem?_of_mem he
    obtain ⟨j, hj⟩ := List.getElem?_of_mem hx
    exact (hvcell q e hq j x hj).1
  obtain ⟨hfl, hkb, hfb⟩ := bare_list hkv hfv
  have hvb : VRs G (flatC (vs.map CVal.bare)) vv := by rw [hfl]; exact hvv.map _ fun _ _ => VR.strip
  have hcsl : cs.length = len * k := by rw [← hcv.1, flatC_length hke, hcl]
  have hvvl : vv.length = vs.length * k := by rw [← hvv.1, flatC_length hkv]
  have h1c := one_of_vrs hcv (flat_flatC hfe)
  have h1v := one_of_vrs hvv (flat_flatC hfv)
  obtain ⟨ab, ao, sp⟩ := a
  simp only at ha
  subst ha
  have hvc' : ∀ (j : Nat) (v : Value), vv[j]? = some v → w.cell? (va.add j) = some v := fun j v hj => by rw [add_eq hva]; exact hvc j v hj
  cases hs with
  | ref hrw hk hll hsp hadr =>
    rename_i bb bo cap
    have hadr' := hadr.resolve_left (by omega)
    cases hadr'
    obtain ⟨hbn, hvmax, hrow⟩ := Io.ents b _ hgb
    obtain ⟨hab, hcapl, hown, hel2⟩ := hrow _ _ _ _ hrw
    have hclean := Io.cln _ _ _ hrw
    -- the cells of the slice and of its room
    have hcells : ∀ j, j < (cap - off) * k → own ab (bo + off * k + j) = some (.r b) ∧ Live w ab (bo + off * k + j) := fun j hj => by
      have h1 : off * k + (cap - off) * k = cap * k := by rw [← Nat.add_mul]; congr 1; omega
      have := hown (off * k + j) (by omega)
      rw [← Nat.add_assoc] at this
      exact this
    have hvown : ∀ j, j < vs.length * k → own va.block (va.off + j) = none := fun j hj => by
      have hjl : j < (flatC vs).length := by rw [flatC_length hkv]; exact hj
      cases hy with
      | imm hs1 hk1 hc1 hf1 ht1 =>
        obtain ⟨q, r, e, h1, h2, h3⟩ := flatC_inv hkv (List.getElem?_eq_getElem hjl)
        have := (Io.fzs _ _ _ ((hf1 q e h2).2 r _ h3).2).1
        rw [show va.off + q * k + r = va.off + j by omega] at this
        exact this
    have hvpos : 0 < vs.length * k := Nat.mul_pos hvs hk0
    by_cases hroom : es.length + vs.length ≤ cap - off
    · have hnm : (es.length + vs.length) * k ≤ (cap - off) * k := Nat.mul_le_mul_right _ hroom
      have hA : ∀ j, j < (es.length + vs.length) * k → own ab (bo + off * k + j) = some (.r b) ∧ Live w ab (bo + off * k + j) := fun j hj => hcells j (by omega)
      have hAsome : ∀ j, j < (es.length + vs.length) * k → (w.cell? ⟨ab, bo + off * k + j, none⟩).isSome = true := fun j hj => by
        obtain ⟨v, hv⟩ := (hA j hj).2.1; rw [hv]; rfl
      have hpos : 0 < (es.length + vs.length) * k := Nat.mul_pos (by omega) hk0
      have hik : (i + vs.length) * k + (es.length - i) * k = (es.length + vs.length) * k := by rw [← Nat.add_mul]; congr 1; omega
      have hapart : va.block = ab → bo + off * k + (es.length + vs.length) * k ≤ va.off ∨ va.off + vs.length * k ≤ bo + off * k := fun e =>
        apart_of_own (own := own) (ab := ab) (q := b) hvpos hpos (fun j hj => by rw [← e]; exact hvown j hj) (fun j hj => (hA j hj).1)
      have him : (i + vs.length) * k ≤ (es.length + vs.length) * k := Nat.mul_le_mul_right _ (by omega)
      have hov : ∀ lb cb, lb = es.length - i → (callFunc (ρ.f 29) #[.slice (some va) vs.length vc, .slice (some ⟨ab, bo + off * k + (i + vs.length) * k, none⟩) lb cb]).run P w = .ok (.value (.bool false)) w := fun lb cb hlb => by
        rw [L.ov]
        by_cases hbe : va.block = ab
        · rw [run_ov_same w (ρ.t 24) (ρ.t 4) (ρ.t 9) L.t24 k L.z9 va ⟨ab, bo + off * k + (i + vs.length) * k, none⟩ _ vc lb cb hbe (by
            show bo + off * k + (i + vs.length) * k + lb * k ≤ va.off ∨ va.off + vs.length * k ≤ bo + off * k + (i + vs.length) * k
            subst hlb
            rcases hapart hbe with h1 | h1
            · left; omega
            · right; omega)]
          rfl
        · obtain ⟨x, hx⟩ := (hA 0 hpos).2.1
          have hvl0 : 0 < vv.length := by rw [hvvl]; exact hvpos
          have hy0 := hvc 0 _ (List.getElem?_eq_getElem hvl0)
          obtain ⟨T1, n1, hs1, hn1⟩ := shape_of_cell hy0
          obtain ⟨T2, n2, hs2, hn2⟩ := shape_of_cell hx
          have hlive : w.frozen? ⟨ab, bo + off * k + (i + vs.length) * k, none⟩ = false := by
            have : (i + vs.length) * k < (es.length + vs.length) * k := Nat.mul_lt_mul_of_pos_right (by omega) hk0
            exact (hA _ this).2.2
          rw [run_ov_other w (ρ.t 24) (ρ.t 4) (ρ.t 9) L.t24 k L.z9 va ⟨ab, bo + off * k + (i + vs.length) * k, none⟩ _ vc lb cb hbe T1 T2 n1 n2 hs1 hs2 hn1 hn2 hlive (hclean.2 rfl T2 n2 hs2)]
          rfl
      have hdl : (cs.drop (i * k)).length = (es.length - i) * k := by rw [List.length_drop, hcsl, hcl, Nat.sub_mul]
      have hti : cut off (off + i) es0 = es.take i := by rw [← hes]; exact cut_take _ _ _ _ (by omega)
      have C := ins_shift L ab (bo + off * k) es.length (cap - off) i vs.length vc va cs vv w (by omega) hvs hroom (by unfold sizeMost at hmost; omega) (by rw [hcsl, hcl]) hvvl
        hcc (fun j hj => hAsome j hj) (fun j hj => (hA j hj).2.2) hvc' hva (fun e => (hapart e).symm.imp (fun h => by rw [Nat.add_mul]; omega) (fun h => h)) h1c h1v
        (fun cb => hov _ _ (by omega))
      refine C.mono fun e w' ⟨he, hw'⟩ => ⟨_, he, ?_⟩
      subst hw'
      have hp := post_ext_row (id := h.next) I' (allK_append hkb (allK_drop hke i)) (allFlat_append hfb (allFlat_drop hfe i)) hk0 hgb hrw (off := off) (len := i) (by omega) (by rw [List.length_append, List.length_map, List.length_drop]; omega)
        (news := vv ++ cs.drop (i * k)) (by rw [flatC_append, flatC_drop hke]; exact hvb.append (hcv.drop _))
      rw [hti] at hp
      have hoff : bo + (off + i) * k = bo + off * k + i * k := by rw [Nat.add_mul]; omega
      rw [hoff] at hp
      have hp2 := post_two (b := ab) (o1 := bo + off * k + i * k) (o2 := bo + off * k + (i + vs.length) * k) (x := vv) (y := cs.drop (i * k)) hab (by rw [hvvl, Nat.add_mul]; omega)
        (fun j hj => by rw [Nat.add_assoc]; exact hAsome _ (by rw [hvvl] at hj; rw [Nat.add_mul] at hik; omega))
        (fun j hj => by rw [Nat.add_assoc]; exact hAsome _ (by rw [hdl] at hj; omega)) hp
      refine ⟨_, ?_, post_ex hp2 fun j hj hlt _ => absurd hlt (by omega)⟩
      have := VR.ref (off := 0) (len := es.length + vs.length) (a := ⟨ab, bo + off * k, none⟩) (withRw_self G b (ver + 1) (ab, bo + off * k, k, cap - off)) hk0 (by omega) rfl (.inr (by simp))
      rw [hcl]
      simpa using this
    · have C := ins_grow L hzz hby ab (bo + off * k) es.length (cap - off) i vs.length vc va cs vv w (by omega) hvs (by omega) (by omega) (by unfold sizeMost at hmost; omega) (by rw [hcsl, hcl]) hvvl hcc hvc'
        (by obtain ⟨v, hv⟩ := (hcells 0 (Nat.mul_pos (by omega) hk0)).2.1; exact cell_lt hv) (by
          have hl0 : 0 < vv.length := by rw [hvvl]; exact hvpos
          have := hvc 0 _ (List.getElem?_eq_getElem hl0)
          exact cell_lt this) h1c h1v
      refine C.mono fun e w' ⟨GC, ROW, hG1, hG2, he, hw', hR⟩ => ⟨_, he, ?_⟩
      subst hw'
      obtain ⟨L0, hL0⟩ : ∃ L0, L0 = cs.take (i * k) ++ (vv ++ cs.drop (i * k)) := ⟨_, rfl⟩
      have hdl : (cs.drop (i * k)).length = (es.length - i) * k := by rw [List.length_drop, hcsl, hcl, Nat.sub_mul]
      have htl : (cs.take (i * k)).length = i * k := by
        rw [List.length_take, hcsl, hcl]
        exact Nat.min_eq_left (Nat.mul_le_mul_right _ (by omega))
      have hik : i * k + vs.length * k + (es.length - i) * k = (es.length + vs.length) * k := by rw [← Nat.add_mul, ← Nat.add_mul]; congr 1; omega
      have hGk : (es.length + vs.length) * k ≤ ROW.size := by rw [hG2]; exact Nat.mul_le_mul_right _ hG1
      obtain ⟨W, hW⟩ : ∃ W, W = ((((w.alloc (.cells ROW (ρ.t 9))).drew.setCells w.heap.size (i * k) vv).drew).setCells w.heap.size ((i + vs.length) * k) (cs.drop (i * k))) := ⟨_, rfl⟩
      rw [← hW]
      have hR0 : ∀ j, (w.alloc (.cells ROW (ρ.t 9))).cell? ⟨w.heap.size, j, none⟩ = ROW[j]? := fun j => World.cell?_alloc_at ROW _ w.heap.size j rfl
      have hsome0 : ∀ j, j < ROW.size → (w.alloc (.cells ROW (ρ.t 9))).cell? ⟨w.heap.size, j, none⟩ = some (ROW[j]!) := fun j hj => by rw [hR0]; simp [hj]
      have hs1 : ∀ j, j < vv.length → ((w.alloc (.cells ROW (ρ.t 9))).drew.cell? ⟨w.heap.size, i * k + j, none⟩).isSome = true := fun j hj => by
        have := hsome0 (i * k + j) (by omega)
        have e : (w.alloc (.cells ROW (ρ.t 9))).drew.cell? ⟨w.heap.size, i * k + j, none⟩ = _ := this
        rw [e]; rfl
      have hs2 : ∀ j, j < (cs.drop (i * k)).length → ((((w.alloc (.cells ROW (ρ.t 9))).drew.setCells w.heap.size (i * k) vv).drew).cell? ⟨w.heap.size, (i + vs.length) * k + j, none⟩).isSome = true := fun j hj => by
        refine Go.Proofs.isSome_setCells w.heap.size vv (i * k) _ hs1 _ ?_
        have := hsome0 ((i + vs.length) * k + j) (by rw [Nat.add_mul]; omega)
        have e : (w.alloc (.cells ROW (ρ.t 9))).drew.cell? ⟨w.heap.size, (i + vs.length) * k + j, none⟩ = _ := this
        rw [e]; rfl
      have hWL : ∀ (j : Nat) (v : Value), L0[j]? = some v → W.cell? ⟨w.heap.size, j, none⟩ = some v := fun j v hj => by
        rw [hL0] at hj
        by_cases c1 : j < i * k
        · rw [List.getElem?_append_left (by omega)] at hj
          have := hR j v hj
          rw [hW, setCells_out (fun _ => .inl (by rw [Nat.add_mul]; omega))]
          show ((w.alloc (.cells ROW (ρ.t 9))).drew.setCells w.heap.size (i * k) vv).cell? _ = _
          rw [setCells_out (fun _ => .inl (by omega))]
          exact (hR0 j).trans this
        · rw [List.getElem?_append_right (by omega), htl] at hj
          by_cases c2 : j - i * k < vv.length
          · rw [List.getElem?_append_left c2] at hj
            have h1 := World.cell?_setCells_in w.heap.size vv (i * k) ((w.alloc (.cells ROW (ρ.t 9))).drew) hs1 (j - i * k) c2
            rw [show i * k + (j - i * k) = j by omega] at h1
            rw [hW, setCells_out (fun _ => .inl (by rw [Nat.add_mul]; omega))]
            exact (h1.trans (List.getElem?_eq_getElem c2).symm).trans hj
          · rw [List.getElem?_append_right (by omega)] at hj
            have hjl := (List.getElem?_eq_some_iff.1 hj).1
            have h1 := World.cell?_setCells_in w.heap.size (cs.drop (i * k)) ((i + vs.length) * k) _ hs2 (j - i * k - vv.length) hjl
            rw [show (i + vs.length) * k + (j - i * k - vv.length) = j by rw [Nat.add_mul]; omega] at h1
            rw [hW]
            exact (h1.trans (List.getElem?_eq_getElem hjl).symm).trans hj
      have hWsome : ∀ j, j < ROW.size → (W.cell? ⟨w.heap.size, j, none⟩).isSome = true := fun j hj => by
        rw [hW]
        refine Go.Proofs.isSome_setCells _ _ _ _ hs2 _ ?_
        refine Go.Proofs.isSome_setCells w.heap.size vv (i * k) _ hs1 _ ?_
        have e : (w.alloc (.cells ROW (ρ.t 9))).drew.cell? ⟨w.heap.size, j, none⟩ = _ := hsome0 j hj
        rw [e]; rfl
      obtain ⟨A, hA⟩ : ∃ A : Array Value, A = Array.ofFn (n := ROW.size) fun j => (W.cell? ⟨w.heap.size, j.val, none⟩).getD .nilFunc := ⟨_, rfl⟩
      have hAs : A.size = ROW.size := by rw [hA, Array.size_ofFn]
      have hAc : ∀ j, A[j]? = W.cell? ⟨w.heap.size, j, none⟩ := fun j => by
        by_cases hj : j < ROW.size
        · rw [hA, Array.getElem?_ofFn, dif_pos hj]
          have := hWsome j hj
          cases hq : W.cell? ⟨w.heap.size, j, none⟩ with
          | none => rw [hq] at this; cases this
          | some v => rfl
        · rw [Array.getElem?_eq_none (by omega), hW, setCells_out (fun _ => .inr (by rw [Nat.add_mul]; omega))]
          show _ = ((w.alloc (.cells ROW (ρ.t 9))).drew.setCells w.heap.size (i * k) vv).cell? _
          rw [setCells_out (fun _ => .inr (by omega))]
          exact ((hR0 j).trans (Array.getElem?_eq_none (by omega))).symm
      have hYl : (es.take i ++ (vs.map CVal.bare ++ es.drop i)).length = es.length + vs.length := by simp; omega
      have hYk : AllK k (es.take i ++ (vs.map CVal.bare ++ es.drop i)) := allK_append (allK_take hke i) (allK_append hkb (allK_drop hke i))
      have hYf : AllFlat (es.take i ++ (vs.map CVal.bare ++ es.drop i)) := allFlat_append (fun e he => hfe e (List.mem_of_mem_take he)) (allFlat_append hfb (allFlat_drop hfe i))
      have hYv : VRs G (flatC (es.take i ++ (vs.map CVal.bare ++ es.drop i))) L0 := by
        rw [flatC_append, flatC_append, flatC_drop hke, flatC_take hke, hL0]
        exact (hcv.take _).append (hvb.append (hcv.drop _))
      have hp := post_new_row (lo := 0) (hi := 0) (T := ρ.t 9) (ver := ver + 1) (cap := GC) (arr := A) I' (Nat.le_refl _) hbn (fun v x hx => by have := hvmax v x hx; omega) hYk hYf (by rw [hYl]; exact hG1) (by rw [hAs, hG2]; exact Nat.le_refl _)
        (fun j c hc => by
          have hlt : j < L0.length := by rw [← hYv.1]; exact (List.getElem?_eq_some_iff.1 hc).1
          exact ⟨L0[j], by rw [hAc]; exact hWL j _ (List.getElem?_eq_getElem hlt), hYv.2 j c _ hc (List.getElem?_eq_getElem hlt)⟩)
        (get_set_self (o := .row (ver + 1) (es.take i ++ (vs.map CVal.bare ++ es.drop i))) hgb) (fun b' hne => get_set_other hne) rfl (nodup_set h b _ Io.nod) ⟨Nat.le_refl _, Nat.zero_le _⟩ (fun T' h1 => by have h1 : h.ty b = some T' := h1; rw [hnt] at h1; cases h1) (fun b' T' _ h1 => h1)
      have hbel : Below base w W := by
        rw [hW]
        exact (((Below.refl base w).alloc Io.top _).drew.trans (below_setCells Io.top _ _ _)).drew.trans (below_setCells Io.top _ _ _)
      have hp2 := post_world (w2 := W) hp (fun ab' j => by
          by_cases hb' : ab' = w.heap.size
          · subst hb'; exact (hAc j).symm.trans (World.cell?_alloc_at A _ w.heap.size j rfl).symm
          · rw [hW, setCells_out (fun e => absurd e hb')]
            show ((w.alloc (.cells ROW (ρ.t 9))).drew.setCells w.heap.size (i * k) vv).cell? _ = _
            rw [setCells_out (fun e => absurd e hb')]
            show (w.alloc (.cells ROW (ρ.t 9))).cell? _ = _
            rw [World.cell?_alloc_old (h := hb'), World.cell?_alloc_old (h := hb')])
        (fun ab' j => by
          rw [hW, World.frozen?_setCells]
          show ((w.alloc (.cells ROW (ρ.t 9))).drew.setCells w.heap.size (i * k) vv).frozen? _ = _
          rw [World.frozen?_setCells]
          show (w.alloc (.cells ROW (ρ.t 9))).frozen? _ = _
          rw [frozen_alloc0, frozen_alloc0])
        (by
          rw [hW, setCells_size]
          show ((w.alloc (.cells ROW (ρ.t 9))).drew.setCells w.heap.size (i * k) vv).heap.size = _
          rw [setCells_size]
          show (w.heap.push _).size = (w.heap.push _).size
          rw [Array.size_push, Array.size_push])
        (fun ab' => by
          rw [hW, shape_setCells]
          show ((w.alloc (.cells ROW (ρ.t 9))).drew.setCells w.heap.size (i * k) vv).shape? _ = _
          rw [shape_setCells]
          show (w.alloc (.cells ROW (ρ.t 9))).shape? _ = _
          rw [shape_alloc, shape_alloc, hAs])
        (fun ab' es' ck hm => by
          rw [hW]
          refine map_setCells _ _ _ _ ?_
          show ((w.alloc (.cells ROW (ρ.t 9))).drew.setCells w.heap.size (i * k) vv).heap[ab']? = _
          refine map_setCells _ _ _ _ ?_
          show (w.alloc (.cells ROW (ρ.t 9))).heap[ab']? = _
          rw [heap_alloc] at hm ⊢
          split at hm
          · cases hm
          · rename_i hne; rw [if_neg hne]; exact hm)
        (fun ab' T' hr => by
          rw [hW]
          refine rowb_setCells _ _ _ _ ?_
          show RowB ((w.alloc (.cells ROW (ρ.t 9))).drew.setCells w.heap.size (i * k) vv) ab' T'
          refine rowb_setCells _ _ _ _ ?_
          show RowB (w.alloc (.cells ROW (ρ.t 9))) ab' T'
          obtain ⟨c, lo, hi, he, h1, h2⟩ := hr
          rw [heap_alloc] at he
          unfold RowB
          rw [heap_alloc]
          split at he
          · cases he
            rename_i e
            exact ⟨ROW, 0, 0, by rw [if_pos e], Nat.le_refl _, Nat.zero_le _⟩
          · rename_i hne; exact ⟨c, lo, hi, by rw [if_neg hne]; exact he, h1, h2⟩)
        (fun ab' m s sn l hm => by
          rw [hW]
          refine iter_setCells _ _ _ _ ?_
          show ((w.alloc (.cells ROW (ρ.t 9))).drew.setCells w.heap.size (i * k) vv).heap[ab']? = _
          refine iter_setCells _ _ _ _ ?_
          show (w.alloc (.cells ROW (ρ.t 9))).heap[ab']? = _
          rw [heap_alloc] at hm ⊢
          split at hm
          · cases hm
          · rename_i hne; rw [if_neg hne]; exact hm) hbel
      refine ⟨_, ?_, post_ex hp2 fun j hj hlt hfj => by subst hj; have := hfj.2.2.2; rw [hgb] at this; cases this⟩
      rw [hcl]
      exact vr_row0 hk0 hG1
end
end Go.CI

/- slices.Insert as a function of the interpreter's own: it is the model's. -/
set_option linter.unusedVariables false
namespace Go.CI
open Go.RowKit

section
variable {P : Program} {base : Base} {ρ : Go.Shelf.Ren}

theorem sim_insert {nm : String} {k by_ : Nat} {zz : Value} {g : ElemInfo} (L : InsLay P ρ nm k zz by_) (hname : (nm == "runtime.NumGoroutine") = false) (hzz : zz.cells.size = k) (hby : by_ ≤ 4096) (hg : infoOf P (ρ.t 9) = some g) (hgk : g.size = k) (hgb : g.bytes ≤ 4096) :
    SimPrim P base (ρ.f 22) (pInsert k) := by
  intro G h w xs us v h' hp I hr
  unfold pInsert at hp
  split at hp
  · rename_i s i t l vs
    obtain ⟨S, N, Y, rfl, hS, hN, hY⟩ := vrs_three hr
    have := vr_int (c := .nilp) hN
    subst this
    split at hp
    · rename_i hc
      simp only [Bool.and_eq_true, decide_eq_true_eq] at hc
      obtain ⟨rfl, hvs, hi0⟩ := hc
      split at hp
      · rename_i es hes
        split at hp
        · rename_i hie
          have e : i = (es.length : Int) := by omega
          subst e
          exact ins_at_end L hname hg hgk hgb I hS hY hvs hes hp
        · split at hp
          · rename_i hcond
            simp only [Bool.and_eq_true, decide_eq_true_eq] at hcond
            split at hp
            · rename_i b ver k2 off len
              split at hp
              · cases hp
              rename_i hnt
              have hnt : h.ty b = none := by simpa using hnt
              split at hp
              · rename_i v0 es0 hget
                cases hp
                have hes' := hes
                simp only [elems, hget] at hes'
                split at hes'
                · rename_i hq
                  simp only [Bool.and_eq_true, decide_eq_true_eq] at hq
                  obtain ⟨h1, h2, h3⟩ := hq
                  cases hes'
                  subst h1
                  subst h2
                  have hcl : (cut off (off + len) es0).length = len := by rw [length_cut _ _ _ h3]; omega
                  rw [hcl] at hcond ⊢
                  have e : i = ((i.toNat : Nat) : Int) := by omega
                  have := ins_mid L hname hzz hby (i := i.toNat) I hS hY hvs hget hnt h3 hcond.1 hcond.2
                  rw [← e] at this
                  exact this
                · cases hes'
              · cases hp
            · cases hp
          · cases hp
      · cases hp
    · cases hp
  · cases hp
end
end Go.CI

/- A law without arguments: what is left to show is a run of the interpreter. -/
set_option linter.unusedVariables false
namespace Go.CI
open Go.RowKit

/-- The functions, by their numbers. -/
inductive CTree where
  | leaf (i : Nat) (fn : CFn)
  | node (m : Nat) (a b : CTree)

def CTree.get : CTree → Nat → Option CFn
  | .leaf i fn, f => bif Nat.beq f i then some fn else none
  | .node m a b, f => bif Nat.blt f m then a.get f else b.get f

def CTree.All (p : Nat → CFn → Prop) : CTree → Prop
  | .leaf i fn => p i fn
  | .node _ a b => a.All p ∧ b.All p

theorem CTree.get_all {p : Nat → CFn → Prop} {t : CTree} (h : t.All p) {f : Nat} {fn : CFn} (hg : t.get f = some fn) : p f fn := by
  induction t with
  | leaf i x =>
    have hg : (bif Nat.beq f i then some x else none) = some fn := hg
    cases hb : Nat.beq f i with
    | true => rw [hb] at hg; cases hg; have := Nat.eq_of_beq_eq_true hb; subst this; exact h
    | false => rw [hb] at hg; cases hg
  | node m a b iha ihb =>
    have hg : (bif Nat.blt f m then a.get f else b.get f) = some fn := hg
    cases hb : Nat.blt f m with
    | true => rw [hb] at hg; exact iha h.1 hg
    | false => rw [hb] at hg; exact ihb h.2 hg

section
variable {P : Program}

def FnOkAt (P : Program) (H : Hints) (base : Base) (f : Nat) : CFn → Prop
  | .ir fn => cfunc P H f = some fn
  | .prim p => SimPrim P base f p

theorem TOk.of_tree {H : Hints} {base : Base} {t : CTree} (h : t.All (FnOkAt P H base)) : TOk P H base t.get :=
  ⟨fun f fn hf => CTree.get_all h hf, fun f p hf => CTree.get_all (p := FnOkAt P H base) h hf⟩

def saysTrue : Option (CVal × CHeap) → Bool
  | some (.bool b, _) => b
  | _ => false

theorem closed_calls {H : Hints} {T : Nat → Option CFn} {n f : Nat} {fn : CFunc} (w : World) {F : Nat → Nat → Option CVal} {gl : List (Nat × List CVal)} (hgl : GlobsIn H.globals gl) (hmixed : P.follows .mixedOrders = true) (hT : TOk P H ⟨w.heap.size, gl⟩ T) (hf : T f = some (.ir fn)) (B : Begins w gl F)
    (hrun : saysTrue (crun T n f [] noHeap) = true) : Calls P f #[] w fun e w' => e = .returned (.bool true) ∧ Below w.heap.size w w' := by
  cases hr : crun T n f [] noHeap with
  | none => rw [hr] at hrun; cases hrun
  | some x =>
    obtain ⟨v, h'⟩ := x
    rw [hr] at hrun
    have hv : v = .bool true := by cases v <;> simp_all [saysTrue]
    subst hv
    refine Calls.mono (crun_calls hgl hmixed hT hf B (args := []) (cs := []) (VRs.nil _) hr) ?_
    rintro e w' ⟨u, G, rfl, _, hu, hb, _⟩
    rw [vr_bool hu]
    exact ⟨rfl, hb⟩
end

section
open Go.ChangeShapes Go.WideShapes
variable {H : Type} {enc : TypeId × Value → H} {P : Program}

/-- What is left behind a call that turned nothing of what was there. -/
theorem post_of_below {f : Func} {s : ChangeSpec} {apart fresh handsOn again : Bool} {W W' : World} {args : Array Value} {v : Value} {ds gs : List (DataW H)} {before pa pv : List MemPlace}
    (hW : DataW.Whole enc P f.params.toList s.vars apart W args.toList ds gs before)
    (hres : ∀ (b : Nat) (sp : Nat → Bool) (hd : Bool), DataW.TrodAll enc P W' b sp hd f.resultTypes.toList (v.resultList f.resultTypes.size) (s.fn H (ds ++ gs)).results [])
    (hargs : ∀ sp : Nat → Bool, (∀ p ∈ before, sp p.block = true) → DataW.TrodAll enc P W' 0 sp true f.params.toList args.toList (s.fn H (ds ++ gs)).args pa)
    (hvars : ∀ sp : Nat → Bool, (∀ p ∈ before, sp p.block = true) → DataW.TrodVars enc P W' sp s.vars (s.fn H (ds ++ gs)).vars pv)
    (hps : before = pa ++ pv) (hb : Below W.heap.size W W')
    (hok : ∀ (j : Nat) (t : TypeId) (r : Value), f.resultTypes[j]? = some t → (v.resultList f.resultTypes.size)[j]? = some r → Value.okWide P W' .any 0 t r) :
    s.post enc P f apart fresh handsOn again W args v W' := by
  have hold : ∀ p ∈ before, (fun b => decide (b < W.heap.size)) p.block = true := fun p hp => by simpa using hW.lt p hp
  have hlt := hW.lt
  refine ⟨ds, gs, before, [], pa, pv, hW, hres _ _ _, hargs _ hold, hvars _ hold, World.keptBut_mono (fun p hp => ⟨hp, ?_⟩) (hb.frame (· ∈ before)), fun _ => ?_⟩
  · rw [hps, List.mem_append] at hp
    exact Or.inr hp
  · obtain ⟨_, _, _, _, _, hz, hn⟩ := hW
    refine ⟨hok, _, _, ([] ++ pa) ++ pv, ⟨[] ++ pa, pv, trodAll_append (hargs _ (fun _ _ => rfl)) (hres _ _ _), hvars _ (fun _ _ => rfl), rfl, ?_, ?_⟩, ?_⟩
    · intro b off hp
      have hm : MemPlace.cell b off ∈ before := by rw [hps]; simpa using hp
      have hfr : W'.frozen? ⟨b, off, none⟩ = W.frozen? ⟨b, off, none⟩ := hb.frozen (by have := hlt _ hm; exact this)
      rw [hfr]
      exact hz b off hm
    · intro ha
      have := hn ha
      rw [hps] at this
      simpa using this
    · intro p hp _
      rw [hps]
      simpa using hp
end

section
variable {P : Program}

theorem size_of {t : TypeId} {k : Nat} (h : (P.info? t).map (·.size) = some k) (w : World) : (Go.sizeOf t).run P w = .ok k w := by
  obtain ⟨i, h1, h2⟩ := Option.map_eq_some_iff.1 h
  rw [r_size h1, h2]
theorem zero_of {t : TypeId} {z : Value} (h : (P.info? t).map (·.zero) = some (some z)) (w : World) : (zeroValue t).run P w = .ok z w := by
  obtain ⟨i, h1, h2⟩ := Option.map_eq_some_iff.1 h
  exact r_zero h1 h2

/-- The facts on slices.Insert that a program bears, each closed. -/
theorem InsLay.of {ρ : Go.Shelf.Ren} {nm : String} {k by_ : Nat} {z : Value} {fm : Func} (mixed : P.follows .mixedOrders = true) (f22 : P.funcs[ρ.f 22]? = some { Go.Proofs.Body2.n22 ρ with name := nm })
    (f29 : P.funcs[ρ.f 29]? = some fm) (h2 : (fm.name == "runtime.NumGoroutine") = false) (h3 : fm.body.isNone = true) (h4 : Extern.findNext fm = none) (h5 : Extern.find fm = some (Extern.SlicesOverlaps.overlaps #[ρ.t 24, ρ.t 24] #[ρ.t 4]))
    (t0 : P.underlying (ρ.t 0) = some (TypeDesc.tuple #[])) (t3 : P.underlying (ρ.t 3) = some (TypeDesc.int IntKind.i64)) (t4 : P.underlying (ρ.t 4) = some (TypeDesc.bool)) (t24 : P.underlying (ρ.t 24) = some (TypeDesc.slice (ρ.t 9)))
    (s3 : (P.info? (ρ.t 3)).map (·.size) = some 1) (s4 : (P.info? (ρ.t 4)).map (·.size) = some 1) (s24 : (P.info? (ρ.t 24)).map (·.size) = some 1)
    (z3 : (P.info? (ρ.t 3)).map (·.zero) = some (some (Value.int IntKind.i64 0))) (z4 : (P.info? (ρ.t 4)).map (·.zero) = some (some (Value.bool false))) (z24 : (P.info? (ρ.t 24)).map (·.zero) = some (some (Value.slice none 0 0)))
    (i9 : (P.info? (ρ.t 9)).map (fun i => (i.zero, i.size, i.bytes)) = some (some z, k, by_)) (k0 : 0 < k) : InsLay P ρ nm k z by_ where
  mixed := mixed
  f22 := f22
  ov args w := run_callFunc_extern f29 h2 h3 h4 h5 args w
  t0 := t0
  t3 := t3
  a3 w := r_agg t3
  z3 := size_of s3
  v3 := zero_of z3
  t4 := t4
  a4 w := r_agg t4
  z4 := size_of s4
  v4 := zero_of z4
  z9 := size_of (by
    obtain ⟨i, h1, h2⟩ := Option.map_eq_some_iff.1 i9
    have h3 := congrArg (fun x : Option Value × Nat × Nat => x.2.1) h2
    rw [h1]; exact congrArg some h3)
  t24 := t24
  a24 w := r_agg t24
  z24 := size_of s24
  v24 := zero_of z24
  i9 := i9
  k0 := k0
end
end Go.CI

/- strings.Builder's own functions, and others of the library, as functions of the interpreter's own. -/
set_option linter.unusedVariables false
namespace Go.CI

def hasPair : List (Nat × Nat) → Nat → Nat → Bool
  | [], _, _ => false
  | (a, b) :: r, x, y => (a == x && b == y) || hasPair r x y

/-- A Builder marks itself as used; oks: in which blocks, at which places. -/
def pCopyCheck (oks : List (Nat × Nat)) (xs : List CVal) (h : CHeap) : Option (CVal × CHeap) :=
  match xs with
  | [.ptr b d o] => if hasPair oks d o then match h.get b with
    | some (.cells cs) => match nth cs o with
      | .nilp => some (.tup [], h.set b (.cells (setCells cs o [.ptr b d o])))
      | .ptr b' d' o' => if b' == b && (d' == d && o' == o) then some (.tup [], h) else none
      | _ => none
    | _ => none else none
  | _ => none

def byteVals : List CVal → Option (List UInt8)
  | [] => some []
  | .int .u8 n :: r => if decide (0 ≤ n) && decide (n < 256) then (byteVals r).map (UInt8.ofNat n.toNat :: ·) else none
  | _ => none

/-- A row, written or not any more. -/
def rowOf : Option CObj → Option (Nat × List CVal)
  | some (.row v es) => some (v, es)
  | some (.frow v es) => some (v, es)
  | _ => none

/-- What a Builder holds, as a text: its row is written no more. -/
def pBString (T : Nat) (xs : List CVal) (h : CHeap) : Option (CVal × CHeap) :=
  match xs with
  | [.ptr b d o] => match h.get b with
    | some (.cells cs) => match nth cs (o + 1) with
      | .nils => some (.str [], h)
      | .ref r ver 1 off len => match rowOf (h.get r) with
        | some (v, es) => if v == ver && (decide (off + len ≤ es.length) && (decide (0 < len) && (decide (len ≤ sizeMost) && (h.ty r == some T)))) then (byteVals (cut off (off + len) es)).map fun l => (.str l, h.set r (.frow v es)) else none
        | _ => none
      | _ => none
    | _ => none
  | _ => none

/-- A row of bytes of which nothing is known. -/
def pMakeNoZero (T : Nat) (xs : List CVal) (h : CHeap) : Option (CVal × CHeap) :=
  match xs with
  | [.int .i64 n] => if decide (0 ≤ n) && decide (n ≤ sizeMost) then some (.ref h.next 0 1 0 n.toNat, (({ h with next := h.next + 1 } : CHeap).put h.next (.row 0 [])).note h.next (T + 1)) else none
  | _ => none

def hasFront : List UInt8 → List UInt8 → Bool
  | _, [] => true
  | [], _ :: _ => false
  | a :: x, b :: y => a == b && hasFront x y
def idxSub (p : List UInt8) : List UInt8 → Nat → Int
  | [], i => match p with
    | [] => i
    | _ :: _ => -1
  | a :: r, i => bif hasFront (a :: r) p then i else idxSub p r (i + 1)
def pIndex (xs : List CVal) (h : CHeap) : Option (CVal × CHeap) :=
  match xs with
  | [.str s, .str p] => if decide (s.length < 4294967281) then some (.int .i64 (idxSub p s 0), h) else none
  | _ => none
end Go.CI

/- The interpreter once more, in a form that the kernel runs fast: every choice is a recursor over closed terms. -/
set_option linter.unusedVariables false
namespace Go.CI

/-! Which value it is. -/
noncomputable def selBool (v : CVal) : (β : Type) → (Bool → β) → β → β :=
  @CVal.rec.{2} (fun _ => (β : Type) → (Bool → β) → β → β) (fun _ => PUnit)
    (fun _ _ d => d) (fun x0 => fun _ f _ => f x0) (fun _ _ => fun _ _ d => d) (fun _ => fun _ _ d => d) (fun _ _ d => d) (fun _ _ _ => fun _ _ d => d) (fun _ _ _ => fun _ _ d => d) (fun _ _ _ _ => fun _ _ d => d) (fun _ _ d => d) (fun _ _ _ _ => fun _ _ d => d) (fun _ _ _ _ _ => fun _ _ d => d) (fun _ _ d => d) (fun _ => fun _ _ d => d) (fun _ _ _ _ _ => fun _ _ d => d) (fun _ _ d => d) (fun _ _ _ => fun _ _ d => d) (fun _ _ d => d) (fun _ _ => fun _ _ d => d) (fun _ _ => fun _ _ d => d) PUnit.unit (fun _ _ _ _ => PUnit.unit) v

noncomputable def selInt (v : CVal) : (β : Type) → (IntKind → Int → β) → β → β :=
  @CVal.rec.{2} (fun _ => (β : Type) → (IntKind → Int → β) → β → β) (fun _ => PUnit)
    (fun _ _ d => d) (fun _ => fun _ _ d => d) (fun x0 x1 => fun _ f _ => f x0 x1) (fun _ => fun _ _ d => d) (fun _ _ d => d) (fun _ _ _ => fun _ _ d => d) (fun _ _ _ => fun _ _ d => d) (fun _ _ _ _ => fun _ _ d => d) (fun _ _ d => d) (fun _ _ _ _ => fun _ _ d => d) (fun _ _ _ _ _ => fun _ _ d => d) (fun _ _ d => d) (fun _ => fun _ _ d => d) (fun _ _ _ _ _ => fun _ _ d => d) (fun _ _ d => d) (fun _ _ _ => fun _ _ d => d) (fun _ _ d => d) (fun _ _ => fun _ _ d => d) (fun _ _ => fun _ _ d => d) PUnit.unit (fun _ _ _ _ => PUnit.unit) v

noncomputable def selStr (v : CVal) : (β : Type) → (List UInt8 → β) → β → β :=
  @CVal.rec.{2} (fun _ => (β : Type) → (List UInt8 → β) → β → β) (fun _ => PUnit)
    (fun _ _ d => d) (fun _ => fun _ _ d => d) (fun _ _ => fun _ _ d => d) (fun x0 => fun _ f _ => f x0) (fun _ _ d => d) (fun _ _ _ => fun _ _ d => d) (fun _ _ _ => fun _ _ d => d) (fun _ _ _ _ => fun _ _ d => d) (fun _ _ d => d) (fun _ _ _ _ => fun _ _ d => d) (fun _ _ _ _ _ => fun _ _ d => d) (fun _ _ d => d) (fun _ => fun _ _ d => d) (fun _ _ _ _ _ => fun _ _ d => d) (fun _ _ d => d) (fun _ _ _ => fun _ _ d => d) (fun _ _ d => d) (fun _ _ => fun _ _ d => d) (fun _ _ => fun _ _ d => d) PUnit.unit (fun _ _ _ _ => PUnit.unit) v

noncomputable def selPtr (v : CVal) : (β : Type) → (Nat → Nat → Nat → β) → β → β :=
  @CVal.rec.{2} (fun _ => (β : Type) → (Nat → Nat → Nat → β) → β → β) (fun _ => PUnit)
    (fun _ _ d => d) (fun _ => fun _ _ d => d) (fun _ _ => fun _ _ d => d) (fun _ => fun _ _ d => d) (fun _ _ d => d) (fun x0 x1 x2 => fun _ f _ => f x0 x1 x2) (fun _ _ _ => fun _ _ d => d) (fun _ _ _ _ => fun _ _ d => d) (fun _ _ d => d) (fun _ _ _ _ => fun _ _ d => d) (fun _ _ _ _ _ => fun _ _ d => d) (fun _ _ d => d) (fun _ => fun _ _ d => d) (fun _ _ _ _ _ => fun _ _ d => d) (fun _ _ d => d) (fun _ _ _ => fun _ _ d => d) (fun _ _ d => d) (fun _ _ => fun _ _ d => d) (fun _ _ => fun _ _ d => d) PUnit.unit (fun _ _ _ _ => PUnit.unit) v

noncomputable def selCptr (v : CVal) : (β : Type) → (List CVal → Nat → β) → β → β :=
  @CVal.rec.{2} (fun _ => (β : Type) → (List CVal → Nat → β) → β → β) (fun _ => PUnit)
    (fun _ _ d => d) (fun _ => fun _ _ d => d) (fun _ _ => fun _ _ d => d) (fun _ => fun _ _ d => d) (fun _ _ d => d) (fun _ _ _ => fun _ _ d => d) (fun x0 x1 _ => fun _ f _ => f x0 x1) (fun _ _ _ _ => fun _ _ d => d) (fun _ _ d => d) (fun _ _ _ _ => fun _ _ d => d) (fun _ _ _ _ _ => fun _ _ d => d) (fun _ _ d => d) (fun _ => fun _ _ d => d) (fun _ _ _ _ _ => fun _ _ d => d) (fun _ _ d => d) (fun _ _ _ => fun _ _ d => d) (fun _ _ d => d) (fun _ _ => fun _ _ d => d) (fun _ _ => fun _ _ d => d) PUnit.unit (fun _ _ _ _ => PUnit.unit) v

noncomputable def selEptr (v : CVal) : (β : Type) → (Nat → Nat → Nat → Nat → β) → β → β :=
  @CVal.rec.{2} (fun _ => (β : Type) → (Nat → Nat → Nat → Nat → β) → β → β) (fun _ => PUnit)
    (fun _ _ d => d) (fun _ => fun _ _ d => d) (fun _ _ => fun _ _ d => d) (fun _ => fun _ _ d => d) (fun _ _ d => d) (fun _ _ _ => fun _ _ d => d) (fun _ _ _ => fun _ _ d => d) (fun x0 x1 x2 x3 => fun _ f _ => f x0 x1 x2 x3) (fun _ _ d => d) (fun _ _ _ _ => fun _ _ d => d) (fun _ _ _ _ _ => fun _ _ d => d) (fun _ _ d => d) (fun _ => fun _ _ d => d) (fun _ _ _ _ _ => fun _ _ d => d) (fun _ _ d => d) (fun _ _ _ => fun _ _ d => d) (fun _ _ d => d) (fun _ _ => fun _ _ d => d) (fun _ _ => fun _ _ d => d) PUnit.unit (fun _ _ _ _ => PUnit.unit) v

noncomputable def selImm (v : CVal) : (β : Type) → (Tag → Nat → List CVal → β) → β → β :=
  @CVal.rec.{2} (fun _ => (β : Type) → (Tag → Nat → List CVal → β) → β → β) (fun _ => PUnit)
    (fun _ _ d => d) (fun _ => fun _ _ d => d) (fun _ _ => fun _ _ d => d) (fun _ => fun _ _ d => d) (fun _ _ d => d) (fun _ _ _ => fun _ _ d => d) (fun _ _ _ => fun _ _ d => d) (fun _ _ _ _ => fun _ _ d => d) (fun _ _ d => d) (fun x0 x1 x2 _ => fun _ f _ => f x0 x1 x2) (fun _ _ _ _ _ => fun _ _ d => d) (fun _ _ d => d) (fun _ => fun _ _ d => d) (fun _ _ _ _ _ => fun _ _ d => d) (fun _ _ d => d) (fun _ _ _ => fun _ _ d => d) (fun _ _ d => d) (fun _ _ => fun _ _ d => d) (fun _ _ => fun _ _ d => d) PUnit.unit (fun _ _ _ _ => PUnit.unit) v

noncomputable def selRef (v : CVal) : (β : Type) → (Nat → Nat → Nat → Nat → Nat → β) → β → β :=
  @CVal.rec.{2} (fun _ => (β : Type) → (Nat → Nat → Nat → Nat → Nat → β) → β → β) (fun _ => PUnit)
    (fun _ _ d => d) (fun _ => fun _ _ d => d) (fun _ _ => fun _ _ d => d) (fun _ => fun _ _ d => d) (fun _ _ d => d) (fun _ _ _ => fun _ _ d => d) (fun _ _ _ => fun _ _ d => d) (fun _ _ _ _ => fun _ _ d => d) (fun _ _ d => d) (fun _ _ _ _ => fun _ _ d => d) (fun x0 x1 x2 x3 x4 => fun _ f _ => f x0 x1 x2 x3 x4) (fun _ _ d => d) (fun _ => fun _ _ d => d) (fun _ _ _ _ _ => fun _ _ d => d) (fun _ _ d => d) (fun _ _ _ => fun _ _ d => d) (fun _ _ d => d) (fun _ _ => fun _ _ d => d) (fun _ _ => fun _ _ d => d) PUnit.unit (fun _ _ _ _ => PUnit.unit) v

noncomputable def selFn (v : CVal) : (β : Type) → (Fn → List CVal → List CVal → β) → β → β :=
  @CVal.rec.{2} (fun _ => (β : Type) → (Fn → List CVal → List CVal → β) → β → β) (fun _ => PUnit)
    (fun _ _ d => d) (fun _ => fun _ _ d => d) (fun _ _ => fun _ _ d => d) (fun _ => fun _ _ d => d) (fun _ _ d => d) (fun _ _ _ => fun _ _ d => d) (fun _ _ _ => fun _ _ d => d) (fun _ _ _ _ => fun _ _ d => d) (fun _ _ d => d) (fun _ _ _ _ => fun _ _ d => d) (fun _ _ _ _ _ => fun _ _ d => d) (fun _ _ d => d) (fun _ => fun _ _ d => d) (fun x0 x1 x2 _ _ => fun _ f _ => f x0 x1 x2) (fun _ _ d => d) (fun _ _ _ => fun _ _ d => d) (fun _ _ d => d) (fun _ _ => fun _ _ d => d) (fun _ _ => fun _ _ d => d) PUnit.unit (fun _ _ _ _ => PUnit.unit) v

noncomputable def selAgg (v : CVal) : (β : Type) → (List CVal → β) → β → β :=
  @CVal.rec.{2} (fun _ => (β : Type) → (List CVal → β) → β → β) (fun _ => PUnit)
    (fun _ _ d => d) (fun _ => fun _ _ d => d) (fun _ _ => fun _ _ d => d) (fun _ => fun _ _ d => d) (fun _ _ d => d) (fun _ _ _ => fun _ _ d => d) (fun _ _ _ => fun _ _ d => d) (fun _ _ _ _ => fun _ _ d => d) (fun _ _ d => d) (fun _ _ _ _ => fun _ _ d => d) (fun _ _ _ _ _ => fun _ _ d => d) (fun _ _ d => d) (fun _ => fun _ _ d => d) (fun _ _ _ _ _ => fun _ _ d => d) (fun _ _ d => d) (fun _ _ _ => fun _ _ d => d) (fun _ _ d => d) (fun x0 _ => fun _ f _ => f x0) (fun _ _ => fun _ _ d => d) PUnit.unit (fun _ _ _ _ => PUnit.unit) v

noncomputable def selTup (v : CVal) : (β : Type) → (List CVal → β) → β → β :=
  @CVal.rec.{2} (fun _ => (β : Type) → (List CVal → β) → β → β) (fun _ => PUnit)
    (fun _ _ d => d) (fun _ => fun _ _ d => d) (fun _ _ => fun _ _ d => d) (fun _ => fun _ _ d => d) (fun _ _ d => d) (fun _ _ _ => fun _ _ d => d) (fun _ _ _ => fun _ _ d => d) (fun _ _ _ _ => fun _ _ d => d) (fun _ _ d => d) (fun _ _ _ _ => fun _ _ d => d) (fun _ _ _ _ _ => fun _ _ d => d) (fun _ _ d => d) (fun _ => fun _ _ d => d) (fun _ _ _ _ _ => fun _ _ d => d) (fun _ _ d => d) (fun _ _ _ => fun _ _ d => d) (fun _ _ d => d) (fun _ _ => fun _ _ d => d) (fun x0 _ => fun _ f _ => f x0) PUnit.unit (fun _ _ _ _ => PUnit.unit) v

noncomputable def selNils (v : CVal) : (β : Type) → β → β → β :=
  @CVal.rec.{2} (fun _ => (β : Type) → β → β → β) (fun _ => PUnit)
    (fun _ _ d => d) (fun _ => fun _ _ d => d) (fun _ _ => fun _ _ d => d) (fun _ => fun _ _ d => d) (fun _ _ d => d) (fun _ _ _ => fun _ _ d => d) (fun _ _ _ => fun _ _ d => d) (fun _ _ _ _ => fun _ _ d => d) (fun _ f _ => f ) (fun _ _ _ _ => fun _ _ d => d) (fun _ _ _ _ _ => fun _ _ d => d) (fun _ _ d => d) (fun _ => fun _ _ d => d) (fun _ _ _ _ _ => fun _ _ d => d) (fun _ _ d => d) (fun _ _ _ => fun _ _ d => d) (fun _ _ d => d) (fun _ _ => fun _ _ d => d) (fun _ _ => fun _ _ d => d) PUnit.unit (fun _ _ _ _ => PUnit.unit) v

noncomputable def isUndefF (v : CVal) : Bool :=
  @CVal.rec.{1} (fun _ => Bool) (fun _ => PUnit)
    (true) (fun _ => false) (fun _ _ => false) (fun _ => false) (false) (fun _ _ _ => false) (fun _ _ _ => false) (fun _ _ _ _ => false) (false) (fun _ _ _ _ => false) (fun _ _ _ _ _ => false) (false) (fun _ => false) (fun _ _ _ _ _ => false) (false) (fun _ _ _ => false) (false) (fun _ _ => false) (fun _ _ => false) PUnit.unit (fun _ _ _ _ => PUnit.unit) v

noncomputable def isPtrF (v : CVal) : Bool :=
  @CVal.rec.{1} (fun _ => Bool) (fun _ => PUnit)
    (false) (fun _ => false) (fun _ _ => false) (fun _ => false) (false) (fun _ _ _ => true) (fun _ _ _ => true) (fun _ _ _ _ => true) (false) (fun _ _ _ _ => false) (fun _ _ _ _ _ => false) (false) (fun _ => false) (fun _ _ _ _ _ => false) (false) (fun _ _ _ => false) (false) (fun _ _ => false) (fun _ _ => false) PUnit.unit (fun _ _ _ _ => PUnit.unit) v

noncomputable def isNilsF (v : CVal) : Bool :=
  @CVal.rec.{1} (fun _ => Bool) (fun _ => PUnit)
    (false) (fun _ => false) (fun _ _ => false) (fun _ => false) (false) (fun _ _ _ => false) (fun _ _ _ => false) (fun _ _ _ _ => false) (true) (fun _ _ _ _ => false) (fun _ _ _ _ _ => false) (false) (fun _ => false) (fun _ _ _ _ _ => false) (false) (fun _ _ _ => false) (false) (fun _ _ => false) (fun _ _ => false) PUnit.unit (fun _ _ _ _ => PUnit.unit) v

noncomputable def isSlcF (v : CVal) : Bool :=
  @CVal.rec.{1} (fun _ => Bool) (fun _ => PUnit)
    (false) (fun _ => false) (fun _ _ => false) (fun _ => false) (false) (fun _ _ _ => false) (fun _ _ _ => false) (fun _ _ _ _ => false) (false) (fun _ _ _ _ => true) (fun _ _ _ _ _ => true) (false) (fun _ => false) (fun _ _ _ _ _ => false) (false) (fun _ _ _ => false) (false) (fun _ _ => false) (fun _ _ => false) PUnit.unit (fun _ _ _ _ => PUnit.unit) v

noncomputable def isNilpF (v : CVal) : Bool :=
  @CVal.rec.{1} (fun _ => Bool) (fun _ => PUnit)
    (false) (fun _ => false) (fun _ _ => false) (fun _ => false) (true) (fun _ _ _ => false) (fun _ _ _ => false) (fun _ _ _ _ => false) (false) (fun _ _ _ _ => false) (fun _ _ _ _ _ => false) (false) (fun _ => false) (fun _ _ _ _ _ => false) (false) (fun _ _ _ => false) (false) (fun _ _ => false) (fun _ _ => false) PUnit.unit (fun _ _ _ _ => PUnit.unit) v

noncomputable def isOptrF (v : CVal) : Bool :=
  @CVal.rec.{1} (fun _ => Bool) (fun _ => PUnit)
    (false) (fun _ => false) (fun _ _ => false) (fun _ => false) (false) (fun _ _ _ => true) (fun _ _ _ => false) (fun _ _ _ _ => false) (false) (fun _ _ _ _ => false) (fun _ _ _ _ _ => false) (false) (fun _ => false) (fun _ _ _ _ _ => false) (false) (fun _ _ _ => false) (false) (fun _ _ => false) (fun _ _ => false) PUnit.unit (fun _ _ _ _ => PUnit.unit) v

noncomputable def wholeF (v : CVal) : Bool :=
  @CVal.rec.{1} (fun _ => Bool) (fun _ => PUnit)
    (false) (fun _ => true) (fun _ _ => true) (fun _ => true) (true) (fun _ _ _ => true) (fun _ _ _ => true) (fun _ _ _ _ => true) (true) (fun _ _ _ _ => true) (fun _ _ _ _ _ => true) (true) (fun _ => true) (fun _ _ _ _ _ => true) (true) (fun _ _ _ => true) (true) (fun _ _ => true) (fun _ _ => false) PUnit.unit (fun _ _ _ _ => PUnit.unit) v

noncomputable def cellsF (v : CVal) : List CVal :=
  @CVal.rec.{1} (fun _ => List CVal) (fun _ => PUnit)
    ([CVal.undef]) (fun x0 => [CVal.bool x0]) (fun x0 x1 => [CVal.int x0 x1]) (fun x0 => [CVal.str x0]) ([CVal.nilp]) (fun x0 x1 x2 => [CVal.ptr x0 x1 x2]) (fun x0 x1 _ => [CVal.cptr x0 x1]) (fun x0 x1 x2 x3 => [CVal.eptr x0 x1 x2 x3]) ([CVal.nils]) (fun x0 x1 x2 _ => [CVal.imm x0 x1 x2]) (fun x0 x1 x2 x3 x4 => [CVal.ref x0 x1 x2 x3 x4]) ([CVal.nilm]) (fun x0 => [CVal.map x0]) (fun x0 x1 x2 _ _ => [CVal.fn x0 x1 x2]) ([CVal.nilf]) (fun x0 x1 _ => [CVal.ifc x0 x1]) ([CVal.nili]) (fun x0 _ => x0) (fun x0 _ => [CVal.tup x0]) PUnit.unit (fun _ _ _ _ => PUnit.unit) v

noncomputable def stripF (v : CVal) : CVal :=
  @CVal.rec.{1} (fun _ => CVal) (fun _ => PUnit)
    (CVal.undef) (fun x0 => CVal.bool x0) (fun x0 x1 => CVal.int x0 x1) (fun x0 => CVal.str x0) (CVal.nilp) (fun x0 x1 x2 => CVal.ptr x0 x1 x2) (fun x0 x1 _ => CVal.cptr x0 x1) (fun x0 x1 x2 x3 => CVal.eptr x0 x1 x2 x3) (CVal.nils) (fun x0 x1 x2 _ => @Tag.rec (fun _ => CVal) (.imm .none x1 x2) (.imm .full x1 x2) (fun _ _ => .imm .none x1 x2) (fun _ => .imm .none x1 x2) x0) (fun x0 x1 x2 x3 x4 => CVal.ref x0 x1 x2 x3 x4) (CVal.nilm) (fun x0 => CVal.map x0) (fun x0 x1 x2 _ _ => CVal.fn x0 x1 x2) (CVal.nilf) (fun x0 x1 _ => CVal.ifc x0 x1) (CVal.nili) (fun x0 _ => CVal.agg x0) (fun x0 _ => CVal.tup x0) PUnit.unit (fun _ _ _ _ => PUnit.unit) v

/-! The choices. -/

noncomputable def bF (b : Bool) : (β : Type) → β → β → β := @Bool.rec.{2} (fun _ => (β : Type) → β → β → β) (fun _ _ y => y) (fun _ x _ => x) b
noncomputable def andF (a b : Bool) : Bool := @Bool.rec.{1} (fun _ => Bool → Bool) (fun _ => false) (fun b => b) a b

noncomputable def nthF (l : List CVal) : Nat → CVal :=
  @List.rec.{1, 0} CVal (fun _ => Nat → CVal) (fun _ => .undef) (fun v _ ih i => @Nat.rec.{1} (fun _ => CVal) v (fun j _ => ih j) i) l
noncomputable def nthO (l : List CVal) : Nat → Option CVal :=
  @List.rec.{1, 0} CVal (fun _ => Nat → Option CVal) (fun _ => none) (fun v _ ih i => @Nat.rec.{1} (fun _ => Option CVal) (some v) (fun j _ => ih j) i) l
noncomputable def nthB (l : List UInt8) : Nat → Option UInt8 :=
  @List.rec.{1, 0} UInt8 (fun _ => Nat → Option UInt8) (fun _ => none) (fun v _ ih i => @Nat.rec.{1} (fun _ => Option UInt8) (some v) (fun j _ => ih j) i) l
noncomputable def lenC (l : List CVal) : Nat := @List.rec.{1, 0} CVal (fun _ => Nat) 0 (fun _ _ ih => Nat.succ ih) l
noncomputable def lenB (l : List UInt8) : Nat := @List.rec.{1, 0} UInt8 (fun _ => Nat) 0 (fun _ _ ih => Nat.succ ih) l
noncomputable def dropC (l : List CVal) : Nat → List CVal :=
  @List.rec.{1, 0} CVal (fun _ => Nat → List CVal) (fun _ => []) (fun v r ih i => @Nat.rec.{1} (fun _ => List CVal) (v :: r) (fun j _ => ih j) i) l
noncomputable def appC (l : List CVal) : List CVal → List CVal :=
  @List.rec.{1, 0} CVal (fun _ => List CVal → List CVal) (fun y => y) (fun v _ ih y => v :: ih y) l
noncomputable def dropB (l : List UInt8) : Nat → List UInt8 :=
  @List.rec.{1, 0} UInt8 (fun _ => Nat → List UInt8) (fun _ => []) (fun v r ih i => @Nat.rec.{1} (fun _ => List UInt8) (v :: r) (fun j _ => ih j) i) l
noncomputable def takeB (l : List UInt8) : Nat → List UInt8 :=
  @List.rec.{1, 0} UInt8 (fun _ => Nat → List UInt8) (fun _ => []) (fun v _ ih i => @Nat.rec.{1} (fun _ => List UInt8) [] (fun j _ => v :: ih j) i) l
noncomputable def eqB (l : List UInt8) : List UInt8 → Bool :=
  @List.rec.{1, 0} UInt8 (fun _ => List UInt8 → Bool) (fun y => @List.rec.{1, 0} UInt8 (fun _ => Bool) true (fun _ _ _ => false) y)
    (fun a _ ih y => @List.rec.{1, 0} UInt8 (fun _ => Bool) false (fun b t _ => andF (Nat.beq a.toNat b.toNat) (ih t)) y) l
noncomputable def mapO (f : COpnd → CVal) (l : List COpnd) : List CVal := @List.rec.{1, 0} COpnd (fun _ => List CVal) [] (fun v _ ih => f v :: ih) l

noncomputable def opndF (o : COpnd) : List CVal → List CVal → CVal :=
  @COpnd.rec.{1} (fun _ => List CVal → List CVal → CVal) (fun i _ vals => nthF vals i) (fun j tm _ => nthF tm j) (fun v _ _ => v) o

/-! Whole numbers. -/
noncomputable def kindN (k : IntKind) : Nat := @IntKind.rec.{1} (fun _ => Nat) 0 1 2 3 4 5 6 7 k
noncomputable def kEqF (a b : IntKind) : Bool := Nat.beq (kindN a) (kindN b)
noncomputable def maxN (k : IntKind) : Nat := @IntKind.rec.{1} (fun _ => Nat) 127 32767 2147483647 9223372036854775807 255 65535 4294967295 18446744073709551615 k
noncomputable def sgnN (k : IntKind) : Bool := @IntKind.rec.{1} (fun _ => Bool) true true true true false false false false k
noncomputable def wrapF (k : IntKind) (x : Int) : Int :=
  @Int.rec.{1} (fun _ => IntKind → Int) (fun n k => bF (Nat.ble n (maxN k)) Int (.ofNat n) (IntKind.wrap k (.ofNat n))) (fun n k => bF (andF (sgnN k) (Nat.ble n (maxN k))) Int (.negSucc n) (IntKind.wrap k (.negSucc n))) x k
noncomputable def ltF (a b : Int) : Bool :=
  @Int.rec.{1} (fun _ => Int → Bool) (fun m b => @Int.rec.{1} (fun _ => Bool) (fun n => Nat.blt m n) (fun _ => false) b) (fun m b => @Int.rec.{1} (fun _ => Bool) (fun _ => true) (fun n => Nat.blt n m) b) a b
noncomputable def eqF (a b : Int) : Bool :=
  @Int.rec.{1} (fun _ => Int → Bool) (fun m b => @Int.rec.{1} (fun _ => Bool) (fun n => Nat.beq m n) (fun _ => false) b) (fun m b => @Int.rec.{1} (fun _ => Bool) (fun _ => false) (fun n => Nat.beq m n) b) a b
noncomputable def notF (a : Bool) : Bool := @Bool.rec.{1} (fun _ => Bool) true false a
noncomputable def addF (a b : Int) : Int :=
  @Int.rec.{1} (fun _ => Int → Int) (fun m b => @Int.rec.{1} (fun _ => Int) (fun n => .ofNat (Nat.add m n)) (fun n => Int.add (.ofNat m) (.negSucc n)) b) (fun m b => Int.add (.negSucc m) b) a b
noncomputable def subF (a b : Int) : Int :=
  @Int.rec.{1} (fun _ => Int → Int) (fun m b => @Int.rec.{1} (fun _ => Int) (fun n => bF (Nat.ble n m) Int (.ofNat (Nat.sub m n)) (Int.sub (.ofNat m) (.ofNat n))) (fun n => Int.sub (.ofNat m) (.negSucc n)) b) (fun m b => Int.sub (.negSucc m) b) a b
noncomputable def arithF (b : BinOp) : IntKind → Int → Int → Option CVal :=
  @BinOp.rec.{1} (fun _ => IntKind → Int → Int → Option CVal) (fun k x y => some (.int k (wrapF k (addF x y)))) (fun k x y => some (.int k (wrapF k (subF x y)))) (fun k x y => some (.int k (wrapF k (Int.mul x y))))
    (evalInt .quo) (evalInt .rem) (evalInt .and) (evalInt .or) (evalInt .xor) (evalInt .shl) (evalInt .shr) (evalInt .andNot)
    (fun _ x y => some (.bool (eqF x y))) (fun _ x y => some (.bool (notF (eqF x y)))) (fun _ x y => some (.bool (ltF x y))) (fun _ x y => some (.bool (notF (ltF y x)))) (fun _ x y => some (.bool (ltF y x))) (fun _ x y => some (.bool (notF (ltF x y)))) b
noncomputable def strF (b : BinOp) : List UInt8 → List UInt8 → Option CVal :=
  @BinOp.rec.{1} (fun _ => List UInt8 → List UInt8 → Option CVal) (evalStr .add) (evalStr .sub) (evalStr .mul) (evalStr .quo) (evalStr .rem) (evalStr .and) (evalStr .or) (evalStr .xor) (evalStr .shl) (evalStr .shr) (evalStr .andNot)
    (fun x y => some (.bool (eqB x y))) (fun x y => some (.bool (notF (eqB x y)))) (evalStr .lss) (evalStr .leq) (evalStr .gtr) (evalStr .geq) b
noncomputable def gen2 (ar : IntKind → Int → Int → Option CVal) (st : List UInt8 → List UInt8 → Option CVal) (x y : CVal) : Option CVal :=
  selInt x (Option CVal) (fun k a => selInt y (Option CVal) (fun l c => bF (kEqF k l) (Option CVal) (ar k a c) none) none) (selStr x (Option CVal) (fun s => selStr y (Option CVal) (fun t => st s t) none) none)
noncomputable def isShF (b : BinOp) : Bool := @BinOp.rec.{1} (fun _ => Bool) false false false false false false false false true true false false false false false false false b
noncomputable def binF (b : BinOp) (x y : CVal) : Option CVal := bF (isShF b) (Option CVal) (evalBin b x y) (gen2 (arithF b) (strF b) x y)

noncomputable def eqvF (e : EqK) : CVal → CVal → Option Bool :=
  @EqK.rec.{1} (fun _ => CVal → CVal → Option Bool) (fun x y => selBool x (Option Bool) (fun a => selBool y (Option Bool) (fun b => some (bF a Bool b (notF b))) none) none)
    (fun x y => bF (isNilsF x) (Option Bool) (bF (isNilsF y) (Option Bool) (some true) (bF (isSlcF y) (Option Bool) (some false) none)) (bF (andF (isSlcF x) (isNilsF y)) (Option Bool) (some false) none))
    (fun x y => bF (isNilpF x) (Option Bool) (bF (isNilpF y) (Option Bool) (some true) (bF (isOptrF y) (Option Bool) (some false) none)) (bF (andF (isOptrF x) (isNilpF y)) (Option Bool) (some false) none))
    (eqVal .map) (eqVal .fn) (eqVal .ifc) e

/-! Parts. -/
noncomputable def obCV (o : Option CVal) : (β : Type) → (CVal → β) → β → β := @Option.rec.{2, 0} CVal (fun _ => (β : Type) → (CVal → β) → β → β) (fun _ _ d => d) (fun v _ f _ => f v) o
noncomputable def okF (k : Option Nat) : (β : Type) → (Nat → β) → β → β := @Option.rec.{2, 0} Nat (fun _ => (β : Type) → (Nat → β) → β → β) (fun _ _ d => d) (fun v _ f _ => f v) k
noncomputable def partF (cs : List CVal) (o : Nat) (k : Option Nat) : Option CVal :=
  okF k (Option CVal) (fun k => bF (Nat.ble (Nat.add o k) (lenC cs)) (Option CVal) (some (.agg (cut o (o + k) cs))) none) (nthO cs o)

noncomputable def intNat (i : CVal) : (β : Type) → (Nat → β) → β → β := fun β f d => selInt i β (fun _ n => @Int.rec.{1} (fun _ => Option Nat → β) (fun m _ => f m) (fun _ _ => d) n none) d

noncomputable def idxAddrF (k : Nat) (x i : CVal) : Option CVal :=
  intNat i (Option CVal) (fun m => selImm x (Option CVal) (fun _ l es => bF (Nat.beq k l) (Option CVal) (obCV (nthO es m) (Option CVal) (fun e => some (.cptr (cellsF e) 0)) none) none)
    (selRef x (Option CVal) (fun b ver l off len => bF (andF (Nat.beq k l) (Nat.blt m len)) (Option CVal) (some (.eptr b ver (off + m) 0)) none) none)) none
noncomputable def obB (o : Option UInt8) : (β : Type) → (UInt8 → β) → β → β := @Option.rec.{2, 0} UInt8 (fun _ => (β : Type) → (UInt8 → β) → β → β) (fun _ _ d => d) (fun v _ f _ => f v) o
noncomputable def idxStrF (x i : CVal) : Option CVal := intNat i (Option CVal) (fun m => selStr x (Option CVal) (fun s => obB (nthB s m) (Option CVal) (fun b => some (.int .u8 (.ofNat b.toNat))) none) none) none
noncomputable def lenF (str : Bool) (x : CVal) : Option CVal :=
  bF str (Option CVal) (selStr x (Option CVal) (fun s => some (.int .i64 (.ofNat (lenB s)))) none)
    (selImm x (Option CVal) (fun _ _ es => some (.int .i64 (.ofNat (lenC es)))) (selRef x (Option CVal) (fun _ _ _ _ n => some (.int .i64 (.ofNat n))) (bF (isNilsF x) (Option CVal) (some (.int .i64 (.ofNat 0))) none)))
noncomputable def obO (o : Option COpnd) : (β : Type) → (COpnd → β) → β → β := @Option.rec.{2, 0} COpnd (fun _ => (β : Type) → (COpnd → β) → β → β) (fun _ _ d => d) (fun v _ f _ => f v) o
noncomputable def bndF (o : Option CVal) (d : Nat) : (β : Type) → (Nat → β) → β → β := fun β f e => @Option.rec.{1, 0} CVal (fun _ => Nat → β) (fun d => f d) (fun v _ => intNat v β f e) o d
noncomputable def slcF (k : Nat) (x : CVal) (lo hi : Option CVal) : Option CVal :=
  bF (Nat.beq k 0) (Option CVal)
    (selStr x (Option CVal) (fun s => bndF lo 0 (Option CVal) (fun l => @Option.rec.{1, 0} CVal (fun _ => Option CVal) (bF (Nat.ble l (lenB s)) (Option CVal) (some (.str (dropB s l))) none)
      (fun h => intNat h (Option CVal) (fun h => bF (andF (Nat.ble l h) (Nat.ble h (lenB s))) (Option CVal) (some (.str (dropB (takeB s h) l))) none) none) hi) none) (evalSlc k x lo hi))
    (evalSlc k x lo hi)
noncomputable def extrF (i : Nat) (x : CVal) : Option CVal := selTup x (Option CVal) (fun vs => nthO vs i) none
noncomputable def faF (off : Nat) (x : CVal) : Option CVal :=
  selPtr x (Option CVal) (fun b s o => some (.ptr b s (o + off))) (selCptr x (Option CVal) (fun cs o => some (.cptr cs (o + off))) (selEptr x (Option CVal) (fun b v i o => some (.eptr b v i (o + off))) none))

/-! The heap. -/
noncomputable def getF (l : List (Nat × CObj)) : Nat → Option CObj :=
  @List.rec.{1, 0} (Nat × CObj) (fun _ => Nat → Option CObj) (fun _ => none) (fun p _ ih b => @Prod.rec.{1, 0, 0} Nat CObj (fun _ => (Nat → Option CObj) → Nat → Option CObj) (fun i o ih b => bF (Nat.beq i b) (Option CObj) (some o) (ih b)) p ih b) l
noncomputable def setF (l : List (Nat × CObj)) : Nat → CObj → List (Nat × CObj) :=
  @List.rec.{1, 0} (Nat × CObj) (fun _ => Nat → CObj → List (Nat × CObj)) (fun _ _ => []) (fun p r ih b x => @Prod.rec.{1, 0, 0} Nat CObj (fun _ => (Nat → CObj → List (Nat × CObj)) → List (Nat × CObj) → Nat → CObj → List (Nat × CObj)) (fun i o ih r b x => bF (Nat.beq i b) (List (Nat × CObj)) ((i, x) :: r) ((i, o) :: ih b x)) p ih r b x) l
noncomputable def hgetF (h : CHeap) (b : Nat) : Option CObj := @CHeap.rec.{1} (fun _ => Nat → Option CObj) (fun e _ _ b => getF e b) h b
noncomputable def hsetF (h : CHeap) (b : Nat) (x : CObj) : CHeap := @CHeap.rec.{1} (fun _ => Nat → CObj → CHeap) (fun e n t b x => ⟨setF e b x, n, t⟩) h b x
noncomputable def hputF (h : CHeap) (b : Nat) (x : CObj) : CHeap := @CHeap.rec.{1} (fun _ => Nat → CObj → CHeap) (fun e n t b x => ⟨(b, x) :: e, n, t⟩) h b x
noncomputable def selCells (o : Option CObj) : (β : Type) → (List CVal → β) → β → β :=
  @Option.rec.{2, 0} CObj (fun _ => (β : Type) → (List CVal → β) → β → β) (fun _ _ d => d) (fun c => @CObj.rec.{2} (fun _ => (β : Type) → (List CVal → β) → β → β) (fun cs _ f _ => f cs) (fun _ _ _ _ d => d) (fun _ _ _ d => d) (fun _ _ _ _ d => d) (fun _ _ _ _ d => d) c) o
noncomputable def selRow (o : Option CObj) : (β : Type) → (Nat → List CVal → β) → β → β :=
  @Option.rec.{2, 0} CObj (fun _ => (β : Type) → (Nat → List CVal → β) → β → β) (fun _ _ d => d) (fun c => @CObj.rec.{2} (fun _ => (β : Type) → (Nat → List CVal → β) → β → β) (fun _ _ _ d => d) (fun v es _ f _ => f v es) (fun _ _ _ d => d) (fun _ _ _ _ d => d) (fun _ _ _ _ d => d) c) o

noncomputable def loadF (k : Option Nat) (a : CVal) (h : CHeap) : Option CVal :=
  selPtr a (Option CVal) (fun b _ o => selCells (hgetF h b) (Option CVal) (fun cs => partF cs o k) none)
    (selCptr a (Option CVal) (fun cs o => partF cs o k)
      (selEptr a (Option CVal) (fun b ver i o => selRow (hgetF h b) (Option CVal) (fun v es => bF (Nat.beq v ver) (Option CVal) (obCV (nthO es i) (Option CVal) (fun e => partF (cellsF e) o k) none) none) none) none))

noncomputable def setCsF (cs : List CVal) : Nat → List CVal → List CVal :=
  @List.rec.{1, 0} CVal (fun _ => Nat → List CVal → List CVal) (fun _ v => v) (fun c r ih o v => @Nat.rec.{1} (fun _ => List CVal) (appC v (dropC (c :: r) (lenC v))) (fun j _ => c :: ih j v) o) cs

noncomputable def storeF (k : Nat) (a x : CVal) (h : CHeap) : Option (CVal × CHeap) :=
  bF (andF (wholeF x) (Nat.beq (lenC (cellsF x)) k)) (Option (CVal × CHeap))
    (selPtr a (Option (CVal × CHeap)) (fun b _ o => selCells (hgetF h b) (Option (CVal × CHeap)) (fun cs => bF (Nat.ble (Nat.add o k) (lenC cs)) (Option (CVal × CHeap)) (some (.undef, hsetF h b (.cells (setCsF cs o (cellsF x))))) none) none)
      (evalE (fun _ _ _ => none) (fun o => opndF o [] [a, x]) h 0 (.store k (.loc 0) (.loc 1)))) none

noncomputable def initF (k : Nat) (a x : CVal) (h : CHeap) : Option (CVal × CHeap) :=
  bF (andF (wholeF x) (Nat.beq (lenC (cellsF x)) k)) (Option (CVal × CHeap))
    (selPtr a (Option (CVal × CHeap)) (fun b s o => bF (andF (Nat.beq (Nat.mod s 1048576) k) (Nat.beq o 0)) (Option (CVal × CHeap))
      (@Option.rec.{1, 0} CObj (fun _ => Option (CVal × CHeap)) (some (.undef, hputF h b (.cells (cellsF x)))) (fun _ => none) (hgetF h b)) none) none) none

noncomputable def bareF (v : CVal) : CVal := selAgg v CVal (fun cs => .agg (@List.rec.{1, 0} CVal (fun _ => List CVal) [] (fun c _ ih => stripF c :: ih) cs)) (selTup v CVal (fun vs => CVal.bare (.tup vs)) (stripF v))

/-! Operations. -/
noncomputable def pK (e : Option CVal) (vals : List CVal) (h : CHeap) (ds : List (Nat × List CVal)) (hs : List CHeap) (k : List CVal → CHeap → List (Nat × List CVal) → List CHeap → Option RS) : Option RS :=
  obCV e (Option RS) (fun v => bF (isUndefF v) (Option RS) none (k (v :: vals) h ds hs)) none
noncomputable def eK (st : Bool) (e : Option (CVal × CHeap)) (vals : List CVal) (h : CHeap) (ds : List (Nat × List CVal)) (hs : List CHeap) (k : List CVal → CHeap → List (Nat × List CVal) → List CHeap → Option RS) : Option RS :=
  @Option.rec.{1, 0} (CVal × CHeap) (fun _ => Option RS) none (fun p => @Prod.rec.{1, 0, 0} CVal CHeap (fun _ => Option RS) (fun v h' => bF (andF (isUndefF v) (notF st)) (Option RS) none (k (v :: vals) h' ds (h :: hs))) p) e

noncomputable def fillF (ps : List (Nat × Nat × COpnd)) : (COpnd → CVal) → List CVal → Option (List CVal) :=
  @List.rec.{1, 0} (Nat × Nat × COpnd) (fun _ => (COpnd → CVal) → List CVal → Option (List CVal)) (fun _ cs => some cs)
    (fun p _ ih ev cs => bF (andF (wholeF (ev p.2.2)) (andF (Nat.beq (lenC (cellsF (ev p.2.2))) p.2.1) (Nat.ble (Nat.add p.1 p.2.1) (lenC cs)))) (Option (List CVal)) (ih ev (setCsF cs p.1 (cellsF (ev p.2.2)))) none) ps
noncomputable def olCV (o : Option (List CVal)) : Option CVal := @Option.rec.{1, 0} (List CVal) (fun _ => Option CVal) none (fun l => some (.agg l)) o

noncomputable def elemsF (h : CHeap) (k : Nat) (x : CVal) : Option (List CVal) :=
  selImm x (Option (List CVal)) (fun _ l es => bF (Nat.beq k l) (Option (List CVal)) (some es) none) (elems h k x)

noncomputable def appendF (m : SMode) (T k : Nat) (x y : CVal) (h : CHeap) (id : Nat) : Option (CVal × CHeap) :=
  @Option.rec.{1, 0} (List CVal) (fun _ => Option (CVal × CHeap)) none (fun ys => evalAppend h id m T k x (@List.rec.{1, 0} CVal (fun _ => List CVal) [] (fun v _ ih => bareF v :: ih) ys)) (elemsF h k y)

noncomputable def clsED (op : COp) : Bool := match op.cls with | .e => true | .d => true | _ => false

noncomputable def slowP (op : COp) (tm : List CVal) (id : Nat) (vals : List CVal) (h : CHeap) (ds : List (Nat × List CVal)) (hs : List CHeap) (k : List CVal → CHeap → List (Nat × List CVal) → List CHeap → Option RS) : Option RS :=
  pK (evalP (fun o => opndF o tm vals) id op) vals h ds hs k
noncomputable def slowE (cf : Nat → List CVal → CHeap → Option (CVal × CHeap)) (op : COp) (tm : List CVal) (id : Nat) (vals : List CVal) (h : CHeap) (ds : List (Nat × List CVal)) (hs : List CHeap) (k : List CVal → CHeap → List (Nat × List CVal) → List CHeap → Option RS) : Option RS :=
  eK op.isStore (evalE cf (fun o => opndF o tm vals) h id op) vals h ds hs k

noncomputable def callArgs (keep : Bool) (args : List COpnd) (tm vals : List CVal) : List CVal :=
  bF keep (List CVal) (mapO (fun o => opndF o tm vals) args) (mapO (fun o => bareF (opndF o tm vals)) args)

noncomputable def opF (op : COp) : (Nat → List CVal → CHeap → Option (CVal × CHeap)) → List CVal → Nat → List CVal → CHeap → List (Nat × List CVal) → List CHeap → (List CVal → CHeap → List (Nat × List CVal) → List CHeap → Option RS) → Option RS :=
  @COp.rec.{1} (fun _ => (Nat → List CVal → CHeap → Option (CVal × CHeap)) → List CVal → Nat → List CVal → CHeap → List (Nat × List CVal) → List CHeap → (List CVal → CHeap → List (Nat × List CVal) → List CHeap → Option RS) → Option RS)
    (fun x _ tm _ vals => pK (some (opndF x tm vals)) vals)
    (fun c a b _ tm _ vals h ds hs k => selBool (opndF c tm vals) (Option RS) (fun t => pK (some (bF t CVal (opndF a tm vals) (opndF b tm vals))) vals h ds hs k) none)
    (fun T z _ _ id vals h => eK false (bF (Nat.blt (lenC z) 1048576) (Option (CVal × CHeap)) (some (.ptr id (descOf T (lenC z)) 0, hputF h id (.cells z))) none) vals h)
    (fun d _ _ id vals => pK (some (.ptr id d 0)) vals)
    (fun T x cf tm id vals h => slowE cf (.box T x) tm id vals h)
    (fun z ps _ tm _ vals => pK (olCV (fillF ps (fun o => opndF o tm vals) z)) vals)
    (fun m a z n ps cf tm id vals h ds hs k => @SMode.rec.{1} (fun _ => Option RS) (slowP (.lit .imm a z n ps) tm id vals h ds hs k) (slowE cf (.lit .ref a z n ps) tm id vals h ds hs k) m)
    (fun k a _ tm _ vals h => pK (loadF k (opndF a tm vals) h) vals h)
    (fun k a x _ tm _ vals h => eK true (storeF k (opndF a tm vals) (opndF x tm vals) h) vals h)
    (fun k a x _ tm _ vals h => eK true (initF k (opndF a tm vals) (opndF x tm vals) h) vals h)
    (fun x _ tm _ vals h ds hs k => bF (isPtrF (opndF x tm vals)) (Option RS) (pK (some (opndF x tm vals)) vals h ds hs k) none)
    (fun b x y _ tm _ vals => pK (binF b (opndF x tm vals) (opndF y tm vals)) vals)
    (fun e n x y _ tm _ vals h ds hs k => @Option.rec.{1, 0} Bool (fun _ => Option RS) none (fun c => pK (some (.bool (bF n Bool (notF c) c))) vals h ds hs k) (eqvF e (opndF x tm vals) (opndF y tm vals)))
    (fun x _ tm _ vals h ds hs k => selBool (opndF x tm vals) (Option RS) (fun b => pK (some (.bool (notF b))) vals h ds hs k) none)
    (fun x _ tm id vals => slowP (.neg x) tm id vals)
    (fun x _ tm id vals => slowP (.cpl x) tm id vals)
    (fun kd x _ tm _ vals h ds hs k => selInt (opndF x tm vals) (Option RS) (fun _ n => pK (some (.int kd (wrapF kd n))) vals h ds hs k) none)
    (fun x _ tm id vals => slowP (.same x) tm id vals)
    (fun m x cf tm id vals h ds hs k => @SMode.rec.{1} (fun _ => Option RS) (slowP (.s2b .imm x) tm id vals h ds hs k) (slowE cf (.s2b .ref x) tm id vals h ds hs k) m)
    (fun x _ tm _ vals h => pK (evalL (fun o => opndF o tm vals) h (.b2s x)) vals h)
    (fun t x _ tm _ vals => pK (some (.ifc t (opndF x tm vals))) vals)
    (fun f a b _ tm _ vals => pK (some (.fn f (mapO (fun o => opndF o tm vals) a) (mapO (fun o => opndF o tm vals) b))) vals)
    (fun o x _ tm _ vals => pK (faF o (opndF x tm vals)) vals)
    (fun o k x _ tm _ vals => pK (selAgg (opndF x tm vals) (Option CVal) (fun cs => partF cs o k) none) vals)
    (fun k x i _ tm _ vals => pK (idxAddrF k (opndF x tm vals) (opndF i tm vals)) vals)
    (fun n k x i _ tm id vals => slowP (.arrAddr n k x i) tm id vals)
    (fun x i _ tm _ vals => pK (idxStrF (opndF x tm vals) (opndF i tm vals)) vals)
    (fun k x lo hi _ tm _ vals => pK (slcF k (opndF x tm vals) (lo.map fun o => opndF o tm vals) (hi.map fun o => opndF o tm vals)) vals)
    (fun s x _ tm _ vals => pK (lenF s (opndF x tm vals)) vals)
    (fun m T k x y _ tm id vals h => eK false (appendF m T k (opndF x tm vals) (opndF y tm vals) h id) vals h)
    (fun k x y cf tm id vals h => slowE cf (.copy k x y) tm id vals h)
    (fun m a z l c cf tm id vals h => slowE cf (.mkslice m a z l c) tm id vals h)
    (fun i x _ tm _ vals => pK (extrF i (opndF x tm vals)) vals)
    (fun keep f args cf tm _ vals h => eK false (cf f (callArgs keep args tm vals) h) vals h)
    (fun keep x args cf tm _ vals h => eK false (selFn (opndF x tm vals) (Option (CVal × CHeap)) (fun fn first cap => @Fn.rec.{1} (fun _ => Option (CVal × CHeap)) (fun f => cf f (appC first (appC (callArgs keep args tm vals) cap)) h) (fun _ => none) (fun _ _ => none) (fun _ _ _ _ => none) (fun _ => none) fn) none) vals h)
    (fun x args _ tm _ vals h ds hs k => selFn (opndF x tm vals) (Option RS) (fun fn first cap => @Fn.rec.{1} (fun _ => Option RS) (fun f => k (.undef :: vals) h ((f, appC first (appC (mapO (fun o => opndF o tm vals) args) cap)) :: ds) (h :: hs)) (fun _ => none) (fun _ _ => none) (fun _ _ _ _ => none) (fun _ => none) fn) none)
    (fun m x y _ tm id vals => slowP (.minmax m x y) tm id vals)
    (fun x l cf tm id vals h => slowE cf (.ext x l) tm id vals h)
    (fun x l _ tm _ vals h => pK (extL h x (mapO (fun o => opndF o tm vals) l)) vals h)
    (fun _ _ _ _ _ _ _ _ => none)
    op

noncomputable def operF (o : COper) : (Nat → List CVal → CHeap → Option (CVal × CHeap)) → List CVal → Nat → List CVal → CHeap → List (Nat × List CVal) → List CHeap → (List CVal → CHeap → List (Nat × List CVal) → List CHeap → Option RS) → Option RS :=
  @COper.rec.{1} (fun _ => (Nat → List CVal → CHeap → Option (CVal × CHeap)) → List CVal → Nat → List CVal → CHeap → List (Nat × List CVal) → List CHeap → (List CVal → CHeap → List (Nat × List CVal) → List CHeap → Option RS) → Option RS)
    (fun op g => @Option.rec.{1, 0} (Nat × Bool) (fun _ => COp → (Nat → List CVal → CHeap → Option (CVal × CHeap)) → List CVal → Nat → List CVal → CHeap → List (Nat × List CVal) → List CHeap → (List CVal → CHeap → List (Nat × List CVal) → List CHeap → Option RS) → Option RS)
      (fun op => opF op)
      (fun p op cf tm id vals h ds hs k => bF (selBool (nthF vals p.1) Bool (fun c => bF c Bool p.2 (notF p.2)) false) (Option RS) (opF op cf tm id vals h ds hs k) (k (.undef :: vals) h ds (bF (clsED op) (List CHeap) (h :: hs) hs)))
      g op) o

noncomputable def opsF (l : List COper) : (Nat → List CVal → CHeap → Option (CVal × CHeap)) → List CVal → Nat → List CVal → CHeap → List (Nat × List CVal) → List CHeap → Option RS :=
  @List.rec.{1, 0} COper (fun _ => (Nat → List CVal → CHeap → Option (CVal × CHeap)) → List CVal → Nat → List CVal → CHeap → List (Nat × List CVal) → List CHeap → Option RS)
    (fun _ _ _ vals h ds hs => some ⟨vals, h, ds, hs⟩)
    (fun o _ ih cf tm id vals h ds hs => operF o cf tm id vals h ds hs (fun vals h ds hs => ih cf tm (Nat.succ id) vals h ds hs)) l

/-! Code and calls. -/
noncomputable def setNF (l : List CVal) : Nat → CVal → List CVal :=
  @List.rec.{1, 0} CVal (fun _ => Nat → CVal → List CVal) (fun _ _ => []) (fun v r ih i x => @Nat.rec.{1} (fun _ => List CVal) (x :: r) (fun j _ => v :: ih j x) i) l
noncomputable def wbF (wb : List (Nat × Nat)) : Nat → List CVal → List CVal → List CVal :=
  @List.rec.{1, 0} (Nat × Nat) (fun _ => Nat → List CVal → List CVal → List CVal) (fun _ _ tm => tm) (fun p _ ih n vals tm => ih n vals (setNF tm p.1 (nthF vals (Nat.sub (Nat.sub n 1) p.2)))) wb
noncomputable def nilF {α : Type} (l : List α) : Bool := @List.rec.{1, 0} α (fun _ => Bool) true (fun _ _ _ => false) l

noncomputable def paramsF (ps : List (Option Nat)) : List CVal → List CVal :=
  @List.rec.{1, 0} (Option Nat) (fun _ => List CVal → List CVal) (fun _ => []) (fun p _ ih args => @Option.rec.{1, 0} Nat (fun _ => List CVal → CVal) (fun _ => .undef) (fun i args => nthF args i) p args :: ih args) ps
noncomputable def olL (o : Option (List CVal)) : (β : Type) → (List CVal → β) → β → β := @Option.rec.{2, 0} (List CVal) (fun _ => (β : Type) → (List CVal → β) → β → β) (fun _ _ d => d) (fun v _ f _ => f v) o
noncomputable def resF (rs : List CRes) : CHeap → List CVal → Option (List CVal) :=
  @List.rec.{1, 0} CRes (fun _ => CHeap → List CVal → Option (List CVal)) (fun _ _ => some [])
    (fun r _ ih h tm => @CRes.rec.{1} (fun _ => (CHeap → List CVal → Option (List CVal)) → CHeap → List CVal → Option (List CVal)) (fun j ih h tm => olL (ih h tm) (Option (List CVal)) (fun vs => some (nthF tm j :: vs)) none)
      (fun j k ih h tm => selPtr (nthF tm j) (Option (List CVal)) (fun b _ o => selCells (hgetF h b) (Option (List CVal)) (fun cs => obCV (partF cs o k) (Option (List CVal)) (fun v => olL (ih h tm) (Option (List CVal)) (fun vs => some (v :: vs)) none) none) none) none) r ih h tm) rs
noncomputable def oneF (vs : List CVal) : CVal := @List.rec.{1, 0} CVal (fun _ => CVal) (.tup []) (fun v r _ => @List.rec.{1, 0} CVal (fun _ => CVal) v (fun _ _ _ => .tup vs) r) vs
noncomputable def dropEF (l : List (Nat × CObj)) : Nat → List (Nat × CObj) :=
  @List.rec.{1, 0} (Nat × CObj) (fun _ => Nat → List (Nat × CObj)) (fun _ => []) (fun p r ih n => bF (Nat.ble n p.1) (List (Nat × CObj)) (ih n) (p :: r)) l
noncomputable def dropCF (l : List (Nat × CObj)) : Nat → List (Nat × CObj) :=
  @List.rec.{1, 0} (Nat × CObj) (fun _ => Nat → List (Nat × CObj)) (fun _ => [])
    (fun p r ih n => bF (Nat.ble n p.1) (List (Nat × CObj)) (selCells (some p.2) (List (Nat × CObj)) (fun _ => ih n) (p :: ih n)) (p :: r)) l
noncomputable def finF (keep frz : Bool) (n : Nat) (v : CVal) (h : CHeap) : Option (CVal × CHeap) :=
  bF keep (Option (CVal × CHeap)) (some (v, bF frz CHeap (@CHeap.rec.{1} (fun _ => CHeap) (fun e nx t => ⟨dropCF e n, nx, t⟩) h) h))
    (bF frz (Option (CVal × CHeap)) ((freezeVal n h v).map fun v' => (v', { h with ents := dropAll h.ents n })) (some (bareF v, @CHeap.rec.{1} (fun _ => CHeap) (fun e nx t => ⟨dropEF e n, nx, t⟩) h)))

section
variable (T : Nat → Option CFn) (ex : CCode → CSt → Option (CExit × CSt))
noncomputable def bodyF (cd : List (Nat × List CVal) → CHeap → Option CHeap) (fn : CFunc) (args : List CVal) (h : CHeap) : Option (CVal × CHeap) :=
  @CFunc.rec.{1} (fun _ => (CCode → CSt → Option (CExit × CSt)) → (List (Nat × List CVal) → CHeap → Option CHeap) → List CVal → CHeap → Option (CVal × CHeap))
    (fun nargs _ params results body keep frz ex cd args h => bF (Nat.beq (lenC args) nargs) (Option (CVal × CHeap))
      (@Option.rec.{1, 0} (CExit × CSt) (fun _ => Option (CVal × CHeap)) none
        (fun p => @Prod.rec.{1, 0, 0} CExit CSt (fun _ => Option (CVal × CHeap)) (fun e st => @CSt.rec.{1} (fun _ => Option (CVal × CHeap)) (fun tm h0 ds =>
          @CExit.rec.{1} (fun _ => (Unit → Option (CVal × CHeap)) → Option (CVal × CHeap)) (fun g => g ()) (fun _ _ => none) (fun g => g ()) e
            (fun _ => @Option.rec.{1, 0} CHeap (fun _ => Option (CVal × CHeap)) none (fun h1 => olL (resF results h1 tm) (Option (CVal × CHeap)) (fun vs => finF keep frz h.next (oneF vs) h1) none)
              (@List.rec.{1, 0} (Nat × List CVal) (fun _ => Option CHeap) (some h0) (fun _ _ _ => cd ds h0) ds))) st) p)
        (ex body ⟨paramsF params args, h, []⟩)) none) fn ex cd args h
noncomputable def callFF (f : Nat) (args : List CVal) (h : CHeap) : Option (CVal × CHeap) :=
  @Option.rec.{1, 0} CFn (fun _ => Option (CVal × CHeap)) none (fun c => @CFn.rec.{1} (fun _ => Option (CVal × CHeap)) (fun fn => bodyF ex (runDefs T ex) fn args h) (fun p => p args h) c) (T f)
end

noncomputable def regF (ops : List COper) (wb : List (Nat × Nat)) (chk : List (Nat × Nat × Nat)) (sw : List (Nat × Nat)) (T : Nat → Option CFn) (ex : CCode → CSt → Option (CExit × CSt)) (st : CSt) : Option (CExit × CSt) :=
  @CSt.rec.{1} (fun _ => Option (CExit × CSt)) (fun tm h ds => @CHeap.rec.{1} (fun _ => Option (CExit × CSt)) (fun e nx t =>
    @Option.rec.{1, 0} RS (fun _ => Option (CExit × CSt)) none (fun s => @RS.rec.{1} (fun _ => Option (CExit × CSt)) (fun vals h' ds' hs =>
      bF (andF (bF (nilF chk) Bool true (chk.all (checkOne tm ops ops.length vals (h' :: hs).reverse))) (bF (nilF sw) Bool true (sw.all (swapOne tm ops ops.length vals)))) (Option (CExit × CSt))
        (some (.normal, ⟨wbF wb ops.length vals tm, h', ds'⟩)) none) s)
    (opsF ops (callFF T ex) tm nx [] ⟨e, Nat.add nx ops.length, t⟩ ds [])) h) st

noncomputable def exSel (e : CExit) : (β : Type) → β → (Nat → β) → β → β := @CExit.rec.{2} (fun _ => (β : Type) → β → (Nat → β) → β → β) (fun _ a _ _ => a) (fun i _ _ b _ => b i) (fun _ _ _ c => c) e
noncomputable def orX (o : Option (CExit × CSt)) (f : CExit → CSt → Option (CExit × CSt)) : Option (CExit × CSt) :=
  @Option.rec.{1, 0} (CExit × CSt) (fun _ => Option (CExit × CSt)) none (fun p => @Prod.rec.{1, 0, 0} CExit CSt (fun _ => Option (CExit × CSt)) (fun e st => f e st) p) o

noncomputable def stepF (c : CCode) : (Nat → Option CFn) → (CCode → CSt → Option (CExit × CSt)) → CSt → Option (CExit × CSt) :=
  @CCode.rec.{1} (fun _ => (Nat → Option CFn) → (CCode → CSt → Option (CExit × CSt)) → CSt → Option (CExit × CSt))
    (fun _ _ st => some (.normal, st))
    (fun ops wb chk sw T ex st => regF ops wb chk sw T ex st)
    (fun a b _ _ _ ex st => orX (ex a st) (fun e st' => exSel e (Option (CExit × CSt)) (ex b st') (fun i => some (.exit i, st')) (some (.ret, st'))))
    (fun c a b _ _ _ ex st => selBool (opndF c st.tm []) (Option (CExit × CSt)) (fun t => bF t (Option (CExit × CSt)) (ex a st) (ex b st)) none)
    (fun id c _ _ ex st => orX (ex c st) (fun e st' => exSel e (Option (CExit × CSt)) (some (.normal, st')) (fun i => bF (Nat.beq i id) (Option (CExit × CSt)) (some (.normal, st')) (some (.exit i, st'))) (some (.ret, st'))))
    (fun drop c _ _ ex st => orX (ex c st) (fun e st' => exSel e (Option (CExit × CSt))
      (ex (.loop drop c) (bF drop CSt (@CSt.rec.{1} (fun _ => CSt) (fun tm h ds => @CHeap.rec.{1} (fun _ => CSt) (fun e nx t => ⟨tm, ⟨dropCF e st.h.next, nx, t⟩, ds⟩) h) st') st')) (fun i => some (.exit i, st')) (some (.ret, st'))))
    (fun i _ _ st => some (.exit i, st))
    (fun _ _ st => some (.ret, st))
    (fun _ _ _ => none) c

noncomputable def execF (T : Nat → Option CFn) (n : Nat) : CCode → CSt → Option (CExit × CSt) := @Nat.rec.{1} (fun _ => CCode → CSt → Option (CExit × CSt)) (fun _ _ => none) (fun _ ih c st => stepF c T ih st) n
noncomputable def crunF (T : Nat → Option CFn) (n f : Nat) (args : List CVal) (h : CHeap) : Option (CVal × CHeap) := callFF T (execF T n) f args h

noncomputable def CTree.getF (t : CTree) : Nat → Option CFn :=
  @CTree.rec.{1} (fun _ => Nat → Option CFn) (fun i fn f => bF (Nat.beq f i) (Option CFn) (some fn) none) (fun m _ _ a b f => bF (Nat.blt f m) (Option CFn) (a f) (b f)) t
end Go.CI

/- The fast form gives what the interpreter gives. -/
set_option linter.unusedVariables false
set_option linter.unusedSimpArgs false
namespace Go.CI

theorem bF_eq (b : Bool) (β : Type) (x y : β) : bF b β x y = if b then x else y := by cases b <;> rfl
theorem andF_eq (a b : Bool) : andF a b = (a && b) := by cases a <;> rfl
theorem nbeq (a b : Nat) : Nat.beq a b = (a == b) := by rw [Bool.eq_iff_iff]; simp
theorem notF_eq (a : Bool) : notF a = !a := by cases a <;> rfl
theorem nthF_eq : ∀ (l : List CVal) (i : Nat), nthF l i = nth l i
  | [], _ => rfl
  | _ :: _, 0 => rfl
  | _ :: r, i + 1 => nthF_eq r i
theorem nthO_eq : ∀ (l : List CVal) (i : Nat), nthO l i = l[i]?
  | [], _ => rfl
  | _ :: _, 0 => rfl
  | _ :: r, i + 1 => by rw [List.getElem?_cons_succ, ← nthO_eq r i]; rfl
theorem nthO_if (l : List CVal) (i : Nat) : nthO l i = if i < l.length then some (nth l i) else none := by
  rw [nthO_eq]
  split
  · exact getElem?_nth ‹_›
  · exact List.getElem?_eq_none (by omega)
theorem nthB_eq : ∀ (l : List UInt8) (i : Nat), nthB l i = l[i]?
  | [], _ => rfl
  | _ :: _, 0 => rfl
  | _ :: r, i + 1 => by rw [List.getElem?_cons_succ, ← nthB_eq r i]; rfl
theorem lenC_eq : ∀ l : List CVal, lenC l = l.length
  | [] => rfl
  | _ :: r => congrArg Nat.succ (lenC_eq r)
theorem lenB_eq : ∀ l : List UInt8, lenB l = l.length
  | [] => rfl
  | _ :: r => congrArg Nat.succ (lenB_eq r)
theorem dropC_eq : ∀ (l : List CVal) (i : Nat), dropC l i = l.drop i
  | [], i => by simp; rfl
  | _ :: _, 0 => rfl
  | _ :: r, i + 1 => dropC_eq r i
theorem dropB_eq : ∀ (l : List UInt8) (i : Nat), dropB l i = l.drop i
  | [], i => by simp; rfl
  | _ :: _, 0 => rfl
  | _ :: r, i + 1 => dropB_eq r i
theorem takeB_eq : ∀ (l : List UInt8) (i : Nat), takeB l i = l.take i
  | [], i => by simp; rfl
  | _ :: _, 0 => rfl
  | v :: r, i + 1 => congrArg (v :: ·) (takeB_eq r i)
theorem appC_eq : ∀ (l y : List CVal), appC l y = l ++ y
  | [], _ => rfl
  | v :: r, y => congrArg (v :: ·) (appC_eq r y)
theorem eqB_eq : ∀ (l y : List UInt8), eqB l y = (l == y)
  | [], [] => rfl
  | [], _ :: _ => rfl
  | _ :: _, [] => rfl
  | a :: r, b :: y => by
    show andF (Nat.beq a.toNat b.toNat) (eqB r y) = _
    have : Nat.beq a.toNat b.toNat = (a == b) := by rw [Bool.eq_iff_iff]; simp [UInt8.toNat_inj]
    rw [andF_eq, eqB_eq r y, this]
    rfl
theorem mapO_eq (f : COpnd → CVal) : ∀ l : List COpnd, mapO f l = l.map f
  | [] => rfl
  | _ :: r => congrArg (f _ :: ·) (mapO_eq f r)
theorem opndF_eq (o : COpnd) (tm vals : List CVal) : opndF o tm vals = evalOpnd tm vals o := by
  cases o
  · exact nthF_eq _ _
  · exact nthF_eq _ _
  · rfl
theorem opndF_fun (tm vals : List CVal) : (fun o => opndF o tm vals) = evalOpnd tm vals := funext fun o => opndF_eq o tm vals

theorem kEqF_eq (a b : IntKind) : kEqF a b = decide (a = b) := by cases a <;> cases b <;> rfl
theorem ltF_eq (a b : Int) : ltF a b = decide (a < b) := by
  cases a <;> cases b
  · rename_i m n
    show Nat.blt m n = _
    rw [Bool.eq_iff_iff]; simp [Nat.blt]; omega
  · rename_i m n
    show false = _
    symm; simp; omega
  · rename_i m n
    show true = _
    symm; simp; omega
  · rename_i m n
    show Nat.blt n m = _
    rw [Bool.eq_iff_iff]; simp [Nat.blt]; omega
theorem eqF_eq (a b : Int) : eqF a b = (a == b) := by
  cases a <;> cases b
  · rename_i m n
    show Nat.beq m n = _
    rw [Bool.eq_iff_iff]; simp; omega
  · rename_i m n
    show false = _
    symm; simp
  · rename_i m n
    show false = _
    symm; simp
  · rename_i m n
    show Nat.beq m n = _
    rw [Bool.eq_iff_iff]; simp
theorem addF_eq (a b : Int) : addF a b = a + b := by cases a <;> cases b <;> rfl
theorem subF_eq (a b : Int) : subF a b = a - b := by
  cases a <;> cases b
  · rename_i m n
    show bF (Nat.ble n m) Int (.ofNat (Nat.sub m n)) (Int.sub (.ofNat m) (.ofNat n)) = _
    rw [bF_eq]
    split
    · rename_i h
      have h := Nat.le_of_ble_eq_true h
      have : (Int.ofNat (Nat.sub m n) : Int) = ((m - n : Nat) : Int) := rfl
      rw [this]
      show ((m - n : Nat) : Int) = (m : Int) - (n : Int)
      omega
    · rfl
  all_goals rfl
theorem wrap_id {k : IntKind} {x : Int} (h0 : 0 ≤ x) (h1 : x ≤ maxN k) : IntKind.wrap k x = x := by
  cases k <;> simp [maxN] at h1 <;> simp [IntKind.wrap, IntKind.bits, IntKind.signed] <;> first | (split <;> omega) | omega
theorem wrap_neg {k : IntKind} {n : Nat} (hs : sgnN k = true) (h1 : n ≤ maxN k) : IntKind.wrap k (.negSucc n) = .negSucc n := by
  have e : Int.negSucc n = -(n : Int) - 1 := by omega
  rw [e]
  cases k <;> simp [sgnN] at hs <;> simp [maxN] at h1 <;> simp [IntKind.wrap, IntKind.bits, IntKind.signed] <;> split <;> omega
theorem wrapF_eq (k : IntKind) (x : Int) : wrapF k x = IntKind.wrap k x := by
  cases x with
  | ofNat n =>
    show bF (Nat.ble n (maxN k)) Int (.ofNat n) (IntKind.wrap k (.ofNat n)) = _
    rw [bF_eq]
    split
    · rename_i h
      have h := Nat.le_of_ble_eq_true h
      exact (wrap_id (x := (n : Int)) (by omega) (by omega)).symm
    · rfl
  | negSucc n =>
    show bF (andF (sgnN k) (Nat.ble n (maxN k))) Int (.negSucc n) (IntKind.wrap k (.negSucc n)) = _
    rw [bF_eq, andF_eq]
    split
    · rename_i h
      simp only [Bool.and_eq_true] at h
      exact (wrap_neg h.1 (Nat.le_of_ble_eq_true h.2)).symm
    · rfl

theorem arithF_eq (b : BinOp) (k : IntKind) (x y : Int) : arithF b k x y = evalInt b k x y := by
  cases b <;> first
    | rfl
    | (show some (CVal.int k (wrapF k (addF x y))) = _; rw [wrapF_eq, addF_eq]; rfl)
    | (show some (CVal.int k (wrapF k (subF x y))) = _; rw [wrapF_eq, subF_eq]; rfl)
    | (show some (CVal.int k (wrapF k (Int.mul x y))) = _; rw [wrapF_eq]; rfl)
    | (show some (CVal.bool (eqF x y)) = _; rw [eqF_eq]; rfl)
    | (show some (CVal.bool (notF (eqF x y))) = _; rw [eqF_eq, notF_eq]; rfl)
    | (show some (CVal.bool (ltF x y)) = _; rw [ltF_eq]; rfl)
    | (show some (CVal.bool (ltF y x)) = _; rw [ltF_eq]; rfl)
    | (show some (CVal.bool (notF (ltF y x))) = _; rw [ltF_eq, notF_eq]; simp only [evalInt]; congr 2; by_cases h : y < x <;> simp [h] <;> omega)
    | (show some (CVal.bool (notF (ltF x y))) = _; rw [ltF_eq, notF_eq]; simp only [evalInt]; congr 2; by_cases h : x < y <;> simp [h] <;> omega)
theorem strF_eq (b : BinOp) (x y : List UInt8) : strF b x y = evalStr b x y := by
  cases b <;> first
    | rfl
    | (show some (CVal.bool (eqB x y)) = _; rw [eqB_eq]; rfl)
    | (show some (CVal.bool (notF (eqB x y))) = _; rw [eqB_eq, notF_eq]; rfl)
theorem gen2_eq {b : BinOp} (hb : isShF b = false) (x y : CVal) : gen2 (arithF b) (strF b) x y = evalBin b x y := by
  cases x <;> cases y <;> first
    | (cases b <;> first | rfl | (simp [isShF] at hb; done))
    | (rename_i k a l c
       show bF (kEqF k l) (Option CVal) (arithF b k a c) none = _
       rw [bF_eq, kEqF_eq, arithF_eq]
       cases b <;> first | (simp [isShF] at hb; done) | (simp only [evalBin]; by_cases h : k = l <;> simp [h]))
    | (rename_i s t
       show strF b s t = _
       rw [strF_eq]
       cases b <;> first | rfl | (simp [isShF] at hb; done))
theorem binF_eq (b : BinOp) (x y : CVal) : binF b x y = evalBin b x y := by
  unfold binF
  rw [bF_eq]
  split
  · rfl
  · rename_i h; exact gen2_eq (by simpa using h) x y
theorem eqvF_eq (e : EqK) (x y : CVal) : eqvF e x y = eqVal e x y := by
  cases e
  · cases x <;> cases y <;> first
      | rfl
      | (rename_i a b; cases a <;> cases b <;> rfl)
  all_goals (cases x <;> cases y <;> rfl)

theorem wholeF_eq (v : CVal) : wholeF v = v.whole := by cases v <;> rfl
theorem cellsF_eq (v : CVal) : cellsF v = v.cells := by cases v <;> rfl
theorem stripF_eq (v : CVal) : stripF v = v.strip := by
  cases v <;> first
    | rfl
    | (rename_i t k es; cases t <;> rfl)
theorem isUndefF_eq (v : CVal) : isUndefF v = v.isUndef := by cases v <;> rfl

theorem partF_eq (cs : List CVal) (o : Nat) (k : Option Nat) : partF cs o k = partOf cs o k := by
  cases k with
  | none => exact nthO_if cs o
  | some k =>
    show bF (Nat.ble (Nat.add o k) (lenC cs)) (Option CVal) (some (.agg (cut o (o + k) cs))) none = _
    rw [bF_eq, lenC_eq, show Nat.add o k = o + k from rfl]
    simp only [partOf]
    by_cases h : o + k ≤ cs.length
    · rw [if_pos (Nat.ble_eq_true_of_le h), if_pos h]
    · rw [if_neg (fun e => h (Nat.le_of_ble_eq_true e)), if_neg h]

theorem intNat_int {β : Type} (k : IntKind) (n : Int) (f : Nat → β) (d : β) : intNat (.int k n) β f d = if 0 ≤ n then f n.toNat else d := by
  cases n with
  | ofNat m => show f m = _; rw [if_pos (show (0 : Int) ≤ Int.ofNat m from Int.natCast_nonneg m)]; rfl
  | negSucc m => show d = _; rw [if_neg (by have := Int.negSucc_lt_zero m; omega)]

theorem obCV_eq {β : Type} (o : Option CVal) (f : CVal → β) (d : β) : obCV o β f d = match o with | some v => f v | none => d := by cases o <;> rfl

theorem idxAddrF_eq (ev : COpnd → CVal) (id k : Nat) (x i : COpnd) : idxAddrF k (ev x) (ev i) = evalP ev id (.idxAddr k x i) := by
  simp only [evalP]
  generalize ev x = X
  generalize ev i = I
  cases I <;> first
    | (cases X <;> rfl)
    | skip
  rename_i kd n
  show intNat (.int kd n) (Option CVal) _ _ = _
  rw [intNat_int]
  cases X <;> first
    | (show (if 0 ≤ n then _ else _) = none; split <;> rfl)
    | skip
  · rename_i t l es
    show (if 0 ≤ n then bF (Nat.beq k l) (Option CVal) (obCV (nthO es n.toNat) (Option CVal) (fun e => some (.cptr (cellsF e) 0)) none) none else none) = _
    rw [bF_eq, obCV_eq, nthO_if]
    by_cases h0 : 0 ≤ n
    · by_cases hk : k = l
      · subst hk
        by_cases hl : n.toNat < es.length
        · have : n < (es.length : Int) := by omega
          simp [h0, hl, this, cellsF_eq]
        · have : ¬ n < (es.length : Int) := by omega
          simp [h0, hl, this]
      · simp [h0, hk]
    · simp [h0]
  · rename_i b ver l off len
    show (if 0 ≤ n then bF (andF (Nat.beq k l) (Nat.blt n.toNat len)) (Option CVal) (some (.eptr b ver (off + n.toNat) 0)) none else none) = _
    rw [bF_eq, andF_eq]
    by_cases h0 : 0 ≤ n
    · by_cases hk : k = l
      · subst hk
        by_cases hl : n.toNat < len
        · have : n < (len : Int) := by omega
          have h2 : Nat.blt n.toNat len = true := Nat.ble_eq_true_of_le hl
          simp [h0, this, h2]
        · have : ¬ n < (len : Int) := by omega
          have h2 : Nat.blt n.toNat len = false := by
            cases hb : Nat.blt n.toNat len with
            | false => rfl
            | true => exact absurd (Nat.le_of_ble_eq_true hb) hl
          simp [h0, this, h2]
      · simp [h0, hk]
    · simp [h0]

theorem idxStrF_eq (ev : COpnd → CVal) (id : Nat) (x i : COpnd) : idxStrF (ev x) (ev i) = evalP ev id (.idxStr x i) := by
  simp only [evalP]
  generalize ev x = X
  generalize ev i = I
  cases I <;> first
    | (cases X <;> rfl)
    | skip
  rename_i kd n
  show intNat (.int kd n) (Option CVal) _ _ = _
  rw [intNat_int]
  cases X <;> first
    | (show (if 0 ≤ n then _ else _) = none; split <;> rfl)
    | skip
  rename_i s
  show (if 0 ≤ n then obB (nthB s n.toNat) (Option CVal) (fun b => some (.int .u8 (.ofNat b.toNat))) none else none) = _
  rw [nthB_eq]
  simp only
  cases hs : s[n.toNat]? <;> rfl

theorem lenF_eq (ev : COpnd → CVal) (id : Nat) (s : Bool) (x : COpnd) : lenF s (ev x) = evalP ev id (.len s x) := by
  simp only [evalP]
  generalize ev x = X
  cases s <;> cases X <;> first
    | rfl
    | (rename_i t; show some (CVal.int .i64 (.ofNat (lenB t))) = _; rw [lenB_eq]; rfl)
    | (rename_i t k es; show some (CVal.int .i64 (.ofNat (lenC es))) = _; rw [lenC_eq]; rfl)

theorem bndF_eq {β : Type} (o : Option CVal) (d : Nat) (f : Nat → β) (e : β) : bndF o d β f e = match optBound d o with | some n => f n | none => e := by
  cases o with
  | none => rfl
  | some v =>
    show intNat v β f e = _
    cases v <;> first
      | rfl
      | (rename_i k n; rw [intNat_int]; simp only [optBound]; by_cases h : 0 ≤ n <;> simp [h])

theorem slcF_eq (k : Nat) (x : CVal) (lo hi : Option CVal) : slcF k x lo hi = evalSlc k x lo hi := by
  unfold slcF
  rw [bF_eq]
  split
  · rename_i hk
    have hk : k = 0 := Nat.eq_of_beq_eq_true hk
    subst hk
    cases x
    case str s =>
         show bndF lo 0 (Option CVal) _ _ = _
         rw [bndF_eq]
         simp only [evalSlc, CVal.lenOf]
         cases hi with
         | none =>
           have e0 : optBound s.length none = some s.length := rfl
           rw [e0]
           cases hl : optBound 0 lo with
           | none => rfl
           | some l =>
             show bF (Nat.ble l (lenB s)) (Option CVal) (some (.str (dropB s l))) none = _
             rw [bF_eq, lenB_eq, dropB_eq]
             by_cases h : l ≤ s.length
             · simp [h, cut]
             · simp [h]
         | some hv =>
           cases hl : optBound 0 lo with
           | none => cases optBound s.length (some hv) <;> rfl
           | some l =>
             show intNat hv (Option CVal) _ _ = _
             cases hv <;> first
               | rfl
               | (rename_i kd n
                  rw [intNat_int]
                  simp only [optBound]
                  by_cases h0 : 0 ≤ n
                  · simp only [h0, if_true]
                    rw [bF_eq, andF_eq, lenB_eq, dropB_eq, takeB_eq]
                    by_cases h1 : l ≤ n.toNat <;> by_cases h2 : n.toNat ≤ s.length <;> simp [h1, h2, cut]
                  · simp [h0])
    all_goals rfl
  · rfl

theorem extrF_eq (ev : COpnd → CVal) (id i : Nat) (x : COpnd) : extrF i (ev x) = evalP ev id (.extract i x) := by
  simp only [evalP]
  generalize ev x = X
  cases X <;> first
    | rfl
    | exact nthO_if _ _
theorem faF_eq (ev : COpnd → CVal) (id o : Nat) (x : COpnd) : faF o (ev x) = evalP ev id (.fieldAddr o x) := by
  simp only [evalP]
  generalize ev x = X
  cases X <;> rfl

theorem getF_eq : ∀ (l : List (Nat × CObj)) (b : Nat), getF l b = getEnt l b
  | [], _ => rfl
  | (i, o) :: r, b => by
    show bF (Nat.beq i b) (Option CObj) (some o) (getF r b) = _
    rw [bF_eq, getF_eq r b, nbeq]; rfl
theorem setF_eq : ∀ (l : List (Nat × CObj)) (b : Nat) (x : CObj), setF l b x = setEnt l b x
  | [], _, _ => rfl
  | (i, o) :: r, b, x => by
    show bF (Nat.beq i b) (List (Nat × CObj)) ((i, x) :: r) ((i, o) :: setF r b x) = _
    rw [bF_eq, setF_eq r b x, nbeq]; rfl
theorem hgetF_eq (h : CHeap) (b : Nat) : hgetF h b = h.get b := getF_eq h.ents b
theorem hsetF_eq (h : CHeap) (b : Nat) (x : CObj) : hsetF h b x = h.set b x := by
  show (⟨setF h.ents b x, h.next, h.tys⟩ : CHeap) = _
  rw [setF_eq]; rfl
theorem hputF_eq (h : CHeap) (b : Nat) (x : CObj) : hputF h b x = h.put b x := rfl
theorem selCells_eq {β : Type} (o : Option CObj) (f : List CVal → β) (d : β) : selCells o β f d = match o with | some (.cells cs) => f cs | _ => d := by
  cases o with
  | none => rfl
  | some c => cases c <;> rfl
theorem selRow_eq {β : Type} (o : Option CObj) (f : Nat → List CVal → β) (d : β) : selRow o β f d = match o with | some (.row v es) => f v es | _ => d := by
  cases o with
  | none => rfl
  | some c => cases c <;> rfl

theorem loadF_eq (ev : COpnd → CVal) (k : Option Nat) (a : COpnd) (h : CHeap) : loadF k (ev a) h = evalL ev h (.load k a) := by
  simp only [evalL]
  generalize ev a = A
  cases A <;> first
    | rfl
    | (rename_i b sz o
       show selCells (hgetF h b) (Option CVal) (fun cs => partF cs o k) none = _
       rw [selCells_eq, hgetF_eq]
       simp only [partF_eq]
       cases h.get b with
       | none => rfl
       | some c => cases c <;> rfl)
    | (rename_i cs o; exact partF_eq cs o k)
    | (rename_i b ver i o
       show selRow (hgetF h b) (Option CVal) (fun v es => bF (Nat.beq v ver) (Option CVal) (obCV (nthO es i) (Option CVal) (fun e => partF (cellsF e) o k) none) none) none = _
       rw [selRow_eq, hgetF_eq]
       dsimp only
       cases hg : h.get b with
       | none => rfl
       | some c =>
         cases c
         case row v es =>
              show bF (Nat.beq v ver) (Option CVal) (obCV (nthO es i) (Option CVal) (fun e => partF (cellsF e) o k) none) none = if (decide (v = ver) && decide (i < es.length)) = true then partOf (nth es i).cells o k else none
              rw [bF_eq, obCV_eq, nthO_if]
              by_cases h1 : v = ver
              · by_cases h2 : i < es.length <;> simp [h1, h2, partF_eq, cellsF_eq]
              · simp [h1]
         all_goals rfl)

theorem setCsF_eq : ∀ (cs : List CVal) (o : Nat) (v : List CVal), o ≤ cs.length → setCsF cs o v = setCells cs o v
  | [], o, v, h => by
    have : o = 0 := by simpa using h
    subst this
    simp [setCells]; rfl
  | c :: r, 0, v, _ => by
    show appC v (dropC (c :: r) (lenC v)) = _
    rw [appC_eq, dropC_eq, lenC_eq]
    simp [setCells]
  | c :: r, o + 1, v, h => by
    show c :: setCsF r o v = _
    rw [setCsF_eq r o v (by simpa using h)]
    simp only [setCells, List.take_succ_cons, List.cons_append]
    congr 3
    rw [show o + 1 + v.length = (o + v.length) + 1 by omega, List.drop_succ_cons]

theorem storeF_eq (cf : Nat → List CVal → CHeap → Option (CVal × CHeap)) (ev : COpnd → CVal) (h : CHeap) (id k : Nat) (a x : COpnd) : storeF k (ev a) (ev x) h = evalE cf ev h id (.store k a x) := by
  unfold storeF
  rw [bF_eq, andF_eq, wholeF_eq, lenC_eq, cellsF_eq]
  simp only [evalE]
  generalize hA : ev a = A
  generalize hX : ev x = X
  by_cases hw : X.whole = true
  · by_cases hk : X.cells.length = k
    · have e1 : (X.whole && Nat.beq X.cells.length k) = true := by simp [hw, hk]
      have e2 : (X.whole && decide (X.cells.length = k)) = true := by simp [hw, hk]
      rw [if_pos e1, if_pos e2]
      cases A <;> first
        | (rename_i b sz o
           show selCells (hgetF h b) (Option (CVal × CHeap)) (fun cs => bF (Nat.ble (Nat.add o k) (lenC cs)) (Option (CVal × CHeap)) (some (.undef, hsetF h b (.cells (setCsF cs o X.cells)))) none) none = _
           rw [selCells_eq, hgetF_eq]
           dsimp only
           cases hg : h.get b with
           | none => rfl
           | some c =>
             cases c
             case cells cs =>
                  show bF (Nat.ble (Nat.add o k) (lenC cs)) (Option (CVal × CHeap)) (some (.undef, hsetF h b (.cells (setCsF cs o X.cells)))) none = if o + k ≤ cs.length then some (.undef, h.set b (.cells (setCells cs o X.cells))) else none
                  rw [bF_eq, lenC_eq, hsetF_eq, show Nat.add o k = o + k from rfl]
                  by_cases hl : o + k ≤ cs.length
                  · rw [if_pos (Nat.ble_eq_true_of_le hl), if_pos hl, setCsF_eq _ _ _ (by omega)]
                  · rw [if_neg (fun e => hl (Nat.le_of_ble_eq_true e)), if_neg hl]
             all_goals rfl)
        | (show evalE (fun _ _ _ => none) (fun o => opndF o [] [_, X]) h 0 (.store k (.loc 0) (.loc 1)) = _
           simp only [evalE, opndF_eq, evalOpnd, nth, e2, if_true])
    · have e1 : ¬ (X.whole && Nat.beq X.cells.length k) = true := by simp [hk]
      have e2 : ¬ (X.whole && decide (X.cells.length = k)) = true := by simp [hk]
      rw [if_neg e1, if_neg e2]
  · have e1 : ¬ (X.whole && Nat.beq X.cells.length k) = true := by simp [hw]
    have e2 : ¬ (X.whole && decide (X.cells.length = k)) = true := by simp [hw]
    rw [if_neg e1, if_neg e2]

theorem initF_eq (cf : Nat → List CVal → CHeap → Option (CVal × CHeap)) (ev : COpnd → CVal) (h : CHeap) (id k : Nat) (a x : COpnd) : initF k (ev a) (ev x) h = evalE cf ev h id (.init k a x) := by
  unfold initF
  rw [bF_eq, andF_eq, wholeF_eq, lenC_eq, cellsF_eq]
  simp only [evalE]
  generalize hA : ev a = A
  generalize hX : ev x = X
  by_cases hw : X.whole = true
  · by_cases hk : X.cells.length = k
    · have e1 : (X.whole && Nat.beq X.cells.length k) = true := by simp [hw, hk]
      have e2 : (X.whole && decide (X.cells.length = k)) = true := by simp [hw, hk]
      rw [if_pos e1, if_pos e2]
      cases A <;> first
        | (rename_i b s o
           show bF (andF (Nat.beq (Nat.mod s 1048576) k) (Nat.beq o 0)) (Option (CVal × CHeap)) (@Option.rec.{1, 0} CObj (fun _ => Option (CVal × CHeap)) (some (.undef, hputF h b (.cells X.cells))) (fun _ => none) (hgetF h b)) none = _
           rw [bF_eq, andF_eq, hgetF_eq]
           have e3 : szOf s = Nat.mod s 1048576 := rfl
           dsimp only
           rw [e3, nbeq, nbeq]
           have e4 : ((Nat.mod s 1048576 == k) && (o == 0)) = (decide (Nat.mod s 1048576 = k) && decide (o = 0)) := by rw [Bool.eq_iff_iff]; simp
           rw [e4]
           split
           · cases h.get b <;> rfl
           · rfl)
        | rfl
    · have e1 : ¬ (X.whole && Nat.beq X.cells.length k) = true := by simp [hk]
      have e2 : ¬ (X.whole && decide (X.cells.length = k)) = true := by simp [hk]
      rw [if_neg e1, if_neg e2]
  · have e1 : ¬ (X.whole && Nat.beq X.cells.length k) = true := by simp [hw]
    have e2 : ¬ (X.whole && decide (X.cells.length = k)) = true := by simp [hw]
    rw [if_neg e1, if_neg e2]

theorem map_strip (cs : List CVal) : @List.rec.{1, 0} CVal (fun _ => List CVal) [] (fun c _ ih => stripF c :: ih) cs = cs.map CVal.strip := by
  induction cs with
  | nil => rfl
  | cons c r ih => rw [List.map_cons, ← stripF_eq, ← ih]
theorem bareF_eq (v : CVal) : bareF v = v.bare := by
  cases v <;> first
    | (rename_i t k es; exact stripF_eq (.imm t k es))
    | (rename_i cs; exact congrArg CVal.agg (map_strip cs))
    | rfl
theorem map_bare (cs : List CVal) : @List.rec.{1, 0} CVal (fun _ => List CVal) [] (fun c _ ih => bareF c :: ih) cs = cs.map CVal.bare := by
  induction cs with
  | nil => rfl
  | cons c r ih => rw [List.map_cons, ← bareF_eq, ← ih]
end Go.CI
