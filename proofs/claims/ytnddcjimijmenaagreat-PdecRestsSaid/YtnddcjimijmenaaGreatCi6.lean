/- A deterministic interpreter over values, proved sound against the model's rules (part 6 of 8): what a run of it gives, a call in the model gives. -/
import Derived.Test.YtnddcjimijmenaaGreatCi5
import Derived.ChangeSame
import Derived.Below
set_option linter.unusedVariables false
set_option linter.unusedSimpArgs false

/- slices.Insert as a function of the interpreter's own: in the middle. -/
set_option linter.unusedVariables false
namespace Go.CI
open Go.RowKit

theorem flat_vals {G : Gh} {w : World} {ab ao k : Nat} {es : List CVal} (hk : AllK k es) (he : ∀ (i : Nat) (e : CVal), es[i]? = some e → ∀ (j : Nat) (x : CVal), e.cells[j]? = some x → x.flat = true ∧ Holds G w ab (ao + i * k + j) x) :
    ∃ cs : List Value, VRs G (flatC es) cs ∧ ∀ (j : Nat) (v : Value), cs[j]? = some v → w.cell? ⟨ab, ao + j, none⟩ = some v :=
  row_values (flatC es) ao fun j c hj => by
    obtain ⟨i, q, e, h1, h2, h3⟩ := flatC_inv hk hj
    have := (he i e h2 q c h3).2
    rw [show ao + i * k + q = ao + j by omega] at this
    exact this

theorem setCells_append (b : Nat) : ∀ (x y : List Value) (o : Nat) (w : World), w.setCells b o (x ++ y) = (w.setCells b o x).setCells b (o + x.length) y
  | [], y, o, w => rfl
  | v :: x, y, o, w => by
    rw [List.cons_append, World.setCells, setCells_append b x y, World.setCells, List.length_cons, show o + 1 + x.length = o + (x.length + 1) by omega]

theorem cells_comm {w : World} {b o1 o2 : Nat} {x y : List Value} (hd : o1 + x.length ≤ o2) (h1 : ∀ j, j < x.length → (w.cell? ⟨b, o1 + j, none⟩).isSome = true) (h2 : ∀ j, j < y.length → (w.cell? ⟨b, o2 + j, none⟩).isSome = true) (ab i : Nat) :
    ((w.setCells b o2 y).setCells b o1 x).cell? ⟨ab, i, none⟩ = ((w.setCells b o1 x).setCells b o2 y).cell? ⟨ab, i, none⟩ := by
  by_cases hb : ab = b
  · subst hb
    by_cases c1 : o1 ≤ i ∧ i < o1 + x.length
    · have e1 := World.cell?_setCells_in ab x o1 (w.setCells ab o2 y) (fun j hj => Go.Proofs.isSome_setCells ab y o2 w h2 _ (h1 j hj)) (i - o1) (by omega)
      have e2 := World.cell?_setCells_in ab x o1 w h1 (i - o1) (by omega)
      rw [show o1 + (i - o1) = i by omega] at e1 e2
      rw [e1, setCells_out (fun _ => by omega), e2]
    · by_cases c2 : o2 ≤ i ∧ i < o2 + y.length
      · have e1 := World.cell?_setCells_in ab y o2 (w.setCells ab o1 x) (fun j hj => Go.Proofs.isSome_setCells ab x o1 w h1 _ (h2 j hj)) (i - o2) (by omega)
        have e2 := World.cell?_setCells_in ab y o2 w h2 (i - o2) (by omega)
        rw [show o2 + (i - o2) = i by omega] at e1 e2
        rw [e1, setCells_out (fun _ => by omega), e2]
      · rw [setCells_out (fun _ => by omega), setCells_out (fun _ => by omega), setCells_out (fun _ => by omega), setCells_out (fun _ => by omega)]
  · rw [setCells_out (fun e => absurd e hb), setCells_out (fun e => absurd e hb), setCells_out (fun e => absurd e hb), setCells_out (fun e => absurd e hb)]

section
variable {P : Program} {base : Base} {ρ : Go.Shelf.Ren}

/-- What the model's two writes leave is what one write leaves. -/
theorem post_two {base : Base} {G G' : Gh} {h h' : CHeap} {w : World} {ex : Nat → Prop} {b o1 o2 : Nat} {x y : List Value} (hb : base ≤ b) (ho : o2 = o1 + x.length) (h1 : ∀ j, j < x.length → (w.cell? ⟨b, o1 + j, none⟩).isSome = true) (h2 : ∀ j, j < y.length → (w.cell? ⟨b, o2 + j, none⟩).isSome = true)
    (hp : Post base ex G h w G' h' (w.setCells b o1 (x ++ y))) : Post base ex G h w G' h' ((w.drew.setCells b o2 y).setCells b o1 x) := by
  refine ⟨hp.le, hp.inv.of_cells (fun ab i => ?_) (fun ab i => ?_) ?_ (fun ab => ?_) ?_ ?_ ?_, ?_, hp.next, hp.fresh⟩
  · rw [setCells_append, ← ho]
    have := cells_comm (w := w.drew) (b := b) (o1 := o1) (o2 := o2) (x := x) (y := y) (by omega) h1 h2 ab i
    rw [this]
    have hdr : ∀ (u : List Value) (o : Nat) (w : World), (w.drew.setCells b o u) = (w.setCells b o u).drew := fun u o w => (Go.Proofs.drew_setCells b u o w).symm
    rw [hdr, hdr]; rfl
  · rw [World.frozen?_setCells, World.frozen?_setCells, World.frozen?_setCells]; rfl
  · rw [setCells_size, setCells_size, setCells_size]; rfl
  · rw [shape_setCells, shape_setCells, shape_setCells]; rfl
  · intro ab es ck hm
    refine map_setCells b x o1 _ (map_setCells b y o2 w.drew ?_)
    show w.heap[ab]? = _
    exact map_of_setCells hm
  · intro ab T hr
    refine rowb_setCells b x o1 _ (rowb_setCells b y o2 w.drew ?_)
    show RowB w ab T
    exact rowb_of_setCells hr
  · intro ab m s sn l hm
    refine iter_setCells b x o1 _ (iter_setCells b y o2 w.drew ?_)
    show w.heap[ab]? = _
    exact iter_of_setCells hm
  · exact ((Below.refl base w).drew.trans (below_setCells hb _ _ _)).trans (below_setCells hb _ _ _)
end
end Go.CI

/- slices.Insert as a function of the interpreter's own: in the middle, with room. -/
set_option linter.unusedVariables false
namespace Go.CI
open Go.RowKit

theorem cut_take {α : Type} (off i len : Nat) (l : List α) (h : i ≤ len) : cut off (off + i) l = (cut off (off + len) l).take i := by
  unfold cut
  rw [List.take_drop, List.take_take]
  congr 2; omega
theorem flatC_drop {k : Nat} {es : List CVal} (hk : AllK k es) (n : Nat) : flatC (es.drop n) = (flatC es).drop (n * k) := by
  have h1 : flatC es = flatC (es.take n) ++ flatC (es.drop n) := by rw [← flatC_append, List.take_append_drop]
  by_cases hn : n ≤ es.length
  · have h2 : (flatC (es.take n)).length = n * k := by rw [flatC_length (allK_take hk n), List.length_take]; congr 1; omega
    rw [h1, ← h2, List.drop_left]
  · rw [List.drop_eq_nil_of_le (by omega : es.length ≤ n)]
    have : (flatC es).length ≤ n * k := by rw [flatC_length hk]; exact Nat.mul_le_mul_right _ (by omega)
    rw [List.drop_eq_nil_of_le this]; rfl
theorem allK_drop {k : Nat} {a : List CVal} (ha : AllK k a) (n : Nat) : AllK k (a.drop n) := fun e he => ha e (List.mem_of_mem_drop he)
theorem allFlat_drop {a : List CVal} (ha : AllFlat a) (n : Nat) : AllFlat (a.drop n) := fun e he => ha e (List.mem_of_mem_drop he)

section
variable {P : Program} {base : Base} {ρ : Go.Shelf.Ren}

theorem post_world {ex : Nat → Prop} {G G' : Gh} {h h' : CHeap} {w w1 w2 : World} (p : Post base ex G h w G' h' w1) (hc : ∀ ab i, w2.cell? ⟨ab, i, none⟩ = w1.cell? ⟨ab, i, none⟩) (hf : ∀ ab i, w2.frozen? ⟨ab, i, none⟩ = w1.frozen? ⟨ab, i, none⟩) (hs : w2.heap.size = w1.heap.size) (hsh : ∀ ab, w2.shape? ab = w1.shape? ab) (hmp : ∀ (ab : Nat) (es : Array MapEntry) (ck : Nat), w1.heap[ab]? = some (Obj.map es ck) → w2.heap[ab]? = some (Obj.map es ck)) (hrb : ∀ ab T, RowB w1 ab T → RowB w2 ab T) (hit : ∀ (ab : Nat) (m : Option Nat) (s : Nat) (sn : Array Nat) (l : Nat), w1.heap[ab]? = some (Obj.mapIter m s sn l) → w2.heap[ab]? = some (Obj.mapIter m s sn l)) (hb : Below base w w2) :
    Post base ex G h w G' h' w2 := ⟨p.le, p.inv.of_cells hc hf hs hsh hmp hrb hit, hb, p.next, p.fresh⟩

theorem heap_alloc (w : World) (o : Obj) (ab : Nat) : (w.alloc o).heap[ab]? = if ab = w.heap.size then some o else w.heap[ab]? := by
  show (w.heap.push o)[ab]? = _
  rw [Array.getElem?_push]
theorem shape_alloc (w : World) (A : Array Value) (T : TypeId) (fr : Nat × Nat) (ab : Nat) : (w.alloc (.cells A T fr)).shape? ab = if ab = w.heap.size then some (T, A.size) else w.shape? ab := by
  by_cases h : ab = w.heap.size
  · rw [if_pos h]; unfold World.shape?; rw [heap_alloc, if_pos h]
  · rw [if_neg h]; unfold World.shape?; rw [heap_alloc, if_neg h]
theorem frozen_alloc0 (w : World) (A : Array Value) (T : TypeId) (ab i : Nat) : (w.alloc (.cells A T (0, 0))).frozen? ⟨ab, i, none⟩ = if ab = w.heap.size then false else w.frozen? ⟨ab, i, none⟩ := by
  by_cases h : ab = w.heap.size
  · rw [if_pos h]; unfold World.frozen?
    show (match (w.alloc (.cells A T (0, 0))).heap[ab]? with | some (.cells _ _ (lo, hi)) => decide (lo ≤ i) && decide (i < hi) | _ => false) = _
    rw [heap_alloc, if_pos h]; simp
  · rw [if_neg h]; unfold World.frozen?
    show (match (w.alloc (.cells A T (0, 0))).heap[ab]? with | some (.cells _ _ (lo, hi)) => decide (lo ≤ i) && decide (i < hi) | _ => false) = _
    rw [heap_alloc, if_neg h]; rfl

theorem shape_of_cell {w : World} {ab i : Nat} {v : Value} (h : w.cell? ⟨ab, i, none⟩ = some v) : ∃ T n, w.shape? ab = some (T, n) ∧ n ≠ 0 := by
  unfold World.cell? at h
  unfold World.shape?
  split at h
  · rename_i c T fr hh
    rw [hh]
    simp only [Option.isSome_none, Bool.false_eq_true, if_false] at h
    have := (Array.getElem?_eq_some_iff.1 h).1
    exact ⟨T, c.size, rfl, by omega⟩
  · cases h

/-- Two ranges of one block, of which the one has no owner and the other one. -/
theorem apart_of_own {own : Nat → Nat → Option Own} {ab a la b lb q : Nat} (hla : 0 < la) (hlb : 0 < lb) (h1 : ∀ j, j < la → own ab (a + j) = none) (h2 : ∀ j, j < lb → own ab (b + j) = some (.r q)) : b + lb ≤ a ∨ a + la ≤ b := by
  rcases Nat.lt_or_ge a (b + lb) with h3 | h3
  · rcases Nat.lt_or_ge b (a + la) with h4 | h4
    · exfalso
      rcases Nat.le_total a b with h5 | h5
      · have e1 := h1 (b - a) (by omega)
        have e2 := h2 0 hlb
        rw [show a + (b - a) = b + 0 by omega, e2] at e1; cases e1
      · have e1 := h1 0 hla
        have e2 := h2 (a - b) (by omega)
        rw [show b + (a - b) = a + 0 by omega, e1] at e2; cases e2
    · exact .inr h4
  · exact .inl h3

theorem ins_mid {nm : String} {k by_ : Nat} {zz : Value} (L : InsLay P ρ nm k zz by_) (hname : (nm == "runtime.NumGoroutine") = false) (hzz : zz.cells.size = k) (hby : by_ ≤ 4096)
    {G : Gh} {h : CHeap} {w : World} {S Y : Value} {t : Tag} {vs es0 : List CVal} {b ver off len i : Nat} (I : Inv base G h w) (hs : VR G (.ref b ver k off len) S) (hy : VR G (.imm t k vs) Y) (hvs : 0 < vs.length) (hgb : h.get b = some (.row ver es0)) (hnt : h.ty b = none) (hle : off + len ≤ es0.length) (hi : i < len) (hmost : len + vs.length ≤ sizeMost) :
    Entr P (callFunc (ρ.f 22) ⟨[S, .int .i64 i, Y]⟩) w (CallPost base G h w (.ref b (ver + 1) k 0 (len + vs.length)) (h.set b (.row (ver + 1) ((cut off (off + len) es0).take i ++ (vs.map CVal.bare ++ (cut off (off + len) es0).drop i))))) := by
  refine .inr ⟨_, _, ins_enter L hname _ w, ?_⟩
  have I' := I
  obtain ⟨own, Io⟩ := I
  have hle' : elems h k (.ref b ver k off len) = some (cut off (off + len) es0) := by simp [elems, hgb, hle]
  have hcl : (cut off (off + len) es0).length = len := by rw [length_cut _ _ _ hle]; omega
  generalize hes : cut off (off + len) es0 = es at *
  -- the elements
  have hel := elems_cells Io hle' hs
  rcases hel with ⟨s, h1, _⟩ | ⟨h1, _⟩ | ⟨a, c, rfl, ha, hke, hk0, hcap, hec⟩
  · cases h1
  · cases h1
  have hely := elems_cells (k := k) (es := vs) Io (by simp [elems]) hy
  rcases hely with ⟨s, h1, _⟩ | ⟨h1, _⟩ | ⟨va, vc, rfl, hva, hkv, _, hvcap, hvcell⟩
  · cases h1
  · cases h1
  obtain ⟨cs, hcv, hcc⟩ := flat_vals hke hec
  obtain ⟨vv, hvv, hvc⟩ := flat_vals hkv hvcell
  have hfe : AllFlat es := fun e he x hx => by
    obtain ⟨q, hq⟩ := List.getElem?_of_mem he
    obtain ⟨j, hj⟩ := List.getElem?_of_mem hx
    exact (hec q e hq j x hj).1
  have hfv : AllFlat vs := fun e he x hx => by
    obtain ⟨q, hq⟩ := List.getElem?_of_mem he
    obtain ⟨j, hj⟩ := List.getElem?_of_mem hx
    exact (hvcell q e hq j x hj).1
  obtain ⟨hfl, hkb, hfb⟩ := bare_list hkv hfv
  have hvb : VRs G (flatC (vs.map CVal.bare)) vv := by rw [hfl]; exact hvv.map _ fun _ _ => VR.strip
  have hcsl : cs.length = len * k := by rw [← hcv.1, flatC_length hke, hcl]
  have hvvl : vv.length = vs.length * k := by rw [← hvv.1, flatC_length hkv]
  have h1c := one_of_vrs hcv (flat_flatC hfe)
  have h1v := one_of_vrs hvv (flat_flatC hfv)
  obtain ⟨ab, ao, sp⟩ := a
  simp only at ha
  subst ha
  have hvc' : ∀ (j : Nat) (v : Value), vv[j]? = some v → w.cell? (va.add j) = some v := fun j v hj => by rw [add_eq hva]; exact hvc j v hj
  cases hs with
  | ref hrw hk hll hsp hadr =>
    rename_i bb bo cap
    have hadr' := hadr.resolve_left (by omega)
    cases hadr'
    obtain ⟨hbn, hvmax, hrow⟩ := Io.ents b _ hgb
    obtain ⟨hab, hcapl, hown, hel2⟩ := hrow _ _ _ _ hrw
    have hclean := Io.cln _ _ _ hrw
    -- the cells of the slice and of its room
    have hcells : ∀ j, j < (cap - off) * k → own ab (bo + off * k + j) = some (.r b) ∧ Live w ab (bo + off * k + j) := fun j hj => by
      have h1 : off * k + (cap - off) * k = cap * k := by rw [← Nat.add_mul]; congr 1; omega
      have := hown (off * k + j) (by omega)
      rw [← Nat.add_assoc] at this
      exact this
    have hvown : ∀ j, j < vs.length * k → own va.block (va.off + j) = none := fun j hj => by
      have hjl : j < (flatC vs).length := by rw [flatC_length hkv]; exact hj
      cases hy with
      | imm hs1 hk1 hc1 hf1 ht1 =>
        obtain ⟨q, r, e, h1, h2, h3⟩ := flatC_inv hkv (List.getElem?_eq_getElem hjl)
        have := (Io.fzs _ _ _ ((hf1 q e h2).2 r _ h3).2).1
        rw [show va.off + q * k + r = va.off + j by omega] at this
        exact this
    have hvpos : 0 < vs.length * k := Nat.mul_pos hvs hk0
    by_cases hroom : es.length + vs.length ≤ cap - off
    · have hnm : (es.length + vs.length) * k ≤ (cap - off) * k := Nat.mul_le_mul_right _ hroom
      have hA : ∀ j, j < (es.length + vs.length) * k → own ab (bo + off * k + j) = some (.r b) ∧ Live w ab (bo + off * k + j) := fun j hj => hcells j (by omega)
      have hAsome : ∀ j, j < (es.length + vs.length) * k → (w.cell? ⟨ab, bo + off * k + j, none⟩).isSome = true := fun j hj => by
        obtain ⟨v, hv⟩ := (hA j hj).2.1; rw [hv]; rfl
      have hpos : 0 < (es.length + vs.length) * k := Nat.mul_pos (by omega) hk0
      have hik : (i + vs.length) * k + (es.length - i) * k = (es.length + vs.length) * k := by rw [← Nat.add_mul]; congr 1; omega
      have hapart : va.block = ab → bo + off * k + (es.length + vs.length) * k ≤ va.off ∨ va.off + vs.length * k ≤ bo + off * k := fun e =>
        apart_of_own (own := own) (ab := ab) (q := b) hvpos hpos (fun j hj => by rw [← e]; exact hvown j hj) (fun j hj => (hA j hj).1)
      have him : (i + vs.length) * k ≤ (es.length + vs.length) * k := Nat.mul_le_mul_right _ (by omega)
      have hov : ∀ lb cb, lb = es.length - i → (callFunc (ρ.f 29) #[.slice (some va) vs.length vc, .slice (some ⟨ab, bo + off * k + (i + vs.length) * k, none⟩) lb cb]).run P w = .ok (.value (.bool false)) w := fun lb cb hlb => by
        rw [L.ov]
        by_cases hbe : va.block = ab
        · rw [run_ov_same w (ρ.t 24) (ρ.t 4) (ρ.t 9) L.t24 k L.z9 va ⟨ab, bo + off * k + (i + vs.length) * k, none⟩ _ vc lb cb hbe (by
            show bo + off * k + (i + vs.length) * k + lb * k ≤ va.off ∨ va.off + vs.length * k ≤ bo + off * k + (i + vs.length) * k
            subst hlb
            rcases hapart hbe with h1 | h1
            · left; omega
            · right; omega)]
          rfl
        · obtain ⟨x, hx⟩ := (hA 0 hpos).2.1
          have hvl0 : 0 < vv.length := by rw [hvvl]; exact hvpos
          have hy0 := hvc 0 _ (List.getElem?_eq_getElem hvl0)
          obtain ⟨T1, n1, hs1, hn1⟩ := shape_of_cell hy0
          obtain ⟨T2, n2, hs2, hn2⟩ := shape_of_cell hx
          have hlive : w.frozen? ⟨ab, bo + off * k + (i + vs.length) * k, none⟩ = false := by
            have : (i + vs.length) * k < (es.length + vs.length) * k := Nat.mul_lt_mul_of_pos_right (by omega) hk0
            exact (hA _ this).2.2
          rw [run_ov_other w (ρ.t 24) (ρ.t 4) (ρ.t 9) L.t24 k L.z9 va ⟨ab, bo + off * k + (i + vs.length) * k, none⟩ _ vc lb cb hbe T1 T2 n1 n2 hs1 hs2 hn1 hn2 hlive (hclean.2 rfl T2 n2 hs2)]
          rfl
      have hdl : (cs.drop (i * k)).length = (es.length - i) * k := by rw [List.length_drop, hcsl, hcl, Nat.sub_mul]
      have hti : cut off (off + i) es0 = es.take i := by rw [← hes]; exact cut_take _ _ _ _ (by omega)
      have C := ins_shift L ab (bo + off * k) es.length (cap - off) i vs.length vc va cs vv w (by omega) hvs hroom (by unfold sizeMost at hmost; omega) (by rw [hcsl, hcl]) hvvl
        hcc (fun j hj => hAsome j hj) (fun j hj => (hA j hj).2.2) hvc' hva (fun e => (hapart e).symm.imp (fun h => by rw [Nat.add_mul]; omega) (fun h => h)) h1c h1v
        (fun cb => hov _ _ (by omega))
      refine C.mono fun e w' ⟨he, hw'⟩ => ⟨_, he, ?_⟩
      subst hw'
      have hp := post_ext_row (id := h.next) I' (allK_append hkb (allK_drop hke i)) (allFlat_append hfb (allFlat_drop hfe i)) hk0 hgb hrw (off := off) (len := i) (by omega) (by rw [List.length_append, List.length_map, List.length_drop]; omega)
        (news := vv ++ cs.drop (i * k)) (by rw [flatC_append, flatC_drop hke]; exact hvb.append (hcv.drop _))
      rw [hti] at hp
      have hoff : bo + (off + i) * k = bo + off * k + i * k := by rw [Nat.add_mul]; omega
      rw [hoff] at hp
      have hp2 := post_two (b := ab) (o1 := bo + off * k + i * k) (o2 := bo + off * k + (i + vs.length) * k) (x := vv) (y := cs.drop (i * k)) hab (by rw [hvvl, Nat.add_mul]; omega)
        (fun j hj => by rw [Nat.add_assoc]; exact hAsome _ (by rw [hvvl] at hj; rw [Nat.add_mul] at hik; omega))
        (fun j hj => by rw [Nat.add_assoc]; exact hAsome _ (by rw [hdl] at hj; omega)) hp
      refine ⟨_, ?_, post_ex hp2 fun j hj hlt _ => absurd hlt (by omega)⟩
      have := VR.ref (off := 0) (len := es.length + vs.length) (a := ⟨ab, bo + off * k, none⟩) (withRw_self G b (ver + 1) (ab, bo + off * k, k, cap - off)) hk0 (by omega) rfl (.inr (by simp))
      rw [hcl]
      simpa using this
    · have C := ins_grow L hzz hby ab (bo + off * k) es.length (cap - off) i vs.length vc va cs vv w (by omega) hvs (by omega) (by omega) (by unfold sizeMost at hmost; omega) (by rw [hcsl, hcl]) hvvl hcc hvc'
        (by obtain ⟨v, hv⟩ := (hcells 0 (Nat.mul_pos (by omega) hk0)).2.1; exact cell_lt hv) (by
          have hl0 : 0 < vv.length := by rw [hvvl]; exact hvpos
          have := hvc 0 _ (List.getElem?_eq_getElem hl0)
          exact cell_lt this) h1c h1v
      refine C.mono fun e w' ⟨GC, ROW, hG1, hG2, he, hw', hR⟩ => ⟨_, he, ?_⟩
      subst hw'
      obtain ⟨L0, hL0⟩ : ∃ L0, L0 = cs.take (i * k) ++ (vv ++ cs.drop (i * k)) := ⟨_, rfl⟩
      have hdl : (cs.drop (i * k)).length = (es.length - i) * k := by rw [List.length_drop, hcsl, hcl, Nat.sub_mul]
      have htl : (cs.take (i * k)).length = i * k := by
        rw [List.length_take, hcsl, hcl]
        exact Nat.min_eq_left (Nat.mul_le_mul_right _ (by omega))
      have hik : i * k + vs.length * k + (es.length - i) * k = (es.length + vs.length) * k := by rw [← Nat.add_mul, ← Nat.add_mul]; congr 1; omega
      have hGk : (es.length + vs.length) * k ≤ ROW.size := by rw [hG2]; exact Nat.mul_le_mul_right _ hG1
      obtain ⟨W, hW⟩ : ∃ W, W = ((((w.alloc (.cells ROW (ρ.t 9))).drew.setCells w.heap.size (i * k) vv).drew).setCells w.heap.size ((i + vs.length) * k) (cs.drop (i * k))) := ⟨_, rfl⟩
      rw [← hW]
      have hR0 : ∀ j, (w.alloc (.cells ROW (ρ.t 9))).cell? ⟨w.heap.size, j, none⟩ = ROW[j]? := fun j => World.cell?_alloc_at ROW _ w.heap.size j rfl
      have hsome0 : ∀ j, j < ROW.size → (w.alloc (.cells ROW (ρ.t 9))).cell? ⟨w.heap.size, j, none⟩ = some (ROW[j]!) := fun j hj => by rw [hR0]; simp [hj]
      have hs1 : ∀ j, j < vv.length → ((w.alloc (.cells ROW (ρ.t 9))).drew.cell? ⟨w.heap.size, i * k + j, none⟩).isSome = true := fun j hj => by
        have := hsome0 (i * k + j) (by omega)
        have e : (w.alloc (.cells ROW (ρ.t 9))).drew.cell? ⟨w.heap.size, i * k + j, none⟩ = _ := this
        rw [e]; rfl
      have hs2 : ∀ j, j < (cs.drop (i * k)).length → ((((w.alloc (.cells ROW (ρ.t 9))).drew.setCells w.heap.size (i * k) vv).drew).cell? ⟨w.heap.size, (i + vs.length) * k + j, none⟩).isSome = true := fun j hj => by
        refine Go.Proofs.isSome_setCells w.heap.size vv (i * k) _ hs1 _ ?_
        have := hsome0 ((i + vs.length) * k + j) (by rw [Nat.add_mul]; omega)
        have e : (w.alloc (.cells ROW (ρ.t 9))).drew.cell? ⟨w.heap.size, (i + vs.length) * k + j, none⟩ = _ := this
        rw [e]; rfl
      have hWL : ∀ (j : Nat) (v : Value), L0[j]? = some v → W.cell? ⟨w.heap.size, j, none⟩ = some v := fun j v hj => by
        rw [hL0] at hj
        by_cases c1 : j < i * k
        · rw [List.getElem?_append_left (by omega)] at hj
          have := hR j v hj
          rw [hW, setCells_out (fun _ => .inl (by rw [Nat.add_mul]; omega))]
          show ((w.alloc (.cells ROW (ρ.t 9))).drew.setCells w.heap.size (i * k) vv).cell? _ = _
          rw [setCells_out (fun _ => .inl (by omega))]
          exact (hR0 j).trans this
        · rw [List.getElem?_append_right (by omega), htl] at hj
          by_cases c2 : j - i * k < vv.length
          · rw [List.getElem?_append_left c2] at hj
            have h1 := World.cell?_setCells_in w.heap.size vv (i * k) ((w.alloc (.cells ROW (ρ.t 9))).drew) hs1 (j - i * k) c2
            rw [show i * k + (j - i * k) = j by omega] at h1
            rw [hW, setCells_out (fun _ => .inl (by rw [Nat.add_mul]; omega))]
            exact (h1.trans (List.getElem?_eq_getElem c2).symm).trans hj
          · rw [List.getElem?_append_right (by omega)] at hj
            have hjl := (List.getElem?_eq_some_iff.1 hj).1
            have h1 := World.cell?_setCells_in w.heap.size (cs.drop (i * k)) ((i + vs.length) * k) _ hs2 (j - i * k - vv.length) hjl
            rw [show (i + vs.length) * k + (j - i * k - vv.length) = j by rw [Nat.add_mul]; omega] at h1
            rw [hW]
            exact (h1.trans (List.getElem?_eq_getElem hjl).symm).trans hj
      have hWsome : ∀ j, j < ROW.size → (W.cell? ⟨w.heap.size, j, none⟩).isSome = true := fun j hj => by
        rw [hW]
        refine Go.Proofs.isSome_setCells _ _ _ _ hs2 _ ?_
        refine Go.Proofs.isSome_setCells w.heap.size vv (i * k) _ hs1 _ ?_
        have e : (w.alloc (.cells ROW (ρ.t 9))).drew.cell? ⟨w.heap.size, j, none⟩ = _ := hsome0 j hj
        rw [e]; rfl
      obtain ⟨A, hA⟩ : ∃ A : Array Value, A = Array.ofFn (n := ROW.size) fun j => (W.cell? ⟨w.heap.size, j.val, none⟩).getD .nilFunc := ⟨_, rfl⟩
      have hAs : A.size = ROW.size := by rw [hA, Array.size_ofFn]
      have hAc : ∀ j, A[j]? = W.cell? ⟨w.heap.size, j, none⟩ := fun j => by
        by_cases hj : j < ROW.size
        · rw [hA, Array.getElem?_ofFn, dif_pos hj]
          have := hWsome j hj
          cases hq : W.cell? ⟨w.heap.size, j, none⟩ with
          | none => rw [hq] at this; cases this
          | some v => rfl
        · rw [Array.getElem?_eq_none (by omega), hW, setCells_out (fun _ => .inr (by rw [Nat.add_mul]; omega))]
          show _ = ((w.alloc (.cells ROW (ρ.t 9))).drew.setCells w.heap.size (i * k) vv).cell? _
          rw [setCells_out (fun _ => .inr (by omega))]
          exact ((hR0 j).trans (Array.getElem?_eq_none (by omega))).symm
      have hYl : (es.take i ++ (vs.map CVal.bare ++ es.drop i)).length = es.length + vs.length := by simp; omega
      have hYk : AllK k (es.take i ++ (vs.map CVal.bare ++ es.drop i)) := allK_append (allK_take hke i) (allK_append hkb (allK_drop hke i))
      have hYf : AllFlat (es.take i ++ (vs.map CVal.bare ++ es.drop i)) := allFlat_append (fun e he => hfe e (List.mem_of_mem_take he)) (allFlat_append hfb (allFlat_drop hfe i))
      have hYv : VRs G (flatC (es.take i ++ (vs.map CVal.bare ++ es.drop i))) L0 := by
        rw [flatC_append, flatC_append, flatC_drop hke, flatC_take hke, hL0]
        exact (hcv.take _).append (hvb.append (hcv.drop _))
      have hp := post_new_row (lo := 0) (hi := 0) (T := ρ.t 9) (ver := ver + 1) (cap := GC) (arr := A) I' (Nat.le_refl _) hbn (fun v x hx => by have := hvmax v x hx; omega) hYk hYf (by rw [hYl]; exact hG1) (by rw [hAs, hG2]; exact Nat.le_refl _)
        (fun j c hc => by
          have hlt : j < L0.length := by rw [← hYv.1]; exact (List.getElem?_eq_some_iff.1 hc).1
          exact ⟨L0[j], by rw [hAc]; exact hWL j _ (List.getElem?_eq_getElem hlt), hYv.2 j c _ hc (List.getElem?_eq_getElem hlt)⟩)
        (get_set_self (o := .row (ver + 1) (es.take i ++ (vs.map CVal.bare ++ es.drop i))) hgb) (fun b' hne => get_set_other hne) rfl (nodup_set h b _ Io.nod) ⟨Nat.le_refl _, Nat.zero_le _⟩ (fun T' h1 => by have h1 : h.ty b = some T' := h1; rw [hnt] at h1; cases h1) (fun b' T' _ h1 => h1)
      have hbel : Below base w W := by
        rw [hW]
        exact (((Below.refl base w).alloc Io.top _).drew.trans (below_setCells Io.top _ _ _)).drew.trans (below_setCells Io.top _ _ _)
      have hp2 := post_world (w2 := W) hp (fun ab' j => by
          by_cases hb' : ab' = w.heap.size
          · subst hb'; exact (hAc j).symm.trans (World.cell?_alloc_at A _ w.heap.size j rfl).symm
          · rw [hW, setCells_out (fun e => absurd e hb')]
            show ((w.alloc (.cells ROW (ρ.t 9))).drew.setCells w.heap.size (i * k) vv).cell? _ = _
            rw [setCells_out (fun e => absurd e hb')]
            show (w.alloc (.cells ROW (ρ.t 9))).cell? _ = _
            rw [World.cell?_alloc_old (h := hb'), World.cell?_alloc_old (h := hb')])
        (fun ab' j => by
          rw [hW, World.frozen?_setCells]
          show ((w.alloc (.cells ROW (ρ.t 9))).drew.setCells w.heap.size (i * k) vv).frozen? _ = _
          rw [World.frozen?_setCells]
          show (w.alloc (.cells ROW (ρ.t 9))).frozen? _ = _
          rw [frozen_alloc0, frozen_alloc0])
        (by
          rw [hW, setCells_size]
          show ((w.alloc (.cells ROW (ρ.t 9))).drew.setCells w.heap.size (i * k) vv).heap.size = _
          rw [setCells_size]
          show (w.heap.push _).size = (w.heap.push _).size
          rw [Array.size_push, Array.size_push])
        (fun ab' => by
          rw [hW, shape_setCells]
          show ((w.alloc (.cells ROW (ρ.t 9))).drew.setCells w.heap.size (i * k) vv).shape? _ = _
          rw [shape_setCells]
          show (w.alloc (.cells ROW (ρ.t 9))).shape? _ = _
          rw [shape_alloc, shape_alloc, hAs])
        (fun ab' es' ck hm => by
          rw [hW]
          refine map_setCells _ _ _ _ ?_
          show ((w.alloc (.cells ROW (ρ.t 9))).drew.setCells w.heap.size (i * k) vv).heap[ab']? = _
          refine map_setCells _ _ _ _ ?_
          show (w.alloc (.cells ROW (ρ.t 9))).heap[ab']? = _
          rw [heap_alloc] at hm ⊢
          split at hm
          · cases hm
          · rename_i hne; rw [if_neg hne]; exact hm)
        (fun ab' T' hr => by
          rw [hW]
          refine rowb_setCells _ _ _ _ ?_
          show RowB ((w.alloc (.cells ROW (ρ.t 9))).drew.setCells w.heap.size (i * k) vv) ab' T'
          refine rowb_setCells _ _ _ _ ?_
          show RowB (w.alloc (.cells ROW (ρ.t 9))) ab' T'
          obtain ⟨c, lo, hi, he, h1, h2⟩ := hr
          rw [heap_alloc] at he
          unfold RowB
          rw [heap_alloc]
          split at he
          · cases he
            rename_i e
            exact ⟨ROW, 0, 0, by rw [if_pos e], Nat.le_refl _, Nat.zero_le _⟩
          · rename_i hne; exact ⟨c, lo, hi, by rw [if_neg hne]; exact he, h1, h2⟩)
        (fun ab' m s sn l hm => by
          rw [hW]
          refine iter_setCells _ _ _ _ ?_
          show ((w.alloc (.cells ROW (ρ.t 9))).drew.setCells w.heap.size (i * k) vv).heap[ab']? = _
          refine iter_setCells _ _ _ _ ?_
          show (w.alloc (.cells ROW (ρ.t 9))).heap[ab']? = _
          rw [heap_alloc] at hm ⊢
          split at hm
          · cases hm
          · rename_i hne; rw [if_neg hne]; exact hm) hbel
      refine ⟨_, ?_, post_ex hp2 fun j hj hlt hfj => by subst hj; have := hfj.2.2.2; rw [hgb] at this; cases this⟩
      rw [hcl]
      exact vr_row0 hk0 hG1
end
end Go.CI

/- slices.Insert as a function of the interpreter's own: it is the model's. -/
set_option linter.unusedVariables false
namespace Go.CI
open Go.RowKit

section
variable {P : Program} {base : Base} {ρ : Go.Shelf.Ren}

theorem sim_insert {nm : String} {k by_ : Nat} {zz : Value} {g : ElemInfo} (L : InsLay P ρ nm k zz by_) (hname : (nm == "runtime.NumGoroutine") = false) (hzz : zz.cells.size = k) (hby : by_ ≤ 4096) (hg : infoOf P (ρ.t 9) = some g) (hgk : g.size = k) (hgb : g.bytes ≤ 4096) :
    SimPrim P base (ρ.f 22) (pInsert k) := by
  intro G h w xs us v h' hp I hr
  unfold pInsert at hp
  split at hp
  · rename_i s i t l vs
    obtain ⟨S, N, Y, rfl, hS, hN, hY⟩ := vrs_three hr
    have := vr_int (c := .nilp) hN
    subst this
    split at hp
    · rename_i hc
      simp only [Bool.and_eq_true, decide_eq_true_eq] at hc
      obtain ⟨rfl, hvs, hi0⟩ := hc
      split at hp
      · rename_i es hes
        split at hp
        · rename_i hie
          have e : i = (es.length : Int) := by omega
          subst e
          exact ins_at_end L hname hg hgk hgb I hS hY hvs hes hp
        · split at hp
          · rename_i hcond
            simp only [Bool.and_eq_true, decide_eq_true_eq] at hcond
            split at hp
            · rename_i b ver k2 off len
              split at hp
              · cases hp
              rename_i hnt
              have hnt : h.ty b = none := by simpa using hnt
              split at hp
              · rename_i v0 es0 hget
                cases hp
                have hes' := hes
                simp only [elems, hget] at hes'
                split at hes'
                · rename_i hq
                  simp only [Bool.and_eq_true, decide_eq_true_eq] at hq
                  obtain ⟨h1, h2, h3⟩ := hq
                  cases hes'
                  subst h1
                  subst h2
                  have hcl : (cut off (off + len) es0).length = len := by rw [length_cut _ _ _ h3]; omega
                  rw [hcl] at hcond ⊢
                  have e : i = ((i.toNat : Nat) : Int) := by omega
                  have := ins_mid L hname hzz hby (i := i.toNat) I hS hY hvs hget hnt h3 hcond.1 hcond.2
                  rw [← e] at this
                  exact this
                · cases hes'
              · cases hp
            · cases hp
          · cases hp
      · cases hp
    · cases hp
  · cases hp
end
end Go.CI

/- A law without arguments: what is left to show is a run of the interpreter. -/
set_option linter.unusedVariables false
namespace Go.CI
open Go.RowKit

/-- The functions, by their numbers. -/
inductive CTree where
  | leaf (i : Nat) (fn : CFn)
  | node (m : Nat) (a b : CTree)

def CTree.get : CTree → Nat → Option CFn
  | .leaf i fn, f => bif Nat.beq f i then some fn else none
  | .node m a b, f => bif Nat.blt f m then a.get f else b.get f

def CTree.All (p : Nat → CFn → Prop) : CTree → Prop
  | .leaf i fn => p i fn
  | .node _ a b => a.All p ∧ b.All p

theorem CTree.get_all {p : Nat → CFn → Prop} {t : CTree} (h : t.All p) {f : Nat} {fn : CFn} (hg : t.get f = some fn) : p f fn := by
  induction t with
  | leaf i x =>
    have hg : (bif Nat.beq f i then some x else none) = some fn := hg
    cases hb : Nat.beq f i with
    | true => rw [hb] at hg; cases hg; have := Nat.eq_of_beq_eq_true hb; subst this; exact h
    | false => rw [hb] at hg; cases hg
  | node m a b iha ihb =>
    have hg : (bif Nat.blt f m then a.get f else b.get f) = some fn := hg
    cases hb : Nat.blt f m with
    | true => rw [hb] at hg; exact iha h.1 hg
    | false => rw [hb] at hg; exact ihb h.2 hg

section
variable {P : Program}

def FnOkAt (P : Program) (H : Hints) (base : Base) (f : Nat) : CFn → Prop
  | .ir fn => cfunc P H f = some fn
  | .prim p => SimPrim P base f p

theorem TOk.of_tree {H : Hints} {base : Base} {t : CTree} (h : t.All (FnOkAt P H base)) : TOk P H base t.get :=
  ⟨fun f fn hf => CTree.get_all h hf, fun f p hf => CTree.get_all (p := FnOkAt P H base) h hf⟩

def saysTrue : Option (CVal × CHeap) → Bool
  | some (.bool b, _) => b
  | _ => false

theorem closed_calls {H : Hints} {T : Nat → Option CFn} {n f : Nat} {fn : CFunc} (w : World) {F : Nat → Nat → Option CVal} {gl : List (Nat × List CVal)} (hgl : GlobsIn H.globals gl) (hmixed : P.follows .mixedOrders = true) (hT : TOk P H ⟨w.heap.size, gl⟩ T) (hf : T f = some (.ir fn)) (B : Begins w gl F)
    (hrun : saysTrue (crun T n f [] noHeap) = true) : Calls P f #[] w fun e w' => e = .returned (.bool true) ∧ Below w.heap.size w w' := by
  cases hr : crun T n f [] noHeap with
  | none => rw [hr] at hrun; cases hrun
  | some x =>
    obtain ⟨v, h'⟩ := x
    rw [hr] at hrun
    have hv : v = .bool true := by cases v <;> simp_all [saysTrue]
    subst hv
    refine Calls.mono (crun_calls hgl hmixed hT hf B (args := []) (cs := []) (VRs.nil _) hr) ?_
    rintro e w' ⟨u, G, rfl, _, hu, hb, _⟩
    rw [vr_bool hu]
    exact ⟨rfl, hb⟩
end

section
open Go.ChangeShapes Go.WideShapes
variable {H : Type} {enc : TypeId × Value → H} {P : Program}

/-- What is left behind a call that turned nothing of what was there. -/
theorem post_of_below {f : Func} {s : ChangeSpec} {apart fresh handsOn again : Bool} {W W' : World} {args : Array Value} {v : Value} {ds gs : List (DataW H)} {before pa pv : List MemPlace}
    (hW : DataW.Whole enc P f.params.toList s.vars apart W args.toList ds gs before)
    (hres : ∀ (b : Nat) (sp : Nat → Bool) (hd : Bool), DataW.TrodAll enc P W' b sp hd f.resultTypes.toList (v.resultList f.resultTypes.size) (s.fn H (ds ++ gs)).results [])
    (hargs : ∀ sp : Nat → Bool, (∀ p ∈ before, sp p.block = true) → DataW.TrodAll enc P W' 0 sp true f.params.toList args.toList (s.fn H (ds ++ gs)).args pa)
    (hvars : ∀ sp : Nat → Bool, (∀ p ∈ before, sp p.block = true) → DataW.TrodVars enc P W' sp s.vars (s.fn H (ds ++ gs)).vars pv)
    (hps : before = pa ++ pv) (hb : Below W.heap.size W W')
    (hok : ∀ (j : Nat) (t : TypeId) (r : Value), f.resultTypes[j]? = some t → (v.resultList f.resultTypes.size)[j]? = some r → Value.okWide P W' .any 0 t r) :
    s.post enc P f apart fresh handsOn again W args v W' := by
  have hold : ∀ p ∈ before, (fun b => decide (b < W.heap.size)) p.block = true := fun p hp => by simpa using hW.lt p hp
  have hlt := hW.lt
  refine ⟨ds, gs, before, [], pa, pv, hW, hres _ _ _, hargs _ hold, hvars _ hold, World.keptBut_mono (fun p hp => ⟨hp, ?_⟩) (hb.frame (· ∈ before)), fun _ => ?_⟩
  · rw [hps, List.mem_append] at hp
    exact Or.inr hp
  · obtain ⟨_, _, _, _, _, hz, hn⟩ := hW
    refine ⟨hok, _, _, ([] ++ pa) ++ pv, ⟨[] ++ pa, pv, trodAll_append (hargs _ (fun _ _ => rfl)) (hres _ _ _), hvars _ (fun _ _ => rfl), rfl, ?_, ?_⟩, ?_⟩
    · intro b off hp
      have hm : MemPlace.cell b off ∈ before := by rw [hps]; simpa using hp
      have hfr : W'.frozen? ⟨b, off, none⟩ = W.frozen? ⟨b, off, none⟩ := hb.frozen (by have := hlt _ hm; exact this)
      rw [hfr]
      exact hz b off hm
    · intro ha
      have := hn ha
      rw [hps] at this
      simpa using this
    · intro p hp _
      rw [hps]
      simpa using hp
end

section
variable {P : Program}

theorem size_of {t : TypeId} {k : Nat} (h : (P.info? t).map (·.size) = some k) (w : World) : (Go.sizeOf t).run P w = .ok k w := by
  obtain ⟨i, h1, h2⟩ := Option.map_eq_some_iff.1 h
  rw [r_size h1, h2]
theorem zero_of {t : TypeId} {z : Value} (h : (P.info? t).map (·.zero) = some (some z)) (w : World) : (zeroValue t).run P w = .ok z w := by
  obtain ⟨i, h1, h2⟩ := Option.map_eq_some_iff.1 h
  exact r_zero h1 h2

/-- The facts on slices.Insert that a program bears, each closed. -/
theorem InsLay.of {ρ : Go.Shelf.Ren} {nm : String} {k by_ : Nat} {z : Value} {fm : Func} (mixed : P.follows .mixedOrders = true) (f22 : P.funcs[ρ.f 22]? = some { Go.Proofs.Body2.n22 ρ with name := nm })
    (f29 : P.funcs[ρ.f 29]? = some fm) (h2 : (fm.name == "runtime.NumGoroutine") = false) (h3 : fm.body.isNone = true) (h4 : Extern.findNext fm = none) (h5 : Extern.find fm = some (Extern.SlicesOverlaps.overlaps #[ρ.t 24, ρ.t 24] #[ρ.t 4]))
    (t0 : P.underlying (ρ.t 0) = some (TypeDesc.tuple #[])) (t3 : P.underlying (ρ.t 3) = some (TypeDesc.int IntKind.i64)) (t4 : P.underlying (ρ.t 4) = some (TypeDesc.bool)) (t24 : P.underlying (ρ.t 24) = some (TypeDesc.slice (ρ.t 9)))
    (s3 : (P.info? (ρ.t 3)).map (·.size) = some 1) (s4 : (P.info? (ρ.t 4)).map (·.size) = some 1) (s24 : (P.info? (ρ.t 24)).map (·.size) = some 1)
    (z3 : (P.info? (ρ.t 3)).map (·.zero) = some (some (Value.int IntKind.i64 0))) (z4 : (P.info? (ρ.t 4)).map (·.zero) = some (some (Value.bool false))) (z24 : (P.info? (ρ.t 24)).map (·.zero) = some (some (Value.slice none 0 0)))
    (i9 : (P.info? (ρ.t 9)).map (fun i => (i.zero, i.size, i.bytes)) = some (some z, k, by_)) (k0 : 0 < k) : InsLay P ρ nm k z by_ where
  mixed := mixed
  f22 := f22
  ov args w := run_callFunc_extern f29 h2 h3 h4 h5 args w
  t0 := t0
  t3 := t3
  a3 w := r_agg t3
  z3 := size_of s3
  v3 := zero_of z3
  t4 := t4
  a4 w := r_agg t4
  z4 := size_of s4
  v4 := zero_of z4
  z9 := size_of (by
    obtain ⟨i, h1, h2⟩ := Option.map_eq_some_iff.1 i9
    have h3 := congrArg (fun x : Option Value × Nat × Nat => x.2.1) h2
    rw [h1]; exact congrArg some h3)
  t24 := t24
  a24 w := r_agg t24
  z24 := size_of s24
  v24 := zero_of z24
  i9 := i9
  k0 := k0
end
end Go.CI

/- strings.Builder's own functions, and others of the library, as functions of the interpreter's own. -/
set_option linter.unusedVariables false
namespace Go.CI

def hasPair : List (Nat × Nat) → Nat → Nat → Bool
  | [], _, _ => false
  | (a, b) :: r, x, y => (a == x && b == y) || hasPair r x y

/-- A Builder marks itself as used; oks: in which blocks, at which places. -/
def pCopyCheck (oks : List (Nat × Nat)) (xs : List CVal) (h : CHeap) : Option (CVal × CHeap) :=
  match xs with
  | [.ptr b d o] => if hasPair oks d o then match h.get b with
    | some (.cells cs) => match nth cs o with
      | .nilp => some (.tup [], h.set b (.cells (setCells cs o [.ptr b d o])))
      | .ptr b' d' o' => if b' == b && (d' == d && o' == o) then some (.tup [], h) else none
      | _ => none
    | _ => none else none
  | _ => none

def byteVals : List CVal → Option (List UInt8)
  | [] => some []
  | .int .u8 n :: r => if decide (0 ≤ n) && decide (n < 256) then (byteVals r).map (UInt8.ofNat n.toNat :: ·) else none
  | _ => none

/-- A row, written or not any more. -/
def rowOf : Option CObj → Option (Nat × List CVal)
  | some (.row v es) => some (v, es)
  | some (.frow v es) => some (v, es)
  | _ => none

/-- What a Builder holds, as a text: its row is written no more. -/
def pBString (T : Nat) (xs : List CVal) (h : CHeap) : Option (CVal × CHeap) :=
  match xs with
  | [.ptr b d o] => match h.get b with
    | some (.cells cs) => match nth cs (o + 1) with
      | .nils => some (.str [], h)
      | .ref r ver 1 off len => match rowOf (h.get r) with
        | some (v, es) => if v == ver && (decide (off + len ≤ es.length) && (decide (0 < len) && (decide (len ≤ sizeMost) && (h.ty r == some T)))) then (byteVals (cut off (off + len) es)).map fun l => (.str l, h.set r (.frow v es)) else none
        | _ => none
      | _ => none
    | _ => none
  | _ => none

/-- A row of bytes of which nothing is known. -/
def pMakeNoZero (T : Nat) (xs : List CVal) (h : CHeap) : Option (CVal × CHeap) :=
  match xs with
  | [.int .i64 n] => if decide (0 ≤ n) && decide (n ≤ sizeMost) then some (.ref h.next 0 1 0 n.toNat, (({ h with next := h.next + 1 } : CHeap).put h.next (.row 0 [])).note h.next (T + 1)) else none
  | _ => none

def hasFront : List UInt8 → List UInt8 → Bool
  | _, [] => true
  | [], _ :: _ => false
  | a :: x, b :: y => a == b && hasFront x y
def idxSub (p : List UInt8) : List UInt8 → Nat → Int
  | [], i => match p with
    | [] => i
    | _ :: _ => -1
  | a :: r, i => bif hasFront (a :: r) p then i else idxSub p r (i + 1)
def pIndex (xs : List CVal) (h : CHeap) : Option (CVal × CHeap) :=
  match xs with
  | [.str s, .str p] => if decide (s.length < 4294967281) then some (.int .i64 (idxSub p s 0), h) else none
  | _ => none
end Go.CI

/- The interpreter once more, in a form that the kernel runs fast: every choice is a recursor over closed terms. -/
set_option linter.unusedVariables false
namespace Go.CI
noncomputable def bF (b : Bool) : (β : Type) → β → β → β := @Bool.rec.{2} (fun _ => (β : Type) → β → β → β) (fun _ _ y => y) (fun _ x _ => x) b
theorem bF_eq (b : Bool) (β : Type) (x y : β) : bF b β x y = if b then x else y := by cases b <;> rfl
noncomputable def CTree.getF (t : CTree) : Nat → Option CFn :=
  @CTree.rec.{1} (fun _ => Nat → Option CFn) (fun i fn f => bF (Nat.beq f i) (Option CFn) (some fn) none) (fun m _ _ a b f => bF (Nat.blt f m) (Option CFn) (a f) (b f)) t

abbrev execF (T : Nat → Option CFn) (n : Nat) := exec T n
abbrev crunF (T : Nat → Option CFn) (n f : Nat) (args : List CVal) (h : CHeap) := crun T n f args h
theorem execF_eq (T : Nat → Option CFn) (n : Nat) : execF T n = exec T n := rfl
theorem crunF_eq (T : Nat → Option CFn) (n f : Nat) (args : List CVal) (h : CHeap) : crunF T n f args h = crun T n f args h := rfl
end Go.CI


