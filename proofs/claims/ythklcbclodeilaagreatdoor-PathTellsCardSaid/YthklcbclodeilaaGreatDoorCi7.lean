/- A deterministic interpreter over values, proved sound against the model's rules (part 7 of 7): what a run of it gives, a call in the model gives. -/
import Derived.Test.YthklcbclodeilaaGreatDoorCi6
import Derived.Shelf.Strings.Search2
import Derived.Handed
import Derived.SizedLaws
import Derived.Shelf.Vars
import Derived.Stop.LaidErr
import Derived.Shelf.Strconv.Clone
import Derived.ChangeSlices
import Derived.ChangeShapes
import Derived.Carry
import Derived.Deep.Matrix
set_option linter.unusedVariables false
set_option linter.unusedSimpArgs false

/- strings.Builder.String as a function of the interpreter's own: it is the model's. -/
set_option linter.unusedVariables false
set_option linter.unusedSimpArgs false
namespace Go.CI
open Go.Shelf Go.RowKit Go.Lib Go.Proofs

section
variable {P : Program} {base : Base} {G : Gh} {h : CHeap} {w : World} {ρ : Ren}

theorem freeze_heap {ab o n : Nat} {c : Array Value} {T lo hi : Nat} (hn : n ≠ 0) (hb : w.heap[ab]? = some (.cells c T (lo, hi))) (a : Nat) :
    (w.freeze ⟨ab, o, none⟩ n).heap[a]? = if a = ab then some (.cells c T (if lo == hi then (o, o + n) else (min lo o, max hi (o + n)))) else w.heap[a]? := by
  unfold World.freeze
  rw [if_neg hn]
  simp only [Array.getElem?_modify]
  by_cases h1 : ab = a
  · subst h1
    rw [if_pos rfl, if_pos rfl, hb]; rfl
  · rw [if_neg h1, if_neg (fun e => h1 e.symm)]

theorem nth_none {l : List CVal} {i : Nat} (h : l.length ≤ i) : nth l i = .undef := by rw [nth_eq, List.getElem?_eq_none h]; rfl

theorem byteVals_eq : ∀ {es : List CVal} {l : List UInt8}, byteVals es = some l → es = l.map (fun x => CVal.int .u8 x.toNat)
  | [], l, h => by simp only [byteVals] at h; cases h; rfl
  | e :: es, l, h => by
    cases e <;> try (simp [byteVals] at h; done)
    rename_i k n
    cases k <;> simp only [byteVals] at h <;> first | (cases h; done) | skip
    split at h
    · rename_i hn
      simp only [Bool.and_eq_true, decide_eq_true_eq] at hn
      obtain ⟨l', hl, rfl⟩ := Option.map_eq_some_iff.1 h
      rw [byteVals_eq hl]
      simp only [List.map_cons, List.cons.injEq, and_true, CVal.int.injEq, true_and]
      rw [UInt8.toNat_ofNat']
      omega
    · cases h

theorem freeze_size (a : Addr) (n : Nat) : (w.freeze a n).heap.size = w.heap.size := by
  unfold World.freeze
  split <;> simp

set_option maxHeartbeats 1000000 in
/-- A row is written no more. -/
theorem post_rowfreeze (I : Inv base G h w) {b ver ab ao k cap T o n : Nat} {es : List CVal} {q0 : CObj} (hb : h.get b = some q0) (hq0 : q0 = .row ver es ∨ q0 = .frow ver es) (ht : h.ty b = some T) (hr : G.rw b ver = some (ab, ao, k, cap)) (hn : n ≠ 0)
    (hsz : ∀ N, w.shape? ab = some (T, N) → o + n ≤ N) :
    Post base (fun _ => False) G h w G (h.set b (.frow ver es)) (w.drew.freeze ⟨ab, o, none⟩ n) := by
  obtain ⟨own, I⟩ := I
  obtain ⟨hRow, hsole⟩ := I.tys b T ht ver _ hr
  obtain ⟨c, lo, hi, hheap, hlh, hhc⟩ := hRow
  obtain ⟨hbn, hvmax, hab, hcap, hown, hel⟩ : b < h.next ∧ (∀ v x, G.rw b v = some x → v ≤ ver) ∧ base ≤ ab ∧ es.length ≤ cap ∧ (∀ i, i < cap * k → own ab (ao + i) = some (.r b)) ∧
      ∀ (i : Nat) (e : CVal), es[i]? = some e → e.cells.length = k ∧ ∀ (j : Nat) (c : CVal), e.cells[j]? = some c → c.flat = true ∧ Holds G w ab (ao + i * k + j) c := by
    obtain ⟨x1, x2⟩ := I.ents b _ hb
    rcases hq0 with rfl | rfl
    · obtain ⟨x3, x4⟩ := x2
      obtain ⟨y1, y2, y3, y4⟩ := x4 ab ao k cap hr
      exact ⟨x1, x3, y1, y2, fun i hi => (y3 i hi).1, y4⟩
    · obtain ⟨x3, x4⟩ := x2
      obtain ⟨y1, y2, y3, y4⟩ := x4 ab ao k cap hr
      exact ⟨x1, x3, y1, y2, fun i hi => (y3 i hi).1, y4⟩
  have hsz' : o + n ≤ c.size := hsz c.size (by unfold World.shape?; rw [hheap])
  have hH := fun a => freeze_heap (w := w.drew) (o := o) hn (show w.drew.heap[ab]? = _ from hheap) a
  have hHo : ∀ a, a ≠ ab → (w.drew.freeze ⟨ab, o, none⟩ n).heap[a]? = w.heap[a]? := fun a ha => by rw [hH, if_neg ha]; rfl
  have hHs := hH ab
  rw [if_pos rfl] at hHs
  have hcell : ∀ a i, (w.drew.freeze ⟨ab, o, none⟩ n).cell? ⟨a, i, none⟩ = w.cell? ⟨a, i, none⟩ := fun a i => by
    by_cases ha : a = ab
    · subst ha
      unfold World.cell?
      simp only [hHs, hheap]
    · unfold World.cell?
      simp only [hHo a ha]
  have hfr : ∀ a i, a ≠ ab → (w.drew.freeze ⟨ab, o, none⟩ n).frozen? ⟨a, i, none⟩ = w.frozen? ⟨a, i, none⟩ := fun a i ha => by
    unfold World.frozen?
    simp only [hHo a ha]
  have hsize : (w.drew.freeze ⟨ab, o, none⟩ n).heap.size = w.heap.size := freeze_size _ _
  have hshape : ∀ a, (w.drew.freeze ⟨ab, o, none⟩ n).shape? a = w.shape? a := fun a => by
    by_cases ha : a = ab
    · subst ha
      unfold World.shape?
      simp only [hHs, hheap]
    · unfold World.shape?
      simp only [hHo a ha]
  have hmap : ∀ (a : Nat) (es : Array MapEntry) (ck : Nat), w.heap[a]? = some (Obj.map es ck) → (w.drew.freeze ⟨ab, o, none⟩ n).heap[a]? = some (Obj.map es ck) := fun a es ck hm => by
    by_cases ha : a = ab
    · rw [ha, hheap] at hm; cases hm
    · rw [hHo a ha]; exact hm
  have hends : (if lo == hi then (o, o + n) else (min lo o, max hi (o + n))).1 ≤ (if lo == hi then (o, o + n) else (min lo o, max hi (o + n))).2 ∧ (if lo == hi then (o, o + n) else (min lo o, max hi (o + n))).2 ≤ c.size := by
    split
    · exact ⟨by show o ≤ o + n; omega, hsz'⟩
    · refine ⟨?_, ?_⟩
      · show min lo o ≤ max hi (o + n); omega
      · show max hi (o + n) ≤ c.size; omega
  have hrb : ∀ a T, RowB w a T → RowB (w.drew.freeze ⟨ab, o, none⟩ n) a T := fun a T' hr' => by
    obtain ⟨c', lo', hi', h1, h2, h3⟩ := hr'
    by_cases ha : a = ab
    · rw [ha, hheap] at h1
      have e := Option.some.inj h1
      injection e with _ e2 _
      rw [← e2, ha]
      exact ⟨c, _, _, hHs, hends.1, hends.2⟩
    · exact ⟨c', lo', hi', by rw [hHo a ha]; exact h1, h2, h3⟩
  have hclean : ∀ a, Clean w a → Clean (w.drew.freeze ⟨ab, o, none⟩ n) a := fun a hc => by
    refine ⟨by rw [hsize]; exact hc.1, fun st T' N hs => ?_⟩
    rw [hshape] at hs
    by_cases ha : a = ab
    · subst ha
      unfold World.shape? at hs
      rw [hheap] at hs
      cases hs
      unfold World.frozen?
      simp only [hHs]
      have := hends.2
      simp only [Bool.and_eq_false_iff, decide_eq_false_iff_not]
      right
      omega
    · rw [hfr a _ ha]; exact hc.2 st T' N hs
  have hh : ∀ a i x, Holds G w a i x → Holds G (w.drew.freeze ⟨ab, o, none⟩ n) a i x := fun a i x ⟨v, h1, h2⟩ => ⟨v, by rw [hcell]; exact h1, h2⟩
  have hlive : ∀ a i y, own a i = some y → y ≠ .r b → Live w a i → Live (w.drew.freeze ⟨ab, o, none⟩ n) a i := fun a i y hy hne hl => by
    have ha : a ≠ ab := fun e => by subst e; exact hne (hsole i y hy)
    exact ⟨by obtain ⟨v, hv⟩ := hl.1; exact ⟨v, by rw [hcell]; exact hv⟩, by rw [hfr a i ha]; exact hl.2⟩
  have hbel : Below base w (w.drew.freeze ⟨ab, o, none⟩ n) := Go.Lib.below_freeze (Below.refl base w).drew hab n
  refine ⟨.refl G, ⟨own, ?_⟩, hbel, Nat.le_refl _, fun i _ _ hf => ⟨hf.1, hf.2.1, hf.2.2.1, ?_⟩⟩
  · exact {
      fzs := fun ab o c hf => ⟨(I.fzs ab o c hf).1, hh _ _ _ (I.fzs ab o c hf).2⟩
      mus := fun b' a k' hm => by
        obtain ⟨h1, h2, h3, h4⟩ := I.mus b' a k' hm
        refine ⟨h1, h2, fun i hi => ⟨(h3 i hi).1, hlive _ _ _ (h3 i hi).1 (by simp) (h3 i hi).2⟩, fun hk => ⟨(h4.1 hk).1, ?_⟩, fun hk => by rw [hshape]; exact h4.2 hk⟩
        obtain ⟨es, ck, h5⟩ := (h4.1 hk).2
        exact ⟨es, ck, hmap _ _ _ h5⟩
      rws := I.rws
      tks := I.tks
      ents := fun b' q hq => by
        by_cases hbb : b' = b
        · subst hbb
          rw [get_set_self hb] at hq
          cases hq
          refine ⟨hbn, hvmax, fun ab2 ao2 k2 cap2 hr2 => ?_⟩
          rw [hr] at hr2
          obtain ⟨rfl, rfl, rfl, rfl⟩ : ab = ab2 ∧ ao = ao2 ∧ k = k2 ∧ cap = cap2 := by simpa using hr2
          refine ⟨hab, hcap, fun i hi => ⟨hown i hi, ?_⟩, fun i e hie => ⟨(hel i e hie).1, fun j x hj => ⟨((hel i e hie).2 j x hj).1, hh _ _ _ ((hel i e hie).2 j x hj).2⟩⟩⟩
          rw [hsize]
          exact I.old _ _ _ (hown i hi)
        · rw [get_set_other hbb] at hq
          obtain ⟨h1, h2⟩ := I.ents b' q hq
          refine ⟨h1, ?_⟩
          cases q with
          | cells cs => exact fun ab k hm => ⟨(h2 ab k hm).1, fun i c hi => ⟨((h2 ab k hm).2 i c hi).1, hh _ _ _ ((h2 ab k hm).2 i c hi).2⟩⟩
          | row ver es => exact ⟨h2.1, fun ab ao k cap hr => let ⟨x1, x2, x3, x4⟩ := h2.2 ab ao k cap hr; ⟨x1, x2, fun i hi => ⟨(x3 i hi).1, hlive _ _ _ (x3 i hi).1 (by simpa using hbb) (x3 i hi).2⟩, fun i e hie => ⟨(x4 i e hie).1, fun j c hj => ⟨((x4 i e hie).2 j c hj).1, hh _ _ _ ((x4 i e hie).2 j c hj).2⟩⟩⟩⟩
          | frow ver es => exact ⟨h2.1, fun ab ao k cap hr => let ⟨x1, x2, x3, x4⟩ := h2.2 ab ao k cap hr; ⟨x1, x2, fun i hi => ⟨(x3 i hi).1, by rw [hsize]; exact (x3 i hi).2⟩, fun i e hie => ⟨(x4 i e hie).1, fun j c hj => ⟨((x4 i e hie).2 j c hj).1, hh _ _ _ ((x4 i e hie).2 j c hj).2⟩⟩⟩⟩
          | tok ver => exact ⟨h2.1, fun ab e k room ht => ⟨(h2.2 ab e k room ht).1, fun i hi => ⟨((h2.2 ab e k room ht).2 i hi).1, hlive _ _ _ ((h2.2 ab e k room ht).2 i hi).1 (by simp) ((h2.2 ab e k room ht).2 i hi).2⟩⟩⟩
          | map ck kvs => exact fun ab hm => let ⟨es, h3, h4⟩ := h2 ab hm; ⟨es, hmap _ _ _ h3, h4⟩
      old := fun ab o x hx => by rw [hsize]; exact I.old ab o x hx
      top := by rw [hsize]; exact I.top
      nod := nodup_set h b _ I.nod
      cln := fun b v x hx => hclean _ (I.cln b v x hx)
      gls := I.gls
      tyk := I.tyk
      tys := fun b T ht v x hx => ⟨hrb _ _ (I.tys b T ht v x hx).1, (I.tys b T ht v x hx).2⟩ }
  · have h0 := hf.2.2.2
    have : i ≠ b := fun e => by subst e; rw [hb] at h0; cases h0
    rw [get_set_other this]; exact h0

theorem rowOf_some {q : Option CObj} {v : Nat} {es : List CVal} (h : rowOf q = some (v, es)) : ∃ q0, q = some q0 ∧ (q0 = .row v es ∨ q0 = .frow v es) := by
  unfold rowOf at h
  split at h
  · cases h; exact ⟨_, rfl, .inl rfl⟩
  · cases h; exact ⟨_, rfl, .inr rfl⟩
  · cases h

set_option maxHeartbeats 1000000 in
theorem sim_bString (L : Lays.n169 P ρ) (X : Builder.Extra P ρ) (hname : ((Body.n169 ρ).name == "runtime.NumGoroutine") = false) : SimPrim P base (ρ.f 169) (pBString (ρ.t 5)) := by
  intro G h w xs us v h' hp I hr
  unfold pBString at hp
  split at hp
  · rename_i b d o
    obtain ⟨X0, rfl, hX⟩ := vrs_one hr
    split at hp
    · rename_i cs hg
      cases hX with
      | ptr hm =>
        rename_i ab
        have I0 := I
        obtain ⟨own, Io⟩ := I0
        have hent : (callFunc (ρ.f 169) ⟨[.pointer (some ⟨ab, o, none⟩)]⟩).run P w = .ok (.enter (ρ.f 169) ⟨[.pointer (some ⟨ab, o, none⟩)]⟩) w :=
          run_enter (c := ((Body.n169 ρ).body).getD .skip) L.f169 hname (by rfl) _ w
        obtain ⟨hl, hcel⟩ := (Io.ents b _ hg).2 ab d hm
        split at hp
        · rename_i hnil
          cases hp
          have hcl : o + 1 < cs.length := by
            rcases Nat.lt_or_ge (o + 1) cs.length with h1 | h1
            · exact h1
            · exfalso; rw [nth_none h1] at hnil; cases hnil
          obtain ⟨hfl, z, hz, hzr⟩ := hcel (o + 1) _ (getElem?_nth hcl)
          rw [hnil] at hzr
          cases hzr
          refine .inr ⟨_, _, hent, ?_⟩
          refine (bs_nil L X ab o w hz).mono fun e w' ⟨he, hw'⟩ => ⟨_, he, ?_⟩
          subst hw'
          exact ⟨G, vr_strOf rfl, ⟨.refl G, I.drew, (Below.refl _ _).drew, Nat.le_refl _, fun _ _ _ hf => hf⟩⟩
        · rename_i r ver off len href
          have hcl : o + 1 < cs.length := by
            rcases Nat.lt_or_ge (o + 1) cs.length with h1 | h1
            · exact h1
            · exfalso; rw [nth_none h1] at href; cases href
          obtain ⟨hfl, z, hz, hzr⟩ := hcel (o + 1) _ (getElem?_nth hcl)
          rw [href] at hzr
          split at hp
          · rename_i v0 es hrow0
            obtain ⟨q0, hrow, hq0⟩ := rowOf_some hrow0
            split at hp
            · rename_i hc
              simp only [Bool.and_eq_true, beq_iff_eq, decide_eq_true_eq] at hc
              obtain ⟨rfl, hle, hlen, hmost, hty⟩ := hc
              obtain ⟨l, hl1, hl2⟩ := Option.map_eq_some_iff.1 hp
              cases hl2
              have hes := byteVals_eq hl1
              cases hzr with
              | ref hrw hk hlc hsp ha =>
                rename_i ab1 ao1 cap1 a1
                have hlcut := length_cut off (off + len) es hle
                have hnl : l.length = len := by
                  have := congrArg List.length hes
                  simp at this; omega
                rcases ha with ha | rfl
                · omega
                have hel1 : ∀ (i : Nat) (e : CVal), es[i]? = some e → e.cells.length = 1 ∧ ∀ (j : Nat) (c : CVal), e.cells[j]? = some c → c.flat = true ∧ Holds G w ab1 (ao1 + i * 1 + j) c := by
                  have x2 := (Io.ents r _ hrow).2
                  rcases hq0 with rfl | rfl
                  · exact (x2.2 ab1 ao1 1 cap1 hrw).2.2.2
                  · exact (x2.2 ab1 ao1 1 cap1 hrw).2.2.2
                obtain ⟨hRow, _⟩ := Io.tys r _ hty _ _ hrw
                obtain ⟨c, lo, hi, hheap, hlh, hhc⟩ := hRow
                have hshape : w.shape? ab1 = some (ρ.t 5, c.size) := by unfold World.shape?; rw [hheap]
                have hcv : ∀ j x, l[j]? = some x → w.cell? ((⟨ab1, ao1 + off * 1, none⟩ : Addr).add j) = some (.int .u8 x.toNat) := fun j x hj => by
                  have h1 : (cut off (off + len) es)[j]? = some (.int .u8 x.toNat) := by rw [hes, List.getElem?_map, hj]; rfl
                  have hjl : j < len := by have := (List.getElem?_eq_some_iff.1 hj).1; omega
                  have h2 : es[off + j]? = some (.int .u8 x.toNat) := by
                    unfold cut at h1
                    rw [List.getElem?_drop, List.getElem?_take_of_lt (by omega)] at h1
                    exact h1
                  obtain ⟨_, u, hu, hr⟩ := (hel1 _ _ h2).2 0 _ rfl
                  cases hr
                  rw [add_eq rfl]
                  rw [show ao1 + (off + j) * 1 + 0 = ao1 + off * 1 + j by omega] at hu
                  exact hu
                have hfit : ao1 + off * 1 + len ≤ c.size := by
                  have hlast : len - 1 < l.length := by omega
                  have := hcv (len - 1) _ (List.getElem?_eq_getElem hlast)
                  rw [add_eq rfl] at this
                  unfold World.cell? at this
                  simp only [hheap] at this
                  have := (Array.getElem?_eq_some_iff.1 this).1
                  omega
                have hl0 : l ≠ [] := fun e => by subst e; simp at hnl; omega
                have hmost' : len ≤ 1073741824 := hmost
                refine .inr ⟨_, _, hent, ?_⟩
                refine (bs_row L X ab o ab1 (ao1 + off * 1) (cap1 - off) c.size l w (by rw [hnl]; exact hz) hl0 (by omega) hshape (by omega) (by omega) hcv).mono fun e w' ⟨he, hw'⟩ => ⟨_, he, ?_⟩
                subst hw'
                exact ⟨G, vr_strOf rfl, post_rowfreeze I hrow hq0 hty hrw (by omega) fun N hN => by rw [hshape] at hN; cases hN; omega⟩
            · cases hp
          · cases hp
        · cases hp
    · cases hp
  · cases hp
end
end Go.CI

/- bytealg.MakeNoZero as a function of the interpreter's own. -/
set_option linter.unusedVariables false
set_option linter.unusedSimpArgs false
namespace Go.CI
open Go.Shelf Go.RowKit Go.Lib Go.Proofs

section
variable {P : Program} {base : Base}

theorem sim_makeNoZero {f t e : Nat} (ht : P.underlying t = some (.slice e)) {ps : Array TypeId} (X : ExtOk P f (Extern.BytealgMakeNoZero.makeNoZero ps #[t])) : SimPrim P base f (pMakeNoZero e) := by
  intro G h w xs us v h' hp I hr
  unfold pMakeNoZero at hp
  split at hp
  · rename_i n
    split at hp
    · rename_i hn
      simp only [Bool.and_eq_true, decide_eq_true_eq] at hn
      have hm : (sizeMost : Int) = 1073741824 := rfl
      cases hp
      obtain ⟨x, rfl, hx⟩ := vrs_one hr
      have := vr_int (c := .nilp) hx
      subst this
      obtain ⟨cs, hrun, hle, _⟩ := Lib.run_makeNoZero (P := P) w ps t e ht n.toNat (by omega)
      rw [Int.toNat_of_nonneg hn.1] at hrun
      obtain ⟨fm, h1, h2, h3, h4, h5⟩ := X.fn
      have I2 := (I.bump 1).drew.drew
      have hf : Fresh G { h with next := h.next + 1 } h.next := I.freshAt (Nat.le_refl _) 1
      have hpost := post_new_row (T := e) (lo := 0) (hi := 0) (b := h.next) (ver := 0) (k := 1) (cap := cs.size) (es := []) (arr := cs) (h' := (({ h with next := h.next + 1 } : CHeap).put h.next (.row 0 [])).note h.next (e + 1)) I2 (Nat.le_refl _) (Nat.lt_succ_self _) (fresh_lt hf).1
        (fun _ he => by simp at he) (fun _ he => by simp at he) (Nat.zero_le _) (by omega) (fun i c hi => by simp [flatC] at hi)
        (by rw [note_get]; exact put_self _ _ _) (fun b' hne => by rw [note_get]; exact put_other hne) (by rw [note_next]; rfl) (by rw [note_ents]; obtain ⟨_, I⟩ := I; exact nodup_put I.nod hf.2.2.2) ⟨Nat.le_refl _, Nat.zero_le _⟩ (new_ty (I.bump 1) hf (.inr rfl)) new_tyo
      refine .inl ⟨.slice (some ⟨w.heap.size, 0, none⟩) n.toNat cs.size, _, by rw [run_callFunc_extern h1 h2 h3 h4 h5, hrun]; rfl, G.withRw h.next 0 (w.heap.size, 0, 1, cs.size), vr_row0 (by omega) hle, ?_⟩
      have hp2 := hpost.drewL.drewL
      exact ⟨hp2.le, hp2.inv, hp2.below, by have := hp2.next; show h.next ≤ _; exact Nat.le_trans (Nat.le_succ _) this, fun i hi _ hfr => hp2.fresh i (Nat.lt_succ_of_lt hi) (by omega) ⟨hfr.1, hfr.2.1, hfr.2.2.1, hfr.2.2.2⟩⟩
    · cases hp
  · cases hp
end
end Go.CI

/- Calls that have been run already: each is a theorem of its own, that may lean on earlier ones. -/
set_option linter.unusedVariables false
namespace Go.CI
open Go.RowKit

section
variable {P : Program} {base : Base}

theorem TOk.getF {H : Hints} {t : CTree} (h : TOk P H base t.get) : TOk P H base t.getF := by
  have e : t.getF = t.get := funext fun f => t.getF_eq f
  rw [e]; exact h

theorem crun_of {T : Nat → Option CFn} {n f : Nat} {args : List CVal} {p : Option (CVal × CHeap) → Bool} (h : p (crunF T n f args noHeap) = true) : p (crun T n f args noHeap) = true := by
  rw [crunF_eq] at h; exact h
end
end Go.CI

/- strings.Index, as the library has it, is the interpreter's. -/
set_option linter.unusedVariables false
namespace Go.CI
open Go.Shelf Go.RowKit Go.Lib Go.Proofs

theorem hasFront_eq : ∀ (s p : List UInt8), hasFront s p = p.isPrefixOf s
  | s, [] => by cases s <;> rfl
  | [], _ :: _ => rfl
  | a :: x, b :: y => by
    show (a == b && hasFront x y) = (b == a && y.isPrefixOf x)
    rw [hasFront_eq x y, Bool.beq_comm (a := a)]

theorem idxSub_eq (p : List UInt8) : ∀ (s : List UInt8) (i : Nat), idxSub p s i = if Lib.index s p = -1 then -1 else Lib.index s p + i
  | [], i => by
    cases p with
    | nil => simp [idxSub, Lib.index]
    | cons b q => simp [idxSub, Lib.index]
  | a :: r, i => by
    unfold idxSub Lib.index
    rw [hasFront_eq]
    cases hp : p.isPrefixOf (a :: r) with
    | true => simp
    | false =>
      simp only [cond_false, Bool.false_eq_true, if_false]
      rw [idxSub_eq p r (i + 1)]
      have := Lib.index_ge r p
      by_cases h : Lib.index r p = -1
      · simp [h]
      · have h1 : (Lib.index r p == -1) = false := by simpa using h
        rw [if_neg h, h1]
        simp only [Bool.false_eq_true, if_false]
        rw [if_neg (by omega)]
        push_cast
        omega

theorem idxSub_zero (p s : List UInt8) : idxSub p s 0 = Lib.index s p := by
  rw [idxSub_eq]
  split
  · rename_i h; exact h.symm
  · simp

section
variable {P : Program} {base : Base} {ρ : Ren}

theorem sim_index (L : Lays.n219 P ρ) (hname : ((Body.n219 ρ).name == "runtime.NumGoroutine") = false) {m : Int} (hm : lookupG base.gl (ρ.g 1) = some [.int .i64 m]) : SimPrim P base (ρ.f 219) pIndex := by
  intro G h w xs vs v h' hp I hr
  unfold pIndex at hp
  split at hp
  · rename_i s p
    split at hp
    · rename_i hlen
      cases hp
      obtain ⟨x, y, rfl, hx, hy⟩ := vrs_two hr
      obtain ⟨t, rfl, ht⟩ := vr_str hx
      obtain ⟨u, rfl, hu⟩ := vr_str hy
      have I0 := I
      obtain ⟨own, Io⟩ := I0
      obtain ⟨_, hf⟩ := Io.gls _ _ hm 0 _ rfl
      obtain ⟨_, z, hz, hzr⟩ := Io.fzs _ _ _ hf
      cases hzr
      have hent : (callFunc (ρ.f 219) ⟨[.string t, .string u]⟩).run P w = .ok (.enter (ρ.f 219) ⟨[.string t, .string u]⟩) w :=
        run_enter (c := ((Body.n219 ρ).body).getD .skip) L.f219 hname (by rfl) _ w
      refine .inr ⟨_, _, hent, ?_⟩
      have hsz : t.size < 4294967281 := by
        have h1 : s.length < 4294967281 := by simpa using hlen
        have h2 := congrArg List.length ht
        simp at h2
        have h3 : t.size = t.data.size := rfl
        omega
      refine (Any.stringslite_Index L t u m w hsz hz).mono fun e w' ⟨he, hw⟩ => ⟨_, he, ?_⟩
      subst hw
      refine ⟨G, ?_, .refl I⟩
      rw [idxSub_zero, ← ht, ← hu]
      exact .int _ _
    · cases hp
  · cases hp
end
end Go.CI

/- What a law's row gives at the start: cells that are known, and the shape of the world. -/
set_option linter.unusedVariables false
namespace Go
open Go.RowKit
variable {H : Type} {enc : TypeId × Value → H}

/-- A law's row from its call's contract; what is listed and the world's shape are at hand. -/
theorem CI.returnsInHanded_laid {a : Assume} {C : Checked} {os : Os} {f : FuncId} {fn : Func} {s : ChangeSpec} {conds : List PathCond} {apart fresh handsOn again : Bool} {X : World → Array Value → Prop}
    (hX : ∀ (w w' : World) (args : Array Value), w.heap = w'.heap → X w args → X w' args)
    (own : ownKnob C.prog.godebug = none) (started : os.Started) (noInit : C.prog.inits.idxOf? f = none) (hfn : C.prog.funcs[f]? = some fn)
    (witness : ∃ (w : World) (tape : Tape) (i : Input), w.os = os ∧ (w.forCall tape i).Shaped C.prog ∧ i.vars = [] ∧ Input.okWide C.prog (w.forCall tape i) .any w.heap.size f i ∧
      ((s.pre enc C.prog fn conds apart (w.forCall tape i).memory i.args ∧ X (w.forCall tape i).memory i.args) ∧ sizedMet enc C.prog fn (OpenSpec.ofChange s) apart (w.forCall tape i).memory i.args) ∧ a.holds C.prog (lone (Frame.enter C.prog f i.args .normal) [] (w.forCall tape i)))
    (contract : ∀ (W : World) (base : Nat) (args : Array Value) (ds gs : List (DataW H)) (before : List MemPlace),
      (∀ (j : Nat) t v, fn.params[j]? = some t → args[j]? = some v → Value.okWide C.prog W .any base t v) →
      DataW.Whole enc C.prog fn.params.toList s.vars apart W args.toList ds gs before →
      X W args → W.ShapedOpen C.prog →
      Calls C.prog f args W fun e W' => ∃ v, e = .returned v ∧ s.post enc C.prog fn apart fresh handsOn again W args v W') :
    ReturnsInHanded a C os f .any (fun w args => (s.pre enc C.prog fn conds apart w args ∧ X w args) ∧ sizedMet enc C.prog fn (OpenSpec.ofChange s) apart w args) (s.post enc C.prog fn apart fresh handsOn again) := by
  refine returnsInHanded_of_calls own started noInit witness ?_
  intro w tape i _ hsh _ hok hpre hholds
  obtain ⟨_, _, _, fn', hfn', _, _, _, _, hval⟩ := hok
  have e : fn' = fn := Option.some.inj (hfn'.symm.trans hfn)
  subst e
  obtain ⟨⟨⟨ds, gs, before, hw, hc⟩, hx⟩, hz⟩ := hpre
  have hw' := DataW.Whole.of_heap (w' := w.forCall tape i) (by rfl) hw
  refine (contract (w.forCall tape i) w.heap.size i.args ds gs before hval hw' (hX _ _ _ (by rfl) hx) hsh).mono fun e W' ⟨v, he, hp⟩ => ?_
  subst he
  exact ChangeSpec.post_blind hp

namespace CI

/-- What the world's cells read as, where that is plain. -/
def Fw (w : World) (ab o : Nat) : Option CVal := match w.cell? ⟨ab, o, none⟩ with
  | some (.int k n) => some (.int k n)
  | some (.string s) => some (.str s.data.toList)
  | some (.iface t (.pointer (some a))) => match w.cell? a with
    | some (.string s) => some (.ifc t (.cptr [.str s.data.toList] 0))
    | _ => none
  | _ => none

theorem fw_holds {w : World} {ab o : Nat} {c : CVal} (h : Fw w ab o = some c) : Holds (Gh.of (Fw w)) w ab o c := by
  unfold Fw at h
  split at h
  · rename_i k n hc; cases h; exact ⟨_, hc, .int _ _⟩
  · rename_i s hc; cases h; exact ⟨_, hc, .str _⟩
  · rename_i t a hc
    split at h
    · rename_i s hs
      cases h
      have hsp : a.spot = none := World.cell?_spot hs
      obtain ⟨b, p, sp⟩ := a
      have hsp : sp = none := hsp
      subst hsp
      refine ⟨_, hc, .ifc (VR.cptr (o := 0) (ao := p) fun i c hi => ?_)⟩
      match i, hi with
      | 0, hi => cases hi; exact ⟨rfl, by show Fw w b (p + 0) = _; unfold Fw; rw [Nat.add_zero, hs]⟩
      | i + 1, hi => simp at hi
    · cases h
  · cases h

/-- The variables hold what is said. -/
def GlOk (w : World) (gl : List (Nat × List CVal)) : Prop := ∀ g cs, lookupG gl g = some cs → ∀ (i : Nat) (c : CVal), cs[i]? = some c → c.flat = true ∧ Fw w g i = some c

theorem GlOk.nil {w : World} : GlOk w [] := fun g cs h => by cases h
theorem GlOk.cons {w : World} {g : Nat} {c : CVal} {gl : List (Nat × List CVal)} (hc : c.flat = true) (h : Fw w g 0 = some c) (r : GlOk w gl) : GlOk w ((g, [c]) :: gl) := fun g' cs h' i c' hi => by
  simp only [lookupG] at h'
  split at h'
  · rename_i e
    cases h'
    have e : g = g' := by simpa using e
    subst e
    match i, hi with
    | 0, hi => cases hi; exact ⟨hc, h⟩
    | i + 1, hi => simp at hi
  · exact r g' cs h' i c' hi
theorem GlOk.int {w : World} {g : Nat} {k : IntKind} {m : Int} {gl : List (Nat × List CVal)} (h : w.cell? ⟨g, 0, none⟩ = some (.int k m)) (r : GlOk w gl) : GlOk w ((g, [.int k m]) :: gl) :=
  .cons rfl (by unfold Fw; rw [h]) r
theorem GlOk.err {w : World} {g : Nat} {t : TypeId} {a : Addr} {s : ByteArray} {l : List UInt8} {gl : List (Nat × List CVal)} (h1 : w.cell? ⟨g, 0, none⟩ = some (.iface t (.pointer (some a)))) (h2 : w.cell? a = some (.string s)) (hs : s.data.toList = l) (r : GlOk w gl) :
    GlOk w ((g, [.ifc t (.cptr [.str l] 0)]) :: gl) :=
  .cons rfl (by unfold Fw; rw [h1]; simp only [h2, hs]) r
theorem begins_w {w : World} {gl : List (Nat × List CVal)} (h : GlOk w gl) : Begins w gl (Fw w) := ⟨fun ab o c hc => fw_holds hc, h⟩

theorem GlobsIn.cons {a : List (Nat × List CVal)} {g : Nat} {c : List CVal} (h : lookupG a g = none) : GlobsIn a ((g, c) :: a) := fun g' cs h' => by
  unfold lookupG
  by_cases e : g = g'
  · subst e; rw [h] at h'; cases h'
  · rw [if_neg (by simpa using e)]; exact h'

end CI
end Go

/- stringslite.Clone, as the library has it: the same text. -/
set_option linter.unusedVariables false
namespace Go.CI
open Go.Shelf Go.RowKit Go.Lib Go.Proofs

/-- What only makes new blocks turns nothing of what is known. -/
theorem Inv.below {base : Base} {G : Gh} {h : CHeap} {w w' : World} (I : Inv base G h w) (hb : Below w.heap.size w w') : Inv base G h w' := by
  obtain ⟨own, I⟩ := I
  have hc : ∀ ab i v, w.cell? ⟨ab, i, none⟩ = some v → w'.cell? ⟨ab, i, none⟩ = some v := fun ab i v hv => by rw [hb.cell (p := ⟨ab, i, none⟩) (cell_lt hv)]; exact hv
  have hl : ∀ ab i, Live w ab i → Live w' ab i := fun ab i ⟨⟨v, h1⟩, h2⟩ => ⟨⟨v, hc _ _ _ h1⟩, by rw [hb.frozen (p := ⟨ab, i, none⟩) (cell_lt h1)]; exact h2⟩
  have hh : ∀ ab i c, Holds G w ab i c → Holds G w' ab i c := fun ab i c ⟨v, h1, h2⟩ => ⟨v, hc _ _ _ h1, h2⟩
  have hg : ∀ (ab : Nat) (o : Obj), w.heap[ab]? = some o → w'.heap[ab]? = some o := fun ab o ho => by
    rw [hb.block ab (by rcases Nat.lt_or_ge ab w.heap.size with h | h; exact h; rw [Array.getElem?_eq_none h] at ho; cases ho)]; exact ho
  have hsh : ∀ ab x, w.shape? ab = some x → w'.shape? ab = some x := fun ab x hx => by
    unfold World.shape? at hx ⊢
    cases ho : w.heap[ab]? with
    | none => rw [ho] at hx; cases hx
    | some o => rw [hg ab o ho]; rw [ho] at hx; exact hx
  have hrb : ∀ ab T, RowB w ab T → RowB w' ab T := fun ab T ⟨c, lo, hi, h1, h2⟩ => ⟨c, lo, hi, hg _ _ h1, h2⟩
  refine ⟨own, fun ab o c hf => ⟨(I.fzs ab o c hf).1, hh _ _ _ (I.fzs ab o c hf).2⟩, fun b ab k hm => ⟨(I.mus b ab k hm).1, (I.mus b ab k hm).2.1, fun i hi => ⟨((I.mus b ab k hm).2.2.1 i hi).1, hl _ _ ((I.mus b ab k hm).2.2.1 i hi).2⟩, fun hk => ⟨((I.mus b ab k hm).2.2.2.1 hk).1, let ⟨es, ck, h1⟩ := ((I.mus b ab k hm).2.2.2.1 hk).2; ⟨es, ck, hg _ _ h1⟩⟩, fun hk => hsh _ _ ((I.mus b ab k hm).2.2.2.2 hk)⟩, I.rws, I.tks, fun b o ho => ⟨(I.ents b o ho).1, ?_⟩, fun ab o x hx => Nat.lt_of_lt_of_le (I.old ab o x hx) hb.size, Nat.le_trans I.top hb.size, I.nod,
    fun b v x hx => ⟨Nat.lt_of_lt_of_le (I.cln b v x hx).1 hb.size, fun st T n hq => by
      have hlt := (I.cln b v x hx).1
      rw [hb.frozen (p := ⟨x.1, n, none⟩) hlt]
      refine (I.cln b v x hx).2 st T n ?_
      unfold World.shape? at hq ⊢
      rw [← hb.block x.1 hlt]; exact hq⟩, I.gls, I.tyk, fun b T ht v x hx => ⟨hrb _ _ (I.tys b T ht v x hx).1, (I.tys b T ht v x hx).2⟩⟩
  have he := (I.ents b o ho).2
  cases o with
  | cells cs => exact fun ab k hm => ⟨(he ab k hm).1, fun i c hi => ⟨((he ab k hm).2 i c hi).1, hh _ _ _ ((he ab k hm).2 i c hi).2⟩⟩
  | row ver es => exact ⟨he.1, fun ab ao k cap hr => let ⟨h1, h2, h3, h4⟩ := he.2 ab ao k cap hr; ⟨h1, h2, fun i hi => ⟨(h3 i hi).1, hl _ _ (h3 i hi).2⟩, fun i e hie => ⟨(h4 i e hie).1, fun j c hj => ⟨((h4 i e hie).2 j c hj).1, hh _ _ _ ((h4 i e hie).2 j c hj).2⟩⟩⟩⟩
  | frow ver es => exact ⟨he.1, fun ab ao k cap hr => let ⟨h0, h1, h2, h3⟩ := he.2 ab ao k cap hr; ⟨h0, h1, fun i hi => ⟨(h2 i hi).1, Nat.lt_of_lt_of_le (h2 i hi).2 hb.size⟩, fun i e hie => ⟨(h3 i e hie).1, fun j c hj => ⟨((h3 i e hie).2 j c hj).1, hh _ _ _ ((h3 i e hie).2 j c hj).2⟩⟩⟩⟩
  | map ck kvs => exact fun ab hm => let ⟨es, h1, h2⟩ := he ab hm; ⟨es, hg _ _ h1, h2⟩
  | tok ver => exact ⟨he.1, fun ab e k room ht => ⟨(he.2 ab e k room ht).1, fun i hi => ⟨((he.2 ab e k room ht).2 i hi).1, hl _ _ ((he.2 ab e k room ht).2 i hi).2⟩⟩⟩

theorem Post.of_below {base : Base} {ex : Nat → Prop} {G : Gh} {h : CHeap} {w w' : World} (I : Inv base G h w) (hb : Below w.heap.size w w') : Post base ex G h w G h w' :=
  ⟨.refl G, I.below hb, hb.mono (by obtain ⟨own, I⟩ := I; exact I.top), Nat.le_refl _, fun _ _ _ hf => hf⟩

section
variable {P : Program}
theorem lay_agg {t : TypeId} {d : TypeDesc} (h : P.underlying t = some d) (w : World) : (isAgg t).run P w = .ok (aggDesc d) w := r_agg h
theorem lay_size {t : TypeId} {n : Nat} (h : (P.info? t).map (·.size) = some n) (w : World) : (Go.sizeOf t).run P w = .ok n w := by
  obtain ⟨i, hi, rfl⟩ := Option.map_eq_some_iff.1 h
  exact r_size hi
theorem lay_zero {t : TypeId} {z : Value} (h : (P.info? t).bind (·.zero) = some z) (w : World) : (zeroValue t).run P w = .ok z w := by
  obtain ⟨i, hi, hz⟩ := Option.bind_eq_some_iff.1 h
  exact r_zero hi hz
end

def pClone (xs : List CVal) (h : CHeap) : Option (CVal × CHeap) :=
  match xs with
  | [.str s] => if decide (s.length ≤ 281474976710656) then some (.str s, h) else none
  | _ => none

section
variable {P : Program} {base : Base} {ρ : Ren}

theorem sim_clone (L : LaysM.n316 P ρ) (hname : ((Body.n316 ρ).name == "runtime.NumGoroutine") = false) : SimPrim P base (ρ.f 316) pClone := by
  intro G h w xs vs v h' hp I hr
  unfold pClone at hp
  split at hp
  · rename_i s
    split at hp
    · rename_i hlen
      cases hp
      obtain ⟨x, rfl, hx⟩ := vrs_one hr
      obtain ⟨t, rfl, ht⟩ := vr_str hx
      have hent : (callFunc (ρ.f 316) ⟨[.string t]⟩).run P w = .ok (.enter (ρ.f 316) ⟨[.string t]⟩) w :=
        run_enter (c := ((Body.n316 ρ).body).getD .skip) L.f316 hname (by rfl) _ w
      refine .inr ⟨_, _, hent, ?_⟩
      have hsz : t.size ≤ 281474976710656 := by
        have h1 : s.length ≤ 281474976710656 := by simpa using hlen
        have h2 := congrArg List.length ht
        simp at h2
        have h3 : t.size = t.data.size := rfl
        omega
      refine (Any.stringslite_Clone L t w hsz).mono fun e w' ⟨he, hw⟩ => ⟨_, he, ?_⟩
      exact ⟨G, vr_strOf ht, Post.of_below I hw⟩
    · cases hp
  · cases hp
end
end Go.CI

/- Runs of the interpreter, whatever the fuel. -/
set_option linter.unusedVariables false
set_option linter.unusedSimpArgs false
namespace Go.CI

def MonoX (ex ex' : CCode → CSt → Option (CExit × CSt)) : Prop := ∀ c st r, ex c st = some r → ex' c st = some r
def MonoC (cf cf' : Nat → List CVal → CHeap → Option (CVal × CHeap)) : Prop := ∀ f a h r, cf f a h = some r → cf' f a h = some r

section
variable {T : Nat → Option CFn}

theorem callBody_mono {ex ex' : CCode → CSt → Option (CExit × CSt)} (hx : MonoX ex ex') {cd cd' : List (Nat × List CVal) → CHeap → Option CHeap} (hcd : ∀ d h r, cd d h = some r → cd' d h = some r)
    {fn : CFunc} {args : List CVal} {h : CHeap} {r : CVal × CHeap} (hr : callBody ex cd fn args h = some r) : callBody ex' cd' fn args h = some r := by
  unfold callBody at hr ⊢
  split at hr
  · rename_i hn
    rw [if_pos hn]
    cases hb : ex fn.body ⟨fn.params.map (initVar args), h, []⟩ with
    | none => rw [hb] at hr; cases hr
    | some p =>
      rw [hb] at hr
      rw [hx _ _ _ hb]
      obtain ⟨x, st⟩ := p
      cases hc : cd st.defs st.h with
      | none => cases x <;> simp [hc] at hr
      | some h1 => cases x <;> simp only [hc, hcd _ _ _ hc] at hr ⊢ <;> exact hr
  · cases hr

theorem noDefs_mono : ∀ (d : List (Nat × List CVal)) (h : CHeap) (r : CHeap), noDefs d h = some r → noDefs d h = some r := fun _ _ _ h => h

theorem runDefs_mono {ex ex' : CCode → CSt → Option (CExit × CSt)} (hx : MonoX ex ex') : ∀ (d : List (Nat × List CVal)) (h : CHeap) (r : CHeap), runDefs T ex d h = some r → runDefs T ex' d h = some r
  | [], h, r, hr => hr
  | (f, args) :: d, h, r, hr => by
    unfold runDefs at hr ⊢
    cases hc : callFlat T ex f args h with
    | none => rw [hc] at hr; cases hr
    | some p =>
      have : callFlat T ex' f args h = some p := by
        unfold callFlat at hc ⊢
        split at hc
        · exact callBody_mono hx noDefs_mono hc
        · cases hc
      rw [hc] at hr
      rw [this]
      exact runDefs_mono hx d _ _ hr

theorem callFn_mono {ex ex' : CCode → CSt → Option (CExit × CSt)} (hx : MonoX ex ex') : MonoC (callFn T ex) (callFn T ex') := fun f a h r hr => by
  unfold callFn at hr ⊢
  split at hr
  · exact callBody_mono hx (runDefs_mono hx) hr
  · exact hr
  · cases hr

theorem evalE_mono {cf cf' : Nat → List CVal → CHeap → Option (CVal × CHeap)} (hc : MonoC cf cf') {ev : COpnd → CVal} {h : CHeap} {id : Nat} {op : COp} {r : CVal × CHeap} (hr : evalE cf ev h id op = some r) : evalE cf' ev h id op = some r := by
  cases op with
  | lit m a z n ps => cases m <;> exact hr
  | mkslice m a z l c => cases m <;> exact hr
  | s2b m x => cases m <;> exact hr
  | call keep f args => exact hc _ _ _ _ hr
  | callv keep x args =>
    unfold evalE at hr ⊢
    cases hx : ev x <;> simp only [hx] at hr ⊢ <;> try (cases hr; done)
    rename_i f a b
    cases f <;> simp only at hr ⊢ <;> first | exact hc _ _ _ _ hr | (cases hr; done)
  | _ => exact hr

theorem evalOper_mono {cf cf' : Nat → List CVal → CHeap → Option (CVal × CHeap)} (hc : MonoC cf cf') {tm : List CVal} {id : Nat} {o : COper} {s r : RS} (hr : evalOper cf tm id o s = some r) : evalOper cf' tm id o s = some r := by
  unfold evalOper at hr ⊢
  split at hr
  · rename_i hg
    rw [if_pos hg]
    cases hcls : o.op.cls <;> simp only [hcls] at hr ⊢ <;> try exact hr
    cases he : evalE cf (evalOpnd tm s.vals) s.h id o.op with
    | none => rw [he] at hr; cases hr
    | some p => rw [evalE_mono hc he]; rw [he] at hr; exact hr
  · rename_i hg
    rw [if_neg hg]; exact hr

theorem evalOps_mono {cf cf' : Nat → List CVal → CHeap → Option (CVal × CHeap)} (hc : MonoC cf cf') {tm : List CVal} : ∀ {ops : List COper} {id : Nat} {s r : RS}, evalOps cf tm id ops s = some r → evalOps cf' tm id ops s = some r
  | [], _, _, _, hr => hr
  | o :: ops, id, s, r, hr => by
    unfold evalOps at hr ⊢
    cases he : evalOper cf tm id o s with
    | none => rw [he] at hr; cases hr
    | some s' => rw [evalOper_mono hc he]; rw [he] at hr; exact evalOps_mono hc hr

theorem execStep_mono {ex ex' : CCode → CSt → Option (CExit × CSt)} (hx : MonoX ex ex') : MonoX (execStep T ex) (execStep T ex') := fun c st r hr => by
  cases c with
  | region ops wb chk sw =>
    simp only [execStep] at hr ⊢
    cases he : evalOps (callFn T ex) st.tm st.h.next ops ⟨[], { st.h with next := st.h.next + ops.length }, st.defs, []⟩ with
    | none => rw [he] at hr; cases hr
    | some s => rw [evalOps_mono (callFn_mono hx) he]; rw [he] at hr; exact hr
  | seq a b =>
    simp only [execStep] at hr ⊢
    cases he : ex a st with
    | none => rw [he] at hr; cases hr
    | some p =>
      rw [hx _ _ _ he]; rw [he] at hr
      obtain ⟨x, st'⟩ := p
      cases x <;> simp only at hr ⊢ <;> first | exact hx _ _ _ hr | exact hr
  | cond c a b =>
    simp only [execStep] at hr ⊢
    generalize evalOpnd st.tm [] c = v at hr ⊢
    cases v with
    | bool q => cases q <;> exact hx _ _ _ hr
    | _ => cases hr
  | block i b =>
    simp only [execStep] at hr ⊢
    cases he : ex b st with
    | none => rw [he] at hr; cases hr
    | some p => rw [hx _ _ _ he]; rw [he] at hr; exact hr
  | loop d b =>
    simp only [execStep] at hr ⊢
    cases he : ex b st with
    | none => rw [he] at hr; cases hr
    | some p =>
      rw [hx _ _ _ he]; rw [he] at hr
      obtain ⟨x, st'⟩ := p
      cases x <;> simp only at hr ⊢ <;> first | exact hx _ _ _ hr | exact hr
  | skip => exact hr
  | exit i => exact hr
  | ret => exact hr
  | stuck => exact hr

theorem exec_succ (n : Nat) : exec T (n + 1) = execStep T (exec T n) := rfl

theorem exec_mono1 : ∀ n, MonoX (exec T n) (exec T (n + 1))
  | 0 => fun c st r hr => by cases hr
  | n + 1 => execStep_mono (exec_mono1 n)

theorem exec_mono {n m : Nat} (h : n ≤ m) : MonoX (exec T n) (exec T m) := by
  induction h with
  | refl => exact fun _ _ _ h => h
  | step _ ih => exact fun c st r hr => exec_mono1 _ c st r (ih c st r hr)

/-- The code runs so, with fuel enough. -/
def Ev (T : Nat → Option CFn) (c : CCode) (st : CSt) (x : CExit) (st' : CSt) : Prop := ∃ n, exec T n c st = some (x, st')
/-- The call gives so, with fuel enough. -/
def Cl (T : Nat → Option CFn) (f : Nat) (args : List CVal) (h : CHeap) (v : CVal) (h' : CHeap) : Prop := ∃ n, callFn T (exec T n) f args h = some (v, h')
/-- Operations of a region. -/
def Ops (T : Nat → Option CFn) (tm : List CVal) (id : Nat) (ops : List COper) (s s' : RS) : Prop := ∃ n, evalOps (callFn T (exec T n)) tm id ops s = some s'

theorem Ev.skip {st : CSt} : Ev T .skip st .normal st := ⟨1, rfl⟩
theorem Ev.ret {st : CSt} : Ev T .ret st .ret st := ⟨1, rfl⟩
theorem Ev.exit {st : CSt} {i : Nat} : Ev T (.exit i) st (.exit i) st := ⟨1, rfl⟩
theorem Ev.seq {a b : CCode} {st st1 st' : CSt} {x : CExit} (h1 : Ev T a st .normal st1) (h2 : Ev T b st1 x st') : Ev T (.seq a b) st x st' := by
  obtain ⟨n, h1⟩ := h1
  obtain ⟨m, h2⟩ := h2
  refine ⟨max n m + 1, ?_⟩
  rw [exec_succ]
  simp only [execStep]
  rw [exec_mono (Nat.le_max_left n m) _ _ _ h1]
  exact exec_mono (Nat.le_max_right n m) _ _ _ h2
theorem Ev.seq_out {a b : CCode} {st st' : CSt} {x : CExit} (h1 : Ev T a st x st') (hx : x ≠ .normal) : Ev T (.seq a b) st x st' := by
  obtain ⟨n, h1⟩ := h1
  refine ⟨n + 1, ?_⟩
  rw [exec_succ]
  simp only [execStep]
  rw [h1]
  cases x <;> first | rfl | exact absurd rfl hx
theorem Ev.cond_true {c : COpnd} {a b : CCode} {st st' : CSt} {x : CExit} (hc : evalOpnd st.tm [] c = .bool true) (h : Ev T a st x st') : Ev T (.cond c a b) st x st' := by
  obtain ⟨n, h⟩ := h
  refine ⟨n + 1, ?_⟩
  rw [exec_succ]
  simp only [execStep]
  rw [hc]; exact h
theorem Ev.cond_false {c : COpnd} {a b : CCode} {st st' : CSt} {x : CExit} (hc : evalOpnd st.tm [] c = .bool false) (h : Ev T b st x st') : Ev T (.cond c a b) st x st' := by
  obtain ⟨n, h⟩ := h
  refine ⟨n + 1, ?_⟩
  rw [exec_succ]
  simp only [execStep]
  rw [hc]; exact h
def outOf (id : Nat) : CExit → CExit
  | .exit i => if i = id then .normal else .exit i
  | x => x
theorem Ev.block {id : Nat} {c : CCode} {st st' : CSt} {x : CExit} (h : Ev T c st x st') : Ev T (.block id c) st (outOf id x) st' := by
  obtain ⟨n, h⟩ := h
  refine ⟨n + 1, ?_⟩
  rw [exec_succ]
  simp only [execStep]
  rw [h]
  cases x <;> simp only [outOf]
  split <;> rfl
def dropped (drop : Bool) (n : Nat) (st : CSt) : CSt := if drop then { st with h := { st.h with ents := dropCells st.h.ents n } } else st
theorem Ev.loop_step {drop : Bool} {c : CCode} {st st1 st' : CSt} {x : CExit} (h1 : Ev T c st .normal st1) (h2 : Ev T (.loop drop c) (dropped drop st.h.next st1) x st') : Ev T (.loop drop c) st x st' := by
  obtain ⟨n, h1⟩ := h1
  obtain ⟨m, h2⟩ := h2
  refine ⟨max n m + 1, ?_⟩
  rw [exec_succ]
  simp only [execStep]
  rw [exec_mono (Nat.le_max_left n m) _ _ _ h1]
  exact exec_mono (Nat.le_max_right n m) _ _ _ h2
theorem Ev.loop_out {drop : Bool} {c : CCode} {st st' : CSt} {x : CExit} (h1 : Ev T c st x st') (hx : x ≠ .normal) : Ev T (.loop drop c) st x st' := by
  obtain ⟨n, h1⟩ := h1
  refine ⟨n + 1, ?_⟩
  rw [exec_succ]
  simp only [execStep]
  rw [h1]
  cases x <;> first | rfl | exact absurd rfl hx

theorem Ops.nil {tm : List CVal} {id : Nat} {s : RS} : Ops T tm id [] s s := ⟨0, rfl⟩
/-- What calls nothing. -/
theorem Ops.plain {tm : List CVal} {id : Nat} {o : COper} {r : List COper} {s s1 s' : RS} (h1 : evalOper (fun _ _ _ => none) tm id o s = some s1) (h2 : Ops T tm (id + 1) r s1 s') : Ops T tm id (o :: r) s s' := by
  obtain ⟨n, h2⟩ := h2
  refine ⟨n, ?_⟩
  unfold evalOps
  rw [evalOper_mono (cf := fun _ _ _ => none) (fun _ _ _ _ h => by cases h) h1]
  exact h2
open Classical in
/-- A call. -/
theorem Ops.call {tm : List CVal} {id : Nat} {o : COper} {r : List COper} {s s1 s' : RS} {f : Nat} {args : List CVal} {v : CVal} {h' : CHeap} (hc : Cl T f args s.h v h')
    (h1 : evalOper (fun g a h => if g = f ∧ a = args ∧ h = s.h then some (v, h') else none) tm id o s = some s1) (h2 : Ops T tm (id + 1) r s1 s') : Ops T tm id (o :: r) s s' := by
  obtain ⟨n, hc⟩ := hc
  obtain ⟨m, h2⟩ := h2
  refine ⟨max n m, ?_⟩
  unfold evalOps
  rw [evalOper_mono (cf := fun g a h => if g = f ∧ a = args ∧ h = s.h then some (v, h') else none) (fun g a h q hq => by
    by_cases e : g = f ∧ a = args ∧ h = s.h
    · obtain ⟨rfl, rfl, rfl⟩ := e
      simp at hq
      subst hq
      exact callFn_mono (exec_mono (Nat.le_max_left n m)) _ _ _ _ hc
    · simp only [if_neg e] at hq; cases hq) h1]
  exact evalOps_mono (callFn_mono (exec_mono (Nat.le_max_right n m))) h2

theorem Ev.region {ops : List COper} {wb : List (Nat × Nat)} {chk : List (Nat × Nat × Nat)} {sw : List (Nat × Nat)} {st : CSt} {s : RS} (h : Ops T st.tm st.h.next ops ⟨[], { st.h with next := st.h.next + ops.length }, st.defs, []⟩ s)
    (hc : (chk.all (checkOne st.tm ops ops.length s.vals (s.h :: s.hs).reverse) && sw.all (swapOne st.tm ops ops.length s.vals)) = true) :
    Ev T (.region ops wb chk sw) st .normal ⟨writeBack ops.length s.vals st.tm wb, s.h, s.defs⟩ := by
  obtain ⟨n, h⟩ := h
  refine ⟨n + 1, ?_⟩
  rw [exec_succ]
  simp only [execStep]
  rw [h]
  simp only [hc, if_true]

/-- Deferred calls. -/
def Defs (T : Nat → Option CFn) (d : List (Nat × List CVal)) (h h' : CHeap) : Prop := ∃ n, runDefs T (exec T n) d h = some h'
theorem Defs.nil {h : CHeap} : Defs T [] h h := ⟨0, rfl⟩
theorem Defs.cons {f : Nat} {fn : CFunc} {args : List CVal} {d : List (Nat × List CVal)} {h h1 h' : CHeap} {st : CSt} {x : CExit} {vs : List CVal} {v : CVal} (hf : T f = some (.ir fn)) (hn : args.length = fn.nargs)
    (hb : Ev T fn.body ⟨fn.params.map (initVar args), h, []⟩ x st) (hx : ∀ i, x ≠ .exit i) (hd : st.defs = []) (hr : resultsC st.h st.tm fn.results = some vs) (hfin : finishC fn h.next (oneOrTuple vs) st.h = some (v, h1)) (h2 : Defs T d h1 h') : Defs T ((f, args) :: d) h h' := by
  obtain ⟨n, hb⟩ := hb
  obtain ⟨m, h2⟩ := h2
  refine ⟨max n m, ?_⟩
  unfold runDefs
  have : callFlat T (exec T (max n m)) f args h = some (v, h1) := by
    unfold callFlat
    rw [hf]
    show callBody _ _ _ _ _ = _
    unfold callBody
    rw [if_pos hn, exec_mono (Nat.le_max_left n m) _ _ _ hb]
    cases x with
    | exit i => exact absurd rfl (hx i)
    | normal => simp only [hd, noDefs, hr, hfin]
    | ret => simp only [hd, noDefs, hr, hfin]
  rw [this]
  exact runDefs_mono (exec_mono (Nat.le_max_right n m)) _ _ _ h2

theorem Cl.mk {f : Nat} {fn : CFunc} {args : List CVal} {h h1 h' : CHeap} {st : CSt} {x : CExit} {vs : List CVal} {v : CVal} (hf : T f = some (.ir fn)) (hn : args.length = fn.nargs)
    (hb : Ev T fn.body ⟨fn.params.map (initVar args), h, []⟩ x st) (hx : ∀ i, x ≠ .exit i) (hd : Defs T st.defs st.h h1) (hr : resultsC h1 st.tm fn.results = some vs) (hfin : finishC fn h.next (oneOrTuple vs) h1 = some (v, h')) : Cl T f args h v h' := by
  obtain ⟨n, hb⟩ := hb
  obtain ⟨m, hd⟩ := hd
  refine ⟨max n m, ?_⟩
  unfold callFn
  rw [hf]
  show callBody _ _ _ _ _ = _
  unfold callBody
  rw [if_pos hn, exec_mono (Nat.le_max_left n m) _ _ _ hb]
  cases x with
  | exit i => exact absurd rfl (hx i)
  | normal => simp only [runDefs_mono (exec_mono (Nat.le_max_right n m)) _ _ _ hd, hr, hfin]
  | ret => simp only [runDefs_mono (exec_mono (Nat.le_max_right n m)) _ _ _ hd, hr, hfin]

theorem Cl.prim {f : Nat} {p : List CVal → CHeap → Option (CVal × CHeap)} {args : List CVal} {h h' : CHeap} {v : CVal} (hf : T f = some (.prim p)) (hp : p args h = some (v, h')) : Cl T f args h v h' := by
  refine ⟨0, ?_⟩
  unfold callFn
  rw [hf]; exact hp
end
end Go.CI

/- What a run comes to, backwards: rules by which a run is walked by hand. -/
set_option linter.unusedVariables false
set_option linter.unusedSimpArgs false
namespace Go.CI

section
variable {T : Nat → Option CFn}

def W (T : Nat → Option CFn) (c : CCode) (st : CSt) (Q : CExit → CSt → Prop) : Prop := ∃ x st', Ev T c st x st' ∧ Q x st'
def Wc (T : Nat → Option CFn) (f : Nat) (args : List CVal) (h : CHeap) (K : CVal → CHeap → Prop) : Prop := ∃ v h', Cl T f args h v h' ∧ K v h'
def Wo (T : Nat → Option CFn) (tm : List CVal) (id : Nat) (ops : List COper) (s : RS) (K : RS → Prop) : Prop := ∃ s', Ops T tm id ops s s' ∧ K s'

/-- Behind the first of two. -/
def thenW (T : Nat → Option CFn) (b : CCode) (Q : CExit → CSt → Prop) (x : CExit) (st : CSt) : Prop := match x with
  | .normal => W T b st Q
  | x => Q x st
theorem thenW_normal {b : CCode} {Q : CExit → CSt → Prop} {st : CSt} : thenW T b Q .normal st = W T b st Q := rfl
theorem thenW_ret {b : CCode} {Q : CExit → CSt → Prop} {st : CSt} : thenW T b Q .ret st = Q .ret st := rfl
theorem thenW_exit {b : CCode} {Q : CExit → CSt → Prop} {st : CSt} {i : Nat} : thenW T b Q (.exit i) st = Q (.exit i) st := rfl

theorem W.skip {st : CSt} {Q : CExit → CSt → Prop} (h : Q .normal st) : W T .skip st Q := ⟨_, _, Ev.skip, h⟩
theorem W.ret {st : CSt} {Q : CExit → CSt → Prop} (h : Q .ret st) : W T .ret st Q := ⟨_, _, Ev.ret, h⟩
theorem W.exit {st : CSt} {i : Nat} {Q : CExit → CSt → Prop} (h : Q (.exit i) st) : W T (.exit i) st Q := ⟨_, _, Ev.exit, h⟩
theorem W.seq {a b : CCode} {st : CSt} {Q : CExit → CSt → Prop} (h : W T a st (thenW T b Q)) : W T (.seq a b) st Q := by
  obtain ⟨x, st1, h1, h2⟩ := h
  cases x with
  | normal => obtain ⟨y, st2, h3, h4⟩ := h2; exact ⟨y, st2, h1.seq h3, h4⟩
  | ret => exact ⟨_, _, h1.seq_out (by simp), h2⟩
  | exit i => exact ⟨_, _, h1.seq_out (by simp), h2⟩
theorem W.cond {c : COpnd} {a b : CCode} {st : CSt} {Q : CExit → CSt → Prop} (h : match evalOpnd st.tm [] c with | .bool true => W T a st Q | .bool false => W T b st Q | _ => False) : W T (.cond c a b) st Q := by
  split at h
  · rename_i e; obtain ⟨x, st', h1, h2⟩ := h; exact ⟨x, st', Ev.cond_true e h1, h2⟩
  · rename_i e; obtain ⟨x, st', h1, h2⟩ := h; exact ⟨x, st', Ev.cond_false e h1, h2⟩
  · exact h.elim
theorem W.cond_true {c : COpnd} {a b : CCode} {st : CSt} {Q : CExit → CSt → Prop} (e : evalOpnd st.tm [] c = .bool true) (h : W T a st Q) : W T (.cond c a b) st Q := W.cond (by rw [e]; exact h)
theorem W.cond_false {c : COpnd} {a b : CCode} {st : CSt} {Q : CExit → CSt → Prop} (e : evalOpnd st.tm [] c = .bool false) (h : W T b st Q) : W T (.cond c a b) st Q := W.cond (by rw [e]; exact h)
theorem W.block {id : Nat} {c : CCode} {st : CSt} {Q : CExit → CSt → Prop} (h : W T c st fun x st' => Q (outOf id x) st') : W T (.block id c) st Q := by
  obtain ⟨x, st', h1, h2⟩ := h
  exact ⟨_, _, h1.block, h2⟩
/-- Behind a round. -/
def roundW (T : Nat → Option CFn) (drop : Bool) (c : CCode) (n : Nat) (Q : CExit → CSt → Prop) (x : CExit) (st : CSt) : Prop := match x with
  | .normal => W T (.loop drop c) (dropped drop n st) Q
  | x => Q x st
theorem W.loop {drop : Bool} {c : CCode} {st : CSt} {Q : CExit → CSt → Prop} (h : W T c st (roundW T drop c st.h.next Q)) : W T (.loop drop c) st Q := by
  obtain ⟨x, st1, h1, h2⟩ := h
  cases x with
  | normal => obtain ⟨y, st2, h3, h4⟩ := h2; exact ⟨y, st2, h1.loop_step h3, h4⟩
  | ret => exact ⟨_, _, h1.loop_out (by simp), h2⟩
  | exit i => exact ⟨_, _, h1.loop_out (by simp), h2⟩
theorem W.mono {c : CCode} {st : CSt} {Q R : CExit → CSt → Prop} (h : W T c st Q) (hq : ∀ x st', Q x st' → R x st') : W T c st R := by
  obtain ⟨x, st', h1, h2⟩ := h
  exact ⟨x, st', h1, hq _ _ h2⟩

theorem Wo.nil {tm : List CVal} {id : Nat} {s : RS} {K : RS → Prop} (h : K s) : Wo T tm id [] s K := ⟨s, Ops.nil, h⟩
theorem Wo.plain {tm : List CVal} {id : Nat} {o : COper} {r : List COper} {s s1 : RS} {K : RS → Prop} (h1 : evalOper (fun _ _ _ => none) tm id o s = some s1) (h : Wo T tm (id + 1) r s1 K) : Wo T tm id (o :: r) s K := by
  obtain ⟨s', h2, h3⟩ := h
  exact ⟨s', Ops.plain h1 h2, h3⟩
/-- All that calls nothing, at once. -/
theorem Wo.all {tm : List CVal} {id : Nat} {ops : List COper} {s s1 : RS} {K : RS → Prop} (h1 : evalOps (fun _ _ _ => none) tm id ops s = some s1) (h : K s1) : Wo T tm id ops s K :=
  ⟨s1, ⟨0, evalOps_mono (fun _ _ _ _ h => by cases h) h1⟩, h⟩
theorem evalOps_append {cf : Nat → List CVal → CHeap → Option (CVal × CHeap)} {tm : List CVal} : ∀ {a b : List COper} {id : Nat} {s : RS}, evalOps cf tm id (a ++ b) s = (evalOps cf tm id a s).bind (evalOps cf tm (id + a.length) b)
  | [], b, id, s => by simp [evalOps]
  | o :: a, b, id, s => by
    simp only [List.cons_append, evalOps]
    cases evalOper cf tm id o s with
    | none => rfl
    | some s1 => simp only; rw [evalOps_append]; simp [Nat.add_comm, Nat.add_left_comm]
/-- .. a part of them. -/
theorem Wo.front {tm : List CVal} {id : Nat} {a b : List COper} {s s1 : RS} {K : RS → Prop} (h1 : evalOps (fun _ _ _ => none) tm id a s = some s1) (h : Wo T tm (id + a.length) b s1 K) : Wo T tm id (a ++ b) s K := by
  obtain ⟨s', ⟨n, h2⟩, h3⟩ := h
  refine ⟨s', ⟨n, ?_⟩, h3⟩
  rw [evalOps_append, evalOps_mono (fun _ _ _ _ h => by cases h) h1]
  exact h2
theorem Wo.call {tm : List CVal} {id : Nat} {keep : Bool} {f : Nat} {xs : List COpnd} {r : List COper} {s : RS} {K : RS → Prop}
    (h : Wc T f (if keep then xs.map (evalOpnd tm s.vals) else xs.map fun x => (evalOpnd tm s.vals x).bare) s.h fun v h' => v.isUndef = false ∧ Wo T tm (id + 1) r { s with vals := v :: s.vals, h := h', hs := s.h :: s.hs } K) :
    Wo T tm id (⟨.call keep f xs, none⟩ :: r) s K := by
  obtain ⟨v, h', hc, hu, s', h2, h3⟩ := h
  refine ⟨s', Ops.call hc (s1 := { s with vals := v :: s.vals, h := h', hs := s.h :: s.hs }) ?_ h2, h3⟩
  simp [evalOper, wantedC, COp.cls, evalE, hu]
theorem W.region {ops : List COper} {wb : List (Nat × Nat)} {st : CSt} {Q : CExit → CSt → Prop} (h : Wo T st.tm st.h.next ops ⟨[], { st.h with next := st.h.next + ops.length }, st.defs, []⟩ fun s => Q .normal ⟨writeBack ops.length s.vals st.tm wb, s.h, s.defs⟩) :
    W T (.region ops wb [] []) st Q := by
  obtain ⟨s, h1, h2⟩ := h
  exact ⟨_, _, Ev.region h1 rfl, h2⟩

/-- A region whose readers are checked. -/
theorem W.regionC {ops : List COper} {wb : List (Nat × Nat)} {chk : List (Nat × Nat × Nat)} {sw : List (Nat × Nat)} {st : CSt} {Q : CExit → CSt → Prop}
    (h : Wo T st.tm st.h.next ops ⟨[], { st.h with next := st.h.next + ops.length }, st.defs, []⟩ fun s => (chk.all (checkOne st.tm ops ops.length s.vals (s.h :: s.hs).reverse) && sw.all (swapOne st.tm ops ops.length s.vals)) = true ∧ Q .normal ⟨writeBack ops.length s.vals st.tm wb, s.h, s.defs⟩) :
    W T (.region ops wb chk sw) st Q := by
  obtain ⟨s, h1, hc, h2⟩ := h
  exact ⟨_, _, Ev.region h1 hc, h2⟩

theorem Wc.mk {f : Nat} {fn : CFunc} {args : List CVal} {h : CHeap} {K : CVal → CHeap → Prop} (hf : T f = some (.ir fn)) (hn : args.length = fn.nargs)
    (hb : W T fn.body ⟨fn.params.map (initVar args), h, []⟩ fun x st => (∀ i, x ≠ .exit i) ∧ st.defs = [] ∧ ∃ vs v h', resultsC st.h st.tm fn.results = some vs ∧ finishC fn h.next (oneOrTuple vs) st.h = some (v, h') ∧ K v h') : Wc T f args h K := by
  obtain ⟨x, st, h1, hx, hd, vs, v, h', h2, h3, h4⟩ := hb
  exact ⟨v, h', Cl.mk hf hn h1 hx (by rw [hd]; exact Defs.nil) h2 h3, h4⟩
/-- What a function gives at its end. -/
def endsC (fn : CFunc) (n : Nat) (st : CSt) : Option (CVal × CHeap) := match resultsC st.h st.tm fn.results with
  | some vs => finishC fn n (oneOrTuple vs) st.h
  | none => none
def endW (fn : CFunc) (n : Nat) (K : CVal → CHeap → Prop) (x : CExit) (st : CSt) : Prop := (∀ i, x ≠ .exit i) ∧ st.defs = [] ∧ match endsC fn n st with
  | some p => K p.1 p.2
  | none => False
theorem Wc.mk' {f : Nat} {fn : CFunc} {args : List CVal} {h : CHeap} {K : CVal → CHeap → Prop} (hf : T f = some (.ir fn)) (hn : args.length = fn.nargs)
    (hb : W T fn.body ⟨fn.params.map (initVar args), h, []⟩ (endW fn h.next K)) : Wc T f args h K := by
  refine Wc.mk hf hn (hb.mono fun x st ⟨h1, h2, h3⟩ => ⟨h1, h2, ?_⟩)
  unfold endsC at h3
  cases hr : resultsC st.h st.tm fn.results with
  | none => rw [hr] at h3; exact h3.elim
  | some vs =>
    rw [hr] at h3
    dsimp only at h3
    cases hf : finishC fn h.next (oneOrTuple vs) st.h with
    | none => rw [hf] at h3; exact h3.elim
    | some p => rw [hf] at h3; exact ⟨vs, p.1, p.2, rfl, hf, h3⟩
theorem endW.intro {fn : CFunc} {n : Nat} {K : CVal → CHeap → Prop} {st : CSt} (hd : st.defs = []) (h : match endsC fn n st with | some p => K p.1 p.2 | none => False) : endW fn n K .ret st := ⟨by simp, hd, h⟩
theorem Wc.mono {f : Nat} {args : List CVal} {h : CHeap} {K L : CVal → CHeap → Prop} (hc : Wc T f args h K) (hk : ∀ v h', K v h' → L v h') : Wc T f args h L := by
  obtain ⟨v, h', h1, h2⟩ := hc
  exact ⟨v, h', h1, hk _ _ h2⟩
theorem Wc.prim {f : Nat} {p : List CVal → CHeap → Option (CVal × CHeap)} {args : List CVal} {h h' : CHeap} {v : CVal} {K : CVal → CHeap → Prop} (hf : T f = some (.prim p)) (hp : p args h = some (v, h')) (hk : K v h') : Wc T f args h K :=
  ⟨v, h', Cl.prim hf hp, hk⟩

/-- A region that calls nothing. -/
def stepR (st : CSt) (ops : List COper) (wb : List (Nat × Nat)) : Option CSt :=
  (evalOps (fun _ _ _ => none) st.tm st.h.next ops ⟨[], { st.h with next := st.h.next + ops.length }, st.defs, []⟩).map fun s => ⟨writeBack ops.length s.vals st.tm wb, s.h, s.defs⟩
theorem W.reg {ops : List COper} {wb : List (Nat × Nat)} {st : CSt} {Q : CExit → CSt → Prop} (h : match stepR st ops wb with | some st1 => Q .normal st1 | none => False) : W T (.region ops wb [] []) st Q := by
  unfold stepR at h
  cases he : evalOps (fun _ _ _ => none) st.tm st.h.next ops ⟨[], { st.h with next := st.h.next + ops.length }, st.defs, []⟩ with
  | none => rw [he] at h; exact h.elim
  | some s => rw [he] at h; exact W.region (Wo.all he h)
/-- .. up to a call. -/
theorem Wo.upto (k : Nat) {tm : List CVal} {id : Nat} {ops : List COper} {s : RS} {K : RS → Prop} (hk : (ops.take k).length = k) (h : match evalOps (fun _ _ _ => none) tm id (ops.take k) s with | some s1 => Wo T tm (id + k) (ops.drop k) s1 K | none => False) : Wo T tm id ops s K := by
  cases he : evalOps (fun _ _ _ => none) tm id (ops.take k) s with
  | none => rw [he] at h; exact h.elim
  | some s1 =>
    rw [he] at h
    have := Wo.front (b := ops.drop k) (K := K) he (by rw [hk]; exact h)
    rwa [List.take_append_drop] at this
theorem Wo.rest {tm : List CVal} {id : Nat} {ops : List COper} {s : RS} {K : RS → Prop} (h : match evalOps (fun _ _ _ => none) tm id ops s with | some s1 => K s1 | none => False) : Wo T tm id ops s K := by
  cases he : evalOps (fun _ _ _ => none) tm id ops s with
  | none => rw [he] at h; exact h.elim
  | some s1 => rw [he] at h; exact Wo.all he h

/-- All of a heap's numbers lie below the next one. -/
def Under (l : List (Nat × CObj)) (n : Nat) : Prop := ∀ x ∈ l, x.1 < n
theorem dropEnts_under : ∀ {l : List (Nat × CObj)} {n : Nat}, Under l n → dropEnts l n = l
  | [], _, _ => rfl
  | (i, o) :: r, n, h => by
    have h1 : ¬ n ≤ i := by have := h (i, o) (by simp); simp at this; omega
    have h2 := dropEnts_under (l := r) (n := n) fun x hx => h x (by simp [hx])
    simp only [dropEnts, if_neg h1, h2]
theorem dropCells_under : ∀ {l : List (Nat × CObj)} {n : Nat}, Under l n → dropCells l n = l
  | [], _, _ => rfl
  | (i, o) :: r, n, h => by
    have h1 : ¬ n ≤ i := by have := h (i, o) (by simp); simp at this; omega
    have h2 := dropCells_under (l := r) (n := n) fun x hx => h x (by simp [hx])
    simp only [dropCells, if_neg h1, h2]
theorem getEnt_under {l : List (Nat × CObj)} {n b : Nat} (h : Under l n) (hb : n ≤ b) : getEnt l b = none := by
  induction l with
  | nil => rfl
  | cons x r ih =>
    obtain ⟨i, o⟩ := x
    unfold getEnt
    rw [if_neg (by have := h (i, o) (by simp); simp; omega)]
    exact ih fun x hx => h x (by simp [hx])
end
end Go.CI

/- Rules and facts for runs that are walked by hand. -/
set_option linter.unusedVariables false
set_option linter.unusedSimpArgs false
set_option maxRecDepth 100000
namespace Go.CI
open Go.RowKit
theorem sy_nbeq {a b : Nat} (h : a ≠ b) : (a == b) = false := by simp [h]
theorem sy_neqF {a b : Nat} (h : a ≠ b) : (a = b) = False := by simp [h]
theorem sy_leT {a b : Nat} (h : a ≤ b) : (a ≤ b) = True := by simp [h]
theorem sy_leF {a b : Nat} (h : b < a) : (a ≤ b) = False := by simp [h]
theorem sy_setEnt_setEnt : ∀ (l : List (Nat × CObj)) (m : Nat) (x y : CObj), setEnt (setEnt l m x) m y = setEnt l m y
  | [], _, _, _ => rfl
  | (i, o) :: r, m, x, y => by
    by_cases h : i = m
    · subst h; simp [setEnt]
    · simp [setEnt, h, sy_setEnt_setEnt r m x y]
theorem sy_getEnt_setEnt : ∀ {l : List (Nat × CObj)} {m : Nat} {o x : CObj}, getEnt l m = some o → getEnt (setEnt l m x) m = some x
  | [], _, _, _, h => by cases h
  | (i, q) :: r, m, o, x, h => by
    by_cases hi : i = m
    · subst hi; simp [setEnt, getEnt]
    · simp [getEnt, hi] at h
      simp [setEnt, getEnt, hi, sy_getEnt_setEnt h]
theorem Under.set {l : List (Nat × CObj)} {n m : Nat} {x : CObj} (h : Under l n) : Under (setEnt l m x) n := by
  induction l with
  | nil => exact h
  | cons a r ih =>
    obtain ⟨i, o⟩ := a
    have h1 : i < n := h (i, o) (by simp)
    have h2 : Under r n := fun y hy => h y (by simp [hy])
    unfold setEnt
    split
    · rename_i e; intro y hy; rcases List.mem_cons.1 hy with rfl | hy; exact h1; exact h2 y hy
    · intro y hy; rcases List.mem_cons.1 hy with rfl | hy; exact h1; exact ih h2 y hy
theorem Under.cons {l : List (Nat × CObj)} {n i : Nat} {o : CObj} (hi : i < n) (h : Under l n) : Under ((i, o) :: l) n := fun y hy => by
  rcases List.mem_cons.1 hy with rfl | hy
  · exact hi
  · exact h y hy
theorem Under.le {l : List (Nat × CObj)} {n m : Nat} (h : Under l n) (hnm : n ≤ m) : Under l m := fun y hy => Nat.lt_of_lt_of_le (h y hy) hnm
theorem sy_wrap64 {x : Int} (h : -4611686018427387904 ≤ x) (h2 : x < 4611686018427387904) : IntKind.i64.wrap x = x := by
  simp [IntKind.wrap, IntKind.bits, IntKind.signed]; omega

theorem Under.nil {n : Nat} : Under [] n := fun x hx => by cases hx
theorem Ev.seq_inv {T : Nat → Option CFn} {a b : CCode} {st st' : CSt} {x : CExit} (h : Ev T (.seq a b) st x st') : (∃ st1, Ev T a st .normal st1 ∧ Ev T b st1 x st') ∨ (Ev T a st x st' ∧ x ≠ .normal) := by
  obtain ⟨n, hx⟩ := h
  cases n with
  | zero => cases hx
  | succ n =>
    have hx : (match exec T n a st with | some (.normal, st1) => exec T n b st1 | r => r) = some (x, st') := hx
    cases ha : exec T n a st with
    | none => rw [ha] at hx; cases hx
    | some p =>
      obtain ⟨y, st1⟩ := p
      rw [ha] at hx
      cases y with
      | normal => exact .inl ⟨st1, ⟨n, ha⟩, ⟨n, hx⟩⟩
      | ret => cases hx; exact .inr ⟨⟨n, ha⟩, by simp⟩
      | exit i => cases hx; exact .inr ⟨⟨n, ha⟩, by simp⟩
theorem W.assoc {T : Nat → Option CFn} {a b c : CCode} {st : CSt} {Q : CExit → CSt → Prop} (h : W T (.seq (.seq a b) c) st Q) : W T (.seq a (.seq b c)) st Q := by
  obtain ⟨x, st', hx, hq⟩ := h
  refine ⟨x, st', ?_, hq⟩
  rcases hx.seq_inv with ⟨st1, h1, h2⟩ | ⟨h1, h2⟩
  · rcases h1.seq_inv with ⟨st2, h3, h4⟩ | ⟨_, h4⟩
    · exact h3.seq (h4.seq h2)
    · exact absurd rfl h4
  · rcases h1.seq_inv with ⟨st2, h3, h4⟩ | ⟨h3, _⟩
    · exact h3.seq (h4.seq_out h2)
    · exact h3.seq_out h2
theorem W.of_exec {T : Nat → Option CFn} {n : Nat} {c : CCode} {st st' : CSt} {x : CExit} {Q : CExit → CSt → Prop} (h : execF T n c st = some (x, st')) (hq : Q x st') : W T c st Q :=
  ⟨x, st', ⟨n, by rw [← execF_eq]; exact h⟩, hq⟩
/-- A run of the interpreter that says true, at whatever arguments. -/
theorem law_calls {P : Program} {H : Hints} {T : Nat → Option CFn} {n f : Nat} {fn : CFunc} (w : World) {F : Nat → Nat → Option CVal} {gl : List (Nat × List CVal)} {cs : List CVal} {args : List Value} (hgl : GlobsIn H.globals gl) (hmixed : P.follows .mixedOrders = true) (hT : TOk P H ⟨w.heap.size, gl⟩ T) (hf : T f = some (.ir fn)) (B : Begins w gl F)
    (ha : VRs (Gh.of F) cs args) (hrun : saysTrue (crun T n f cs noHeap) = true) : Calls P f ⟨args⟩ w fun e w' => e = .returned (.bool true) ∧ Below w.heap.size w w' := by
  cases hr : crun T n f cs noHeap with
  | none => rw [hr] at hrun; cases hrun
  | some x =>
    obtain ⟨v, h'⟩ := x
    rw [hr] at hrun
    have hv : v = .bool true := by cases v <;> simp_all [saysTrue]
    subst hv
    refine Calls.mono (crun_calls hgl hmixed hT hf B ha hr) ?_
    rintro e w' ⟨u, G, rfl, _, hu, hb, _⟩
    rw [vr_bool hu]
    exact ⟨rfl, hb⟩
theorem crun_of_at {T : Nat → Option CFn} {n f : Nat} {args : List CVal} {p : Option (CVal × CHeap) → Bool} (h : p (crunF T n f args noHeap) = true) : p (crun T n f args noHeap) = true := by
  rw [crunF_eq] at h; exact h

section
variable {T : Nat → Option CFn}
/-- Deferred calls. -/
def Wd (T : Nat → Option CFn) (d : List (Nat × List CVal)) (h : CHeap) (K : CHeap → Prop) : Prop := ∃ h', Defs T d h h' ∧ K h'
theorem Wd.nil {h : CHeap} {K : CHeap → Prop} (hk : K h) : Wd T [] h K := ⟨h, Defs.nil, hk⟩
theorem Wd.cons {f : Nat} {fn : CFunc} {args : List CVal} {d : List (Nat × List CVal)} {h : CHeap} {K : CHeap → Prop} (hf : T f = some (.ir fn)) (hn : args.length = fn.nargs)
    (hb : W T fn.body ⟨fn.params.map (initVar args), h, []⟩ (endW fn h.next fun _ h1 => Wd T d h1 K)) : Wd T ((f, args) :: d) h K := by
  obtain ⟨x, st, h1, hx, hd, h2⟩ := hb
  unfold endsC at h2
  cases hr : resultsC st.h st.tm fn.results with
  | none => rw [hr] at h2; exact h2.elim
  | some vs =>
    rw [hr] at h2
    dsimp only at h2
    cases hfin : finishC fn h.next (oneOrTuple vs) st.h with
    | none => rw [hfin] at h2; exact h2.elim
    | some p =>
      rw [hfin] at h2
      obtain ⟨h', h3, h4⟩ := h2
      exact ⟨h', Defs.cons hf hn h1 hx hd hr hfin h3, h4⟩
/-- The end of a function that defers. -/
def endWD (T : Nat → Option CFn) (fn : CFunc) (n : Nat) (K : CVal → CHeap → Prop) (x : CExit) (st : CSt) : Prop := (∀ i, x ≠ .exit i) ∧ Wd T st.defs st.h fun h1 => match endsC fn n { st with h := h1 } with
  | some p => K p.1 p.2
  | none => False
theorem endWD.intro {fn : CFunc} {n : Nat} {K : CVal → CHeap → Prop} {st : CSt} (h : Wd T st.defs st.h fun h1 => match endsC fn n { st with h := h1 } with | some p => K p.1 p.2 | none => False) : endWD T fn n K .ret st := ⟨by simp, h⟩
theorem Wc.mkD {f : Nat} {fn : CFunc} {args : List CVal} {h : CHeap} {K : CVal → CHeap → Prop} (hf : T f = some (.ir fn)) (hn : args.length = fn.nargs)
    (hb : W T fn.body ⟨fn.params.map (initVar args), h, []⟩ (endWD T fn h.next K)) : Wc T f args h K := by
  obtain ⟨x, st, h1, hx, h2, h3, h4⟩ := hb
  unfold endsC at h4
  dsimp only at h4
  cases hr : resultsC h2 st.tm fn.results with
  | none => rw [hr] at h4; exact h4.elim
  | some vs =>
    rw [hr] at h4
    dsimp only at h4
    cases hfin : finishC fn h.next (oneOrTuple vs) h2 with
    | none => rw [hfin] at h4; exact h4.elim
    | some p => rw [hfin] at h4; exact ⟨p.1, p.2, Cl.mk hf hn h1 hx h3 hr hfin, h4⟩
end

/-- From a contract of the law's function to a run that says true. -/
theorem says_of {T : Nat → Option CFn} {f : Nat} {args : List CVal} (h : Wc T f args noHeap fun v h => v = .bool true) : ∃ m, saysTrue (crun T m f args noHeap) = true := by
  obtain ⟨v, h', ⟨m, hc⟩, rfl⟩ := h
  refine ⟨m, ?_⟩
  have : crun T m f args noHeap = some (.bool true, h') := hc
  rw [this]; rfl

theorem sy_wrapu64 {x : Int} (h : 0 ≤ x) (h2 : x < 18446744073709551616) : IntKind.u64.wrap x = x := by
  simp [IntKind.wrap, IntKind.bits, IntKind.signed]; omega
theorem sy_wrapu8 {x : Int} (h : 0 ≤ x) (h2 : x < 256) : IntKind.u8.wrap x = x := by
  simp [IntKind.wrap, IntKind.bits, IntKind.signed]; omega

/-- 'Or' of what does not overlap is the sum. -/
theorem or_low {v c s : Nat} (hv : v < 2 ^ s) : v ||| (c * 2 ^ s) = v + c * 2 ^ s := by
  have := Nat.shiftLeft_add_eq_or_of_lt hv c
  rw [Nat.shiftLeft_eq] at this
  rw [Nat.or_comm, ← this, Nat.add_comm]
theorem or_u64 {v c s : Nat} (hv : v < 2 ^ s) (hm : v + c * 2 ^ s < 2 ^ 64) : evalBits .or .u64 (v : Int) ((c * 2 ^ s : Nat) : Int) = some (.int .u64 ((v + c * 2 ^ s : Nat) : Int)) := by
  have h1 : v < 2 ^ 64 := by omega
  have h2 : c * 2 ^ s < 2 ^ 64 := by omega
  have e1 : (BitVec.ofInt 64 (v : Int)).toNat = v := by rw [BitVec.ofInt_natCast, BitVec.toNat_ofNat]; exact Nat.mod_eq_of_lt h1
  have e2 : (BitVec.ofInt 64 ((c * 2 ^ s : Nat) : Int)).toNat = c * 2 ^ s := by rw [BitVec.ofInt_natCast, BitVec.toNat_ofNat]; exact Nat.mod_eq_of_lt h2
  have e3 : (BitVec.ofInt 64 (v : Int) ||| BitVec.ofInt 64 ((c * 2 ^ s : Nat) : Int)).toNat = v + c * 2 ^ s := by
    rw [BitVec.toNat_or, e1, e2, or_low hv]
  show some (CVal.int .u64 (IntKind.u64.wrap ((BitVec.ofInt 64 (v : Int) ||| BitVec.ofInt 64 ((c * 2 ^ s : Nat) : Int)).toNat))) = _
  rw [e3, sy_wrapu64 (by omega) (by omega)]

/-- A number in groups of seven bits, the lowest first. -/
def vb (x : Nat) : List UInt8 := if x < 128 then [UInt8.ofNat x] else UInt8.ofNat (x % 128 + 128) :: vb (x / 128)
termination_by x
decreasing_by omega
theorem vb_small {x : Nat} (h : x < 128) : vb x = [UInt8.ofNat x] := by rw [vb, if_pos h]
theorem vb_great {x : Nat} (h : ¬ x < 128) : vb x = UInt8.ofNat (x % 128 + 128) :: vb (x / 128) := by rw [vb, if_neg h]
theorem vb_len : ∀ (n x : Nat), x < 128 ^ (n + 1) → (vb x).length ≤ n + 1
  | 0, x, h => by rw [vb_small (by simpa using h)]; simp
  | n + 1, x, h => by
    by_cases hs : x < 128
    · rw [vb_small hs]; simp
    · rw [vb_great hs]
      have := vb_len n (x / 128) (by rw [Nat.div_lt_iff_lt_mul (by omega)]; rw [Nat.pow_succ] at h; exact h)
      simp; omega
theorem vb_len_lt (x : Nat) (h : x < 18446744073709551616) : (vb x).length ≤ 10 := vb_len 9 x (Nat.lt_of_lt_of_le h (by decide))
theorem vb_ne (x : Nat) : vb x ≠ [] := by rw [vb]; split <;> simp
/-- Where the next call stands. -/
def callAt : List COper → Nat
  | [] => 0
  | ⟨.call _ _ _, none⟩ :: _ => 0
  | _ :: r => callAt r + 1
theorem callAt_le : ∀ ops : List COper, callAt ops ≤ ops.length
  | [] => Nat.le_refl _
  | o :: r => by
    unfold callAt
    split
    · exact Nat.zero_le _
    · exact Nat.zero_le _
    · rename_i h; cases h; have := callAt_le r; simp; omega
theorem Wo.next {T : Nat → Option CFn} {tm : List CVal} {id : Nat} {ops : List COper} {s : RS} {K : RS → Prop} (h : match evalOps (fun _ _ _ => none) tm id (ops.take (callAt ops)) s with | some s1 => Wo T tm (id + callAt ops) (ops.drop (callAt ops)) s1 K | none => False) : Wo T tm id ops s K :=
  Wo.upto (callAt ops) (by rw [List.length_take]; have := callAt_le ops; omega) h
theorem sy_ibeqF {a b : Int} (h : a ≠ b) : (a == b) = false := by simp [h]
theorem sy_ieqF {a b : Int} (h : a ≠ b) : (a = b) = False := by simp [h]
theorem sy_ileT {a b : Int} (h : a ≤ b) : (a ≤ b) = True := by simp [h]
theorem sy_ileF {a b : Int} (h : b < a) : (a ≤ b) = False := by simp [h]
theorem sy_iltT {a b : Int} (h : a < b) : (a < b) = True := by simp [h]
theorem sy_iltF {a b : Int} (h : b ≤ a) : (a < b) = False := by simp [h]
theorem sy_ltT {a b : Nat} (h : a < b) : (a < b) = True := by simp [h]
theorem sy_ltF {a b : Nat} (h : b ≤ a) : (a < b) = False := by simp [h]
/-- .. whatever it hangs on. -/
def callAtG : List COper → Nat
  | [] => 0
  | ⟨.call _ _ _, _⟩ :: _ => 0
  | _ :: r => callAtG r + 1
theorem callAtG_le : ∀ ops : List COper, callAtG ops ≤ ops.length
  | [] => Nat.le_refl _
  | o :: r => by
    unfold callAtG
    split
    · exact Nat.zero_le _
    · exact Nat.zero_le _
    · rename_i h; cases h; have := callAtG_le r; simp; omega
theorem Wo.nextG {T : Nat → Option CFn} {tm : List CVal} {id : Nat} {ops : List COper} {s : RS} {K : RS → Prop} (h : match evalOps (fun _ _ _ => none) tm id (ops.take (callAtG ops)) s with | some s1 => Wo T tm (id + callAtG ops) (ops.drop (callAtG ops)) s1 K | none => False) : Wo T tm id ops s K :=
  Wo.upto (callAtG ops) (by rw [List.length_take]; have := callAtG_le ops; omega) h
theorem Wo.callG {T : Nat → Option CFn} {tm : List CVal} {id : Nat} {keep : Bool} {f : Nat} {xs : List COpnd} {g : Option (Nat × Bool)} {r : List COper} {s : RS} {K : RS → Prop} (hw : wantedC s.vals g = true)
    (h : Wc T f (if keep then xs.map (evalOpnd tm s.vals) else xs.map fun x => (evalOpnd tm s.vals x).bare) s.h fun v h' => v.isUndef = false ∧ Wo T tm (id + 1) r { s with vals := v :: s.vals, h := h', hs := s.h :: s.hs } K) :
    Wo T tm id (⟨.call keep f xs, g⟩ :: r) s K := by
  obtain ⟨v, h', hc, hu, s', h2, h3⟩ := h
  refine ⟨s', Ops.call hc (s1 := { s with vals := v :: s.vals, h := h', hs := s.h :: s.hs }) ?_ h2, h3⟩
  simp [evalOper, hw, COp.cls, evalE, hu]
end Go.CI

/- What a call gives that turns no memory; regions walked to the next call that is made; prims by what they give. -/
set_option linter.unusedVariables false
set_option linter.unusedSimpArgs false
namespace Go.CI

/-- All noted rows' numbers lie below the next one. -/
def UnderT (l : List (Nat × Nat)) (n : Nat) : Prop := ∀ x ∈ l, x.1 < n
theorem UnderT.nil {n : Nat} : UnderT [] n := fun x hx => by cases hx
theorem UnderT.cons {l : List (Nat × Nat)} {n i t : Nat} (hi : i < n) (h : UnderT l n) : UnderT ((i, t) :: l) n := fun y hy => by
  rcases List.mem_cons.1 hy with rfl | hy
  · exact hi
  · exact h y hy
theorem UnderT.le {l : List (Nat × Nat)} {n m : Nat} (h : UnderT l n) (hnm : n ≤ m) : UnderT l m := fun y hy => Nat.lt_of_lt_of_le (h y hy) hnm
theorem lookupN_under : ∀ {l : List (Nat × Nat)} {n b : Nat}, UnderT l n → n ≤ b → lookupN l b = none
  | [], _, _, _, _ => rfl
  | (i, t) :: r, n, b, h, hb => by
    have h1 : i < n := h (i, t) (by simp)
    have h2 := lookupN_under (l := r) (fun x hx => h x (by simp [hx])) hb
    have : (i == b) = false := by simp; omega
    simp [lookupN, this, h2]
theorem getEnt_setEnt_ne {l : List (Nat × CObj)} {m n : Nat} {x : CObj} (h : n ≠ m) : getEnt (setEnt l m x) n = getEnt l n := by
  induction l with
  | nil => rfl
  | cons a r ih =>
    obtain ⟨i, o⟩ := a
    by_cases hi : i = m
    · subst hi
      simp [setEnt, getEnt, Ne.symm h]
    · by_cases hn : i = n
      · subst hn; simp [setEnt, getEnt, hi]
      · simp [setEnt, getEnt, hi, hn, ih]
theorem setEnt_same : ∀ {l : List (Nat × CObj)} {m : Nat} {x : CObj}, getEnt l m = some x → setEnt l m x = l
  | [], _, _, h => by cases h
  | (i, o) :: r, m, x, h => by
    by_cases hi : i = m
    · subst hi; simp [getEnt] at h; simp [setEnt, h]
    · simp [getEnt, hi] at h; simp [setEnt, hi, setEnt_same h]

section
variable {T : Nat → Option CFn}
theorem Wc.primM {f : Nat} {p : List CVal → CHeap → Option (CVal × CHeap)} {args : List CVal} {h : CHeap} {K : CVal → CHeap → Prop} (hf : T f = some (.prim p)) (hm : match p args h with | some r => K r.1 r.2 | none => False) : Wc T f args h K := by
  cases hp : p args h with
  | none => rw [hp] at hm; exact hm.elim
  | some r => rw [hp] at hm; exact Wc.prim hf hp hm
/-- A memory that is fit. -/
def Fit (h : CHeap) : Prop := Under h.ents h.next ∧ UnderT h.tys h.next
/-- What a call gives that turns no memory. -/
def Pu (T : Nat → Option CFn) (f : Nat) (args : List CVal) (v : CVal) : Prop := ∀ (h : CHeap), Fit h → ∀ (K : CVal → CHeap → Prop), (∀ n' ty, h.next ≤ n' → UnderT ty n' → K v ⟨h.ents, n', ty⟩) → Wc T f args h K

/-- A region's end. -/
def regOut (tm : List CVal) (ops : List COper) (wb : List (Nat × Nat)) (chk : List (Nat × Nat × Nat)) (sw : List (Nat × Nat)) (s : RS) : Option CSt :=
  if chk.all (checkOne tm ops ops.length s.vals (s.h :: s.hs).reverse) && sw.all (swapOne tm ops ops.length s.vals) then some ⟨writeBack ops.length s.vals tm wb, s.h, s.defs⟩ else none

inductive GoR where
  | done (st : CSt)
  | call (id f : Nat) (args : List CVal) (r : List COper) (s : RS)

/-- On to the next call that is made, or to the end. -/
def goR (tm : List CVal) (ops0 : List COper) (wb : List (Nat × Nat)) (chk : List (Nat × Nat × Nat)) (sw : List (Nat × Nat)) : Nat → List COper → RS → Option GoR
  | _, [], s => match regOut tm ops0 wb chk sw s with
    | some st => some (.done st)
    | none => none
  | id, o :: r, s => match wantedC s.vals o.guard, o.op with
    | true, .call keep f xs => some (.call id f (if keep then xs.map (evalOpnd tm s.vals) else xs.map fun x => (evalOpnd tm s.vals x).bare) r s)
    | true, .callv keep x xs => match evalOpnd tm s.vals x with
      | .fn (.func f) first cap => some (.call id f (first ++ ((if keep then xs.map (evalOpnd tm s.vals) else xs.map fun x => (evalOpnd tm s.vals x).bare) ++ cap)) r s)
      | _ => none
    | _, _ => match evalOper (fun _ _ _ => none) tm id o s with
      | some s' => goR tm ops0 wb chk sw (id + 1) r s'
      | none => none

def WoR (T : Nat → Option CFn) (tm : List CVal) (ops0 : List COper) (wb : List (Nat × Nat)) (chk : List (Nat × Nat × Nat)) (sw : List (Nat × Nat)) (Q : CExit → CSt → Prop) (id : Nat) (ops : List COper) (s : RS) : Prop :=
  Wo T tm id ops s fun s => match regOut tm ops0 wb chk sw s with | some st => Q .normal st | none => False

def goW (T : Nat → Option CFn) (tm : List CVal) (ops0 : List COper) (wb : List (Nat × Nat)) (chk : List (Nat × Nat × Nat)) (sw : List (Nat × Nat)) (Q : CExit → CSt → Prop) : Option GoR → Prop
  | some (.done st) => Q .normal st
  | some (.call id f args r s) => Wc T f args s.h fun v h' => v.isUndef = false ∧ WoR T tm ops0 wb chk sw Q (id + 1) r { s with vals := v :: s.vals, h := h', hs := s.h :: s.hs }
  | none => False

theorem Wo.callAny {tm : List CVal} {id : Nat} {o : COper} {f : Nat} {args : List CVal} {r : List COper} {s : RS} {K : RS → Prop} (hw : wantedC s.vals o.guard = true)
    (ho : ∀ cf, evalE cf (evalOpnd tm s.vals) s.h id o.op = cf f args s.h) (hc : o.op.cls = .e)
    (h : Wc T f args s.h fun v h' => v.isUndef = false ∧ Wo T tm (id + 1) r { s with vals := v :: s.vals, h := h', hs := s.h :: s.hs } K) : Wo T tm id (o :: r) s K := by
  obtain ⟨v, h', hc', hu, s', h2, h3⟩ := h
  refine ⟨s', Ops.call hc' (s1 := { s with vals := v :: s.vals, h := h', hs := s.h :: s.hs }) ?_ h2, h3⟩
  unfold evalOper
  rw [hw, if_pos rfl, hc]
  simp only [ho]
  simp [hu]

theorem WoR.go {tm : List CVal} {ops0 : List COper} {wb : List (Nat × Nat)} {chk : List (Nat × Nat × Nat)} {sw : List (Nat × Nat)} {Q : CExit → CSt → Prop} : ∀ {ops : List COper} {id : Nat} {s : RS}, goW T tm ops0 wb chk sw Q (goR tm ops0 wb chk sw id ops s) → WoR T tm ops0 wb chk sw Q id ops s
  | [], id, s, h => by
    unfold goR at h
    refine Wo.nil ?_
    cases hr : regOut tm ops0 wb chk sw s with
    | none => rw [hr] at h; exact h
    | some st => rw [hr] at h; exact h
  | o :: r, id, s, h => by
    have plain : (match evalOper (fun _ _ _ => none) tm id o s with | some s' => goR tm ops0 wb chk sw (id + 1) r s' | none => none) = goR tm ops0 wb chk sw id (o :: r) s → WoR T tm ops0 wb chk sw Q id (o :: r) s := fun e => by
      rw [← e] at h
      cases he : evalOper (fun _ _ _ => none) tm id o s with
      | none => rw [he] at h; exact h.elim
      | some s' => rw [he] at h; exact Wo.plain he (WoR.go h)
    obtain ⟨op, g⟩ := o
    cases hw : wantedC s.vals g with
    | false => refine plain ?_; conv => rhs; unfold goR; simp only [hw]
    | true =>
      cases op
      case call keep f xs =>
        unfold goR at h
        simp only [hw] at h
        exact Wo.callAny (f := f) hw (fun cf => rfl) rfl h
      case callv keep x xs =>
        unfold goR at h
        simp only [hw] at h
        split at h
        · rename_i f first cap e
          exact Wo.callAny (f := f) hw (fun cf => by simp [evalE, e]) rfl h
        · exact h.elim
      all_goals (refine plain ?_; conv => rhs; unfold goR; simp only [hw])

theorem W.regG {ops : List COper} {wb : List (Nat × Nat)} {chk : List (Nat × Nat × Nat)} {sw : List (Nat × Nat)} {st : CSt} {Q : CExit → CSt → Prop}
    (h : goW T st.tm ops wb chk sw Q (goR st.tm ops wb chk sw st.h.next ops ⟨[], { st.h with next := st.h.next + ops.length }, st.defs, []⟩)) : W T (.region ops wb chk sw) st Q := by
  have := WoR.go h
  unfold WoR at this
  obtain ⟨s, h1, h2⟩ := this
  unfold regOut at h2
  split at h2
  · rename_i st' e
    split at e
    · rename_i hc
      cases e
      exact ⟨_, _, Ev.region h1 hc, h2⟩
    · cases e
  · exact h2.elim

/-- A closed call that says true, in an empty memory. -/
theorem wc_start {m f n : Nat} {args : List CVal} (hr : (match crunF T m f args ⟨[], n, []⟩ with | some (.bool true, ⟨[], k, ty⟩) => decide (n ≤ k) && ty.all (fun x => decide (x.1 < k)) | _ => false) = true) {K : CVal → CHeap → Prop} (hk : ∀ n' ty, n ≤ n' → UnderT ty n' → K (.bool true) ⟨[], n', ty⟩) : Wc T f args ⟨[], n, []⟩ K := by
  split at hr
  · rename_i k ty e
    simp only [Bool.and_eq_true, decide_eq_true_eq] at hr
    exact ⟨_, _, ⟨m, by have := e; rw [crunF_eq] at this; exact this⟩, hk k ty hr.1 fun x hx => by have := List.all_eq_true.1 hr.2 x hx; simpa using this⟩
  · cases hr
theorem nth_mapG {α : Type} (f : α → CVal) : ∀ (s : List α) (i : Nat) (c : α), s[i]? = some c → nth (s.map f) i = f c
  | [], i, c, h => by simp at h
  | a :: r, 0, c, h => by simp at h; subst h; rfl
  | a :: r, i + 1, c, h => by simp at h; exact nth_mapG f r i c h
theorem get_of_dropG {α : Type} {s r : List α} {i : Nat} {c : α} (h : s.drop i = c :: r) : i < s.length ∧ s[i]? = some c ∧ s.drop (i + 1) = r := by
  have h1 : i < s.length := by
    rcases Nat.lt_or_ge i s.length with h' | h'
    · exact h'
    · rw [List.drop_eq_nil_of_le h'] at h; cases h
  rw [List.drop_eq_getElem_cons h1] at h
  simp only [List.cons.injEq] at h
  exact ⟨h1, by rw [List.getElem?_eq_getElem h1, h.1], h.2⟩

/-- A function's start. -/
def entryC (fn : CFunc) (args : List CVal) (h : CHeap) : CSt := ⟨fn.params.map (initVar args), h, []⟩
theorem Wc.mkG (f : Nat) (fn : CFunc) {args : List CVal} {h : CHeap} {K : CVal → CHeap → Prop} (hf : T f = some (.ir fn)) (hn : args.length = fn.nargs) (hb : W T fn.body (entryC fn args h) (endW fn h.next K)) : Wc T f args h K := Wc.mk' hf hn hb
theorem endW.of {fn : CFunc} {n : Nat} {K : CVal → CHeap → Prop} {x : CExit} {st : CSt} (hx : x = .ret ∨ x = .normal) (hd : st.defs = []) (h : match endsC fn n st with | some p => K p.1 p.2 | none => False) : endW fn n K x st := ⟨by rcases hx with rfl | rfl <;> simp, hd, h⟩
end
end Go.CI
namespace Go.CI
mutual
theorem beq_refl : ∀ v : CVal, CVal.beq v v = true
  | .undef => rfl
  | .bool b => by simp [CVal.beq]
  | .int k n => by simp [CVal.beq]
  | .str s => by simp [CVal.beq]
  | .nilp => rfl
  | .ptr _ _ _ => by simp [CVal.beq]
  | .cptr cs _ => by simp [CVal.beq, beqs_refl cs]
  | .eptr _ _ _ _ => by simp [CVal.beq]
  | .nils => rfl
  | .imm _ _ es => by simp [CVal.beq, beqs_refl es]
  | .ref _ _ _ _ _ => by simp [CVal.beq]
  | .nilm => rfl
  | .map _ => by simp [CVal.beq]
  | .fn _ a b => by simp [CVal.beq, beqs_refl a, beqs_refl b]
  | .nilf => rfl
  | .ifc _ v => by simp [CVal.beq, beq_refl v]
  | .nili => rfl
  | .agg cs => by simp [CVal.beq, beqs_refl cs]
  | .tup cs => by simp [CVal.beq, beqs_refl cs]
theorem beqs_refl : ∀ l : List CVal, beqs l l = true
  | [] => rfl
  | a :: l => by simp [beqs, beq_refl a, beqs_refl l]
end
end Go.CI

/- Slices of whole numbers as a law's arguments: what they are to the interpreter, and that they are read again as they were. -/
set_option linter.unusedVariables false
namespace Go
open Go.RowKit Go.ChangeShapes Go.WideShapes
variable {H : Type} {enc : TypeId × Value → H}

/-- A slice of whole numbers, opened: nil or a list. -/
theorem CI.open_nums {P : Program} {t e : TypeId} {k : IntKind} (ht : P.underlying t = some (.slice e)) (he : P.underlying e = some (.int k)) (hc : P.cellsOf e = 1) {w : World} {b0 : Nat} {v : Value} {d : DataW H} {ps : List MemPlace}
    (hval : Value.okWide P w .any b0 t v) (hd : DataW.Trod enc P w 0 (fun _ => true) true t v d ps) :
    ∃ (xs : List Int) (c : CI.CVal), (∀ x ∈ xs, (Lit.int k x).wf = true) ∧ (c = .nils ∧ xs = [] ∨ c = .imm .none 1 (xs.map (CI.CVal.int k))) ∧ CI.VR (CI.Gh.of (CI.Fw w)) c v ∧
      ∀ w', Below w.heap.size w w' → ∀ sp : Nat → Bool, (∀ p ∈ ps, sp p.block = true) → DataW.Trod enc P w' 0 sp true t v d ps := by
  obtain ⟨fuel, hf⟩ := hd
  have hsh : v = .slice none 0 0 ∨ ∃ a len cap, v = .slice (some a) len cap ∧ a.spot = none := by
    unfold Value.okWide at hval
    rw [ht] at hval
    simp only at hval
    unfold Cell.okWide at hval
    rw [ht] at hval
    simp only at hval
    unfold Cell.ok at hval
    rw [ht] at hval
    cases v with
    | slice a len cap =>
      cases a with
      | none =>
        cases len with
        | zero =>
          cases cap with
          | zero => exact .inl rfl
          | succ n => exact hval.elim
        | succ n => exact hval.elim
      | some a => exact .inr ⟨a, len, cap, rfl, hval.2.2.2.1⟩
    | _ => exact hval.elim
  rcases open_ints ht he hc hf with ⟨hcs, hx⟩ | ⟨a, len, cap, zs, hcs, hb, hl, hm, hz, hx, hcell, hw⟩
  · rcases hsh with rfl | ⟨a, len, cap, rfl, _⟩
    · obtain ⟨rfl, rfl⟩ := Prod.mk.inj hx
      exact ⟨[], .nils, by simp, .inl ⟨rfl, rfl⟩, .nils, fun w' hB sp _ => shut_slice_nil ht⟩
    · simp [Value.cells] at hcs
  · rcases hsh with rfl | ⟨a', len', cap', rfl, hspot⟩
    · simp [Value.cells] at hcs
    · simp [Value.cells] at hcs
      obtain ⟨rfl, rfl, rfl⟩ := hcs
      obtain ⟨rfl, rfl⟩ := Prod.mk.inj hx
      simp only [if_true] at hz
      obtain ⟨blk, off, spot⟩ := a'
      simp only at hspot
      subst hspot
      have hcell2 : ∀ i, i < zs.length → w.cell? ⟨blk, off + i, none⟩ = some (.int k (zs.getD i 0)) := fun i hi => by have := hcell i hi; rwa [add_plain] at this
      have hlt : (zs.take len').length = len' := by simp; omega
      refine ⟨zs.take len', .imm .none 1 ((zs.take len').map (CI.CVal.int k)), fun x hx => hw x (List.mem_of_mem_take hx), .inr rfl, ?_, ?_⟩
      · have := CI.VR.imm (G := CI.Gh.of (CI.Fw w)) (t := .none) (k := 1) (es := (zs.take len').map (CI.CVal.int k)) (a := ⟨blk, off, none⟩) (cap := cap') rfl (by decide) (by simp; omega) ?_ trivial
        · rwa [List.length_map, hlt] at this
        · intro i el hel
          rw [List.getElem?_map] at hel
          cases hq : (zs.take len')[i]? with
          | none => rw [hq] at hel; cases hel
          | some x =>
            rw [hq] at hel
            cases hel
            refine ⟨rfl, fun j c hc' => ?_⟩
            have hi : i < len' := by have := (List.getElem?_eq_some_iff.1 hq).1; omega
            have hx : zs.getD i 0 = x := by
              rw [List.getElem?_take] at hq
              simp only [hi, if_true] at hq
              simp [List.getD, hq]
            cases j with
            | succ j => simp [CI.CVal.cells] at hc'
            | zero =>
              simp [CI.CVal.cells] at hc'
              subst hc'
              refine ⟨rfl, ?_⟩
              show CI.Fw w blk (off + i * 1 + 0) = _
              unfold CI.Fw
              rw [show off + i * 1 + 0 = off + i by omega, hcell2 i (by omega), hx]
      · intro w' hB sp hsp
        have hcell' : ∀ i, i < zs.length → w'.cell? ((⟨blk, off, none⟩ : Addr).add i) = some (.int k (zs.getD i 0)) := fun i hi => by
          have h1 := hcell i hi
          have h2 := World.block_lt_of_cell? _ _ h1
          rw [hB.cell h2]; exact h1
        refine ⟨2, ?_⟩
        show DataW.trod enc P w' 0 sp true 2 t [.slice (some ⟨blk, off, none⟩) len' cap'] = _
        refine shut_ints (enc := enc) (w := w') (base := 0) (spare := sp) (held := true) 0 ht he hc (Nat.zero_le _) hl hm ?_ hcell' hw
        rcases Nat.eq_zero_or_pos zs.length with h0 | h0
        · rw [h0]; split <;> omega
        · have : sp blk = true := hsp (.cell blk (off + 0)) (by
            unfold MemPlace.row
            exact List.mem_map.2 ⟨0, List.mem_range.2 h0, rfl⟩)
          rw [this]; simpa using hz
end Go

/- Slices of slices of whole numbers as a law's arguments. -/
set_option linter.unusedVariables false
namespace Go
open Go.RowKit Go.ChangeShapes Go.WideShapes
namespace CI

/-- The numbers that lie from an address on. -/
def numsAt (w : World) (a : Addr) (n : Nat) : Option (List CVal) := (List.range n).mapM fun i => match w.cell? ⟨a.block, a.off + i, none⟩ with | some (.int k m) => some (CVal.int k m) | _ => none
/-- What the world's cells read as, slices of numbers too. -/
def Fw2 (w : World) (ab o : Nat) : Option CVal := match Fw w ab o with
  | some c => some c
  | none => match w.cell? ⟨ab, o, none⟩ with
    | some (.slice none 0 0) => some .nils
    | some (.slice (some _) 0 _) => some (.imm .none 0 [])
    | some (.slice (some a) (n + 1) cap) => if a.spot.isNone && decide (n + 1 ≤ cap) then (numsAt w a (n + 1)).map (CVal.imm .none 1) else none
    | _ => none

theorem mapM_get {α β : Type} {f : α → Option β} : ∀ {l : List α} {r : List β}, l.mapM f = some r → r.length = l.length ∧ ∀ (i : Nat) (b : β), r[i]? = some b → ∃ a, l[i]? = some a ∧ f a = some b
  | [], r, h => by
    simp at h; subst h; exact ⟨rfl, fun i b hb => by simp at hb⟩
  | x :: l, r, h => by
    simp only [List.mapM_cons, Option.bind_eq_bind, Option.bind_eq_some_iff] at h
    obtain ⟨b, hb, r', hr, e⟩ := h
    cases e
    obtain ⟨h1, h2⟩ := mapM_get hr
    refine ⟨by simp [h1], fun i c hc => ?_⟩
    cases i with
    | zero => simp at hc; subst hc; exact ⟨x, rfl, hb⟩
    | succ i => simp at hc; obtain ⟨a, ha, hf⟩ := h2 i c hc; exact ⟨a, by simpa using ha, hf⟩
theorem mapM_some {α β : Type} {f : α → Option β} {g : α → β} : ∀ {l : List α}, (∀ a ∈ l, f a = some (g a)) → l.mapM f = some (l.map g)
  | [], _ => rfl
  | x :: l, h => by
    simp only [List.mapM_cons, h x (by simp), mapM_some (l := l) fun a ha => h a (by simp [ha])]
    rfl
theorem fw_le (w : World) : (Gh.of (Fw w)).le (Gh.of (Fw2 w)) :=
  ⟨fun b o c h => by have h : Fw w b o = some c := h; show Fw2 w b o = some c; unfold Fw2; rw [h], fun _ _ h => h, fun _ _ _ h => h, fun _ _ _ h => h⟩
theorem numsAt_ok {w : World} {a : Addr} {n : Nat} {l : List CVal} (h : numsAt w a n = some l) : l.length = n ∧ ∀ (i : Nat) (e : CVal), l[i]? = some e → ∃ k m, e = .int k m ∧ w.cell? ⟨a.block, a.off + i, none⟩ = some (.int k m) := by
  obtain ⟨h1, h2⟩ := mapM_get h
  refine ⟨by simpa using h1, fun i e hi => ?_⟩
  obtain ⟨j, hj, hf⟩ := h2 i e hi
  have hlt := (List.getElem?_eq_some_iff.1 hj).1
  rw [List.getElem?_range (by simpa using hlt)] at hj
  cases hj
  split at hf
  · rename_i k m hc; cases hf; exact ⟨k, m, rfl, hc⟩
  · cases hf
theorem fw_int {w : World} {b o : Nat} {k : IntKind} {m : Int} (h : w.cell? ⟨b, o, none⟩ = some (.int k m)) : Fw2 w b o = some (.int k m) := by
  unfold Fw2 Fw; rw [h]
theorem fw2_holds {w : World} {ab o : Nat} {c : CVal} (h : Fw2 w ab o = some c) : Holds (Gh.of (Fw2 w)) w ab o c := by
  unfold Fw2 at h
  split at h
  · rename_i c' hc
    cases h
    exact (fw_holds hc).mono (fw_le w) fun v hv => hv
  · split at h
    · rename_i hc; cases h; exact ⟨_, hc, .nils⟩
    · rename_i hc; cases h; exact ⟨_, hc, .odd⟩
    · rename_i a n cap hc
      split at h
      · rename_i hb
        simp only [Bool.and_eq_true, decide_eq_true_eq, Option.isNone_iff_eq_none] at hb
        cases hn : numsAt w a (n + 1) with
        | none => rw [hn] at h; cases h
        | some l =>
          rw [hn] at h; cases h
          obtain ⟨h1, h2⟩ := numsAt_ok hn
          have := VR.imm (G := Gh.of (Fw2 w)) (t := .none) (k := 1) (es := l) (a := a) (cap := cap) hb.1 (by decide) (by omega) (fun i e he => by
            obtain ⟨k, m, rfl, hm⟩ := h2 i e he
            refine ⟨rfl, fun j x hx => ?_⟩
            cases j with
            | succ j => simp [CVal.cells] at hx
            | zero =>
              simp [CVal.cells] at hx; subst hx
              refine ⟨rfl, ?_⟩
              show Fw2 w a.block (a.off + i * 1 + 0) = _
              rw [show a.off + i * 1 + 0 = a.off + i by omega]; exact fw_int hm) trivial
          rw [h1] at this
          exact ⟨_, hc, this⟩
      · cases h
    · cases h
theorem begins_w2 {w : World} : Begins w [] (Fw2 w) := ⟨fun ab o c hc => fw2_holds hc, fun g cs h => by cases h⟩

/-- A row of numbers, as the interpreter has it. -/
def RowC (k : IntKind) (c : CVal) (r : List Int) : Prop := (c = .nils ∧ r = []) ∨ (c = .imm .none 0 [] ∧ r = []) ∨ (c = .imm .none 1 (r.map (CVal.int k)) ∧ r ≠ [])
inductive RowsC (k : IntKind) : List CVal → List (List Int) → Prop
  | nil : RowsC k [] []
  | cons {c : CVal} {r : List Int} {cs : List CVal} {rs : List (List Int)} : RowC k c r → RowsC k cs rs → RowsC k (c :: cs) (r :: rs)
theorem RowsC.map {α : Type} {k : IntKind} {f : α → CVal} {g : α → List Int} : ∀ {l : List α}, (∀ a ∈ l, RowC k (f a) (g a)) → RowsC k (l.map f) (l.map g)
  | [], _ => .nil
  | a :: l, h => .cons (h a (by simp)) (RowsC.map fun b hb => h b (by simp [hb]))

def rowCv (k : IntKind) (A : Option Addr) (L : Nat) (Z : List Int) : CVal := match A with
  | none => .nils
  | some _ => if L = 0 then .imm .none 0 [] else .imm .none 1 ((Z.take L).map (CVal.int k))
end CI
variable {H : Type} {enc : TypeId × Value → H}

theorem CI.open_rows {P : Program} {t e q : TypeId} {k : IntKind} (ht : P.underlying t = some (.slice e)) (he : P.underlying e = some (.slice q)) (hq : P.underlying q = some (.int k)) (ce : P.cellsOf e = 1) (cq : P.cellsOf q = 1)
    (hlo : laidOutB P = true) (hrd : P.readableRec t = true) (hrow : t < P.types.size) {w : World} {b0 : Nat} {v : Value} {d : DataW H} {ps : List MemPlace}
    (hval : Value.okWide P w .any b0 t v) (hd : DataW.Trod enc P w 0 (fun _ => true) true t v d ps) :
    ∃ (xs : List (List Int)) (cs : List CI.CVal) (c : CI.CVal), (∀ r ∈ xs, ∀ x ∈ r, (Lit.int k x).wf = true) ∧ CI.RowsC k cs xs ∧ (c = .nils ∧ cs = [] ∨ c = .imm .none 1 cs) ∧ CI.VR (CI.Gh.of (CI.Fw2 w)) c v ∧
      ∀ w', Below w.heap.size w w' → ∀ sp : Nat → Bool, (∀ p ∈ ps, sp p.block = true) → DataW.Trod enc P w' 0 sp true t v d ps := by
  have hd0 := hd
  obtain ⟨fuel, hf⟩ := hd
  have keep : (∀ p ∈ ps, p.block < w.heap.size) → ∀ w', Below w.heap.size w w' → ∀ sp : Nat → Bool, (∀ p ∈ ps, sp p.block = true) → DataW.Trod enc P w' 0 sp true t v d ps := fun hlt w' hB sp hsp =>
    WideElems.Trod_stays hlo hrd hrow hd0 (fun p hp => hB.same (hlt p hp)) hsp
  have hsh : v = .slice none 0 0 ∨ ∃ a len cap, v = .slice (some a) len cap ∧ a.spot = none := by
    unfold Value.okWide at hval
    rw [ht] at hval
    simp only at hval
    unfold Cell.okWide at hval
    rw [ht] at hval
    simp only at hval
    unfold Cell.ok at hval
    rw [ht] at hval
    cases v with
    | slice a len cap =>
      cases a with
      | none =>
        cases len with
        | zero =>
          cases cap with
          | zero => exact .inl rfl
          | succ n => exact hval.elim
        | succ n => exact hval.elim
      | some a => exact .inr ⟨a, len, cap, rfl, hval.2.2.2.1⟩
    | _ => exact hval.elim
  rcases Deep.open_int_rows ht he hq ce cq hf with ⟨hcs, hx⟩ | ⟨a, len, cap, A, L, C, Z, hcs, hb, hl, hm, hx, hr⟩
  · rcases hsh with rfl | ⟨a, len, cap, rfl, _⟩
    · obtain ⟨rfl, rfl⟩ := Prod.mk.inj hx
      exact ⟨[], [], .nils, by simp, .nil, .inl ⟨rfl, rfl⟩, .nils, keep fun p hp => by cases hp⟩
    · simp [Value.cells] at hcs
  · rcases hsh with rfl | ⟨a', len', cap', rfl, hspot⟩
    · simp [Value.cells] at hcs
    · simp [Value.cells] at hcs
      obtain ⟨rfl, rfl, rfl⟩ := hcs
      obtain ⟨rfl, rfl⟩ := Prod.mk.inj hx
      obtain ⟨blk, off, spot⟩ := a'
      simp only at hspot
      subst hspot
      have hspot' : ∀ r, r < cap' → ∀ a', A r = some a' → 0 < C r → a'.spot = none := fun r hr1 a' ha' hc' => by
        have h1 := ((hr r hr1).2.2.2.2.2.2 a' ha').2 0 hc'
        have := World.cell?_spot h1
        exact this
      refine ⟨(List.range len').map fun r => (Z r).take (L r), (List.range len').map fun r => CI.rowCv k (A r) (L r) (Z r), _, ?_, ?_, .inr rfl, ?_, keep ?_⟩
      · intro r hr1 x hx1
        simp only [List.mem_map, List.mem_range] at hr1
        obtain ⟨i, hi, rfl⟩ := hr1
        exact (hr i (by omega)).2.2.2.2.1 x (List.mem_of_mem_take hx1)
      · refine CI.RowsC.map fun r hr1 => ?_
        have hr1 : r < len' := List.mem_range.1 hr1
        obtain ⟨h1, h2, h3, h4, h5, h6, h7⟩ := hr r (by omega)
        unfold CI.RowC CI.rowCv
        cases hA : A r with
        | none =>
          have : L r = 0 := by have := h6 hA; omega
          exact .inl ⟨rfl, by rw [this]; rfl⟩
        | some a' =>
          right
          by_cases h0 : L r = 0
          · rw [h0]; exact .inl ⟨rfl, rfl⟩
          · rw [if_neg h0]
            refine .inr ⟨rfl, fun e => ?_⟩
            have := congrArg List.length e
            rw [List.length_take, List.length_nil] at this; omega
      · have := CI.VR.imm (G := CI.Gh.of (CI.Fw2 w)) (t := .none) (k := 1) (es := (List.range len').map fun r => CI.rowCv k (A r) (L r) (Z r)) (a := ⟨blk, off, none⟩) (cap := cap') rfl (by decide) (by simpa using hl) ?_ trivial
        · simpa using this
        · intro i el hel
          rw [List.getElem?_map] at hel
          cases hq2 : (List.range len')[i]? with
          | none => rw [hq2] at hel; cases hel
          | some j =>
            rw [hq2] at hel
            have hi : i < len' := by have := (List.getElem?_eq_some_iff.1 hq2).1; simpa using this
            rw [List.getElem?_range hi] at hq2
            cases hq2
            cases hel
            obtain ⟨h1, h2, h3, h4, h5, h6, h7⟩ := hr i (by omega)
            have hcs1 : (CI.rowCv k (A i) (L i) (Z i)).cells = [CI.rowCv k (A i) (L i) (Z i)] ∧ (CI.rowCv k (A i) (L i) (Z i)).flat = true := by
              unfold CI.rowCv
              cases A i with
              | none => exact ⟨rfl, rfl⟩
              | some a' => by_cases h0 : L i = 0 <;> simp [h0, CI.CVal.cells, CI.CVal.flat]
            refine ⟨by rw [hcs1.1]; rfl, fun j c hc' => ?_⟩
            rw [hcs1.1] at hc'
            cases j with
            | succ j => simp at hc'
            | zero =>
              simp at hc'
              subst hc'
              refine ⟨hcs1.2, ?_⟩
              show CI.Fw2 w blk (off + i * 1 + 0) = _
              rw [show off + i * 1 + 0 = off + i by omega]
              have h1' : w.cell? ⟨blk, off + i, none⟩ = some (.slice (A i) (L i) (C i)) := by have h9 := h1; rwa [CI.add_eq rfl] at h9
              have hF : CI.Fw w blk (off + i) = none := by unfold CI.Fw; rw [h1']
              unfold CI.Fw2
              rw [hF, h1']
              unfold CI.rowCv
              cases hA : A i with
              | none =>
                have e1 := h6 hA
                have e2 : L i = 0 := by omega
                rw [e1, e2]; rfl
              | some a' =>
                by_cases h0 : L i = 0
                · rw [h0]; rfl
                · obtain ⟨n, hn⟩ : ∃ n, L i = n + 1 := ⟨L i - 1, by omega⟩
                  have hsp := hspot' i (by omega) a' hA (by omega)
                  have hnum : CI.numsAt w a' (n + 1) = some ((List.range (n + 1)).map fun c => CI.CVal.int k ((Z i).getD c 0)) := by
                    refine CI.mapM_some fun c hc => ?_
                    have hc : c < n + 1 := List.mem_range.1 hc
                    have := (h7 a' hA).2 c (by omega)
                    rw [CI.add_eq hsp] at this
                    rw [this]
                  have hz : (List.range (n + 1)).map (fun c => CI.CVal.int k ((Z i).getD c 0)) = ((Z i).take (n + 1)).map (CI.CVal.int k) := by
                    apply List.ext_getElem?
                    intro c
                    rw [List.getElem?_map, List.getElem?_map]
                    by_cases hc : c < n + 1
                    · rw [List.getElem?_range hc, List.getElem?_take, if_pos hc]
                      have : c < (Z i).length := by omega
                      simp [List.getD, List.getElem?_eq_getElem this]
                    · rw [List.getElem?_eq_none (by simp; omega), List.getElem?_take, if_neg hc]; rfl
                  rw [hn]
                  simp only [hsp, Option.isNone_none, Bool.true_and]
                  rw [if_pos (by simp; omega), hnum, hz, if_neg (by omega)]
                  rfl
      · intro p hp
        rcases List.mem_append.1 hp with hp | hp
        · obtain ⟨i, hi, rfl⟩ := MemPlace.mem_row.1 hp
          have h9 := World.block_lt_of_cell? w _ (hr i hi).1
          rw [CI.add_eq rfl] at h9; exact h9
        · obtain ⟨r, hr1, hp⟩ := List.mem_flatMap.1 hp
          have hr1 : r < cap' := List.mem_range.1 hr1
          unfold Deep.intRowPlaces at hp
          cases hA : A r with
          | none => rw [hA] at hp; cases hp
          | some a' =>
            rw [hA] at hp
            obtain ⟨i, hi, rfl⟩ := MemPlace.mem_row.1 hp
            have h4 := (hr r hr1).2.2.2.1
            have h9 := World.block_lt_of_cell? w _ (((hr r hr1).2.2.2.2.2.2 a' hA).2 i (by omega))
            rw [CI.add_eq (hspot' r hr1 a' hA (by omega))] at h9; exact h9
end Go

namespace Go.CI
@[simp, reducible] def COper.v (j : Nat) : COper := ⟨.mv (.var j), none⟩
@[simp, reducible] def COper.m (x : COpnd) : COper := ⟨.mv x, none⟩
@[simp, reducible] def COper.n (j : Nat) : COper := ⟨.nilck (.loc j), none⟩
@[simp, reducible] def COper.f (o j : Nat) : COper := ⟨.fieldAddr o (.loc j), none⟩
@[simp, reducible] def COper.l (j : Nat) : COper := ⟨.load none (.loc j), none⟩
@[simp, reducible] def COper.g (o : COp) : COper := ⟨o, none⟩
@[simp, reducible] def COpnd.k (n : Int) : COpnd := .const (.int .i64 n)
@[simp, reducible] def COpnd.u (n : Int) : COpnd := .const (.int .u8 n)
@[simp, reducible] def COpnd.b (x : Bool) : COpnd := .const (.bool x)
@[simp, reducible] def COper.q (o : COp) (k : Nat) (b : Bool) : COper := ⟨o, some (k, b)⟩
@[simp, reducible] def COper.h (o : BinOp) (a b : Nat) : COper := ⟨.bin o (.loc a) (.loc b), none⟩
@[simp, reducible] def COper.x (o : BinOp) (a : Nat) (b : COpnd) : COper := ⟨.bin o (.loc a) b, none⟩
end Go.CI
