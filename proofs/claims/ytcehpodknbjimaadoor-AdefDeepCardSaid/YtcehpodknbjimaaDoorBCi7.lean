/- A deterministic interpreter over values, proved sound against the model's rules (part 7 of 7): what a run of it gives, a call in the model gives. -/
import Derived.Test.YtcehpodknbjimaaDoorBCi6
import Derived.Shelf.Strings.Search2
import Derived.Handed
import Derived.SizedLaws
import Derived.Shelf.Vars
import Derived.Stop.LaidErr
import Derived.Shelf.Strconv.Clone
set_option linter.unusedVariables false
set_option linter.unusedSimpArgs false

/- strings.Builder.String as a function of the interpreter's own: it is the model's. -/
set_option linter.unusedVariables false
set_option linter.unusedSimpArgs false
namespace Go.CI
open Go.Shelf Go.RowKit Go.Lib Go.Proofs

section
variable {P : Program} {base : Base} {G : Gh} {h : CHeap} {w : World} {ρ : Ren}

theorem freeze_heap {ab o n : Nat} {c : Array Value} {T lo hi : Nat} (hn : n ≠ 0) (hb : w.heap[ab]? = some (.cells c T (lo, hi))) (a : Nat) :
    (w.freeze ⟨ab, o, none⟩ n).heap[a]? = if a = ab then some (.cells c T (if lo == hi then (o, o + n) else (min lo o, max hi (o + n)))) else w.heap[a]? := by
  unfold World.freeze
  rw [if_neg hn]
  simp only [Array.getElem?_modify]
  by_cases h1 : ab = a
  · subst h1
    rw [if_pos rfl, if_pos rfl, hb]; rfl
  · rw [if_neg h1, if_neg (fun e => h1 e.symm)]

theorem nth_none {l : List CVal} {i : Nat} (h : l.length ≤ i) : nth l i = .undef := by rw [nth_eq, List.getElem?_eq_none h]; rfl

theorem byteVals_eq : ∀ {es : List CVal} {l : List UInt8}, byteVals es = some l → es = l.map (fun x => CVal.int .u8 x.toNat)
  | [], l, h => by simp only [byteVals] at h; cases h; rfl
  | e :: es, l, h => by
    cases e <;> try (simp [byteVals] at h; done)
    rename_i k n
    cases k <;> simp only [byteVals] at h <;> first | (cases h; done) | skip
    split at h
    · rename_i hn
      simp only [Bool.and_eq_true, decide_eq_true_eq] at hn
      obtain ⟨l', hl, rfl⟩ := Option.map_eq_some_iff.1 h
      rw [byteVals_eq hl]
      simp only [List.map_cons, List.cons.injEq, and_true, CVal.int.injEq, true_and]
      rw [UInt8.toNat_ofNat']
      omega
    · cases h

theorem freeze_size (a : Addr) (n : Nat) : (w.freeze a n).heap.size = w.heap.size := by
  unfold World.freeze
  split <;> simp

set_option maxHeartbeats 1000000 in
/-- A row is written no more. -/
theorem post_rowfreeze (I : Inv base G h w) {b ver ab ao k cap T o n : Nat} {es : List CVal} {q0 : CObj} (hb : h.get b = some q0) (hq0 : q0 = .row ver es ∨ q0 = .frow ver es) (ht : h.ty b = some T) (hr : G.rw b ver = some (ab, ao, k, cap)) (hn : n ≠ 0)
    (hsz : ∀ N, w.shape? ab = some (T, N) → o + n ≤ N) :
    Post base (fun _ => False) G h w G (h.set b (.frow ver es)) (w.drew.freeze ⟨ab, o, none⟩ n) := by
  obtain ⟨own, I⟩ := I
  obtain ⟨hRow, hsole⟩ := I.tys b T ht ver _ hr
  obtain ⟨c, lo, hi, hheap, hlh, hhc⟩ := hRow
  obtain ⟨hbn, hvmax, hab, hcap, hown, hel⟩ : b < h.next ∧ (∀ v x, G.rw b v = some x → v ≤ ver) ∧ base ≤ ab ∧ es.length ≤ cap ∧ (∀ i, i < cap * k → own ab (ao + i) = some (.r b)) ∧
      ∀ (i : Nat) (e : CVal), es[i]? = some e → e.cells.length = k ∧ ∀ (j : Nat) (c : CVal), e.cells[j]? = some c → c.flat = true ∧ Holds G w ab (ao + i * k + j) c := by
    obtain ⟨x1, x2⟩ := I.ents b _ hb
    rcases hq0 with rfl | rfl
    · obtain ⟨x3, x4⟩ := x2
      obtain ⟨y1, y2, y3, y4⟩ := x4 ab ao k cap hr
      exact ⟨x1, x3, y1, y2, fun i hi => (y3 i hi).1, y4⟩
    · obtain ⟨x3, x4⟩ := x2
      obtain ⟨y1, y2, y3, y4⟩ := x4 ab ao k cap hr
      exact ⟨x1, x3, y1, y2, fun i hi => (y3 i hi).1, y4⟩
  have hsz' : o + n ≤ c.size := hsz c.size (by unfold World.shape?; rw [hheap])
  have hH := fun a => freeze_heap (w := w.drew) (o := o) hn (show w.drew.heap[ab]? = _ from hheap) a
  have hHo : ∀ a, a ≠ ab → (w.drew.freeze ⟨ab, o, none⟩ n).heap[a]? = w.heap[a]? := fun a ha => by rw [hH, if_neg ha]; rfl
  have hHs := hH ab
  rw [if_pos rfl] at hHs
  have hcell : ∀ a i, (w.drew.freeze ⟨ab, o, none⟩ n).cell? ⟨a, i, none⟩ = w.cell? ⟨a, i, none⟩ := fun a i => by
    by_cases ha : a = ab
    · subst ha
      unfold World.cell?
      simp only [hHs, hheap]
    · unfold World.cell?
      simp only [hHo a ha]
  have hfr : ∀ a i, a ≠ ab → (w.drew.freeze ⟨ab, o, none⟩ n).frozen? ⟨a, i, none⟩ = w.frozen? ⟨a, i, none⟩ := fun a i ha => by
    unfold World.frozen?
    simp only [hHo a ha]
  have hsize : (w.drew.freeze ⟨ab, o, none⟩ n).heap.size = w.heap.size := freeze_size _ _
  have hshape : ∀ a, (w.drew.freeze ⟨ab, o, none⟩ n).shape? a = w.shape? a := fun a => by
    by_cases ha : a = ab
    · subst ha
      unfold World.shape?
      simp only [hHs, hheap]
    · unfold World.shape?
      simp only [hHo a ha]
  have hmap : ∀ (a : Nat) (es : Array MapEntry) (ck : Nat), w.heap[a]? = some (Obj.map es ck) → (w.drew.freeze ⟨ab, o, none⟩ n).heap[a]? = some (Obj.map es ck) := fun a es ck hm => by
    by_cases ha : a = ab
    · rw [ha, hheap] at hm; cases hm
    · rw [hHo a ha]; exact hm
  have hends : (if lo == hi then (o, o + n) else (min lo o, max hi (o + n))).1 ≤ (if lo == hi then (o, o + n) else (min lo o, max hi (o + n))).2 ∧ (if lo == hi then (o, o + n) else (min lo o, max hi (o + n))).2 ≤ c.size := by
    split
    · exact ⟨by show o ≤ o + n; omega, hsz'⟩
    · refine ⟨?_, ?_⟩
      · show min lo o ≤ max hi (o + n); omega
      · show max hi (o + n) ≤ c.size; omega
  have hrb : ∀ a T, RowB w a T → RowB (w.drew.freeze ⟨ab, o, none⟩ n) a T := fun a T' hr' => by
    obtain ⟨c', lo', hi', h1, h2, h3⟩ := hr'
    by_cases ha : a = ab
    · rw [ha, hheap] at h1
      have e := Option.some.inj h1
      injection e with _ e2 _
      rw [← e2, ha]
      exact ⟨c, _, _, hHs, hends.1, hends.2⟩
    · exact ⟨c', lo', hi', by rw [hHo a ha]; exact h1, h2, h3⟩
  have hclean : ∀ a, Clean w a → Clean (w.drew.freeze ⟨ab, o, none⟩ n) a := fun a hc => by
    refine ⟨by rw [hsize]; exact hc.1, fun T' N hs => ?_⟩
    rw [hshape] at hs
    by_cases ha : a = ab
    · subst ha
      unfold World.shape? at hs
      rw [hheap] at hs
      cases hs
      unfold World.frozen?
      simp only [hHs]
      have := hends.2
      simp only [Bool.and_eq_false_iff, decide_eq_false_iff_not]
      right
      omega
    · rw [hfr a _ ha]; exact hc.2 T' N hs
  have hh : ∀ a i x, Holds G w a i x → Holds G (w.drew.freeze ⟨ab, o, none⟩ n) a i x := fun a i x ⟨v, h1, h2⟩ => ⟨v, by rw [hcell]; exact h1, h2⟩
  have hlive : ∀ a i y, own a i = some y → y ≠ .r b → Live w a i → Live (w.drew.freeze ⟨ab, o, none⟩ n) a i := fun a i y hy hne hl => by
    have ha : a ≠ ab := fun e => by subst e; exact hne (hsole i y hy)
    exact ⟨by obtain ⟨v, hv⟩ := hl.1; exact ⟨v, by rw [hcell]; exact hv⟩, by rw [hfr a i ha]; exact hl.2⟩
  have hbel : Below base w (w.drew.freeze ⟨ab, o, none⟩ n) := Go.Lib.below_freeze (Below.refl base w).drew hab n
  refine ⟨.refl G, ⟨own, ?_⟩, hbel, Nat.le_refl _, fun i _ _ hf => ⟨hf.1, hf.2.1, hf.2.2.1, ?_⟩⟩
  · exact {
      fzs := fun ab o c hf => ⟨(I.fzs ab o c hf).1, hh _ _ _ (I.fzs ab o c hf).2⟩
      mus := fun b' a k' hm => by
        obtain ⟨h1, h2, h3, h4⟩ := I.mus b' a k' hm
        refine ⟨h1, h2, fun i hi => ⟨(h3 i hi).1, hlive _ _ _ (h3 i hi).1 (by simp) (h3 i hi).2⟩, fun hk => ⟨(h4.1 hk).1, ?_⟩, fun hk => by rw [hshape]; exact h4.2 hk⟩
        obtain ⟨es, ck, h5⟩ := (h4.1 hk).2
        exact ⟨es, ck, hmap _ _ _ h5⟩
      rws := I.rws
      tks := I.tks
      ents := fun b' q hq => by
        by_cases hbb : b' = b
        · subst hbb
          rw [get_set_self hb] at hq
          cases hq
          refine ⟨hbn, hvmax, fun ab2 ao2 k2 cap2 hr2 => ?_⟩
          rw [hr] at hr2
          obtain ⟨rfl, rfl, rfl, rfl⟩ : ab = ab2 ∧ ao = ao2 ∧ k = k2 ∧ cap = cap2 := by simpa using hr2
          refine ⟨hab, hcap, fun i hi => ⟨hown i hi, ?_⟩, fun i e hie => ⟨(hel i e hie).1, fun j x hj => ⟨((hel i e hie).2 j x hj).1, hh _ _ _ ((hel i e hie).2 j x hj).2⟩⟩⟩
          rw [hsize]
          exact I.old _ _ _ (hown i hi)
        · rw [get_set_other hbb] at hq
          obtain ⟨h1, h2⟩ := I.ents b' q hq
          refine ⟨h1, ?_⟩
          cases q with
          | cells cs => exact fun ab k hm => ⟨(h2 ab k hm).1, fun i c hi => ⟨((h2 ab k hm).2 i c hi).1, hh _ _ _ ((h2 ab k hm).2 i c hi).2⟩⟩
          | row ver es => exact ⟨h2.1, fun ab ao k cap hr => let ⟨x1, x2, x3, x4⟩ := h2.2 ab ao k cap hr; ⟨x1, x2, fun i hi => ⟨(x3 i hi).1, hlive _ _ _ (x3 i hi).1 (by simpa using hbb) (x3 i hi).2⟩, fun i e hie => ⟨(x4 i e hie).1, fun j c hj => ⟨((x4 i e hie).2 j c hj).1, hh _ _ _ ((x4 i e hie).2 j c hj).2⟩⟩⟩⟩
          | frow ver es => exact ⟨h2.1, fun ab ao k cap hr => let ⟨x1, x2, x3, x4⟩ := h2.2 ab ao k cap hr; ⟨x1, x2, fun i hi => ⟨(x3 i hi).1, by rw [hsize]; exact (x3 i hi).2⟩, fun i e hie => ⟨(x4 i e hie).1, fun j c hj => ⟨((x4 i e hie).2 j c hj).1, hh _ _ _ ((x4 i e hie).2 j c hj).2⟩⟩⟩⟩
          | tok ver => exact ⟨h2.1, fun ab e k room ht => ⟨(h2.2 ab e k room ht).1, fun i hi => ⟨((h2.2 ab e k room ht).2 i hi).1, hlive _ _ _ ((h2.2 ab e k room ht).2 i hi).1 (by simp) ((h2.2 ab e k room ht).2 i hi).2⟩⟩⟩
          | map ck kvs => exact fun ab hm => let ⟨es, h3, h4⟩ := h2 ab hm; ⟨es, hmap _ _ _ h3, h4⟩
      old := fun ab o x hx => by rw [hsize]; exact I.old ab o x hx
      top := by rw [hsize]; exact I.top
      nod := nodup_set h b _ I.nod
      cln := fun b v x hx => hclean _ (I.cln b v x hx)
      gls := I.gls
      tyk := I.tyk
      tys := fun b T ht v x hx => ⟨hrb _ _ (I.tys b T ht v x hx).1, (I.tys b T ht v x hx).2⟩ }
  · have h0 := hf.2.2.2
    have : i ≠ b := fun e => by subst e; rw [hb] at h0; cases h0
    rw [get_set_other this]; exact h0

theorem rowOf_some {q : Option CObj} {v : Nat} {es : List CVal} (h : rowOf q = some (v, es)) : ∃ q0, q = some q0 ∧ (q0 = .row v es ∨ q0 = .frow v es) := by
  unfold rowOf at h
  split at h
  · cases h; exact ⟨_, rfl, .inl rfl⟩
  · cases h; exact ⟨_, rfl, .inr rfl⟩
  · cases h

set_option maxHeartbeats 1000000 in
theorem sim_bString (L : Lays.n169 P ρ) (X : Builder.Extra P ρ) (hname : ((Body.n169 ρ).name == "runtime.NumGoroutine") = false) : SimPrim P base (ρ.f 169) (pBString (ρ.t 5)) := by
  intro G h w xs us v h' hp I hr
  unfold pBString at hp
  split at hp
  · rename_i b d o
    obtain ⟨X0, rfl, hX⟩ := vrs_one hr
    split at hp
    · rename_i cs hg
      cases hX with
      | ptr hm =>
        rename_i ab
        have I0 := I
        obtain ⟨own, Io⟩ := I0
        have hent : (callFunc (ρ.f 169) ⟨[.pointer (some ⟨ab, o, none⟩)]⟩).run P w = .ok (.enter (ρ.f 169) ⟨[.pointer (some ⟨ab, o, none⟩)]⟩) w :=
          run_enter (c := ((Body.n169 ρ).body).getD .skip) L.f169 hname (by rfl) _ w
        obtain ⟨hl, hcel⟩ := (Io.ents b _ hg).2 ab d hm
        split at hp
        · rename_i hnil
          cases hp
          have hcl : o + 1 < cs.length := by
            rcases Nat.lt_or_ge (o + 1) cs.length with h1 | h1
            · exact h1
            · exfalso; rw [nth_none h1] at hnil; cases hnil
          obtain ⟨hfl, z, hz, hzr⟩ := hcel (o + 1) _ (getElem?_nth hcl)
          rw [hnil] at hzr
          cases hzr
          refine .inr ⟨_, _, hent, ?_⟩
          refine (bs_nil L X ab o w hz).mono fun e w' ⟨he, hw'⟩ => ⟨_, he, ?_⟩
          subst hw'
          exact ⟨G, vr_strOf rfl, ⟨.refl G, I.drew, (Below.refl _ _).drew, Nat.le_refl _, fun _ _ _ hf => hf⟩⟩
        · rename_i r ver off len href
          have hcl : o + 1 < cs.length := by
            rcases Nat.lt_or_ge (o + 1) cs.length with h1 | h1
            · exact h1
            · exfalso; rw [nth_none h1] at href; cases href
          obtain ⟨hfl, z, hz, hzr⟩ := hcel (o + 1) _ (getElem?_nth hcl)
          rw [href] at hzr
          split at hp
          · rename_i v0 es hrow0
            obtain ⟨q0, hrow, hq0⟩ := rowOf_some hrow0
            split at hp
            · rename_i hc
              simp only [Bool.and_eq_true, beq_iff_eq, decide_eq_true_eq] at hc
              obtain ⟨rfl, hle, hlen, hmost, hty⟩ := hc
              obtain ⟨l, hl1, hl2⟩ := Option.map_eq_some_iff.1 hp
              cases hl2
              have hes := byteVals_eq hl1
              cases hzr with
              | ref hrw hk hlc hsp ha =>
                rename_i ab1 ao1 cap1 a1
                have hlcut := length_cut off (off + len) es hle
                have hnl : l.length = len := by
                  have := congrArg List.length hes
                  simp at this; omega
                rcases ha with ha | rfl
                · omega
                have hel1 : ∀ (i : Nat) (e : CVal), es[i]? = some e → e.cells.length = 1 ∧ ∀ (j : Nat) (c : CVal), e.cells[j]? = some c → c.flat = true ∧ Holds G w ab1 (ao1 + i * 1 + j) c := by
                  have x2 := (Io.ents r _ hrow).2
                  rcases hq0 with rfl | rfl
                  · exact (x2.2 ab1 ao1 1 cap1 hrw).2.2.2
                  · exact (x2.2 ab1 ao1 1 cap1 hrw).2.2.2
                obtain ⟨hRow, _⟩ := Io.tys r _ hty _ _ hrw
                obtain ⟨c, lo, hi, hheap, hlh, hhc⟩ := hRow
                have hshape : w.shape? ab1 = some (ρ.t 5, c.size) := by unfold World.shape?; rw [hheap]
                have hcv : ∀ j x, l[j]? = some x → w.cell? ((⟨ab1, ao1 + off * 1, none⟩ : Addr).add j) = some (.int .u8 x.toNat) := fun j x hj => by
                  have h1 : (cut off (off + len) es)[j]? = some (.int .u8 x.toNat) := by rw [hes, List.getElem?_map, hj]; rfl
                  have hjl : j < len := by have := (List.getElem?_eq_some_iff.1 hj).1; omega
                  have h2 : es[off + j]? = some (.int .u8 x.toNat) := by
                    unfold cut at h1
                    rw [List.getElem?_drop, List.getElem?_take_of_lt (by omega)] at h1
                    exact h1
                  obtain ⟨_, u, hu, hr⟩ := (hel1 _ _ h2).2 0 _ rfl
                  cases hr
                  rw [add_eq rfl]
                  rw [show ao1 + (off + j) * 1 + 0 = ao1 + off * 1 + j by omega] at hu
                  exact hu
                have hfit : ao1 + off * 1 + len ≤ c.size := by
                  have hlast : len - 1 < l.length := by omega
                  have := hcv (len - 1) _ (List.getElem?_eq_getElem hlast)
                  rw [add_eq rfl] at this
                  unfold World.cell? at this
                  simp only [hheap] at this
                  have := (Array.getElem?_eq_some_iff.1 this).1
                  omega
                have hl0 : l ≠ [] := fun e => by subst e; simp at hnl; omega
                have hmost' : len ≤ 1073741824 := hmost
                refine .inr ⟨_, _, hent, ?_⟩
                refine (bs_row L X ab o ab1 (ao1 + off * 1) (cap1 - off) c.size l w (by rw [hnl]; exact hz) hl0 (by omega) hshape (by omega) (by omega) hcv).mono fun e w' ⟨he, hw'⟩ => ⟨_, he, ?_⟩
                subst hw'
                exact ⟨G, vr_strOf rfl, post_rowfreeze I hrow hq0 hty hrw (by omega) fun N hN => by rw [hshape] at hN; cases hN; omega⟩
            · cases hp
          · cases hp
        · cases hp
    · cases hp
  · cases hp
end
end Go.CI

/- bytealg.MakeNoZero as a function of the interpreter's own. -/
set_option linter.unusedVariables false
set_option linter.unusedSimpArgs false
namespace Go.CI
open Go.Shelf Go.RowKit Go.Lib Go.Proofs

section
variable {P : Program} {base : Base}

theorem sim_makeNoZero {f t e : Nat} (ht : P.underlying t = some (.slice e)) {ps : Array TypeId} (X : ExtOk P f (Extern.BytealgMakeNoZero.makeNoZero ps #[t])) : SimPrim P base f (pMakeNoZero e) := by
  intro G h w xs us v h' hp I hr
  unfold pMakeNoZero at hp
  split at hp
  · rename_i n
    split at hp
    · rename_i hn
      simp only [Bool.and_eq_true, decide_eq_true_eq] at hn
      have hm : (sizeMost : Int) = 1073741824 := rfl
      cases hp
      obtain ⟨x, rfl, hx⟩ := vrs_one hr
      have := vr_int (c := .nilp) hx
      subst this
      obtain ⟨cs, hrun, hle, _⟩ := Lib.run_makeNoZero (P := P) w ps t e ht n.toNat (by omega)
      rw [Int.toNat_of_nonneg hn.1] at hrun
      obtain ⟨fm, h1, h2, h3, h4, h5⟩ := X.fn
      have I2 := (I.bump 1).drew.drew
      have hf : Fresh G { h with next := h.next + 1 } h.next := I.freshAt (Nat.le_refl _) 1
      have hpost := post_new_row (T := e) (lo := 0) (hi := 0) (b := h.next) (ver := 0) (k := 1) (cap := cs.size) (es := []) (arr := cs) (h' := (({ h with next := h.next + 1 } : CHeap).put h.next (.row 0 [])).note h.next (e + 1)) I2 (Nat.le_refl _) (Nat.lt_succ_self _) (fresh_lt hf).1
        (fun _ he => by simp at he) (fun _ he => by simp at he) (Nat.zero_le _) (by omega) (fun i c hi => by simp [flatC] at hi)
        (by rw [note_get]; exact put_self _ _ _) (fun b' hne => by rw [note_get]; exact put_other hne) (by rw [note_next]; rfl) (by rw [note_ents]; obtain ⟨_, I⟩ := I; exact nodup_put I.nod hf.2.2.2) ⟨Nat.le_refl _, Nat.zero_le _⟩ (new_ty (I.bump 1) hf (.inr rfl)) new_tyo
      refine .inl ⟨.slice (some ⟨w.heap.size, 0, none⟩) n.toNat cs.size, _, by rw [run_callFunc_extern h1 h2 h3 h4 h5, hrun]; rfl, G.withRw h.next 0 (w.heap.size, 0, 1, cs.size), vr_row0 (by omega) hle, ?_⟩
      have hp2 := hpost.drewL.drewL
      exact ⟨hp2.le, hp2.inv, hp2.below, by have := hp2.next; show h.next ≤ _; exact Nat.le_trans (Nat.le_succ _) this, fun i hi _ hfr => hp2.fresh i (Nat.lt_succ_of_lt hi) (by omega) ⟨hfr.1, hfr.2.1, hfr.2.2.1, hfr.2.2.2⟩⟩
    · cases hp
  · cases hp
end
end Go.CI

/- Calls that have been run already: each is a theorem of its own, that may lean on earlier ones. -/
set_option linter.unusedVariables false
namespace Go.CI
open Go.RowKit

/-- A run's end, held against what is said of it. -/
noncomputable def Fact.ends (x : Fact) (r : Option (CVal × CHeap)) : Bool :=
  @Option.rec.{1, 0} (CVal × CHeap) (fun _ => Bool) false (fun p => bF (Nat.beq x.h'.next p.2.next) Bool (andF (x.v.beq p.1) (andF (entsBeq x.h'.ents p.2.ents) (natsBeq x.h'.tys p.2.tys))) false) r

theorem Fact.ends_eq {x : Fact} {r : Option (CVal × CHeap)} (h : x.ends r = true) : r = some (x.v, x.h') := by
  cases r with
  | none => cases h
  | some p =>
    obtain ⟨v, h1⟩ := p
    have h : bF (Nat.beq x.h'.next h1.next) Bool (andF (x.v.beq v) (andF (entsBeq x.h'.ents h1.ents) (natsBeq x.h'.tys h1.tys))) false = true := h
    rw [bF_eq, andF_eq, andF_eq] at h
    by_cases h2 : Nat.beq x.h'.next h1.next = true
    · rw [if_pos h2] at h
      simp only [Bool.and_eq_true] at h
      have e1 := beq_sound _ _ h.1
      have e2 := entsBeq_sound _ _ h.2.1
      have e3 := natsBeq_sound _ _ h.2.2
      have e4 := Nat.eq_of_beq_eq_true h2
      obtain ⟨f', a', h', v', ⟨e, n, t⟩⟩ := x
      obtain ⟨e', n', t'⟩ := h1
      simp only at e1 e2 e3 e4
      rw [e1, e2, e3, e4]
    · rw [if_neg h2] at h; cases h

section
variable {P : Program} {base : Base}

/-- The call gives in the model what is said. -/
def FactOk (P : Program) (base : Base) (x : Fact) : Prop :=
  ∀ (G : Gh) (w : World) (vs : List Value), Inv base G x.h w → VRs G x.args vs → Entr P (callFunc x.f ⟨vs⟩) w (CallPost base G x.h w x.v x.h')

theorem FactOk.of {H : Hints} {T : Nat → Option CFn} {x : Fact} (n : Nat) (hmixed : P.follows .mixedOrders = true) (hT : TOk P H base T) (hglob : GlobsIn H.globals base.gl) (h : x.ends (callFF T (execF T n) x.f x.args x.h) = true) : FactOk P base x := by
  intro G w vs I hr
  have h1 := Fact.ends_eq h
  rw [callFF_eq, execF_eq] at h1
  exact callFn_sim hT hglob (exec_sim hmixed hT hglob n) G x.h w x.f x.args vs x.v x.h' h1 I hr

theorem findFact_fact : ∀ (l : List Fact), (∀ x ∈ l, FactOk P base x) → ∀ (f : Nat) (args : List CVal) (h : CHeap) (v : CVal) (h' : CHeap), findFact l f args h = some (v, h') → FactOk P base ⟨f, args, h, v, h'⟩
  | [], _, f, args, h, v, h', hr => by cases hr
  | x :: l, hl, f, args, h, v, h', hr => by
    have hr : bF (x.fits f args h) (Option (CVal × CHeap)) (some (x.v, x.h')) (findFact l f args h) = some (v, h') := hr
    rw [bF_eq] at hr
    split at hr
    · rename_i hf
      obtain ⟨h1, h2, h3⟩ := Fact.fits_eq hf
      cases hr
      have := hl x (by simp)
      obtain ⟨f0, a0, h0, v0, h0'⟩ := x
      simp only at h1 h2 h3
      subst h1 h2 h3
      exact this
    · exact findFact_fact l (fun y hy => hl y (by simp [hy])) f args h v h' hr

theorem TOk.facts {H : Hints} {T : Nat → Option CFn} {n : Nat} {fs : List Nat} {l : List Fact} (hmixed : P.follows .mixedOrders = true) (hT : TOk P H base T) (hglob : GlobsIn H.globals base.gl) (hl : ∀ x ∈ l, FactOk P base x) : TOk P H base (Go.CI.memo T n fs l) := by
  have key : ∀ f, memF fs f = true → Go.CI.memo T n fs l f = some (.prim fun args h => @Option.rec.{1, 0} (CVal × CHeap) (fun _ => Option (CVal × CHeap)) (callFF T (execF T n) f args h) (fun r => some r) (findFact l f args h)) := fun f hf => by
    unfold Go.CI.memo; rw [bF_eq, if_pos hf]
  have key2 : ∀ f, memF fs f = false → Go.CI.memo T n fs l f = T f := fun f hf => by
    unfold Go.CI.memo; rw [bF_eq, if_neg (by rw [hf]; simp)]
  refine ⟨fun f fn hf => ?_, fun f p hf => ?_⟩
  · cases hm : memF fs f with
    | true => rw [key f hm] at hf; cases hf
    | false => rw [key2 f hm] at hf; exact hT.ir f fn hf
  · cases hm : memF fs f with
    | false => rw [key2 f hm] at hf; exact hT.prim f p hf
    | true =>
      rw [key f hm] at hf
      cases hf
      intro G h w xs vs v h' hp I hr
      have hp : (@Option.rec.{1, 0} (CVal × CHeap) (fun _ => Option (CVal × CHeap)) (callFF T (execF T n) f xs h) (fun r => some r) (findFact l f xs h)) = some (v, h') := hp
      cases hq : findFact l f xs h with
      | none =>
        rw [hq] at hp
        have hp : callFF T (execF T n) f xs h = some (v, h') := hp
        rw [callFF_eq, execF_eq] at hp
        exact callFn_sim hT hglob (exec_sim hmixed hT hglob n) G h w f xs vs v h' hp I hr
      | some r =>
        rw [hq] at hp
        have hp : some r = some (v, h') := hp
        cases hp
        exact findFact_fact l hl f xs h v h' hq G w vs I hr

theorem TOk.getF {H : Hints} {t : CTree} (h : TOk P H base t.get) : TOk P H base t.getF := by
  have e : t.getF = t.get := funext fun f => t.getF_eq f
  rw [e]; exact h

theorem crun_of {T : Nat → Option CFn} {n f : Nat} {args : List CVal} {p : Option (CVal × CHeap) → Bool} (h : p (crunF T n f args noHeap) = true) : p (crun T n f args noHeap) = true := by
  rw [crunF_eq] at h; exact h
end
end Go.CI

/- strings.Index, as the library has it, is the interpreter's. -/
set_option linter.unusedVariables false
namespace Go.CI
open Go.Shelf Go.RowKit Go.Lib Go.Proofs

theorem hasFront_eq : ∀ (s p : List UInt8), hasFront s p = p.isPrefixOf s
  | s, [] => by cases s <;> rfl
  | [], _ :: _ => rfl
  | a :: x, b :: y => by
    show (a == b && hasFront x y) = (b == a && y.isPrefixOf x)
    rw [hasFront_eq x y, Bool.beq_comm (a := a)]

theorem idxSub_eq (p : List UInt8) : ∀ (s : List UInt8) (i : Nat), idxSub p s i = if Lib.index s p = -1 then -1 else Lib.index s p + i
  | [], i => by
    cases p with
    | nil => simp [idxSub, Lib.index]
    | cons b q => simp [idxSub, Lib.index]
  | a :: r, i => by
    unfold idxSub Lib.index
    rw [hasFront_eq]
    cases hp : p.isPrefixOf (a :: r) with
    | true => simp
    | false =>
      simp only [cond_false, Bool.false_eq_true, if_false]
      rw [idxSub_eq p r (i + 1)]
      have := Lib.index_ge r p
      by_cases h : Lib.index r p = -1
      · simp [h]
      · have h1 : (Lib.index r p == -1) = false := by simpa using h
        rw [if_neg h, h1]
        simp only [Bool.false_eq_true, if_false]
        rw [if_neg (by omega)]
        push_cast
        omega

theorem idxSub_zero (p s : List UInt8) : idxSub p s 0 = Lib.index s p := by
  rw [idxSub_eq]
  split
  · rename_i h; exact h.symm
  · simp

section
variable {P : Program} {base : Base} {ρ : Ren}

theorem sim_index (L : Lays.n219 P ρ) (hname : ((Body.n219 ρ).name == "runtime.NumGoroutine") = false) {m : Int} (hm : lookupG base.gl (ρ.g 1) = some [.int .i64 m]) : SimPrim P base (ρ.f 219) pIndex := by
  intro G h w xs vs v h' hp I hr
  unfold pIndex at hp
  split at hp
  · rename_i s p
    split at hp
    · rename_i hlen
      cases hp
      obtain ⟨x, y, rfl, hx, hy⟩ := vrs_two hr
      obtain ⟨t, rfl, ht⟩ := vr_str hx
      obtain ⟨u, rfl, hu⟩ := vr_str hy
      have I0 := I
      obtain ⟨own, Io⟩ := I0
      obtain ⟨_, hf⟩ := Io.gls _ _ hm 0 _ rfl
      obtain ⟨_, z, hz, hzr⟩ := Io.fzs _ _ _ hf
      cases hzr
      have hent : (callFunc (ρ.f 219) ⟨[.string t, .string u]⟩).run P w = .ok (.enter (ρ.f 219) ⟨[.string t, .string u]⟩) w :=
        run_enter (c := ((Body.n219 ρ).body).getD .skip) L.f219 hname (by rfl) _ w
      refine .inr ⟨_, _, hent, ?_⟩
      have hsz : t.size < 4294967281 := by
        have h1 : s.length < 4294967281 := by simpa using hlen
        have h2 := congrArg List.length ht
        simp at h2
        have h3 : t.size = t.data.size := rfl
        omega
      refine (Any.stringslite_Index L t u m w hsz hz).mono fun e w' ⟨he, hw⟩ => ⟨_, he, ?_⟩
      subst hw
      refine ⟨G, ?_, .refl I⟩
      rw [idxSub_zero, ← ht, ← hu]
      exact .int _ _
    · cases hp
  · cases hp
end
end Go.CI

/- What a law's row gives at the start: cells that are known, and the shape of the world. -/
set_option linter.unusedVariables false
namespace Go
open Go.RowKit
variable {H : Type} {enc : TypeId × Value → H}

/-- A law's row from its call's contract; what is listed and the world's shape are at hand. -/
theorem CI.returnsInHanded_laid {a : Assume} {C : Checked} {os : Os} {f : FuncId} {fn : Func} {s : ChangeSpec} {conds : List PathCond} {apart fresh handsOn again : Bool} {X : World → Array Value → Prop}
    (hX : ∀ (w w' : World) (args : Array Value), w.heap = w'.heap → X w args → X w' args)
    (own : ownKnob C.prog.godebug = none) (started : os.Started) (noInit : C.prog.inits.idxOf? f = none) (hfn : C.prog.funcs[f]? = some fn)
    (witness : ∃ (w : World) (tape : Tape) (i : Input), w.os = os ∧ (w.forCall tape i).Shaped C.prog ∧ i.vars = [] ∧ Input.okWide C.prog (w.forCall tape i) .any w.heap.size f i ∧
      ((s.pre enc C.prog fn conds apart (w.forCall tape i).memory i.args ∧ X (w.forCall tape i).memory i.args) ∧ sizedMet enc C.prog fn (OpenSpec.ofChange s) apart (w.forCall tape i).memory i.args) ∧ a.holds C.prog (lone (Frame.enter C.prog f i.args .normal) [] (w.forCall tape i)))
    (contract : ∀ (W : World) (base : Nat) (args : Array Value) (ds gs : List (DataW H)) (before : List MemPlace),
      (∀ (j : Nat) t v, fn.params[j]? = some t → args[j]? = some v → Value.okWide C.prog W .any base t v) →
      DataW.Whole enc C.prog fn.params.toList s.vars apart W args.toList ds gs before →
      X W args → W.ShapedOpen C.prog →
      Calls C.prog f args W fun e W' => ∃ v, e = .returned v ∧ s.post enc C.prog fn apart fresh handsOn again W args v W') :
    ReturnsInHanded a C os f .any (fun w args => (s.pre enc C.prog fn conds apart w args ∧ X w args) ∧ sizedMet enc C.prog fn (OpenSpec.ofChange s) apart w args) (s.post enc C.prog fn apart fresh handsOn again) := by
  refine returnsInHanded_of_calls own started noInit witness ?_
  intro w tape i _ hsh _ hok hpre hholds
  obtain ⟨_, _, _, fn', hfn', _, _, _, _, hval⟩ := hok
  have e : fn' = fn := Option.some.inj (hfn'.symm.trans hfn)
  subst e
  obtain ⟨⟨⟨ds, gs, before, hw, hc⟩, hx⟩, hz⟩ := hpre
  have hw' := DataW.Whole.of_heap (w' := w.forCall tape i) (by rfl) hw
  refine (contract (w.forCall tape i) w.heap.size i.args ds gs before hval hw' (hX _ _ _ (by rfl) hx) hsh).mono fun e W' ⟨v, he, hp⟩ => ?_
  subst he
  exact ChangeSpec.post_blind hp

namespace CI

/-- What the world's cells read as, where that is plain. -/
def Fw (w : World) (ab o : Nat) : Option CVal := match w.cell? ⟨ab, o, none⟩ with
  | some (.int k n) => some (.int k n)
  | some (.string s) => some (.str s.data.toList)
  | some (.iface t (.pointer (some a))) => match w.cell? a with
    | some (.string s) => some (.ifc t (.cptr [.str s.data.toList] 0))
    | _ => none
  | _ => none

theorem fw_holds {w : World} {ab o : Nat} {c : CVal} (h : Fw w ab o = some c) : Holds (Gh.of (Fw w)) w ab o c := by
  unfold Fw at h
  split at h
  · rename_i k n hc; cases h; exact ⟨_, hc, .int _ _⟩
  · rename_i s hc; cases h; exact ⟨_, hc, .str _⟩
  · rename_i t a hc
    split at h
    · rename_i s hs
      cases h
      have hsp : a.spot = none := World.cell?_spot hs
      obtain ⟨b, p, sp⟩ := a
      have hsp : sp = none := hsp
      subst hsp
      refine ⟨_, hc, .ifc (VR.cptr (o := 0) (ao := p) fun i c hi => ?_)⟩
      match i, hi with
      | 0, hi => cases hi; exact ⟨rfl, by show Fw w b (p + 0) = _; unfold Fw; rw [Nat.add_zero, hs]⟩
      | i + 1, hi => simp at hi
    · cases h
  · cases h

/-- The variables hold what is said. -/
def GlOk (w : World) (gl : List (Nat × List CVal)) : Prop := ∀ g cs, lookupG gl g = some cs → ∀ (i : Nat) (c : CVal), cs[i]? = some c → c.flat = true ∧ Fw w g i = some c

theorem GlOk.nil {w : World} : GlOk w [] := fun g cs h => by cases h
theorem GlOk.cons {w : World} {g : Nat} {c : CVal} {gl : List (Nat × List CVal)} (hc : c.flat = true) (h : Fw w g 0 = some c) (r : GlOk w gl) : GlOk w ((g, [c]) :: gl) := fun g' cs h' i c' hi => by
  simp only [lookupG] at h'
  split at h'
  · rename_i e
    cases h'
    have e : g = g' := by simpa using e
    subst e
    match i, hi with
    | 0, hi => cases hi; exact ⟨hc, h⟩
    | i + 1, hi => simp at hi
  · exact r g' cs h' i c' hi
theorem GlOk.int {w : World} {g : Nat} {k : IntKind} {m : Int} {gl : List (Nat × List CVal)} (h : w.cell? ⟨g, 0, none⟩ = some (.int k m)) (r : GlOk w gl) : GlOk w ((g, [.int k m]) :: gl) :=
  .cons rfl (by unfold Fw; rw [h]) r
theorem GlOk.err {w : World} {g : Nat} {t : TypeId} {a : Addr} {s : ByteArray} {l : List UInt8} {gl : List (Nat × List CVal)} (h1 : w.cell? ⟨g, 0, none⟩ = some (.iface t (.pointer (some a)))) (h2 : w.cell? a = some (.string s)) (hs : s.data.toList = l) (r : GlOk w gl) :
    GlOk w ((g, [.ifc t (.cptr [.str l] 0)]) :: gl) :=
  .cons rfl (by unfold Fw; rw [h1]; simp only [h2, hs]) r
theorem begins_w {w : World} {gl : List (Nat × List CVal)} (h : GlOk w gl) : Begins w gl (Fw w) := ⟨fun ab o c hc => fw_holds hc, h⟩

theorem GlobsIn.cons {a : List (Nat × List CVal)} {g : Nat} {c : List CVal} (h : lookupG a g = none) : GlobsIn a ((g, c) :: a) := fun g' cs h' => by
  unfold lookupG
  by_cases e : g = g'
  · subst e; rw [h] at h'; cases h'
  · rw [if_neg (by simpa using e)]; exact h'

end CI
end Go

/- stringslite.Clone, as the library has it: the same text. -/
set_option linter.unusedVariables false
namespace Go.CI
open Go.Shelf Go.RowKit Go.Lib Go.Proofs

/-- What only makes new blocks turns nothing of what is known. -/
theorem Inv.below {base : Base} {G : Gh} {h : CHeap} {w w' : World} (I : Inv base G h w) (hb : Below w.heap.size w w') : Inv base G h w' := by
  obtain ⟨own, I⟩ := I
  have hc : ∀ ab i v, w.cell? ⟨ab, i, none⟩ = some v → w'.cell? ⟨ab, i, none⟩ = some v := fun ab i v hv => by rw [hb.cell (p := ⟨ab, i, none⟩) (cell_lt hv)]; exact hv
  have hl : ∀ ab i, Live w ab i → Live w' ab i := fun ab i ⟨⟨v, h1⟩, h2⟩ => ⟨⟨v, hc _ _ _ h1⟩, by rw [hb.frozen (p := ⟨ab, i, none⟩) (cell_lt h1)]; exact h2⟩
  have hh : ∀ ab i c, Holds G w ab i c → Holds G w' ab i c := fun ab i c ⟨v, h1, h2⟩ => ⟨v, hc _ _ _ h1, h2⟩
  have hg : ∀ (ab : Nat) (o : Obj), w.heap[ab]? = some o → w'.heap[ab]? = some o := fun ab o ho => by
    rw [hb.block ab (by rcases Nat.lt_or_ge ab w.heap.size with h | h; exact h; rw [Array.getElem?_eq_none h] at ho; cases ho)]; exact ho
  have hsh : ∀ ab x, w.shape? ab = some x → w'.shape? ab = some x := fun ab x hx => by
    unfold World.shape? at hx ⊢
    cases ho : w.heap[ab]? with
    | none => rw [ho] at hx; cases hx
    | some o => rw [hg ab o ho]; rw [ho] at hx; exact hx
  have hrb : ∀ ab T, RowB w ab T → RowB w' ab T := fun ab T ⟨c, lo, hi, h1, h2⟩ => ⟨c, lo, hi, hg _ _ h1, h2⟩
  refine ⟨own, fun ab o c hf => ⟨(I.fzs ab o c hf).1, hh _ _ _ (I.fzs ab o c hf).2⟩, fun b ab k hm => ⟨(I.mus b ab k hm).1, (I.mus b ab k hm).2.1, fun i hi => ⟨((I.mus b ab k hm).2.2.1 i hi).1, hl _ _ ((I.mus b ab k hm).2.2.1 i hi).2⟩, fun hk => ⟨((I.mus b ab k hm).2.2.2.1 hk).1, let ⟨es, ck, h1⟩ := ((I.mus b ab k hm).2.2.2.1 hk).2; ⟨es, ck, hg _ _ h1⟩⟩, fun hk => hsh _ _ ((I.mus b ab k hm).2.2.2.2 hk)⟩, I.rws, I.tks, fun b o ho => ⟨(I.ents b o ho).1, ?_⟩, fun ab o x hx => Nat.lt_of_lt_of_le (I.old ab o x hx) hb.size, Nat.le_trans I.top hb.size, I.nod,
    fun b v x hx => ⟨Nat.lt_of_lt_of_le (I.cln b v x hx).1 hb.size, fun T n hq => by
      have hlt := (I.cln b v x hx).1
      rw [hb.frozen (p := ⟨x.1, n, none⟩) hlt]
      refine (I.cln b v x hx).2 T n ?_
      unfold World.shape? at hq ⊢
      rw [← hb.block x.1 hlt]; exact hq⟩, I.gls, I.tyk, fun b T ht v x hx => ⟨hrb _ _ (I.tys b T ht v x hx).1, (I.tys b T ht v x hx).2⟩⟩
  have he := (I.ents b o ho).2
  cases o with
  | cells cs => exact fun ab k hm => ⟨(he ab k hm).1, fun i c hi => ⟨((he ab k hm).2 i c hi).1, hh _ _ _ ((he ab k hm).2 i c hi).2⟩⟩
  | row ver es => exact ⟨he.1, fun ab ao k cap hr => let ⟨h1, h2, h3, h4⟩ := he.2 ab ao k cap hr; ⟨h1, h2, fun i hi => ⟨(h3 i hi).1, hl _ _ (h3 i hi).2⟩, fun i e hie => ⟨(h4 i e hie).1, fun j c hj => ⟨((h4 i e hie).2 j c hj).1, hh _ _ _ ((h4 i e hie).2 j c hj).2⟩⟩⟩⟩
  | frow ver es => exact ⟨he.1, fun ab ao k cap hr => let ⟨h0, h1, h2, h3⟩ := he.2 ab ao k cap hr; ⟨h0, h1, fun i hi => ⟨(h2 i hi).1, Nat.lt_of_lt_of_le (h2 i hi).2 hb.size⟩, fun i e hie => ⟨(h3 i e hie).1, fun j c hj => ⟨((h3 i e hie).2 j c hj).1, hh _ _ _ ((h3 i e hie).2 j c hj).2⟩⟩⟩⟩
  | map ck kvs => exact fun ab hm => let ⟨es, h1, h2⟩ := he ab hm; ⟨es, hg _ _ h1, h2⟩
  | tok ver => exact ⟨he.1, fun ab e k room ht => ⟨(he.2 ab e k room ht).1, fun i hi => ⟨((he.2 ab e k room ht).2 i hi).1, hl _ _ ((he.2 ab e k room ht).2 i hi).2⟩⟩⟩

theorem Post.of_below {base : Base} {ex : Nat → Prop} {G : Gh} {h : CHeap} {w w' : World} (I : Inv base G h w) (hb : Below w.heap.size w w') : Post base ex G h w G h w' :=
  ⟨.refl G, I.below hb, hb.mono (by obtain ⟨own, I⟩ := I; exact I.top), Nat.le_refl _, fun _ _ _ hf => hf⟩

section
variable {P : Program}
theorem lay_agg {t : TypeId} {d : TypeDesc} (h : P.underlying t = some d) (w : World) : (isAgg t).run P w = .ok (aggDesc d) w := r_agg h
theorem lay_size {t : TypeId} {n : Nat} (h : (P.info? t).map (·.size) = some n) (w : World) : (Go.sizeOf t).run P w = .ok n w := by
  obtain ⟨i, hi, rfl⟩ := Option.map_eq_some_iff.1 h
  exact r_size hi
theorem lay_zero {t : TypeId} {z : Value} (h : (P.info? t).bind (·.zero) = some z) (w : World) : (zeroValue t).run P w = .ok z w := by
  obtain ⟨i, hi, hz⟩ := Option.bind_eq_some_iff.1 h
  exact r_zero hi hz
end

def pClone (xs : List CVal) (h : CHeap) : Option (CVal × CHeap) :=
  match xs with
  | [.str s] => if decide (s.length ≤ 281474976710656) then some (.str s, h) else none
  | _ => none

section
variable {P : Program} {base : Base} {ρ : Ren}

theorem sim_clone (L : LaysM.n316 P ρ) (hname : ((Body.n316 ρ).name == "runtime.NumGoroutine") = false) : SimPrim P base (ρ.f 316) pClone := by
  intro G h w xs vs v h' hp I hr
  unfold pClone at hp
  split at hp
  · rename_i s
    split at hp
    · rename_i hlen
      cases hp
      obtain ⟨x, rfl, hx⟩ := vrs_one hr
      obtain ⟨t, rfl, ht⟩ := vr_str hx
      have hent : (callFunc (ρ.f 316) ⟨[.string t]⟩).run P w = .ok (.enter (ρ.f 316) ⟨[.string t]⟩) w :=
        run_enter (c := ((Body.n316 ρ).body).getD .skip) L.f316 hname (by rfl) _ w
      refine .inr ⟨_, _, hent, ?_⟩
      have hsz : t.size ≤ 281474976710656 := by
        have h1 : s.length ≤ 281474976710656 := by simpa using hlen
        have h2 := congrArg List.length ht
        simp at h2
        have h3 : t.size = t.data.size := rfl
        omega
      refine (Any.stringslite_Clone L t w hsz).mono fun e w' ⟨he, hw⟩ => ⟨_, he, ?_⟩
      exact ⟨G, vr_strOf ht, Post.of_below I hw⟩
    · cases hp
  · cases hp
end
end Go.CI
