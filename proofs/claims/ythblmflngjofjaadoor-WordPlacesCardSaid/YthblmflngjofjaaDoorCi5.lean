/- A deterministic interpreter over values, proved sound against the model's rules (part 5 of 7): what a run of it gives, a call in the model gives. -/
import Derived.Test.YthblmflngjofjaaDoorCi4
import Derived.Lib.Bytealg
import Derived.ChangeSame
import Derived.Below
set_option linter.unusedVariables false
set_option linter.unusedSimpArgs false

/- A deterministic interpreter over values: code is the model's. -/
set_option linter.unusedVariables false
namespace Go.CI
open Go.RowKit

def XR : CExit → Exit → Prop
  | .normal, .normal => True
  | .exit i, .exit j => i = j
  | .ret, .ret => True
  | _, _ => False

/-- What is asked of the code: of a loop, within n rounds. -/
def WpN (P : Program) (n : Nat) (c : Code) (Q : Exit → Act → World → Prop) (a : Act) (w : World) : Prop := match c with
  | .loop body => Code.rounds P body Q n a w
  | c => c.wp P Q a w

theorem WpN.wp {P : Program} {n : Nat} {c : Code} {Q : Exit → Act → World → Prop} {a : Act} {w : World} (h : WpN P n c Q a w) : c.wp P Q a w := by
  cases c <;> first | exact h | exact wp_loop_rounds n h

def CodeOk (P : Program) (base : Base) (E : Env) (n : Nat) (c : Code) (x : CExit) (st st' : CSt) : Prop :=
  ∀ (Q : Exit → Act → World → Prop) (G : Gh) (a : Act) (w : World), AR E G st.tm st.defs a → Inv base G st.h w →
    (∀ e G' a' w', XR x e → AR E G' st'.tm st'.defs a' → Post base (fun _ => False) G st.h w G' st'.h w' → Q e a' w') → WpN P n c Q a w

def SimEx (P : Program) (base : Base) (n : Nat) (ex : CCode → CSt → Option (CExit × CSt)) : Prop :=
  ∀ (E : Env), E.P = P → GlobsIn E.H.globals base.gl → E.only = none → ∀ (c : Code) (cc : CCode) (st st' : CSt) (x : CExit), ccode E c = some cc → ex cc st = some (x, st') → CodeOk P base E n c x st st'

theorem Post.both {base : Base} {G G1 G2 : Gh} {h h1 h2 : CHeap} {w w1 w2 : World} (a : Post base (fun _ => False) G h w G1 h1 w1) (b : Post base (fun _ => False) G1 h1 w1 G2 h2 w2) : Post base (fun _ => False) G h w G2 h2 w2 :=
  (a.trans b).mono fun _ h => h.elim (fun x => x) (fun x => x)

theorem Post.lose {base : Base} {ex : Nat → Prop} {G : Gh} {h h' : CHeap} {w : World} (I : Inv base G h w) (hs : h'.ents.Sublist h.ents) (hn : h'.next = h.next) (ht : h'.tys = h.tys) : Post base ex G h w G h' w := by
  obtain ⟨own, I⟩ := I
  refine ⟨.refl G, ⟨own, I.sub hs (by omega) ht⟩, .refl _ _, by omega, fun i _ _ hf => ⟨hf.1, hf.2.1, hf.2.2.1, ?_⟩⟩
  have h0 := hf.2.2.2
  cases hg : h'.get i with
  | none => rfl
  | some o => have := getEnt_sub hs I.nod hg; unfold CHeap.get at h0; rw [h0] at this; cases this

theorem opnd_rel {E : Env} {G : Gh} {tm : List CVal} {ds : List (Nat × List CVal)} {a : Act} (ho : E.only = none) (A : AR E G tm ds a) {X : Operand} {x : COpnd} (hx : copnd E [] X = some x) : VR G (evalOpnd tm [] x) (a.eval X) := by
  cases X with
  | tmp t =>
    simp only [copnd, Env.can, ho, if_true, findLoc] at hx
    obtain ⟨v, hv, rfl⟩ := Option.map_eq_some_iff.1 hx
    exact A.val t v hv
  | const v =>
    simp only [copnd] at hx
    obtain ⟨c', hc', rfl⟩ := Option.map_eq_some_iff.1 hx
    exact ofValue_sound G v c' hc'
  | global g =>
    simp only [copnd] at hx
    obtain ⟨cs, hcs, rfl⟩ := Option.map_eq_some_iff.1 hx
    exact A.glob g cs hcs
  | func f =>
    simp only [copnd] at hx
    cases hx
    exact .fn rfl rfl (fun i c v h => by simp at h) (fun i c v h => by simp at h)

theorem execStep_sim {P : Program} {base : Base} {n : Nat} {T : Nat → Option CFn} {ex : CCode → CSt → Option (CExit × CSt)} (hmixed : P.follows .mixedOrders = true) (hex : SimEx P base n ex) (hcalls : SimCall P base (callFn T ex)) : SimEx P base (n + 1) (execStep T ex) := by
  intro E hE hglob honly c cc st st' x hc hx Q G a w A I hQ
  cases c with
  | skip =>
    simp only [ccode] at hc; cases hc
    simp only [execStep] at hx; cases hx
    exact wp_skip (hQ .normal G a w trivial A (.refl I))
  | region rg ops draw =>
    simp only [ccode] at hc
    have hc : cregion E rg ops.toList draw = some cc := by
      cases hr : cregion E rg ops.toList draw with
      | some c' => rw [hr] at hc; simpa using hc
      | none => rw [hr] at hc; simp at hc; subst hc; simp [execStep] at hx
    have hn := (region_sim hE hglob hmixed hc hx hcalls A I (Q := fun _ _ _ => True) (fun _ _ _ _ _ => trivial)).1
    subst hn
    exact (region_sim hE hglob hmixed hc hx hcalls A I (Q := Q) (fun G' a' w' hA hp => hQ .normal G' a' w' trivial hA hp)).2
  | seq u v =>
    simp only [ccode] at hc
    split at hc
    · rename_i cu cv hu hv
      cases hc
      simp only [execStep] at hx
      refine wp_seq ?_
      cases hxu : ex cu st with
      | none => rw [hxu] at hx; cases hx
      | some p =>
        obtain ⟨x1, st1⟩ := p
        rw [hxu] at hx
        refine WpN.wp (n := n) (hex E hE hglob honly u cu st st1 x1 hu hxu _ G a w A I fun e G1 a1 w1 hxr A1 hp1 => ?_)
        cases x1 with
        | normal =>
          cases e <;> first | (exact hxr.elim) | skip
          exact WpN.wp (n := n) (hex E hE hglob honly v cv st1 st' x hv hx _ G1 a1 w1 A1 hp1.inv fun e G2 a2 w2 hxr2 A2 hp2 => hQ e G2 a2 w2 hxr2 A2 (hp1.both hp2))
        | exit id =>
          simp only at hx
          cases hx
          cases e <;> first | (exact hxr.elim) | exact hQ _ G1 a1 w1 hxr A1 hp1
        | ret =>
          simp only at hx
          cases hx
          cases e <;> first | (exact hxr.elim) | exact hQ _ G1 a1 w1 hxr A1 hp1
    · cases hc
  | cond k u v =>
    simp only [ccode] at hc
    split at hc
    · rename_i ck cu cv hk hu hv
      cases hc
      have hr := opnd_rel honly A hk
      simp only [execStep] at hx
      split at hx
      · rename_i hb
        rw [hb] at hr
        exact wp_cond_true (vr_bool hr) (WpN.wp (n := n) (hex E hE hglob honly u cu st st' x hu hx Q G a w A I hQ))
      · rename_i hb
        rw [hb] at hr
        exact wp_cond_false (vr_bool hr) (WpN.wp (n := n) (hex E hE hglob honly v cv st st' x hv hx Q G a w A I hQ))
      · cases hx
    · cases hc; simp [execStep] at hx
  | block id u =>
    simp only [ccode] at hc
    obtain ⟨cu, hu, rfl⟩ := Option.map_eq_some_iff.1 hc
    simp only [execStep] at hx
    refine wp_block ?_
    cases hxu : ex cu st with
    | none => rw [hxu] at hx; cases hx
    | some p =>
      obtain ⟨x1, st1⟩ := p
      rw [hxu] at hx
      refine WpN.wp (n := n) (hex E hE hglob honly u cu st st1 x1 hu hxu _ G a w A I fun e G1 a1 w1 hxr A1 hp1 => ?_)
      cases x1 with
      | normal =>
        simp only at hx
        cases hx
        cases e <;> first | (exact hxr.elim) | exact hQ _ G1 a1 w1 hxr A1 hp1
      | exit id' =>
        cases e <;> first | (exact hxr.elim) | skip
        rename_i id''
        have hid : id' = id'' := hxr
        subst hid
        simp only at hx
        simp only [Exit.inBlock]
        split at hx
        · rename_i h1
          cases hx
          rw [if_pos h1]
          exact hQ .normal G1 a1 w1 trivial A1 hp1
        · rename_i h1
          cases hx
          rw [if_neg h1]
          exact hQ _ G1 a1 w1 rfl A1 hp1
      | ret =>
        simp only at hx
        cases hx
        cases e <;> first | (exact hxr.elim) | exact hQ _ G1 a1 w1 hxr A1 hp1
  | loop u =>
    have hc' := hc
    simp only [ccode] at hc
    obtain ⟨cu, hu, rfl⟩ := Option.map_eq_some_iff.1 hc
    generalize (!E.H.nodrop.contains E.fn) = drop at hx hc'
    simp only [execStep] at hx
    show u.wp P (Exit.then (Code.rounds P u Q n) Q) a w
    cases hxu : ex cu st with
    | none => rw [hxu] at hx; cases hx
    | some p =>
      obtain ⟨x1, st1⟩ := p
      rw [hxu] at hx
      refine WpN.wp (n := n) (hex E hE hglob honly u cu st st1 x1 hu hxu _ G a w A I fun e G1 a1 w1 hxr A1 hp1 => ?_)
      cases x1 with
      | normal =>
        cases e <;> first | (exact hxr.elim) | skip
        simp only at hx
        have hlose : Post base (fun _ => False) G1 st1.h w1 G1 (if drop = true then { st1 with h := { st1.h with ents := dropCells st1.h.ents st.h.next } } else st1).h w1 := by
          cases drop with
          | true => exact Post.lose hp1.inv (dropCells_sub _ _) rfl rfl
          | false => exact .refl hp1.inv
        have hA1 : AR E G1 (if drop = true then { st1 with h := { st1.h with ents := dropCells st1.h.ents st.h.next } } else st1).tm (if drop = true then { st1 with h := { st1.h with ents := dropCells st1.h.ents st.h.next } } else st1).defs a1 := by
          cases drop <;> exact A1
        exact hex E hE hglob honly (.loop u) (.loop drop cu) _ st' x hc' hx Q G1 a1 w1 hA1 hlose.inv fun e G2 a2 w2 hxr2 A2 hp2 => hQ e G2 a2 w2 hxr2 A2 ((hp1.both hlose).both hp2)
      | exit id =>
        simp only at hx
        cases hx
        cases e <;> first | (exact hxr.elim) | exact hQ _ G1 a1 w1 hxr A1 hp1
      | ret =>
        simp only at hx
        cases hx
        cases e <;> first | (exact hxr.elim) | exact hQ _ G1 a1 w1 hxr A1 hp1
  | exit id =>
    simp only [ccode] at hc; cases hc
    simp only [execStep] at hx; cases hx
    exact wp_exit (hQ (.exit id) G a w rfl A (.refl I))
  | ret =>
    simp only [ccode] at hc; cases hc
    simp only [execStep] at hx; cases hx
    exact wp_ret (hQ .ret G a w trivial A (.refl I))
  | _ => simp [ccode] at hc; subst hc; simp [execStep] at hx
end Go.CI

/- A deterministic interpreter over values: what a return leaves. -/
set_option linter.unusedVariables false
namespace Go.CI
open Go.RowKit

theorem dropAll_sub (l : List (Nat × CObj)) (n : Nat) : (dropAll l n).Sublist l := by
  induction l with
  | nil => exact .slnil
  | cons p r ih =>
    obtain ⟨i, q⟩ := p
    simp only [dropAll]
    split
    · exact .cons _ ih
    · exact .cons_cons _ ih
theorem dropAll_lt {l : List (Nat × CObj)} {n b : Nat} {o : CObj} (h : getEnt (dropAll l n) b = some o) : b < n := by
  have := mem_of_getEnt h
  clear h
  induction l with
  | nil => simp [dropAll] at this
  | cons p r ih =>
    obtain ⟨i, q⟩ := p
    simp only [dropAll] at this
    split at this
    · exact ih this
    · rename_i hlt
      rcases List.mem_cons.1 this with h1 | h1
      · cases h1; omega
      · exact ih h1

theorem flatC_inv {k : Nat} : ∀ {es : List CVal} {m : Nat} {c : CVal}, AllK k es → (flatC es)[m]? = some c → ∃ (i j : Nat) (e : CVal), m = i * k + j ∧ es[i]? = some e ∧ e.cells[j]? = some c
  | [], m, c, _, h => by simp [flatC] at h
  | e :: es, m, c, hk, h => by
    have he : e.cells.length = k := hk e (by simp)
    have hcons : flatC (e :: es) = e.cells ++ flatC es := by simp [flatC]
    rw [hcons] at h
    by_cases hm : m < k
    · rw [List.getElem?_append_left (by omega)] at h
      exact ⟨0, m, e, by omega, rfl, h⟩
    · rw [List.getElem?_append_right (by omega), he] at h
      obtain ⟨i, j, e', h1, h2, h3⟩ := flatC_inv (fun x hx => hk x (by simp [hx])) h
      exact ⟨i + 1, j, e', by rw [Nat.succ_mul]; omega, h2, h3⟩

section
variable {P : Program} {base : Base} {G : Gh} {h : CHeap} {w : World} {n : Nat}

/-- The frozen cells of the rows that were made behind n. -/
def Gh.freeze (G : Gh) (own : Nat → Nat → Option Own) (h : CHeap) (n : Nat) : Gh :=
  { G with fz := fun ab o => match own ab o with
      | some (.r b) => if n ≤ b then (match h.get b with
        | some (.row ver es) => match G.rw b ver with
          | some (ab', ao, _, _) => if ab' = ab ∧ ao ≤ o then (flatC es)[o - ao]? else none
          | none => none
        | _ => none) else none
      | some _ => none
      | none => G.fz ab o }
def ownFreeze (own : Nat → Nat → Option Own) (n : Nat) : Nat → Nat → Option Own := fun ab o => match own ab o with
  | some (.r b) => if n ≤ b then none else some (.r b)
  | x => x

theorem ownFreeze_some {own : Nat → Nat → Option Own} {ab o : Nat} {x : Own} (h : ownFreeze own n ab o = some x) : own ab o = some x := by
  unfold ownFreeze at h
  split at h
  · split at h
    · cases h
    · rename_i h1 _; rw [h1]; exact h
  · exact h
theorem ownFreeze_m {own : Nat → Nat → Option Own} {ab o b : Nat} (h : own ab o = some (.m b)) : ownFreeze own n ab o = some (.m b) := by
  unfold ownFreeze; rw [h]
theorem ownFreeze_t {own : Nat → Nat → Option Own} {ab o b : Nat} (h : own ab o = some (.t b)) : ownFreeze own n ab o = some (.t b) := by
  unfold ownFreeze; rw [h]
theorem ownFreeze_r {own : Nat → Nat → Option Own} {ab o b : Nat} (h : own ab o = some (.r b)) (hb : b < n) : ownFreeze own n ab o = some (.r b) := by
  unfold ownFreeze; rw [h]; simp; omega
theorem ownFreeze_none {own : Nat → Nat → Option Own} {ab o : Nat} (h : own ab o = none) : ownFreeze own n ab o = none := by
  unfold ownFreeze; rw [h]

theorem freeze_le {own : Nat → Nat → Option Own} (I : InvO base G own h w) : G.le (G.freeze own h n) :=
  ⟨fun b o c hf => by
    have := (I.fzs b o c hf).1
    simp only [Gh.freeze, this]; exact hf, fun _ _ h => h, fun _ _ _ h => h, fun _ _ _ h => h⟩

theorem freeze_inv {own : Nat → Nat → Option Own} (I : InvO base G own h w) : InvO base (G.freeze own h n) (ownFreeze own n) { h with ents := dropAll h.ents n } w where
  fzs ab o c hf := by
    have hle := freeze_le (n := n) I
    simp only [Gh.freeze] at hf
    split at hf
    · rename_i b ho
      split at hf
      · rename_i hnb
        refine ⟨by unfold ownFreeze; rw [ho]; simp [hnb], ?_⟩
        split at hf
        · rename_i ver es hg
          split at hf
          · rename_i ab' ao k cap hrw
            split at hf
            · rename_i hcond
              obtain ⟨rfl, hao⟩ := hcond
              obtain ⟨_, _, _, hel⟩ := (I.ents b _ hg).2.2 _ _ _ _ hrw
              have hk : AllK k es := fun e he => by
                obtain ⟨i, hi⟩ := List.getElem?_of_mem he
                exact (hel i e hi).1
              obtain ⟨i, j, e, h1, h2, h3⟩ := flatC_inv hk hf
              have := ((hel i e h2).2 j c h3).2
              rw [show ao + i * k + j = o by omega] at this
              exact this.mono hle fun _ h => h
            · cases hf
          · cases hf
        · cases hf
      · cases hf
    · cases hf
    · rename_i ho
      exact ⟨ownFreeze_none ho, (I.fzs ab o c hf).2.mono hle fun _ h => h⟩
  mus b ab k hm := ⟨(I.mus b ab k hm).1, (I.mus b ab k hm).2.1, fun i hi => ⟨ownFreeze_m ((I.mus b ab k hm).2.2.1 i hi).1, ((I.mus b ab k hm).2.2.1 i hi).2⟩, fun hk => ⟨ownFreeze_m ((I.mus b ab k hm).2.2.2.1 hk).1, ((I.mus b ab k hm).2.2.2.1 hk).2⟩, (I.mus b ab k hm).2.2.2.2⟩
  rws := I.rws
  tks := I.tks
  ents b o ho := by
    have hle := freeze_le (n := n) I
    have hb := dropAll_lt ho
    have h0 := I.ents b o (getEnt_sub (dropAll_sub _ _) I.nod ho)
    refine ⟨h0.1, ?_⟩
    have h1 := h0.2
    cases o with
    | cells cs => exact fun ab k hm => ⟨(h1 ab k hm).1, fun i c hi => ⟨((h1 ab k hm).2 i c hi).1, ((h1 ab k hm).2 i c hi).2.mono hle fun _ h => h⟩⟩
    | row ver es => exact ⟨h1.1, fun ab ao k cap hr => let ⟨x1, x2, x3, x4⟩ := h1.2 ab ao k cap hr; ⟨x1, x2, fun i hi => ⟨ownFreeze_r (x3 i hi).1 hb, (x3 i hi).2⟩, fun i e hie => ⟨(x4 i e hie).1, fun j c hj => ⟨((x4 i e hie).2 j c hj).1, ((x4 i e hie).2 j c hj).2.mono hle fun _ h => h⟩⟩⟩⟩
    | tok ver => exact ⟨h1.1, fun ab e k room ht => ⟨(h1.2 ab e k room ht).1, fun i hi => ⟨ownFreeze_t ((h1.2 ab e k room ht).2 i hi).1, ((h1.2 ab e k room ht).2 i hi).2⟩⟩⟩
    | frow ver es => exact ⟨h1.1, fun ab ao k cap hr => let ⟨x1, x2, x3, x4⟩ := h1.2 ab ao k cap hr; ⟨x1, x2, fun i hi => ⟨ownFreeze_r (x3 i hi).1 hb, (x3 i hi).2⟩, fun i e hie => ⟨(x4 i e hie).1, fun j c hj => ⟨((x4 i e hie).2 j c hj).1, ((x4 i e hie).2 j c hj).2.mono hle fun _ h => h⟩⟩⟩⟩
    | map ck kvs => exact fun ab hm => let ⟨es, h2, h3⟩ := h1 ab hm; ⟨es, h2, h3.mono hle⟩
  old ab o x hx := I.old ab o x (ownFreeze_some hx)
  top := I.top
  nod := ((dropAll_sub _ _).map _).nodup I.nod
  cln := I.cln
  gls g cs hg i c hc := ⟨(I.gls g cs hg i c hc).1, (freeze_le (n := n) I).fz _ _ _ (I.gls g cs hg i c hc).2⟩
  tyk := I.tyk
  tys b T ht v x hx := ⟨(I.tys b T ht v x hx).1, fun i y hy => (I.tys b T ht v x hx).2 i y (ownFreeze_some hy)⟩

theorem post_freeze_drop {own : Nat → Nat → Option Own} (I : InvO base G own h w) : Post base (fun _ => False) G h w (G.freeze own h n) { h with ents := dropAll h.ents n } w := by
  refine ⟨freeze_le I, ⟨_, freeze_inv I⟩, .refl _ _, Nat.le_refl _, fun i _ _ hf => ⟨hf.1, hf.2.1, hf.2.2.1, ?_⟩⟩
  have h0 := hf.2.2.2
  cases hg : CHeap.get { h with ents := dropAll h.ents n } i with
  | none => rfl
  | some o => have := getEnt_sub (dropAll_sub _ _) I.nod hg; unfold CHeap.get at h0; rw [h0] at this; cases this

theorem freezeCell_ok {own : Nat → Nat → Option Own} (I : InvO base G own h w) {c c' : CVal} {v : Value} (hf : freezeCell n h c = some c') (hr : VR G c v) : VR (G.freeze own h n) c' v ∧ c'.flat = c.flat := by
  have hle := freeze_le (n := n) I
  have other : c' = c.strip → VR (G.freeze own h n) c' v ∧ c'.flat = c.flat := fun e => by subst e; exact ⟨(hr.mono hle).strip, flat_strip c⟩
  cases c with
  | ref b ver k off len =>
    simp only [freezeCell] at hf
    split at hf
    · rename_i hnb
      split at hf
      · rename_i v' es hg
        split at hf
        · rename_i hcond
          simp only [Bool.and_eq_true, decide_eq_true_eq] at hcond
          obtain ⟨rfl, hlen⟩ := hcond
          cases hf
          refine ⟨?_, rfl⟩
          cases hr with
          | ref hrw hk hl hs ha =>
            rename_i ab ao cap a
            obtain ⟨_, hcap, hown, hel⟩ := (I.ents b _ hg).2.2 _ _ _ _ hrw
            have hkk : AllK k es := fun e he => by
              obtain ⟨i, hi⟩ := List.getElem?_of_mem he
              exact (hel i e hi).1
            have hcl : (cut off (off + len) es).length = len := by rw [length_cut _ _ _ hlen]; omega
            have key : VR (G.freeze own h n) (.imm .none k (cut off (off + len) es)) (.slice (some a) (cut off (off + len) es).length (cap - off)) := by
              refine .imm hs hk (by rw [hcl]; omega) ?_ trivial
              intro i e he
              rw [getElem?_cut] at he
              split at he
              · rename_i hi
                refine ⟨(hel _ e he).1, fun j c hj => ⟨((hel _ e he).2 j c hj).1, ?_⟩⟩
                have ha' := ha.resolve_left (by omega)
                subst ha'
                have hjk : j < k := by
                  have := (List.getElem?_eq_some_iff.1 hj).1
                  rw [(hel _ e he).1] at this; exact this
                have hidx : off * k + i * k + j = (off + i) * k + j := by rw [Nat.add_mul]
                have hin : (off + i) * k + j < cap * k := by
                  have : (off + i + 1) * k ≤ cap * k := Nat.mul_le_mul_right _ (by omega)
                  rw [Nat.succ_mul] at this; omega
                have ho := (hown _ hin).1
                have hpos : ao + off * k + i * k + j = ao + ((off + i) * k + j) := by omega
                show (G.freeze own h n).fz ab (ao + off * k + i * k + j) = some c
                rw [hpos]
                simp only [Gh.freeze, ho, hnb, if_true, hg, hrw]
                rw [if_pos ⟨trivial, by omega⟩, show ao + ((off + i) * k + j) - ao = (off + i) * k + j by omega]
                exact flatC_get hkk he hj
              · cases he
            rw [hcl] at key
            exact key
        · cases hf
      · cases hf
    · cases hf
  | _ => exact other (Option.some.inj hf).symm

theorem freezeCells_ok {own : Nat → Nat → Option Own} (I : InvO base G own h w) : ∀ {cs cs' : List CVal} {vs : List Value}, freezeCells n h cs = some cs' → VRs G cs vs → VRs (G.freeze own h n) cs' vs ∧ ((∀ c ∈ cs, c.flat = true) → ∀ c ∈ cs', c.flat = true)
  | [], cs', vs, hf, hr => by
    simp only [freezeCells] at hf; cases hf
    have : vs = [] := by have := hr.1; simpa using this.symm
    subst this
    exact ⟨VRs.nil _, fun _ c hc => by simp at hc⟩
  | c :: cs, cs', vs, hf, hr => by
    simp only [freezeCells] at hf
    split at hf
    · rename_i c' r' hc hrr
      cases hf
      match vs, hr with
      | [], hr => have := hr.1; simp at this
      | v :: vs, hr =>
        obtain ⟨h1, h2⟩ := freezeCell_ok I hc hr.head
        obtain ⟨h3, h4⟩ := freezeCells_ok I hrr hr.tail
        refine ⟨VRs.cons h1 h3, fun hall x hx => ?_⟩
        rcases List.mem_cons.1 hx with rfl | hx
        · rw [h2]; exact hall c (by simp)
        · exact h4 (fun y hy => hall y (by simp [hy])) x hx
    · cases hf

theorem freezeFlat_ok {own : Nat → Nat → Option Own} (I : InvO base G own h w) {c c' : CVal} {v : Value} (hf : freezeFlat n h c = some c') (hr : VR G c v) : VR (G.freeze own h n) c' v := by
  cases c with
  | agg cs =>
    simp only [freezeFlat] at hf
    obtain ⟨cs', h1, rfl⟩ := Option.map_eq_some_iff.1 hf
    cases hr with
    | agg hl hfl hv =>
      obtain ⟨h2, h3⟩ := freezeCells_ok I h1 ⟨hl, hv⟩
      exact .agg h2.1 (h3 hfl) h2.2
  | _ => simp only [freezeFlat] at hf; exact (freezeCell_ok I hf hr).1

theorem freezeAll_ok {own : Nat → Nat → Option Own} (I : InvO base G own h w) : ∀ {cs cs' : List CVal} {vs : List Value}, freezeAll n h cs = some cs' → VRs G cs vs → VRs (G.freeze own h n) cs' vs
  | [], cs', vs, hf, hr => by
    simp only [freezeAll] at hf; cases hf
    have : vs = [] := by have := hr.1; simpa using this.symm
    subst this
    exact VRs.nil _
  | c :: cs, cs', vs, hf, hr => by
    simp only [freezeAll] at hf
    split at hf
    · rename_i c' r' hc hrr
      cases hf
      match vs, hr with
      | [], hr => have := hr.1; simp at this
      | v :: vs, hr => exact VRs.cons (freezeFlat_ok I hc hr.head) (freezeAll_ok I hrr hr.tail)
    · cases hf

theorem freezeVal_ok {own : Nat → Nat → Option Own} (I : InvO base G own h w) {c c' : CVal} {v : Value} (hf : freezeVal n h c = some c') (hr : VR G c v) : VR (G.freeze own h n) c' v := by
  cases c with
  | tup cs =>
    simp only [freezeVal] at hf
    obtain ⟨cs', h1, rfl⟩ := Option.map_eq_some_iff.1 hf
    cases hr with
    | tup hl hv => have h2 := freezeAll_ok I h1 ⟨hl, hv⟩; exact .tup h2.1 h2.2
  | _ => simp only [freezeVal] at hf; exact freezeFlat_ok I hf hr

theorem finish_ok {fn : CFunc} {G0 : Gh} {h0 h' : CHeap} {w0 : World} {v v' : CVal} {u : Value} (hp : Post base (fun _ => False) G0 h0 w0 G h w) (hr : VR G v u) (hf : finishC fn n v h = some (v', h')) : ∃ G', VR G' v' u ∧ Post base (fun _ => False) G0 h0 w0 G' h' w := by
  unfold finishC at hf
  split at hf
  · cases hf
    refine ⟨G, hr, hp.both ?_⟩
    split
    · exact Post.lose hp.inv (dropCells_sub _ _) rfl rfl
    · exact .refl hp.inv
  · split at hf
    · obtain ⟨x, hx, he⟩ := Option.map_eq_some_iff.1 hf
      cases he
      obtain ⟨own, I⟩ := hp.inv
      exact ⟨_, freezeVal_ok I hx hr, hp.both (post_freeze_drop I)⟩
    · cases hf
      exact ⟨G, hr.bare, hp.both (Post.lose hp.inv (dropEnts_sub _ _) rfl rfl)⟩
end
end Go.CI

/- A deterministic interpreter over values: a call is the model's. -/
set_option linter.unusedVariables false
namespace Go.CI
open Go.RowKit

section
variable {P : Program} {base : Base} {G : Gh} {h : CHeap} {w : World}

theorem load_cell {t : TypeId} {f : ElemInfo} {b sz o : Nat} {cs : List CVal} {v : CVal} {z : Value} (I : Inv base G h w) (hf : infoOf P t = some f) (hp : VR G (.ptr b sz o) z) (hg : h.get b = some (.cells cs)) (hv : partOf cs o (kOf f) = some v) :
    ∃ u, (do loadVar t (← asAddr z) : Sem Value).run P w = .ok u w ∧ VR G v u := by
  obtain ⟨own, I⟩ := I
  cases hp with
  | ptr hm =>
    rename_i ab
    obtain ⟨_, hcel⟩ := (I.ents b _ hg).2 ab sz hm
    obtain ⟨u, hu, hr⟩ := run_loadAt (w := w) (o := 0) (ab := ab) hf hv (fun j c hj => by rw [Nat.zero_add]; exact hcel j c hj)
    rw [Nat.zero_add] at hu
    refine ⟨u, ?_, hr⟩
    simpa [Instr.loadAt, Instr.sureAddr, asAddr] using hu

theorem run_results {fn : Func} {E : Env} (hE : E.P = P) {tm : List CVal} {ds : List (Nat × List CVal)} {a : Act} {rs : List CRes} {vs : List CVal} (I : Inv base G h w) (A : AR E G tm ds a) (hr : cress E fn.results.toList = some rs) (hv : resultsC h tm rs = some vs) :
    ∃ u, (results fn a.tmps).run P w = .ok u w ∧ VR G (oneOrTuple vs) u := by
  have key : ∀ (l : List ResultVar) (rs : List CRes) (vs : List CVal), cress E l = some rs → resultsC h tm rs = some vs →
      ∃ us : List Value, (l.mapM (fun | .tmp t => pure (a.tmps.getD t undef) | .cell x t => do loadVar t (← asAddr (a.tmps.getD x undef)) : ResultVar → Sem Value)).run P w = .ok us w ∧ VRs G vs us := by
    intro l
    induction l with
    | nil =>
      intro rs vs hr hv
      simp only [cress] at hr; cases hr
      simp only [resultsC] at hv; cases hv
      exact ⟨[], rfl, VRs.nil G⟩
    | cons q l ih =>
      intro rs vs hr hv
      simp only [cress] at hr
      split at hr
      · rename_i r rs' hq hrs
        cases hr
        cases q with
        | tmp t =>
          simp only [cres] at hq
          obtain ⟨j, hj, rfl⟩ := Option.map_eq_some_iff.1 hq
          simp only [resultsC] at hv
          split at hv
          · rename_i vs' hvs
            cases hv
            obtain ⟨us, h1, h2⟩ := ih rs' vs' hrs hvs
            refine ⟨_ :: us, ?_, VRs.cons (A.val t j hj) h2⟩
            rw [List.mapM_cons]
            simp only [Sem.run_bind, Sem.run_pure, Result.andThen_ok] at h1 ⊢
            rw [h1]; rfl
          · cases hv
        | cell x t =>
          simp only [cres] at hq
          split at hq
          · rename_i j f hj hf
            cases hq
            simp only [resultsC] at hv
            split at hv
            · rename_i b sz o hb
              split at hv
              · rename_i cs hg
                split at hv
                · rename_i v vs' hv0 hvs
                  cases hv
                  obtain ⟨us, h1, h2⟩ := ih rs' vs' hrs hvs
                  have hrel := A.val x j hj
                  rw [hb] at hrel
                  subst hE
                  obtain ⟨u, hu, hru⟩ := load_cell I hf hrel hg hv0
                  refine ⟨u :: us, ?_, VRs.cons hru h2⟩
                  rw [List.mapM_cons, Sem.run_bind, hu, Result.andThen_ok, Sem.run_bind, h1]; rfl
                · cases hv
              · cases hv
            · cases hv
          · cases hq
      · cases hr
  obtain ⟨us, h1, h2⟩ := key _ rs vs hr hv
  have hrun : (results fn a.tmps).run P w = .ok (if hh : us.toArray.size = 1 then us.toArray[0] else .tuple us.toArray) w := by
    unfold results
    rw [Array.mapM_eq_mapM_toList, Sem.run_bind, Sem.run_map]
    erw [h1]
    rfl
  refine ⟨_, hrun, ?_⟩
  match vs, us, h2 with
  | [], [], h2 => exact .tup h2.1 h2.2
  | [v], [u], h2 => exact h2.head
  | v :: v' :: vs, u :: u' :: us, h2 =>
    simp only [oneOrTuple, List.size_toArray, List.length_cons]
    rw [dif_neg (by omega)]
    exact .tup h2.1 h2.2
  | [], _ :: _, h2 => have := h2.1; simp at this
  | [_], [], h2 => have := h2.1; simp at this
  | [_], _ :: _ :: _, h2 => have := h2.1; simp at this
  | _ :: _ :: _, [], h2 => have := h2.1; simp at this
  | _ :: _ :: _, [_], h2 => have := h2.1; simp at this

/-- What the run of a function's body and of its results says. -/
structure BodyRun (ex : CCode → CSt → Option (CExit × CSt)) (cd : List (Nat × List CVal) → CHeap → Option CHeap) (fn : CFunc) (args : List CVal) (h : CHeap) (v : CVal) (h' : CHeap) (x : CExit) (st : CSt) (h1 : CHeap) (vs : List CVal) : Prop where
  nargs : args.length = fn.nargs
  run : ex fn.body ⟨fn.params.map (initVar args), h, []⟩ = some (x, st)
  out : ∀ i, x ≠ .exit i
  defs : cd st.defs st.h = some h1
  res : resultsC h1 st.tm fn.results = some vs
  fin : finishC fn h.next (oneOrTuple vs) h1 = some (v, h')

theorem bodyRun_of {ex : CCode → CSt → Option (CExit × CSt)} {cd : List (Nat × List CVal) → CHeap → Option CHeap} {fn : CFunc} {args : List CVal} {h h' : CHeap} {v : CVal} (hb : callBody ex cd fn args h = some (v, h')) : ∃ x st h1 vs, BodyRun ex cd fn args h v h' x st h1 vs := by
  unfold callBody at hb
  split at hb
  · rename_i hn
    split at hb
    · cases hb
    · rename_i x st hx hne
      split at hb
      · rename_i h1 hd
        split at hb
        · rename_i vs hvs
          exact ⟨x, st, h1, vs, hn, hne, fun i e => by subst e; exact hx _ rfl, hd, hvs, hb⟩
        · cases hb
      · cases hb
    · cases hb
  · cases hb

/-- The function of the model. -/
structure FnOk (P : Program) (H : Hints) (f : Nat) (fn : CFunc) (fm : Func) (c : Code) (E : Env) : Prop where
  fnc : P.funcs[f]? = some fm
  body : fm.body = some c
  name : (fm.name == "runtime.NumGoroutine") = false
  eP : E.P = P
  eH : E.H = H
  only : E.only = none
  nt : E.ntmps = fm.ntmps
  code : ccode E c = some fn.body
  res : cress E fm.results.toList = some fn.results
  par : fn.params = E.vars.map fun t => if t < fn.nargs then some t else none

theorem fnOk_of {P : Program} {H : Hints} {f : Nat} {fn : CFunc} (h : cfunc P H f = some fn) : ∃ fm c E, FnOk P H f fn fm c E := by
  unfold cfunc at h
  split at h
  · rename_i fm hf
    split at h
    · rename_i c hb
      split at h
      · cases h
      · rename_i hname
        simp only at h
        split at h
        · rename_i b rs hb' hrs
          cases h
          exact ⟨fm, c, _, hf, hb, by simpa using hname, rfl, rfl, rfl, rfl, hb', hrs, rfl⟩
        · cases h
    · cases h
  · cases h

theorem Inv.glob {base : Base} {G : Gh} {h : CHeap} {w : World} (I : Inv base G h w) {g : Nat} {cs : List CVal} (hg : lookupG base.gl g = some cs) : VR G (.cptr cs 0) (.pointer (some ⟨g, 0, none⟩)) := by
  obtain ⟨own, I⟩ := I
  have := VR.cptr (cs := cs) (o := 0) (ab := g) (ao := 0) (fun i c hc => by rw [Nat.zero_add]; exact I.gls g cs hg i c hc)
  simpa using this

theorem ar_begin {E : Env} {H : Hints} {f : Nat} {fn : CFunc} {fm : Func} {c : Code} (F : FnOk P H f fn fm c E) {args : List CVal} {vs : List Value} (hn : args.length = fn.nargs) (hr : VRs G args vs) (hgl : ∀ g cs, lookupG H.globals g = some cs → VR G (.cptr cs 0) (.pointer (some ⟨g, 0, none⟩))) :
    AR E G (fn.params.map (initVar args)) [] { tmps := (⟨vs⟩ : Array Value) ++ Array.replicate (fm.ntmps - (⟨vs⟩ : Array Value).size) undef, defers := [] } := by
  refine ⟨?_, by rw [F.par]; simp, fun t v hv => ?_, .nil, by rw [F.eH]; exact hgl⟩
  · rw [F.nt]; simp; omega
  · obtain ⟨k, hk, hvk⟩ := findVar_some hv
    rw [Nat.zero_add] at hk
    subst hk
    rw [F.par, nth_eq, List.getElem?_map, List.getElem?_map, hvk]
    simp only [Option.map_some, Option.getD_some]
    by_cases ht : t < fn.nargs
    · rw [if_pos ht]
      have hlt : t < vs.length := Nat.lt_of_lt_of_eq ht (hn.symm.trans hr.1)
      have : ((⟨vs⟩ : Array Value) ++ Array.replicate (fm.ntmps - (⟨vs⟩ : Array Value).size) undef).getD t undef = vs[t] := by
        have h1 : t < (⟨vs⟩ : Array Value).size := hlt
        simp only [Array.getD_eq_getD_getElem?]
        rw [Array.getElem?_append_left h1]
        simp [hlt]
      rw [this]
      exact hr.2 t _ _ (getElem?_nth (Nat.lt_of_lt_of_eq ht hn.symm)) (List.getElem?_eq_getElem hlt)
    · rw [if_neg ht]; exact .undef _

/-- The deferred calls, as a return runs them. -/
theorem body_calls {n : Nat} {H : Hints} {ex : CCode → CSt → Option (CExit × CSt)} {cd : List (Nat × List CVal) → CHeap → Option CHeap} (hex : SimEx P base n ex) (hglob : GlobsIn H.globals base.gl) {f : Nat} {fn : CFunc} (hfn : cfunc P H f = some fn)
    (hcd : ∀ (fm : Func) (tmps : Array Value) (R : Ending → World → Prop) (G1 : Gh) (h1 : CHeap) (w1 : World) (ds : List (Nat × List CVal)) (dl : List Deferred) (h2 : CHeap), Inv base G1 h1 w1 → DefsR G1 ds dl → cd ds h1 = some h2 →
      (∀ G2 w2, Post base (fun _ => False) G1 h1 w1 G2 h2 w2 → ∃ v, (results fm tmps).run P w2 = .ok v w2 ∧ R (.returned v) w2) → Leaves P fm tmps R dl .returning w1)
    {args : List CVal} {vs : List Value} {v : CVal} {h' : CHeap} (hb : callBody ex cd fn args h = some (v, h')) (I : Inv base G h w) (hr : VRs G args vs) : Calls P f ⟨vs⟩ w fun e w' => ∃ u, e = .returned u ∧ CallPost base G h w v h' u w' := by
  obtain ⟨fm, c, E, F⟩ := fnOk_of hfn
  obtain ⟨x, st, h1, rs, B⟩ := bodyRun_of hb
  refine calls_of_wp_defers F.fnc F.body ?_
  refine WpN.wp (n := n) (hex E F.eP (by rw [F.eH]; exact hglob) F.only c fn.body ⟨fn.params.map (initVar args), h, []⟩ st x F.code B.run _ G _ w (ar_begin F B.nargs hr (fun g cs hc => I.glob (hglob g cs hc))) I fun e G1 a1 w1 hxr A1 hp1 => ?_)
  have fin : Leaves P fm a1.tmps (fun e w' => ∃ u, e = .returned u ∧ CallPost base G h w v h' u w') a1.defers .returning w1 := by
    refine hcd fm a1.tmps _ G1 st.h w1 st.defs a1.defers h1 hp1.inv A1.defs B.defs fun G2 w2 hp2 => ?_
    obtain ⟨u, hu, hru⟩ := run_results F.eP hp2.inv (A1.mono hp2.le) F.res B.res
    obtain ⟨G3, h3, h4⟩ := finish_ok (hp1.both hp2) hru B.fin
    exact ⟨u, hu, u, rfl, G3, h3, h4⟩
  cases x with
  | normal => cases e <;> first | (exact hxr.elim) | exact fin
  | exit i => exact absurd rfl (B.out i)
  | ret => cases e <;> first | (exact hxr.elim) | exact fin

theorem body_callsD {n : Nat} {H : Hints} {ex : CCode → CSt → Option (CExit × CSt)} (hex : SimEx P base n ex) (hglob : GlobsIn H.globals base.gl) {f : Nat} {fn : CFunc} (hfn : cfunc P H f = some fn)
    {args : List CVal} {vs : List Value} {v : CVal} {h' : CHeap} (hb : callBody ex noDefs fn args h = some (v, h')) (I : Inv base G h w) (hr : VRs G args vs) (um : FrameMode) : CallsD P f ⟨vs⟩ um w fun e u' w' => u' = um ∧ ∃ u, e = .returned u ∧ CallPost base G h w v h' u w' := by
  obtain ⟨fm, c, E, F⟩ := fnOk_of hfn
  obtain ⟨x, st, h1, rs, B⟩ := bodyRun_of hb
  refine callsD_of_wp F.fnc F.body ?_
  refine WpN.wp (n := n) (hex E F.eP (by rw [F.eH]; exact hglob) F.only c fn.body ⟨fn.params.map (initVar args), h, []⟩ st x F.code B.run _ G _ w (ar_begin F B.nargs hr (fun g cs hc => I.glob (hglob g cs hc))) I fun e G1 a1 w1 hxr A1 hp1 => ?_)
  have hdefs := B.defs
  have hno : st.defs = [] ∧ h1 = st.h := by
    cases hd : st.defs with
    | nil => rw [hd] at hdefs; simp only [noDefs] at hdefs; cases hdefs; exact ⟨rfl, rfl⟩
    | cons p l => rw [hd] at hdefs; simp [noDefs] at hdefs
  have hdl : a1.defers = [] := by
    have := A1.defs
    rw [hno.1] at this
    generalize a1.defers = dl at this
    cases this; rfl
  have fin : a1.defers = [] ∧ ∃ v', (results fm a1.tmps).run P w1 = .ok v' w1 ∧ ∃ u, Ending.returned v' = .returned u ∧ CallPost base G h w v h' u w1 := by
    have hres := B.res
    rw [hno.2] at hres
    obtain ⟨u, hu, hru⟩ := run_results F.eP hp1.inv A1 F.res hres
    have hfin := B.fin
    rw [hno.2] at hfin
    obtain ⟨G3, h3, h4⟩ := finish_ok hp1 hru hfin
    exact ⟨hdl, u, hu, u, rfl, G3, h3, h4⟩
  cases x with
  | normal => cases e <;> first | (exact hxr.elim) | exact fin
  | exit i => exact absurd rfl (B.out i)
  | ret => cases e <;> first | (exact hxr.elim) | exact fin

/-- What the table of functions holds. -/
structure TOk (P : Program) (H : Hints) (base : Base) (T : Nat → Option CFn) : Prop where
  ir : ∀ f fn, T f = some (.ir fn) → cfunc P H f = some fn
  prim : ∀ f p, T f = some (.prim p) → ∀ (G : Gh) (h : CHeap) (w : World) (xs : List CVal) (vs : List Value) (v : CVal) (h' : CHeap), p xs h = some (v, h') → Inv base G h w → VRs G xs vs → Entr P (callFunc f ⟨vs⟩) w (CallPost base G h w v h')

theorem run_enter {f : Nat} {fm : Func} {c : Code} (hf : P.funcs[f]? = some fm) (hname : (fm.name == "runtime.NumGoroutine") = false) (hb : fm.body = some c) (args : Array Value) (w : World) :
    (callFunc f args).run P w = .ok (.enter f args) w := by
  have h1 : fm.name ≠ "runtime.NumGoroutine" := by simpa using hname
  simp [callFunc, hf, h1, hb]

theorem runDefs_leaves {n : Nat} {H : Hints} {T : Nat → Option CFn} {ex : CCode → CSt → Option (CExit × CSt)} (hT : TOk P H base T) (hglob : GlobsIn H.globals base.gl) (hex : SimEx P base n ex) (fm : Func) (tmps : Array Value) (R : Ending → World → Prop) :
    ∀ (ds : List (Nat × List CVal)) (dl : List Deferred) (G1 : Gh) (h1 : CHeap) (w1 : World) (h2 : CHeap), Inv base G1 h1 w1 → DefsR G1 ds dl → runDefs T ex ds h1 = some h2 →
      (∀ G2 w2, Post base (fun _ => False) G1 h1 w1 G2 h2 w2 → ∃ v, (results fm tmps).run P w2 = .ok v w2 ∧ R (.returned v) w2) → Leaves P fm tmps R dl .returning w1
  | [], dl, G1, h1, w1, h2, I, hd, hr, hk => by
    cases hd
    simp only [runDefs] at hr; cases hr
    exact hk G1 w1 (.refl I)
  | (f, args) :: ds, dl, G1, h1, w1, h2, I, hd, hr, hk => by
    cases hd with
    | cons hv hrest =>
      rename_i vs cap dl'
      simp only [runDefs] at hr
      split at hr
      · rename_i v h' hcall
        unfold callFlat at hcall
        split at hcall
        · rename_i fn hTf
          have hfn := hT.ir f fn hTf
          obtain ⟨fm', c', E', F'⟩ := fnOk_of hfn
          refine leaves_cons (f := f) (args := ⟨vs ++ cap⟩) (by simp) ?_ ?_
          · show (callFunc f ((⟨vs⟩ : Array Value) ++ ⟨cap⟩)).run P w1 = _
            have : ((⟨vs⟩ : Array Value) ++ ⟨cap⟩) = ⟨vs ++ cap⟩ := by apply Array.ext'; simp
            rw [this]
            exact run_enter F'.fnc F'.name F'.body _ _
          · refine CallsD.mono (body_callsD hex hglob hfn hcall I hv .returning) fun e u' w' he => ?_
            obtain ⟨rfl, u, rfl, G', _, hp⟩ := he
            exact runDefs_leaves hT hglob hex fm tmps R ds dl' G' h' w' h2 hp.inv (hrest.mono hp.le) hr fun G2 w2 hp2 => hk G2 w2 (hp.both hp2)
        · cases hcall
      · cases hr

theorem callFn_sim {n : Nat} {H : Hints} {T : Nat → Option CFn} {ex : CCode → CSt → Option (CExit × CSt)} (hT : TOk P H base T) (hglob : GlobsIn H.globals base.gl) (hex : SimEx P base n ex) : SimCall P base (callFn T ex) := by
  intro G h w f xs vs v h' hcf I hr
  unfold callFn at hcf
  split at hcf
  · rename_i fn hTf
    have hfn := hT.ir f fn hTf
    obtain ⟨fm, c, E, F⟩ := fnOk_of hfn
    exact .inr ⟨f, ⟨vs⟩, run_enter F.fnc F.name F.body _ _, body_calls hex hglob hfn (fun fm tmps R G1 h1 w1 ds dl h2 I1 hd hrd hk => runDefs_leaves hT hglob hex fm tmps R ds dl G1 h1 w1 h2 I1 hd hrd hk) hcf I hr⟩
  · rename_i p hTf
    exact hT.prim f p hTf G h w xs vs v h' hcf I hr
  · cases hcf

theorem exec_sim {H : Hints} {T : Nat → Option CFn} (hmixed : P.follows .mixedOrders = true) (hT : TOk P H base T) (hglob : GlobsIn H.globals base.gl) : ∀ n, SimEx P base n (exec T n)
  | 0 => fun E _ _ _ c cc st st' x _ hx => by
    have : exec T 0 cc st = none := rfl
    rw [this] at hx; cases hx
  | n + 1 => by
    have ih := exec_sim hmixed hT hglob n
    exact execStep_sim hmixed ih (callFn_sim hT hglob ih)

/-- What is known when a call begins: cells that nobody writes. -/
def Gh.of (F : Nat → Nat → Option CVal) : Gh := ⟨F, fun _ => .none, fun _ _ => .none, fun _ _ => .none⟩
def Gh.none : Gh := Gh.of fun _ _ => .none
def noHeap : CHeap := ⟨[], 0, []⟩

structure Begins (w : World) (gl : List (Nat × List CVal)) (F : Nat → Nat → Option CVal) : Prop where
  cells : ∀ ab o c, F ab o = some c → Holds (Gh.of F) w ab o c
  globs : ∀ g cs, lookupG gl g = some cs → ∀ (i : Nat) (c : CVal), cs[i]? = some c → c.flat = true ∧ F g i = some c

theorem begins_none (w : World) : Begins w [] (fun _ _ => .none) := ⟨fun _ _ _ h => (by cases h), fun g cs h => by simp [lookupG] at h⟩

theorem inv_begin {w : World} {gl : List (Nat × List CVal)} {F : Nat → Nat → Option CVal} (B : Begins w gl F) : Inv ⟨w.heap.size, gl⟩ (Gh.of F) noHeap w :=
  ⟨fun _ _ => .none, { fzs := fun ab o c h => ⟨rfl, B.cells ab o c h⟩
                       mus := fun _ _ _ h => by simp [Gh.of] at h
                       rws := fun _ _ _ h => by simp [Gh.of] at h
                       tks := fun _ _ _ h => by simp [Gh.of] at h
                       ents := fun b o h => by simp [noHeap, CHeap.get, getEnt] at h
                       old := fun _ _ _ h => by simp at h
                       top := Nat.le_refl _
                       nod := by simp [noHeap]
                       cln := fun _ _ _ h => by simp [Gh.of] at h
                       gls := B.globs
                       tyk := fun b T h => by simp [noHeap, CHeap.ty, lookupN] at h
                       tys := fun b T h => by simp [noHeap, CHeap.ty, lookupN] at h }⟩

/-- A run of the interpreter is a call in the model. -/
theorem crun_calls {H : Hints} {T : Nat → Option CFn} {n f : Nat} {fn : CFunc} {args : List Value} {cs : List CVal} {v : CVal} {h' : CHeap} {w : World} {F : Nat → Nat → Option CVal} {gl : List (Nat × List CVal)} (hgl : GlobsIn H.globals gl) (hmixed : P.follows .mixedOrders = true) (hT : TOk P H ⟨w.heap.size, gl⟩ T) (hf : T f = some (.ir fn))
    (B : Begins w gl F) (ha : VRs (Gh.of F) cs args) (hrun : crun T n f cs noHeap = some (v, h')) : Calls P f ⟨args⟩ w fun e w' => ∃ u G, e = .returned u ∧ (Gh.of F).le G ∧ VR G v u ∧ Below w.heap.size w w' ∧ Inv ⟨w.heap.size, gl⟩ G h' w' := by
  have hs := callFn_sim hT hgl (exec_sim hmixed hT hgl n) (Gh.of F) noHeap w f cs args v h' hrun (inv_begin B) ha
  have hfn := hT.ir f fn hf
  obtain ⟨fm, c, E, F'⟩ := fnOk_of hfn
  rcases hs with ⟨u, w', h1, _⟩ | ⟨f', args', h1, h2⟩
  · rw [run_enter F'.fnc F'.name F'.body] at h1; cases h1
  · rw [run_enter F'.fnc F'.name F'.body] at h1
    cases h1
    exact Calls.mono h2 fun e w' ⟨u, he, G', hv, hp⟩ => ⟨u, G', he, hp.le, hv, hp.below, hp.inv⟩
end
end Go.CI

/- A deterministic interpreter over values: functions of the model's own, without a body. -/
set_option linter.unusedVariables false
namespace Go.CI
open Go.RowKit

def cntOf (c : UInt8) : List UInt8 → Nat
  | [] => 0
  | b :: r => if b == c then cntOf c r + 1 else cntOf c r
theorem cntOf_eq (c : UInt8) : ∀ l : List UInt8, Lib.countByte l c = cntOf c l
  | [] => rfl
  | b :: r => by
    have := cntOf_eq c r
    unfold Lib.countByte at this ⊢
    rw [List.count_cons, this, cntOf]
    split <;> simp

def idxFrom (c : UInt8) : List UInt8 → Nat → Int
  | [], _ => -1
  | b :: r, i => if b == c then i else idxFrom c r (i + 1)
theorem idxFrom_eq (c : UInt8) : ∀ (l : List UInt8) (i : Nat), idxFrom c l i = if Lib.indexByte l c = -1 then -1 else Lib.indexByte l c + i
  | [], i => rfl
  | b :: r, i => by
    have h := Lib.indexByte_ge r c
    simp only [idxFrom, Lib.indexByte, beq_iff_eq]
    by_cases hb : b = c
    · simp [hb]
    · rw [if_neg hb, if_neg hb, idxFrom_eq c r (i + 1)]
      by_cases h1 : Lib.indexByte r c = -1
      · simp [h1]
      · simp only [h1, if_false]
        rw [if_neg (by omega)]
        omega
theorem idxFrom_zero (c : UInt8) (l : List UInt8) : Lib.indexByte l c = idxFrom c l 0 := by
  rw [idxFrom_eq]
  by_cases h : Lib.indexByte l c = -1
  · simp [h]
  · simp [h]

def pIndexByte (xs : List CVal) (h : CHeap) : Option (CVal × CHeap) :=
  match xs with
  | [.str s, .int .u8 c] => some (.int .i64 (idxFrom c.toNat.toUInt8 s 0), h)
  | _ => none
def pCount (xs : List CVal) (h : CHeap) : Option (CVal × CHeap) :=
  match xs with
  | [.str s, .int .u8 c] => some (.int .i64 (cntOf c.toNat.toUInt8 s), h)
  | _ => none
def pSame (xs : List CVal) (h : CHeap) : Option (CVal × CHeap) :=
  match xs with
  | [x] => some (x, h)
  | _ => none

section
variable {P : Program} {base : Base}

/-- A function without a body, of which the model knows what it gives. -/
structure ExtOk (P : Program) (f : Nat) (e : Array Value → Sem Value) : Prop where
  fn : ∃ fm, P.funcs[f]? = some fm ∧ (fm.name == "runtime.NumGoroutine") = false ∧ fm.body.isNone = true ∧ Extern.findNext fm = none ∧ Extern.find fm = some e

def SimPrim (P : Program) (base : Base) (f : Nat) (p : List CVal → CHeap → Option (CVal × CHeap)) : Prop :=
  ∀ (G : Gh) (h : CHeap) (w : World) (xs : List CVal) (vs : List Value) (v : CVal) (h' : CHeap), p xs h = some (v, h') → Inv base G h w → VRs G xs vs → Entr P (callFunc f ⟨vs⟩) w (CallPost base G h w v h')

theorem ext_gives {f : Nat} {e : Array Value → Sem Value} (X : ExtOk P f e) {G : Gh} {h : CHeap} {w : World} {vs : List Value} {v : CVal} {u : Value} (I : Inv base G h w) (hr : (e ⟨vs⟩).run P w = .ok u w) (hv : VR G v u) : Entr P (callFunc f ⟨vs⟩) w (CallPost base G h w v h) := by
  obtain ⟨fm, h1, h2, h3, h4, h5⟩ := X.fn
  refine .inl ⟨u, w, ?_, G, hv, .refl I⟩
  rw [run_callFunc_extern h1 h2 h3 h4 h5, hr]; rfl

theorem vrs_two {G : Gh} {a b : CVal} {vs : List Value} (h : VRs G [a, b] vs) : ∃ x y, vs = [x, y] ∧ VR G a x ∧ VR G b y := by
  match vs, h with
  | [x, y], h => exact ⟨x, y, rfl, h.head, h.tail.head⟩
  | [], h => have := h.1; simp at this
  | [_], h => have := h.1; simp at this
  | _ :: _ :: _ :: _, h => have := h.1; simp at this
theorem vrs_one {G : Gh} {a : CVal} {vs : List Value} (h : VRs G [a] vs) : ∃ x, vs = [x] ∧ VR G a x := by
  match vs, h with
  | [x], h => exact ⟨x, rfl, h.head⟩
  | [], h => have := h.1; simp at this
  | _ :: _ :: _, h => have := h.1; simp at this

theorem sim_same {f : Nat} (X : ExtOk P f Extern.AbiNoEscape.same) : SimPrim P base f pSame := by
  intro G h w xs vs v h' hp I hr
  unfold pSame at hp
  split at hp
  · cases hp
    obtain ⟨x, rfl, hx⟩ := vrs_one hr
    exact ext_gives X I rfl hx
  · cases hp

theorem sim_indexByte {f : Nat} (X : ExtOk P f Extern.BytealgIndexByte.indexByte) : SimPrim P base f pIndexByte := by
  intro G h w xs vs v h' hp I hr
  unfold pIndexByte at hp
  split at hp
  · rename_i s c
    cases hp
    obtain ⟨x, y, rfl, hx, hy⟩ := vrs_two hr
    obtain ⟨t, rfl, ht⟩ := vr_str hx
    have := vr_int (c := .nilp) hy
    subst this
    refine ext_gives X I (Lib.run_indexByteString t c w) ?_
    rw [ht, idxFrom_zero]; exact .int _ _
  · cases hp

theorem sim_count {f : Nat} (X : ExtOk P f Extern.BytealgCount.count) : SimPrim P base f pCount := by
  intro G h w xs vs v h' hp I hr
  unfold pCount at hp
  split at hp
  · rename_i s c
    cases hp
    obtain ⟨x, y, rfl, hx, hy⟩ := vrs_two hr
    obtain ⟨t, rfl, ht⟩ := vr_str hx
    have := vr_int (c := .nilp) hy
    subst this
    refine ext_gives X I (Lib.run_countString t c w) ?_
    rw [ht, cntOf_eq]; exact .int _ _
  · cases hp
end
end Go.CI

/- A law without arguments: what is left to show is a run of the interpreter. -/
set_option linter.unusedVariables false
namespace Go.CI
open Go.RowKit

/-- The functions, by their numbers. -/
inductive CTree where
  | leaf (i : Nat) (fn : CFn)
  | node (m : Nat) (a b : CTree)

def CTree.get : CTree → Nat → Option CFn
  | .leaf i fn, f => bif Nat.beq f i then some fn else none
  | .node m a b, f => bif Nat.blt f m then a.get f else b.get f

def CTree.All (p : Nat → CFn → Prop) : CTree → Prop
  | .leaf i fn => p i fn
  | .node _ a b => a.All p ∧ b.All p

theorem CTree.get_all {p : Nat → CFn → Prop} {t : CTree} (h : t.All p) {f : Nat} {fn : CFn} (hg : t.get f = some fn) : p f fn := by
  induction t with
  | leaf i x =>
    have hg : (bif Nat.beq f i then some x else none) = some fn := hg
    cases hb : Nat.beq f i with
    | true => rw [hb] at hg; cases hg; have := Nat.eq_of_beq_eq_true hb; subst this; exact h
    | false => rw [hb] at hg; cases hg
  | node m a b iha ihb =>
    have hg : (bif Nat.blt f m then a.get f else b.get f) = some fn := hg
    cases hb : Nat.blt f m with
    | true => rw [hb] at hg; exact iha h.1 hg
    | false => rw [hb] at hg; exact ihb h.2 hg

section
variable {P : Program}

def FnOkAt (P : Program) (H : Hints) (base : Base) (f : Nat) : CFn → Prop
  | .ir fn => cfunc P H f = some fn
  | .prim p => SimPrim P base f p

theorem TOk.of_tree {H : Hints} {base : Base} {t : CTree} (h : t.All (FnOkAt P H base)) : TOk P H base t.get :=
  ⟨fun f fn hf => CTree.get_all h hf, fun f p hf => CTree.get_all (p := FnOkAt P H base) h hf⟩

def saysTrue : Option (CVal × CHeap) → Bool
  | some (.bool b, _) => b
  | _ => false

theorem closed_calls {H : Hints} {T : Nat → Option CFn} {n f : Nat} {fn : CFunc} (w : World) {F : Nat → Nat → Option CVal} {gl : List (Nat × List CVal)} (hgl : GlobsIn H.globals gl) (hmixed : P.follows .mixedOrders = true) (hT : TOk P H ⟨w.heap.size, gl⟩ T) (hf : T f = some (.ir fn)) (B : Begins w gl F)
    (hrun : saysTrue (crun T n f [] noHeap) = true) : Calls P f #[] w fun e w' => e = .returned (.bool true) ∧ Below w.heap.size w w' := by
  cases hr : crun T n f [] noHeap with
  | none => rw [hr] at hrun; cases hrun
  | some x =>
    obtain ⟨v, h'⟩ := x
    rw [hr] at hrun
    have hv : v = .bool true := by cases v <;> simp_all [saysTrue]
    subst hv
    refine Calls.mono (crun_calls hgl hmixed hT hf B (args := []) (cs := []) (VRs.nil _) hr) ?_
    rintro e w' ⟨u, G, rfl, _, hu, hb, _⟩
    rw [vr_bool hu]
    exact ⟨rfl, hb⟩
end

section
open Go.ChangeShapes Go.WideShapes
variable {H : Type} {enc : TypeId × Value → H} {P : Program}

/-- What is left behind a call that turned nothing of what was there. -/
theorem post_of_below {f : Func} {s : ChangeSpec} {apart fresh handsOn again : Bool} {W W' : World} {args : Array Value} {v : Value} {ds gs : List (DataW H)} {before pa pv : List MemPlace}
    (hW : DataW.Whole enc P f.params.toList s.vars apart W args.toList ds gs before)
    (hres : ∀ (b : Nat) (sp : Nat → Bool) (hd : Bool), DataW.TrodAll enc P W' b sp hd f.resultTypes.toList (v.resultList f.resultTypes.size) (s.fn H (ds ++ gs)).results [])
    (hargs : ∀ sp : Nat → Bool, (∀ p ∈ before, sp p.block = true) → DataW.TrodAll enc P W' 0 sp true f.params.toList args.toList (s.fn H (ds ++ gs)).args pa)
    (hvars : ∀ sp : Nat → Bool, (∀ p ∈ before, sp p.block = true) → DataW.TrodVars enc P W' sp s.vars (s.fn H (ds ++ gs)).vars pv)
    (hps : before = pa ++ pv) (hb : Below W.heap.size W W')
    (hok : ∀ (j : Nat) (t : TypeId) (r : Value), f.resultTypes[j]? = some t → (v.resultList f.resultTypes.size)[j]? = some r → Value.okWide P W' .any 0 t r) :
    s.post enc P f apart fresh handsOn again W args v W' := by
  have hold : ∀ p ∈ before, (fun b => decide (b < W.heap.size)) p.block = true := fun p hp => by simpa using hW.lt p hp
  have hlt := hW.lt
  refine ⟨ds, gs, before, [], pa, pv, hW, hres _ _ _, hargs _ hold, hvars _ hold, World.keptBut_mono (fun p hp => ⟨hp, ?_⟩) (hb.frame (· ∈ before)), fun _ => ?_⟩
  · rw [hps, List.mem_append] at hp
    exact Or.inr hp
  · obtain ⟨_, _, _, _, _, hz, hn⟩ := hW
    refine ⟨hok, _, _, ([] ++ pa) ++ pv, ⟨[] ++ pa, pv, trodAll_append (hargs _ (fun _ _ => rfl)) (hres _ _ _), hvars _ (fun _ _ => rfl), rfl, ?_, ?_⟩, ?_⟩
    · intro b off hp
      have hm : MemPlace.cell b off ∈ before := by rw [hps]; simpa using hp
      have hfr : W'.frozen? ⟨b, off, none⟩ = W.frozen? ⟨b, off, none⟩ := hb.frozen (by have := hlt _ hm; exact this)
      rw [hfr]
      exact hz b off hm
    · intro ha
      have := hn ha
      rw [hps] at this
      simpa using this
    · intro p hp _
      rw [hps]
      simpa using hp
end

section
variable {P : Program}

theorem size_of {t : TypeId} {k : Nat} (h : (P.info? t).map (·.size) = some k) (w : World) : (Go.sizeOf t).run P w = .ok k w := by
  obtain ⟨i, h1, h2⟩ := Option.map_eq_some_iff.1 h
  rw [r_size h1, h2]
theorem zero_of {t : TypeId} {z : Value} (h : (P.info? t).map (·.zero) = some (some z)) (w : World) : (zeroValue t).run P w = .ok z w := by
  obtain ⟨i, h1, h2⟩ := Option.map_eq_some_iff.1 h
  exact r_zero h1 h2

end
end Go.CI

/- strings.Builder's own functions, and others of the library, as functions of the interpreter's own. -/
set_option linter.unusedVariables false
namespace Go.CI

def hasPair : List (Nat × Nat) → Nat → Nat → Bool
  | [], _, _ => false
  | (a, b) :: r, x, y => (a == x && b == y) || hasPair r x y

/-- A Builder marks itself as used; oks: in which blocks, at which places. -/
def pCopyCheck (oks : List (Nat × Nat)) (xs : List CVal) (h : CHeap) : Option (CVal × CHeap) :=
  match xs with
  | [.ptr b d o] => if hasPair oks d o then match h.get b with
    | some (.cells cs) => match nth cs o with
      | .nilp => some (.tup [], h.set b (.cells (setCells cs o [.ptr b d o])))
      | .ptr b' d' o' => if b' == b && (d' == d && o' == o) then some (.tup [], h) else none
      | _ => none
    | _ => none else none
  | _ => none

def byteVals : List CVal → Option (List UInt8)
  | [] => some []
  | .int .u8 n :: r => if decide (0 ≤ n) && decide (n < 256) then (byteVals r).map (UInt8.ofNat n.toNat :: ·) else none
  | _ => none

/-- A row, written or not any more. -/
def rowOf : Option CObj → Option (Nat × List CVal)
  | some (.row v es) => some (v, es)
  | some (.frow v es) => some (v, es)
  | _ => none

/-- What a Builder holds, as a text: its row is written no more. -/
def pBString (T : Nat) (xs : List CVal) (h : CHeap) : Option (CVal × CHeap) :=
  match xs with
  | [.ptr b d o] => match h.get b with
    | some (.cells cs) => match nth cs (o + 1) with
      | .nils => some (.str [], h)
      | .ref r ver 1 off len => match rowOf (h.get r) with
        | some (v, es) => if v == ver && (decide (off + len ≤ es.length) && (decide (0 < len) && (decide (len ≤ sizeMost) && (h.ty r == some T)))) then (byteVals (cut off (off + len) es)).map fun l => (.str l, h.set r (.frow v es)) else none
        | _ => none
      | _ => none
    | _ => none
  | _ => none

/-- A row of bytes of which nothing is known. -/
def pMakeNoZero (T : Nat) (xs : List CVal) (h : CHeap) : Option (CVal × CHeap) :=
  match xs with
  | [.int .i64 n] => if decide (0 ≤ n) && decide (n ≤ sizeMost) then some (.ref h.next 0 1 0 n.toNat, (({ h with next := h.next + 1 } : CHeap).put h.next (.row 0 [])).note h.next (T + 1)) else none
  | _ => none

def hasFront : List UInt8 → List UInt8 → Bool
  | _, [] => true
  | [], _ :: _ => false
  | a :: x, b :: y => a == b && hasFront x y
def idxSub (p : List UInt8) : List UInt8 → Nat → Int
  | [], i => match p with
    | [] => i
    | _ :: _ => -1
  | a :: r, i => bif hasFront (a :: r) p then i else idxSub p r (i + 1)
def pIndex (xs : List CVal) (h : CHeap) : Option (CVal × CHeap) :=
  match xs with
  | [.str s, .str p] => if decide (s.length < 4294967281) then some (.int .i64 (idxSub p s 0), h) else none
  | _ => none
end Go.CI

/- The interpreter once more, in a form that the kernel runs fast: every choice is a recursor over closed terms. -/
set_option linter.unusedVariables false
namespace Go.CI

/-! Which value it is. -/
noncomputable def selBool (v : CVal) : (β : Type) → (Bool → β) → β → β :=
  @CVal.rec.{2} (fun _ => (β : Type) → (Bool → β) → β → β) (fun _ => PUnit)
    (fun _ _ d => d) (fun x0 => fun _ f _ => f x0) (fun _ _ => fun _ _ d => d) (fun _ => fun _ _ d => d) (fun _ _ d => d) (fun _ _ _ => fun _ _ d => d) (fun _ _ _ => fun _ _ d => d) (fun _ _ _ _ => fun _ _ d => d) (fun _ _ d => d) (fun _ _ _ _ => fun _ _ d => d) (fun _ _ _ _ _ => fun _ _ d => d) (fun _ _ d => d) (fun _ => fun _ _ d => d) (fun _ _ _ _ _ => fun _ _ d => d) (fun _ _ d => d) (fun _ _ _ => fun _ _ d => d) (fun _ _ d => d) (fun _ _ => fun _ _ d => d) (fun _ _ => fun _ _ d => d) PUnit.unit (fun _ _ _ _ => PUnit.unit) v

noncomputable def selInt (v : CVal) : (β : Type) → (IntKind → Int → β) → β → β :=
  @CVal.rec.{2} (fun _ => (β : Type) → (IntKind → Int → β) → β → β) (fun _ => PUnit)
    (fun _ _ d => d) (fun _ => fun _ _ d => d) (fun x0 x1 => fun _ f _ => f x0 x1) (fun _ => fun _ _ d => d) (fun _ _ d => d) (fun _ _ _ => fun _ _ d => d) (fun _ _ _ => fun _ _ d => d) (fun _ _ _ _ => fun _ _ d => d) (fun _ _ d => d) (fun _ _ _ _ => fun _ _ d => d) (fun _ _ _ _ _ => fun _ _ d => d) (fun _ _ d => d) (fun _ => fun _ _ d => d) (fun _ _ _ _ _ => fun _ _ d => d) (fun _ _ d => d) (fun _ _ _ => fun _ _ d => d) (fun _ _ d => d) (fun _ _ => fun _ _ d => d) (fun _ _ => fun _ _ d => d) PUnit.unit (fun _ _ _ _ => PUnit.unit) v

noncomputable def selStr (v : CVal) : (β : Type) → (List UInt8 → β) → β → β :=
  @CVal.rec.{2} (fun _ => (β : Type) → (List UInt8 → β) → β → β) (fun _ => PUnit)
    (fun _ _ d => d) (fun _ => fun _ _ d => d) (fun _ _ => fun _ _ d => d) (fun x0 => fun _ f _ => f x0) (fun _ _ d => d) (fun _ _ _ => fun _ _ d => d) (fun _ _ _ => fun _ _ d => d) (fun _ _ _ _ => fun _ _ d => d) (fun _ _ d => d) (fun _ _ _ _ => fun _ _ d => d) (fun _ _ _ _ _ => fun _ _ d => d) (fun _ _ d => d) (fun _ => fun _ _ d => d) (fun _ _ _ _ _ => fun _ _ d => d) (fun _ _ d => d) (fun _ _ _ => fun _ _ d => d) (fun _ _ d => d) (fun _ _ => fun _ _ d => d) (fun _ _ => fun _ _ d => d) PUnit.unit (fun _ _ _ _ => PUnit.unit) v

noncomputable def selPtr (v : CVal) : (β : Type) → (Nat → Nat → Nat → β) → β → β :=
  @CVal.rec.{2} (fun _ => (β : Type) → (Nat → Nat → Nat → β) → β → β) (fun _ => PUnit)
    (fun _ _ d => d) (fun _ => fun _ _ d => d) (fun _ _ => fun _ _ d => d) (fun _ => fun _ _ d => d) (fun _ _ d => d) (fun x0 x1 x2 => fun _ f _ => f x0 x1 x2) (fun _ _ _ => fun _ _ d => d) (fun _ _ _ _ => fun _ _ d => d) (fun _ _ d => d) (fun _ _ _ _ => fun _ _ d => d) (fun _ _ _ _ _ => fun _ _ d => d) (fun _ _ d => d) (fun _ => fun _ _ d => d) (fun _ _ _ _ _ => fun _ _ d => d) (fun _ _ d => d) (fun _ _ _ => fun _ _ d => d) (fun _ _ d => d) (fun _ _ => fun _ _ d => d) (fun _ _ => fun _ _ d => d) PUnit.unit (fun _ _ _ _ => PUnit.unit) v

noncomputable def selCptr (v : CVal) : (β : Type) → (List CVal → Nat → β) → β → β :=
  @CVal.rec.{2} (fun _ => (β : Type) → (List CVal → Nat → β) → β → β) (fun _ => PUnit)
    (fun _ _ d => d) (fun _ => fun _ _ d => d) (fun _ _ => fun _ _ d => d) (fun _ => fun _ _ d => d) (fun _ _ d => d) (fun _ _ _ => fun _ _ d => d) (fun x0 x1 _ => fun _ f _ => f x0 x1) (fun _ _ _ _ => fun _ _ d => d) (fun _ _ d => d) (fun _ _ _ _ => fun _ _ d => d) (fun _ _ _ _ _ => fun _ _ d => d) (fun _ _ d => d) (fun _ => fun _ _ d => d) (fun _ _ _ _ _ => fun _ _ d => d) (fun _ _ d => d) (fun _ _ _ => fun _ _ d => d) (fun _ _ d => d) (fun _ _ => fun _ _ d => d) (fun _ _ => fun _ _ d => d) PUnit.unit (fun _ _ _ _ => PUnit.unit) v

noncomputable def selEptr (v : CVal) : (β : Type) → (Nat → Nat → Nat → Nat → β) → β → β :=
  @CVal.rec.{2} (fun _ => (β : Type) → (Nat → Nat → Nat → Nat → β) → β → β) (fun _ => PUnit)
    (fun _ _ d => d) (fun _ => fun _ _ d => d) (fun _ _ => fun _ _ d => d) (fun _ => fun _ _ d => d) (fun _ _ d => d) (fun _ _ _ => fun _ _ d => d) (fun _ _ _ => fun _ _ d => d) (fun x0 x1 x2 x3 => fun _ f _ => f x0 x1 x2 x3) (fun _ _ d => d) (fun _ _ _ _ => fun _ _ d => d) (fun _ _ _ _ _ => fun _ _ d => d) (fun _ _ d => d) (fun _ => fun _ _ d => d) (fun _ _ _ _ _ => fun _ _ d => d) (fun _ _ d => d) (fun _ _ _ => fun _ _ d => d) (fun _ _ d => d) (fun _ _ => fun _ _ d => d) (fun _ _ => fun _ _ d => d) PUnit.unit (fun _ _ _ _ => PUnit.unit) v

noncomputable def selImm (v : CVal) : (β : Type) → (Tag → Nat → List CVal → β) → β → β :=
  @CVal.rec.{2} (fun _ => (β : Type) → (Tag → Nat → List CVal → β) → β → β) (fun _ => PUnit)
    (fun _ _ d => d) (fun _ => fun _ _ d => d) (fun _ _ => fun _ _ d => d) (fun _ => fun _ _ d => d) (fun _ _ d => d) (fun _ _ _ => fun _ _ d => d) (fun _ _ _ => fun _ _ d => d) (fun _ _ _ _ => fun _ _ d => d) (fun _ _ d => d) (fun x0 x1 x2 _ => fun _ f _ => f x0 x1 x2) (fun _ _ _ _ _ => fun _ _ d => d) (fun _ _ d => d) (fun _ => fun _ _ d => d) (fun _ _ _ _ _ => fun _ _ d => d) (fun _ _ d => d) (fun _ _ _ => fun _ _ d => d) (fun _ _ d => d) (fun _ _ => fun _ _ d => d) (fun _ _ => fun _ _ d => d) PUnit.unit (fun _ _ _ _ => PUnit.unit) v

noncomputable def selRef (v : CVal) : (β : Type) → (Nat → Nat → Nat → Nat → Nat → β) → β → β :=
  @CVal.rec.{2} (fun _ => (β : Type) → (Nat → Nat → Nat → Nat → Nat → β) → β → β) (fun _ => PUnit)
    (fun _ _ d => d) (fun _ => fun _ _ d => d) (fun _ _ => fun _ _ d => d) (fun _ => fun _ _ d => d) (fun _ _ d => d) (fun _ _ _ => fun _ _ d => d) (fun _ _ _ => fun _ _ d => d) (fun _ _ _ _ => fun _ _ d => d) (fun _ _ d => d) (fun _ _ _ _ => fun _ _ d => d) (fun x0 x1 x2 x3 x4 => fun _ f _ => f x0 x1 x2 x3 x4) (fun _ _ d => d) (fun _ => fun _ _ d => d) (fun _ _ _ _ _ => fun _ _ d => d) (fun _ _ d => d) (fun _ _ _ => fun _ _ d => d) (fun _ _ d => d) (fun _ _ => fun _ _ d => d) (fun _ _ => fun _ _ d => d) PUnit.unit (fun _ _ _ _ => PUnit.unit) v

noncomputable def selFn (v : CVal) : (β : Type) → (Fn → List CVal → List CVal → β) → β → β :=
  @CVal.rec.{2} (fun _ => (β : Type) → (Fn → List CVal → List CVal → β) → β → β) (fun _ => PUnit)
    (fun _ _ d => d) (fun _ => fun _ _ d => d) (fun _ _ => fun _ _ d => d) (fun _ => fun _ _ d => d) (fun _ _ d => d) (fun _ _ _ => fun _ _ d => d) (fun _ _ _ => fun _ _ d => d) (fun _ _ _ _ => fun _ _ d => d) (fun _ _ d => d) (fun _ _ _ _ => fun _ _ d => d) (fun _ _ _ _ _ => fun _ _ d => d) (fun _ _ d => d) (fun _ => fun _ _ d => d) (fun x0 x1 x2 _ _ => fun _ f _ => f x0 x1 x2) (fun _ _ d => d) (fun _ _ _ => fun _ _ d => d) (fun _ _ d => d) (fun _ _ => fun _ _ d => d) (fun _ _ => fun _ _ d => d) PUnit.unit (fun _ _ _ _ => PUnit.unit) v

noncomputable def selAgg (v : CVal) : (β : Type) → (List CVal → β) → β → β :=
  @CVal.rec.{2} (fun _ => (β : Type) → (List CVal → β) → β → β) (fun _ => PUnit)
    (fun _ _ d => d) (fun _ => fun _ _ d => d) (fun _ _ => fun _ _ d => d) (fun _ => fun _ _ d => d) (fun _ _ d => d) (fun _ _ _ => fun _ _ d => d) (fun _ _ _ => fun _ _ d => d) (fun _ _ _ _ => fun _ _ d => d) (fun _ _ d => d) (fun _ _ _ _ => fun _ _ d => d) (fun _ _ _ _ _ => fun _ _ d => d) (fun _ _ d => d) (fun _ => fun _ _ d => d) (fun _ _ _ _ _ => fun _ _ d => d) (fun _ _ d => d) (fun _ _ _ => fun _ _ d => d) (fun _ _ d => d) (fun x0 _ => fun _ f _ => f x0) (fun _ _ => fun _ _ d => d) PUnit.unit (fun _ _ _ _ => PUnit.unit) v

noncomputable def selTup (v : CVal) : (β : Type) → (List CVal → β) → β → β :=
  @CVal.rec.{2} (fun _ => (β : Type) → (List CVal → β) → β → β) (fun _ => PUnit)
    (fun _ _ d => d) (fun _ => fun _ _ d => d) (fun _ _ => fun _ _ d => d) (fun _ => fun _ _ d => d) (fun _ _ d => d) (fun _ _ _ => fun _ _ d => d) (fun _ _ _ => fun _ _ d => d) (fun _ _ _ _ => fun _ _ d => d) (fun _ _ d => d) (fun _ _ _ _ => fun _ _ d => d) (fun _ _ _ _ _ => fun _ _ d => d) (fun _ _ d => d) (fun _ => fun _ _ d => d) (fun _ _ _ _ _ => fun _ _ d => d) (fun _ _ d => d) (fun _ _ _ => fun _ _ d => d) (fun _ _ d => d) (fun _ _ => fun _ _ d => d) (fun x0 _ => fun _ f _ => f x0) PUnit.unit (fun _ _ _ _ => PUnit.unit) v

noncomputable def selNils (v : CVal) : (β : Type) → β → β → β :=
  @CVal.rec.{2} (fun _ => (β : Type) → β → β → β) (fun _ => PUnit)
    (fun _ _ d => d) (fun _ => fun _ _ d => d) (fun _ _ => fun _ _ d => d) (fun _ => fun _ _ d => d) (fun _ _ d => d) (fun _ _ _ => fun _ _ d => d) (fun _ _ _ => fun _ _ d => d) (fun _ _ _ _ => fun _ _ d => d) (fun _ f _ => f ) (fun _ _ _ _ => fun _ _ d => d) (fun _ _ _ _ _ => fun _ _ d => d) (fun _ _ d => d) (fun _ => fun _ _ d => d) (fun _ _ _ _ _ => fun _ _ d => d) (fun _ _ d => d) (fun _ _ _ => fun _ _ d => d) (fun _ _ d => d) (fun _ _ => fun _ _ d => d) (fun _ _ => fun _ _ d => d) PUnit.unit (fun _ _ _ _ => PUnit.unit) v

noncomputable def isUndefF (v : CVal) : Bool :=
  @CVal.rec.{1} (fun _ => Bool) (fun _ => PUnit)
    (true) (fun _ => false) (fun _ _ => false) (fun _ => false) (false) (fun _ _ _ => false) (fun _ _ _ => false) (fun _ _ _ _ => false) (false) (fun _ _ _ _ => false) (fun _ _ _ _ _ => false) (false) (fun _ => false) (fun _ _ _ _ _ => false) (false) (fun _ _ _ => false) (false) (fun _ _ => false) (fun _ _ => false) PUnit.unit (fun _ _ _ _ => PUnit.unit) v

noncomputable def isPtrF (v : CVal) : Bool :=
  @CVal.rec.{1} (fun _ => Bool) (fun _ => PUnit)
    (false) (fun _ => false) (fun _ _ => false) (fun _ => false) (false) (fun _ _ _ => true) (fun _ _ _ => true) (fun _ _ _ _ => true) (false) (fun _ _ _ _ => false) (fun _ _ _ _ _ => false) (false) (fun _ => false) (fun _ _ _ _ _ => false) (false) (fun _ _ _ => false) (false) (fun _ _ => false) (fun _ _ => false) PUnit.unit (fun _ _ _ _ => PUnit.unit) v

noncomputable def isNilsF (v : CVal) : Bool :=
  @CVal.rec.{1} (fun _ => Bool) (fun _ => PUnit)
    (false) (fun _ => false) (fun _ _ => false) (fun _ => false) (false) (fun _ _ _ => false) (fun _ _ _ => false) (fun _ _ _ _ => false) (true) (fun _ _ _ _ => false) (fun _ _ _ _ _ => false) (false) (fun _ => false) (fun _ _ _ _ _ => false) (false) (fun _ _ _ => false) (false) (fun _ _ => false) (fun _ _ => false) PUnit.unit (fun _ _ _ _ => PUnit.unit) v

noncomputable def isSlcF (v : CVal) : Bool :=
  @CVal.rec.{1} (fun _ => Bool) (fun _ => PUnit)
    (false) (fun _ => false) (fun _ _ => false) (fun _ => false) (false) (fun _ _ _ => false) (fun _ _ _ => false) (fun _ _ _ _ => false) (false) (fun _ _ _ _ => true) (fun _ _ _ _ _ => true) (false) (fun _ => false) (fun _ _ _ _ _ => false) (false) (fun _ _ _ => false) (false) (fun _ _ => false) (fun _ _ => false) PUnit.unit (fun _ _ _ _ => PUnit.unit) v

noncomputable def isNilpF (v : CVal) : Bool :=
  @CVal.rec.{1} (fun _ => Bool) (fun _ => PUnit)
    (false) (fun _ => false) (fun _ _ => false) (fun _ => false) (true) (fun _ _ _ => false) (fun _ _ _ => false) (fun _ _ _ _ => false) (false) (fun _ _ _ _ => false) (fun _ _ _ _ _ => false) (false) (fun _ => false) (fun _ _ _ _ _ => false) (false) (fun _ _ _ => false) (false) (fun _ _ => false) (fun _ _ => false) PUnit.unit (fun _ _ _ _ => PUnit.unit) v

noncomputable def isOptrF (v : CVal) : Bool :=
  @CVal.rec.{1} (fun _ => Bool) (fun _ => PUnit)
    (false) (fun _ => false) (fun _ _ => false) (fun _ => false) (false) (fun _ _ _ => true) (fun _ _ _ => false) (fun _ _ _ _ => false) (false) (fun _ _ _ _ => false) (fun _ _ _ _ _ => false) (false) (fun _ => false) (fun _ _ _ _ _ => false) (false) (fun _ _ _ => false) (false) (fun _ _ => false) (fun _ _ => false) PUnit.unit (fun _ _ _ _ => PUnit.unit) v

noncomputable def wholeF (v : CVal) : Bool :=
  @CVal.rec.{1} (fun _ => Bool) (fun _ => PUnit)
    (false) (fun _ => true) (fun _ _ => true) (fun _ => true) (true) (fun _ _ _ => true) (fun _ _ _ => true) (fun _ _ _ _ => true) (true) (fun _ _ _ _ => true) (fun _ _ _ _ _ => true) (true) (fun _ => true) (fun _ _ _ _ _ => true) (true) (fun _ _ _ => true) (true) (fun _ _ => true) (fun _ _ => false) PUnit.unit (fun _ _ _ _ => PUnit.unit) v

noncomputable def cellsF (v : CVal) : List CVal :=
  @CVal.rec.{1} (fun _ => List CVal) (fun _ => PUnit)
    ([CVal.undef]) (fun x0 => [CVal.bool x0]) (fun x0 x1 => [CVal.int x0 x1]) (fun x0 => [CVal.str x0]) ([CVal.nilp]) (fun x0 x1 x2 => [CVal.ptr x0 x1 x2]) (fun x0 x1 _ => [CVal.cptr x0 x1]) (fun x0 x1 x2 x3 => [CVal.eptr x0 x1 x2 x3]) ([CVal.nils]) (fun x0 x1 x2 _ => [CVal.imm x0 x1 x2]) (fun x0 x1 x2 x3 x4 => [CVal.ref x0 x1 x2 x3 x4]) ([CVal.nilm]) (fun x0 => [CVal.map x0]) (fun x0 x1 x2 _ _ => [CVal.fn x0 x1 x2]) ([CVal.nilf]) (fun x0 x1 _ => [CVal.ifc x0 x1]) ([CVal.nili]) (fun x0 _ => x0) (fun x0 _ => [CVal.tup x0]) PUnit.unit (fun _ _ _ _ => PUnit.unit) v

noncomputable def stripF (v : CVal) : CVal :=
  @CVal.rec.{1} (fun _ => CVal) (fun _ => PUnit)
    (CVal.undef) (fun x0 => CVal.bool x0) (fun x0 x1 => CVal.int x0 x1) (fun x0 => CVal.str x0) (CVal.nilp) (fun x0 x1 x2 => CVal.ptr x0 x1 x2) (fun x0 x1 _ => CVal.cptr x0 x1) (fun x0 x1 x2 x3 => CVal.eptr x0 x1 x2 x3) (CVal.nils) (fun x0 x1 x2 _ => @Tag.rec (fun _ => CVal) (.imm .none x1 x2) (.imm .full x1 x2) (fun _ _ => .imm .none x1 x2) x0) (fun x0 x1 x2 x3 x4 => CVal.ref x0 x1 x2 x3 x4) (CVal.nilm) (fun x0 => CVal.map x0) (fun x0 x1 x2 _ _ => CVal.fn x0 x1 x2) (CVal.nilf) (fun x0 x1 _ => CVal.ifc x0 x1) (CVal.nili) (fun x0 _ => CVal.agg x0) (fun x0 _ => CVal.tup x0) PUnit.unit (fun _ _ _ _ => PUnit.unit) v

/-! The choices. -/

noncomputable def bF (b : Bool) : (β : Type) → β → β → β := @Bool.rec.{2} (fun _ => (β : Type) → β → β → β) (fun _ _ y => y) (fun _ x _ => x) b
noncomputable def andF (a b : Bool) : Bool := @Bool.rec.{1} (fun _ => Bool → Bool) (fun _ => false) (fun b => b) a b

noncomputable def nthF (l : List CVal) : Nat → CVal :=
  @List.rec.{1, 0} CVal (fun _ => Nat → CVal) (fun _ => .undef) (fun v _ ih i => @Nat.rec.{1} (fun _ => CVal) v (fun j _ => ih j) i) l
noncomputable def nthO (l : List CVal) : Nat → Option CVal :=
  @List.rec.{1, 0} CVal (fun _ => Nat → Option CVal) (fun _ => none) (fun v _ ih i => @Nat.rec.{1} (fun _ => Option CVal) (some v) (fun j _ => ih j) i) l
noncomputable def nthB (l : List UInt8) : Nat → Option UInt8 :=
  @List.rec.{1, 0} UInt8 (fun _ => Nat → Option UInt8) (fun _ => none) (fun v _ ih i => @Nat.rec.{1} (fun _ => Option UInt8) (some v) (fun j _ => ih j) i) l
noncomputable def lenC (l : List CVal) : Nat := @List.rec.{1, 0} CVal (fun _ => Nat) 0 (fun _ _ ih => Nat.succ ih) l
noncomputable def lenB (l : List UInt8) : Nat := @List.rec.{1, 0} UInt8 (fun _ => Nat) 0 (fun _ _ ih => Nat.succ ih) l
noncomputable def dropC (l : List CVal) : Nat → List CVal :=
  @List.rec.{1, 0} CVal (fun _ => Nat → List CVal) (fun _ => []) (fun v r ih i => @Nat.rec.{1} (fun _ => List CVal) (v :: r) (fun j _ => ih j) i) l
noncomputable def appC (l : List CVal) : List CVal → List CVal :=
  @List.rec.{1, 0} CVal (fun _ => List CVal → List CVal) (fun y => y) (fun v _ ih y => v :: ih y) l
noncomputable def dropB (l : List UInt8) : Nat → List UInt8 :=
  @List.rec.{1, 0} UInt8 (fun _ => Nat → List UInt8) (fun _ => []) (fun v r ih i => @Nat.rec.{1} (fun _ => List UInt8) (v :: r) (fun j _ => ih j) i) l
noncomputable def takeB (l : List UInt8) : Nat → List UInt8 :=
  @List.rec.{1, 0} UInt8 (fun _ => Nat → List UInt8) (fun _ => []) (fun v _ ih i => @Nat.rec.{1} (fun _ => List UInt8) [] (fun j _ => v :: ih j) i) l
noncomputable def eqB (l : List UInt8) : List UInt8 → Bool :=
  @List.rec.{1, 0} UInt8 (fun _ => List UInt8 → Bool) (fun y => @List.rec.{1, 0} UInt8 (fun _ => Bool) true (fun _ _ _ => false) y)
    (fun a _ ih y => @List.rec.{1, 0} UInt8 (fun _ => Bool) false (fun b t _ => andF (Nat.beq a.toNat b.toNat) (ih t)) y) l
noncomputable def mapO (f : COpnd → CVal) (l : List COpnd) : List CVal := @List.rec.{1, 0} COpnd (fun _ => List CVal) [] (fun v _ ih => f v :: ih) l

noncomputable def opndF (o : COpnd) : List CVal → List CVal → CVal :=
  @COpnd.rec.{1} (fun _ => List CVal → List CVal → CVal) (fun i _ vals => nthF vals i) (fun j tm _ => nthF tm j) (fun v _ _ => v) o

/-! Whole numbers. -/
noncomputable def kindN (k : IntKind) : Nat := @IntKind.rec.{1} (fun _ => Nat) 0 1 2 3 4 5 6 7 k
noncomputable def kEqF (a b : IntKind) : Bool := Nat.beq (kindN a) (kindN b)
noncomputable def maxN (k : IntKind) : Nat := @IntKind.rec.{1} (fun _ => Nat) 127 32767 2147483647 9223372036854775807 255 65535 4294967295 18446744073709551615 k
noncomputable def sgnN (k : IntKind) : Bool := @IntKind.rec.{1} (fun _ => Bool) true true true true false false false false k
noncomputable def wrapF (k : IntKind) (x : Int) : Int :=
  @Int.rec.{1} (fun _ => IntKind → Int) (fun n k => bF (Nat.ble n (maxN k)) Int (.ofNat n) (IntKind.wrap k (.ofNat n))) (fun n k => bF (andF (sgnN k) (Nat.ble n (maxN k))) Int (.negSucc n) (IntKind.wrap k (.negSucc n))) x k
noncomputable def ltF (a b : Int) : Bool :=
  @Int.rec.{1} (fun _ => Int → Bool) (fun m b => @Int.rec.{1} (fun _ => Bool) (fun n => Nat.blt m n) (fun _ => false) b) (fun m b => @Int.rec.{1} (fun _ => Bool) (fun _ => true) (fun n => Nat.blt n m) b) a b
noncomputable def eqF (a b : Int) : Bool :=
  @Int.rec.{1} (fun _ => Int → Bool) (fun m b => @Int.rec.{1} (fun _ => Bool) (fun n => Nat.beq m n) (fun _ => false) b) (fun m b => @Int.rec.{1} (fun _ => Bool) (fun _ => false) (fun n => Nat.beq m n) b) a b
noncomputable def notF (a : Bool) : Bool := @Bool.rec.{1} (fun _ => Bool) true false a
noncomputable def addF (a b : Int) : Int :=
  @Int.rec.{1} (fun _ => Int → Int) (fun m b => @Int.rec.{1} (fun _ => Int) (fun n => .ofNat (Nat.add m n)) (fun n => Int.add (.ofNat m) (.negSucc n)) b) (fun m b => Int.add (.negSucc m) b) a b
noncomputable def subF (a b : Int) : Int :=
  @Int.rec.{1} (fun _ => Int → Int) (fun m b => @Int.rec.{1} (fun _ => Int) (fun n => bF (Nat.ble n m) Int (.ofNat (Nat.sub m n)) (Int.sub (.ofNat m) (.ofNat n))) (fun n => Int.sub (.ofNat m) (.negSucc n)) b) (fun m b => Int.sub (.negSucc m) b) a b
noncomputable def arithF (b : BinOp) : IntKind → Int → Int → Option CVal :=
  @BinOp.rec.{1} (fun _ => IntKind → Int → Int → Option CVal) (fun k x y => some (.int k (wrapF k (addF x y)))) (fun k x y => some (.int k (wrapF k (subF x y)))) (fun k x y => some (.int k (wrapF k (Int.mul x y))))
    (evalInt .quo) (evalInt .rem) (evalInt .and) (evalInt .or) (evalInt .xor) (evalInt .shl) (evalInt .shr) (evalInt .andNot)
    (fun _ x y => some (.bool (eqF x y))) (fun _ x y => some (.bool (notF (eqF x y)))) (fun _ x y => some (.bool (ltF x y))) (fun _ x y => some (.bool (notF (ltF y x)))) (fun _ x y => some (.bool (ltF y x))) (fun _ x y => some (.bool (notF (ltF x y)))) b
noncomputable def strF (b : BinOp) : List UInt8 → List UInt8 → Option CVal :=
  @BinOp.rec.{1} (fun _ => List UInt8 → List UInt8 → Option CVal) (evalStr .add) (evalStr .sub) (evalStr .mul) (evalStr .quo) (evalStr .rem) (evalStr .and) (evalStr .or) (evalStr .xor) (evalStr .shl) (evalStr .shr) (evalStr .andNot)
    (fun x y => some (.bool (eqB x y))) (fun x y => some (.bool (notF (eqB x y)))) (evalStr .lss) (evalStr .leq) (evalStr .gtr) (evalStr .geq) b
noncomputable def gen2 (ar : IntKind → Int → Int → Option CVal) (st : List UInt8 → List UInt8 → Option CVal) (x y : CVal) : Option CVal :=
  selInt x (Option CVal) (fun k a => selInt y (Option CVal) (fun l c => bF (kEqF k l) (Option CVal) (ar k a c) none) none) (selStr x (Option CVal) (fun s => selStr y (Option CVal) (fun t => st s t) none) none)
noncomputable def isShF (b : BinOp) : Bool := @BinOp.rec.{1} (fun _ => Bool) false false false false false false false false true true false false false false false false false b
noncomputable def binF (b : BinOp) (x y : CVal) : Option CVal := bF (isShF b) (Option CVal) (evalBin b x y) (gen2 (arithF b) (strF b) x y)

noncomputable def eqvF (e : EqK) : CVal → CVal → Option Bool :=
  @EqK.rec.{1} (fun _ => CVal → CVal → Option Bool) (fun x y => selBool x (Option Bool) (fun a => selBool y (Option Bool) (fun b => some (bF a Bool b (notF b))) none) none)
    (fun x y => bF (isNilsF x) (Option Bool) (bF (isNilsF y) (Option Bool) (some true) (bF (isSlcF y) (Option Bool) (some false) none)) (bF (andF (isSlcF x) (isNilsF y)) (Option Bool) (some false) none))
    (fun x y => bF (isNilpF x) (Option Bool) (bF (isNilpF y) (Option Bool) (some true) (bF (isOptrF y) (Option Bool) (some false) none)) (bF (andF (isOptrF x) (isNilpF y)) (Option Bool) (some false) none))
    (eqVal .map) (eqVal .fn) (eqVal .ifc) e

/-! Parts. -/
noncomputable def obCV (o : Option CVal) : (β : Type) → (CVal → β) → β → β := @Option.rec.{2, 0} CVal (fun _ => (β : Type) → (CVal → β) → β → β) (fun _ _ d => d) (fun v _ f _ => f v) o
noncomputable def okF (k : Option Nat) : (β : Type) → (Nat → β) → β → β := @Option.rec.{2, 0} Nat (fun _ => (β : Type) → (Nat → β) → β → β) (fun _ _ d => d) (fun v _ f _ => f v) k
noncomputable def partF (cs : List CVal) (o : Nat) (k : Option Nat) : Option CVal :=
  okF k (Option CVal) (fun k => bF (Nat.ble (Nat.add o k) (lenC cs)) (Option CVal) (some (.agg (cut o (o + k) cs))) none) (nthO cs o)

noncomputable def intNat (i : CVal) : (β : Type) → (Nat → β) → β → β := fun β f d => selInt i β (fun _ n => @Int.rec.{1} (fun _ => Option Nat → β) (fun m _ => f m) (fun _ _ => d) n none) d

noncomputable def idxAddrF (k : Nat) (x i : CVal) : Option CVal :=
  intNat i (Option CVal) (fun m => selImm x (Option CVal) (fun _ l es => bF (Nat.beq k l) (Option CVal) (obCV (nthO es m) (Option CVal) (fun e => some (.cptr (cellsF e) 0)) none) none)
    (selRef x (Option CVal) (fun b ver l off len => bF (andF (Nat.beq k l) (Nat.blt m len)) (Option CVal) (some (.eptr b ver (off + m) 0)) none) none)) none
noncomputable def obB (o : Option UInt8) : (β : Type) → (UInt8 → β) → β → β := @Option.rec.{2, 0} UInt8 (fun _ => (β : Type) → (UInt8 → β) → β → β) (fun _ _ d => d) (fun v _ f _ => f v) o
noncomputable def idxStrF (x i : CVal) : Option CVal := intNat i (Option CVal) (fun m => selStr x (Option CVal) (fun s => obB (nthB s m) (Option CVal) (fun b => some (.int .u8 (.ofNat b.toNat))) none) none) none
noncomputable def lenF (str : Bool) (x : CVal) : Option CVal :=
  bF str (Option CVal) (selStr x (Option CVal) (fun s => some (.int .i64 (.ofNat (lenB s)))) none)
    (selImm x (Option CVal) (fun _ _ es => some (.int .i64 (.ofNat (lenC es)))) (selRef x (Option CVal) (fun _ _ _ _ n => some (.int .i64 (.ofNat n))) (bF (isNilsF x) (Option CVal) (some (.int .i64 (.ofNat 0))) none)))
noncomputable def obO (o : Option COpnd) : (β : Type) → (COpnd → β) → β → β := @Option.rec.{2, 0} COpnd (fun _ => (β : Type) → (COpnd → β) → β → β) (fun _ _ d => d) (fun v _ f _ => f v) o
noncomputable def bndF (o : Option CVal) (d : Nat) : (β : Type) → (Nat → β) → β → β := fun β f e => @Option.rec.{1, 0} CVal (fun _ => Nat → β) (fun d => f d) (fun v _ => intNat v β f e) o d
noncomputable def slcF (k : Nat) (x : CVal) (lo hi : Option CVal) : Option CVal :=
  bF (Nat.beq k 0) (Option CVal)
    (selStr x (Option CVal) (fun s => bndF lo 0 (Option CVal) (fun l => @Option.rec.{1, 0} CVal (fun _ => Option CVal) (bF (Nat.ble l (lenB s)) (Option CVal) (some (.str (dropB s l))) none)
      (fun h => intNat h (Option CVal) (fun h => bF (andF (Nat.ble l h) (Nat.ble h (lenB s))) (Option CVal) (some (.str (dropB (takeB s h) l))) none) none) hi) none) (evalSlc k x lo hi))
    (evalSlc k x lo hi)
noncomputable def extrF (i : Nat) (x : CVal) : Option CVal := selTup x (Option CVal) (fun vs => nthO vs i) none
noncomputable def faF (off : Nat) (x : CVal) : Option CVal :=
  selPtr x (Option CVal) (fun b s o => some (.ptr b s (o + off))) (selCptr x (Option CVal) (fun cs o => some (.cptr cs (o + off))) (selEptr x (Option CVal) (fun b v i o => some (.eptr b v i (o + off))) none))

/-! The heap. -/
noncomputable def getF (l : List (Nat × CObj)) : Nat → Option CObj :=
  @List.rec.{1, 0} (Nat × CObj) (fun _ => Nat → Option CObj) (fun _ => none) (fun p _ ih b => @Prod.rec.{1, 0, 0} Nat CObj (fun _ => (Nat → Option CObj) → Nat → Option CObj) (fun i o ih b => bF (Nat.beq i b) (Option CObj) (some o) (ih b)) p ih b) l
noncomputable def setF (l : List (Nat × CObj)) : Nat → CObj → List (Nat × CObj) :=
  @List.rec.{1, 0} (Nat × CObj) (fun _ => Nat → CObj → List (Nat × CObj)) (fun _ _ => []) (fun p r ih b x => @Prod.rec.{1, 0, 0} Nat CObj (fun _ => (Nat → CObj → List (Nat × CObj)) → List (Nat × CObj) → Nat → CObj → List (Nat × CObj)) (fun i o ih r b x => bF (Nat.beq i b) (List (Nat × CObj)) ((i, x) :: r) ((i, o) :: ih b x)) p ih r b x) l
noncomputable def hgetF (h : CHeap) (b : Nat) : Option CObj := @CHeap.rec.{1} (fun _ => Nat → Option CObj) (fun e _ _ b => getF e b) h b
noncomputable def hsetF (h : CHeap) (b : Nat) (x : CObj) : CHeap := @CHeap.rec.{1} (fun _ => Nat → CObj → CHeap) (fun e n t b x => ⟨setF e b x, n, t⟩) h b x
noncomputable def hputF (h : CHeap) (b : Nat) (x : CObj) : CHeap := @CHeap.rec.{1} (fun _ => Nat → CObj → CHeap) (fun e n t b x => ⟨(b, x) :: e, n, t⟩) h b x
noncomputable def selCells (o : Option CObj) : (β : Type) → (List CVal → β) → β → β :=
  @Option.rec.{2, 0} CObj (fun _ => (β : Type) → (List CVal → β) → β → β) (fun _ _ d => d) (fun c => @CObj.rec.{2} (fun _ => (β : Type) → (List CVal → β) → β → β) (fun cs _ f _ => f cs) (fun _ _ _ _ d => d) (fun _ _ _ d => d) (fun _ _ _ _ d => d) (fun _ _ _ _ d => d) c) o
noncomputable def selRow (o : Option CObj) : (β : Type) → (Nat → List CVal → β) → β → β :=
  @Option.rec.{2, 0} CObj (fun _ => (β : Type) → (Nat → List CVal → β) → β → β) (fun _ _ d => d) (fun c => @CObj.rec.{2} (fun _ => (β : Type) → (Nat → List CVal → β) → β → β) (fun _ _ _ d => d) (fun v es _ f _ => f v es) (fun _ _ _ d => d) (fun _ _ _ _ d => d) (fun _ _ _ _ d => d) c) o

noncomputable def loadF (k : Option Nat) (a : CVal) (h : CHeap) : Option CVal :=
  selPtr a (Option CVal) (fun b _ o => selCells (hgetF h b) (Option CVal) (fun cs => partF cs o k) none)
    (selCptr a (Option CVal) (fun cs o => partF cs o k)
      (selEptr a (Option CVal) (fun b ver i o => selRow (hgetF h b) (Option CVal) (fun v es => bF (Nat.beq v ver) (Option CVal) (obCV (nthO es i) (Option CVal) (fun e => partF (cellsF e) o k) none) none) none) none))

noncomputable def setCsF (cs : List CVal) : Nat → List CVal → List CVal :=
  @List.rec.{1, 0} CVal (fun _ => Nat → List CVal → List CVal) (fun _ v => v) (fun c r ih o v => @Nat.rec.{1} (fun _ => List CVal) (appC v (dropC (c :: r) (lenC v))) (fun j _ => c :: ih j v) o) cs

noncomputable def storeF (k : Nat) (a x : CVal) (h : CHeap) : Option (CVal × CHeap) :=
  bF (andF (wholeF x) (Nat.beq (lenC (cellsF x)) k)) (Option (CVal × CHeap))
    (selPtr a (Option (CVal × CHeap)) (fun b _ o => selCells (hgetF h b) (Option (CVal × CHeap)) (fun cs => bF (Nat.ble (Nat.add o k) (lenC cs)) (Option (CVal × CHeap)) (some (.undef, hsetF h b (.cells (setCsF cs o (cellsF x))))) none) none)
      (evalE (fun _ _ _ => none) (fun o => opndF o [] [a, x]) h 0 (.store k (.loc 0) (.loc 1)))) none

noncomputable def initF (k : Nat) (a x : CVal) (h : CHeap) : Option (CVal × CHeap) :=
  bF (andF (wholeF x) (Nat.beq (lenC (cellsF x)) k)) (Option (CVal × CHeap))
    (selPtr a (Option (CVal × CHeap)) (fun b s o => bF (andF (Nat.beq (Nat.mod s 1048576) k) (Nat.beq o 0)) (Option (CVal × CHeap))
      (@Option.rec.{1, 0} CObj (fun _ => Option (CVal × CHeap)) (some (.undef, hputF h b (.cells (cellsF x)))) (fun _ => none) (hgetF h b)) none) none) none

noncomputable def bareF (v : CVal) : CVal := selAgg v CVal (fun cs => .agg (@List.rec.{1, 0} CVal (fun _ => List CVal) [] (fun c _ ih => stripF c :: ih) cs)) (selTup v CVal (fun vs => CVal.bare (.tup vs)) (stripF v))

/-! Operations. -/
noncomputable def pK (e : Option CVal) (vals : List CVal) (h : CHeap) (ds : List (Nat × List CVal)) (hs : List CHeap) (k : List CVal → CHeap → List (Nat × List CVal) → List CHeap → Option RS) : Option RS :=
  obCV e (Option RS) (fun v => bF (isUndefF v) (Option RS) none (k (v :: vals) h ds hs)) none
noncomputable def eK (st : Bool) (e : Option (CVal × CHeap)) (vals : List CVal) (h : CHeap) (ds : List (Nat × List CVal)) (hs : List CHeap) (k : List CVal → CHeap → List (Nat × List CVal) → List CHeap → Option RS) : Option RS :=
  @Option.rec.{1, 0} (CVal × CHeap) (fun _ => Option RS) none (fun p => @Prod.rec.{1, 0, 0} CVal CHeap (fun _ => Option RS) (fun v h' => bF (andF (isUndefF v) (notF st)) (Option RS) none (k (v :: vals) h' ds (h :: hs))) p) e

noncomputable def fillF (ps : List (Nat × Nat × COpnd)) : (COpnd → CVal) → List CVal → Option (List CVal) :=
  @List.rec.{1, 0} (Nat × Nat × COpnd) (fun _ => (COpnd → CVal) → List CVal → Option (List CVal)) (fun _ cs => some cs)
    (fun p _ ih ev cs => bF (andF (wholeF (ev p.2.2)) (andF (Nat.beq (lenC (cellsF (ev p.2.2))) p.2.1) (Nat.ble (Nat.add p.1 p.2.1) (lenC cs)))) (Option (List CVal)) (ih ev (setCsF cs p.1 (cellsF (ev p.2.2)))) none) ps
noncomputable def olCV (o : Option (List CVal)) : Option CVal := @Option.rec.{1, 0} (List CVal) (fun _ => Option CVal) none (fun l => some (.agg l)) o

noncomputable def elemsF (h : CHeap) (k : Nat) (x : CVal) : Option (List CVal) :=
  selImm x (Option (List CVal)) (fun _ l es => bF (Nat.beq k l) (Option (List CVal)) (some es) none) (elems h k x)

noncomputable def appendF (m : SMode) (T k : Nat) (x y : CVal) (h : CHeap) (id : Nat) : Option (CVal × CHeap) :=
  @Option.rec.{1, 0} (List CVal) (fun _ => Option (CVal × CHeap)) none (fun ys => evalAppend h id m T k x (@List.rec.{1, 0} CVal (fun _ => List CVal) [] (fun v _ ih => bareF v :: ih) ys)) (elemsF h k y)

noncomputable def clsED (op : COp) : Bool := match op.cls with | .e => true | .d => true | _ => false

noncomputable def slowP (op : COp) (tm : List CVal) (id : Nat) (vals : List CVal) (h : CHeap) (ds : List (Nat × List CVal)) (hs : List CHeap) (k : List CVal → CHeap → List (Nat × List CVal) → List CHeap → Option RS) : Option RS :=
  pK (evalP (fun o => opndF o tm vals) id op) vals h ds hs k
noncomputable def slowE (cf : Nat → List CVal → CHeap → Option (CVal × CHeap)) (op : COp) (tm : List CVal) (id : Nat) (vals : List CVal) (h : CHeap) (ds : List (Nat × List CVal)) (hs : List CHeap) (k : List CVal → CHeap → List (Nat × List CVal) → List CHeap → Option RS) : Option RS :=
  eK op.isStore (evalE cf (fun o => opndF o tm vals) h id op) vals h ds hs k

noncomputable def callArgs (keep : Bool) (args : List COpnd) (tm vals : List CVal) : List CVal :=
  bF keep (List CVal) (mapO (fun o => opndF o tm vals) args) (mapO (fun o => bareF (opndF o tm vals)) args)

noncomputable def opF (op : COp) : (Nat → List CVal → CHeap → Option (CVal × CHeap)) → List CVal → Nat → List CVal → CHeap → List (Nat × List CVal) → List CHeap → (List CVal → CHeap → List (Nat × List CVal) → List CHeap → Option RS) → Option RS :=
  @COp.rec.{1} (fun _ => (Nat → List CVal → CHeap → Option (CVal × CHeap)) → List CVal → Nat → List CVal → CHeap → List (Nat × List CVal) → List CHeap → (List CVal → CHeap → List (Nat × List CVal) → List CHeap → Option RS) → Option RS)
    (fun x _ tm _ vals => pK (some (opndF x tm vals)) vals)
    (fun c a b _ tm _ vals h ds hs k => selBool (opndF c tm vals) (Option RS) (fun t => pK (some (bF t CVal (opndF a tm vals) (opndF b tm vals))) vals h ds hs k) none)
    (fun T z _ _ id vals h => eK false (bF (Nat.blt (lenC z) 1048576) (Option (CVal × CHeap)) (some (.ptr id (descOf T (lenC z)) 0, hputF h id (.cells z))) none) vals h)
    (fun d _ _ id vals => pK (some (.ptr id d 0)) vals)
    (fun T x cf tm id vals h => slowE cf (.box T x) tm id vals h)
    (fun z ps _ tm _ vals => pK (olCV (fillF ps (fun o => opndF o tm vals) z)) vals)
    (fun m a z n ps cf tm id vals h ds hs k => @SMode.rec.{1} (fun _ => Option RS) (slowP (.lit .imm a z n ps) tm id vals h ds hs k) (slowE cf (.lit .ref a z n ps) tm id vals h ds hs k) m)
    (fun k a _ tm _ vals h => pK (loadF k (opndF a tm vals) h) vals h)
    (fun k a x _ tm _ vals h => eK true (storeF k (opndF a tm vals) (opndF x tm vals) h) vals h)
    (fun k a x _ tm _ vals h => eK true (initF k (opndF a tm vals) (opndF x tm vals) h) vals h)
    (fun x _ tm _ vals h ds hs k => bF (isPtrF (opndF x tm vals)) (Option RS) (pK (some (opndF x tm vals)) vals h ds hs k) none)
    (fun b x y _ tm _ vals => pK (binF b (opndF x tm vals) (opndF y tm vals)) vals)
    (fun e n x y _ tm _ vals h ds hs k => @Option.rec.{1, 0} Bool (fun _ => Option RS) none (fun c => pK (some (.bool (bF n Bool (notF c) c))) vals h ds hs k) (eqvF e (opndF x tm vals) (opndF y tm vals)))
    (fun x _ tm _ vals h ds hs k => selBool (opndF x tm vals) (Option RS) (fun b => pK (some (.bool (notF b))) vals h ds hs k) none)
    (fun x _ tm id vals => slowP (.neg x) tm id vals)
    (fun x _ tm id vals => slowP (.cpl x) tm id vals)
    (fun kd x _ tm _ vals h ds hs k => selInt (opndF x tm vals) (Option RS) (fun _ n => pK (some (.int kd (wrapF kd n))) vals h ds hs k) none)
    (fun x _ tm id vals => slowP (.same x) tm id vals)
    (fun m x cf tm id vals h ds hs k => @SMode.rec.{1} (fun _ => Option RS) (slowP (.s2b .imm x) tm id vals h ds hs k) (slowE cf (.s2b .ref x) tm id vals h ds hs k) m)
    (fun x _ tm _ vals h => pK (evalL (fun o => opndF o tm vals) h (.b2s x)) vals h)
    (fun t x _ tm _ vals => pK (some (.ifc t (opndF x tm vals))) vals)
    (fun f a b _ tm _ vals => pK (some (.fn f (mapO (fun o => opndF o tm vals) a) (mapO (fun o => opndF o tm vals) b))) vals)
    (fun o x _ tm _ vals => pK (faF o (opndF x tm vals)) vals)
    (fun o k x _ tm _ vals => pK (selAgg (opndF x tm vals) (Option CVal) (fun cs => partF cs o k) none) vals)
    (fun k x i _ tm _ vals => pK (idxAddrF k (opndF x tm vals) (opndF i tm vals)) vals)
    (fun n k x i _ tm id vals => slowP (.arrAddr n k x i) tm id vals)
    (fun x i _ tm _ vals => pK (idxStrF (opndF x tm vals) (opndF i tm vals)) vals)
    (fun k x lo hi _ tm _ vals => pK (slcF k (opndF x tm vals) (lo.map fun o => opndF o tm vals) (hi.map fun o => opndF o tm vals)) vals)
    (fun s x _ tm _ vals => pK (lenF s (opndF x tm vals)) vals)
    (fun m T k x y _ tm id vals h => eK false (appendF m T k (opndF x tm vals) (opndF y tm vals) h id) vals h)
    (fun k x y cf tm id vals h => slowE cf (.copy k x y) tm id vals h)
    (fun m a z l c cf tm id vals h => slowE cf (.mkslice m a z l c) tm id vals h)
    (fun i x _ tm _ vals => pK (extrF i (opndF x tm vals)) vals)
    (fun keep f args cf tm _ vals h => eK false (cf f (callArgs keep args tm vals) h) vals h)
    (fun keep x args cf tm _ vals h => eK false (selFn (opndF x tm vals) (Option (CVal × CHeap)) (fun fn first cap => @Fn.rec.{1} (fun _ => Option (CVal × CHeap)) (fun f => cf f (appC first (appC (callArgs keep args tm vals) cap)) h) (fun _ => none) (fun _ _ => none) (fun _ _ _ _ => none) (fun _ => none) fn) none) vals h)
    (fun x args _ tm _ vals h ds hs k => selFn (opndF x tm vals) (Option RS) (fun fn first cap => @Fn.rec.{1} (fun _ => Option RS) (fun f => k (.undef :: vals) h ((f, appC first (appC (mapO (fun o => opndF o tm vals) args) cap)) :: ds) (h :: hs)) (fun _ => none) (fun _ _ => none) (fun _ _ _ _ => none) (fun _ => none) fn) none)
    (fun m x y _ tm id vals => slowP (.minmax m x y) tm id vals)
    (fun x l cf tm id vals h => slowE cf (.ext x l) tm id vals h)
    (fun x l _ tm _ vals h => pK (extL h x (mapO (fun o => opndF o tm vals) l)) vals h)
    (fun _ _ _ _ _ _ _ _ => none)
    op

noncomputable def operF (o : COper) : (Nat → List CVal → CHeap → Option (CVal × CHeap)) → List CVal → Nat → List CVal → CHeap → List (Nat × List CVal) → List CHeap → (List CVal → CHeap → List (Nat × List CVal) → List CHeap → Option RS) → Option RS :=
  @COper.rec.{1} (fun _ => (Nat → List CVal → CHeap → Option (CVal × CHeap)) → List CVal → Nat → List CVal → CHeap → List (Nat × List CVal) → List CHeap → (List CVal → CHeap → List (Nat × List CVal) → List CHeap → Option RS) → Option RS)
    (fun op g => @Option.rec.{1, 0} (Nat × Bool) (fun _ => COp → (Nat → List CVal → CHeap → Option (CVal × CHeap)) → List CVal → Nat → List CVal → CHeap → List (Nat × List CVal) → List CHeap → (List CVal → CHeap → List (Nat × List CVal) → List CHeap → Option RS) → Option RS)
      (fun op => opF op)
      (fun p op cf tm id vals h ds hs k => bF (selBool (nthF vals p.1) Bool (fun c => bF c Bool p.2 (notF p.2)) false) (Option RS) (opF op cf tm id vals h ds hs k) (k (.undef :: vals) h ds (bF (clsED op) (List CHeap) (h :: hs) hs)))
      g op) o

noncomputable def opsF (l : List COper) : (Nat → List CVal → CHeap → Option (CVal × CHeap)) → List CVal → Nat → List CVal → CHeap → List (Nat × List CVal) → List CHeap → Option RS :=
  @List.rec.{1, 0} COper (fun _ => (Nat → List CVal → CHeap → Option (CVal × CHeap)) → List CVal → Nat → List CVal → CHeap → List (Nat × List CVal) → List CHeap → Option RS)
    (fun _ _ _ vals h ds hs => some ⟨vals, h, ds, hs⟩)
    (fun o _ ih cf tm id vals h ds hs => operF o cf tm id vals h ds hs (fun vals h ds hs => ih cf tm (Nat.succ id) vals h ds hs)) l

/-! Code and calls. -/
noncomputable def setNF (l : List CVal) : Nat → CVal → List CVal :=
  @List.rec.{1, 0} CVal (fun _ => Nat → CVal → List CVal) (fun _ _ => []) (fun v r ih i x => @Nat.rec.{1} (fun _ => List CVal) (x :: r) (fun j _ => v :: ih j x) i) l
noncomputable def wbF (wb : List (Nat × Nat)) : Nat → List CVal → List CVal → List CVal :=
  @List.rec.{1, 0} (Nat × Nat) (fun _ => Nat → List CVal → List CVal → List CVal) (fun _ _ tm => tm) (fun p _ ih n vals tm => ih n vals (setNF tm p.1 (nthF vals (Nat.sub (Nat.sub n 1) p.2)))) wb
noncomputable def nilF {α : Type} (l : List α) : Bool := @List.rec.{1, 0} α (fun _ => Bool) true (fun _ _ _ => false) l

noncomputable def paramsF (ps : List (Option Nat)) : List CVal → List CVal :=
  @List.rec.{1, 0} (Option Nat) (fun _ => List CVal → List CVal) (fun _ => []) (fun p _ ih args => @Option.rec.{1, 0} Nat (fun _ => List CVal → CVal) (fun _ => .undef) (fun i args => nthF args i) p args :: ih args) ps
noncomputable def olL (o : Option (List CVal)) : (β : Type) → (List CVal → β) → β → β := @Option.rec.{2, 0} (List CVal) (fun _ => (β : Type) → (List CVal → β) → β → β) (fun _ _ d => d) (fun v _ f _ => f v) o
noncomputable def resF (rs : List CRes) : CHeap → List CVal → Option (List CVal) :=
  @List.rec.{1, 0} CRes (fun _ => CHeap → List CVal → Option (List CVal)) (fun _ _ => some [])
    (fun r _ ih h tm => @CRes.rec.{1} (fun _ => (CHeap → List CVal → Option (List CVal)) → CHeap → List CVal → Option (List CVal)) (fun j ih h tm => olL (ih h tm) (Option (List CVal)) (fun vs => some (nthF tm j :: vs)) none)
      (fun j k ih h tm => selPtr (nthF tm j) (Option (List CVal)) (fun b _ o => selCells (hgetF h b) (Option (List CVal)) (fun cs => obCV (partF cs o k) (Option (List CVal)) (fun v => olL (ih h tm) (Option (List CVal)) (fun vs => some (v :: vs)) none) none) none) none) r ih h tm) rs
noncomputable def oneF (vs : List CVal) : CVal := @List.rec.{1, 0} CVal (fun _ => CVal) (.tup []) (fun v r _ => @List.rec.{1, 0} CVal (fun _ => CVal) v (fun _ _ _ => .tup vs) r) vs
noncomputable def dropEF (l : List (Nat × CObj)) : Nat → List (Nat × CObj) :=
  @List.rec.{1, 0} (Nat × CObj) (fun _ => Nat → List (Nat × CObj)) (fun _ => []) (fun p r ih n => bF (Nat.ble n p.1) (List (Nat × CObj)) (ih n) (p :: r)) l
noncomputable def dropCF (l : List (Nat × CObj)) : Nat → List (Nat × CObj) :=
  @List.rec.{1, 0} (Nat × CObj) (fun _ => Nat → List (Nat × CObj)) (fun _ => [])
    (fun p r ih n => bF (Nat.ble n p.1) (List (Nat × CObj)) (selCells (some p.2) (List (Nat × CObj)) (fun _ => ih n) (p :: ih n)) (p :: r)) l
noncomputable def finF (keep frz : Bool) (n : Nat) (v : CVal) (h : CHeap) : Option (CVal × CHeap) :=
  bF keep (Option (CVal × CHeap)) (some (v, bF frz CHeap (@CHeap.rec.{1} (fun _ => CHeap) (fun e nx t => ⟨dropCF e n, nx, t⟩) h) h))
    (bF frz (Option (CVal × CHeap)) ((freezeVal n h v).map fun v' => (v', { h with ents := dropAll h.ents n })) (some (bareF v, @CHeap.rec.{1} (fun _ => CHeap) (fun e nx t => ⟨dropEF e n, nx, t⟩) h)))

section
variable (T : Nat → Option CFn) (ex : CCode → CSt → Option (CExit × CSt))
noncomputable def bodyF (cd : List (Nat × List CVal) → CHeap → Option CHeap) (fn : CFunc) (args : List CVal) (h : CHeap) : Option (CVal × CHeap) :=
  @CFunc.rec.{1} (fun _ => (CCode → CSt → Option (CExit × CSt)) → (List (Nat × List CVal) → CHeap → Option CHeap) → List CVal → CHeap → Option (CVal × CHeap))
    (fun nargs _ params results body keep frz ex cd args h => bF (Nat.beq (lenC args) nargs) (Option (CVal × CHeap))
      (@Option.rec.{1, 0} (CExit × CSt) (fun _ => Option (CVal × CHeap)) none
        (fun p => @Prod.rec.{1, 0, 0} CExit CSt (fun _ => Option (CVal × CHeap)) (fun e st => @CSt.rec.{1} (fun _ => Option (CVal × CHeap)) (fun tm h0 ds =>
          @CExit.rec.{1} (fun _ => (Unit → Option (CVal × CHeap)) → Option (CVal × CHeap)) (fun g => g ()) (fun _ _ => none) (fun g => g ()) e
            (fun _ => @Option.rec.{1, 0} CHeap (fun _ => Option (CVal × CHeap)) none (fun h1 => olL (resF results h1 tm) (Option (CVal × CHeap)) (fun vs => finF keep frz h.next (oneF vs) h1) none)
              (@List.rec.{1, 0} (Nat × List CVal) (fun _ => Option CHeap) (some h0) (fun _ _ _ => cd ds h0) ds))) st) p)
        (ex body ⟨paramsF params args, h, []⟩)) none) fn ex cd args h
noncomputable def callFF (f : Nat) (args : List CVal) (h : CHeap) : Option (CVal × CHeap) :=
  @Option.rec.{1, 0} CFn (fun _ => Option (CVal × CHeap)) none (fun c => @CFn.rec.{1} (fun _ => Option (CVal × CHeap)) (fun fn => bodyF ex (runDefs T ex) fn args h) (fun p => p args h) c) (T f)
end

noncomputable def regF (ops : List COper) (wb : List (Nat × Nat)) (chk : List (Nat × Nat × Nat)) (sw : List (Nat × Nat)) (T : Nat → Option CFn) (ex : CCode → CSt → Option (CExit × CSt)) (st : CSt) : Option (CExit × CSt) :=
  @CSt.rec.{1} (fun _ => Option (CExit × CSt)) (fun tm h ds => @CHeap.rec.{1} (fun _ => Option (CExit × CSt)) (fun e nx t =>
    @Option.rec.{1, 0} RS (fun _ => Option (CExit × CSt)) none (fun s => @RS.rec.{1} (fun _ => Option (CExit × CSt)) (fun vals h' ds' hs =>
      bF (andF (bF (nilF chk) Bool true (chk.all (checkOne tm ops ops.length vals (h' :: hs).reverse))) (bF (nilF sw) Bool true (sw.all (swapOne tm ops ops.length vals)))) (Option (CExit × CSt))
        (some (.normal, ⟨wbF wb ops.length vals tm, h', ds'⟩)) none) s)
    (opsF ops (callFF T ex) tm nx [] ⟨e, Nat.add nx ops.length, t⟩ ds [])) h) st

noncomputable def exSel (e : CExit) : (β : Type) → β → (Nat → β) → β → β := @CExit.rec.{2} (fun _ => (β : Type) → β → (Nat → β) → β → β) (fun _ a _ _ => a) (fun i _ _ b _ => b i) (fun _ _ _ c => c) e
noncomputable def orX (o : Option (CExit × CSt)) (f : CExit → CSt → Option (CExit × CSt)) : Option (CExit × CSt) :=
  @Option.rec.{1, 0} (CExit × CSt) (fun _ => Option (CExit × CSt)) none (fun p => @Prod.rec.{1, 0, 0} CExit CSt (fun _ => Option (CExit × CSt)) (fun e st => f e st) p) o

noncomputable def stepF (c : CCode) : (Nat → Option CFn) → (CCode → CSt → Option (CExit × CSt)) → CSt → Option (CExit × CSt) :=
  @CCode.rec.{1} (fun _ => (Nat → Option CFn) → (CCode → CSt → Option (CExit × CSt)) → CSt → Option (CExit × CSt))
    (fun _ _ st => some (.normal, st))
    (fun ops wb chk sw T ex st => regF ops wb chk sw T ex st)
    (fun a b _ _ _ ex st => orX (ex a st) (fun e st' => exSel e (Option (CExit × CSt)) (ex b st') (fun i => some (.exit i, st')) (some (.ret, st'))))
    (fun c a b _ _ _ ex st => selBool (opndF c st.tm []) (Option (CExit × CSt)) (fun t => bF t (Option (CExit × CSt)) (ex a st) (ex b st)) none)
    (fun id c _ _ ex st => orX (ex c st) (fun e st' => exSel e (Option (CExit × CSt)) (some (.normal, st')) (fun i => bF (Nat.beq i id) (Option (CExit × CSt)) (some (.normal, st')) (some (.exit i, st'))) (some (.ret, st'))))
    (fun drop c _ _ ex st => orX (ex c st) (fun e st' => exSel e (Option (CExit × CSt))
      (ex (.loop drop c) (bF drop CSt (@CSt.rec.{1} (fun _ => CSt) (fun tm h ds => @CHeap.rec.{1} (fun _ => CSt) (fun e nx t => ⟨tm, ⟨dropCF e st.h.next, nx, t⟩, ds⟩) h) st') st')) (fun i => some (.exit i, st')) (some (.ret, st'))))
    (fun i _ _ st => some (.exit i, st))
    (fun _ _ st => some (.ret, st))
    (fun _ _ _ => none) c

noncomputable def execF (T : Nat → Option CFn) (n : Nat) : CCode → CSt → Option (CExit × CSt) := @Nat.rec.{1} (fun _ => CCode → CSt → Option (CExit × CSt)) (fun _ _ => none) (fun _ ih c st => stepF c T ih st) n
noncomputable def crunF (T : Nat → Option CFn) (n f : Nat) (args : List CVal) (h : CHeap) : Option (CVal × CHeap) := callFF T (execF T n) f args h

noncomputable def CTree.getF (t : CTree) : Nat → Option CFn :=
  @CTree.rec.{1} (fun _ => Nat → Option CFn) (fun i fn f => bF (Nat.beq f i) (Option CFn) (some fn) none) (fun m _ _ a b f => bF (Nat.blt f m) (Option CFn) (a f) (b f)) t
end Go.CI

/- The fast form gives what the interpreter gives. -/
set_option linter.unusedVariables false
set_option linter.unusedSimpArgs false
namespace Go.CI

theorem bF_eq (b : Bool) (β : Type) (x y : β) : bF b β x y = if b then x else y := by cases b <;> rfl
theorem andF_eq (a b : Bool) : andF a b = (a && b) := by cases a <;> rfl
theorem nbeq (a b : Nat) : Nat.beq a b = (a == b) := by rw [Bool.eq_iff_iff]; simp
theorem notF_eq (a : Bool) : notF a = !a := by cases a <;> rfl
theorem nthF_eq : ∀ (l : List CVal) (i : Nat), nthF l i = nth l i
  | [], _ => rfl
  | _ :: _, 0 => rfl
  | _ :: r, i + 1 => nthF_eq r i
theorem nthO_eq : ∀ (l : List CVal) (i : Nat), nthO l i = l[i]?
  | [], _ => rfl
  | _ :: _, 0 => rfl
  | _ :: r, i + 1 => by rw [List.getElem?_cons_succ, ← nthO_eq r i]; rfl
theorem nthO_if (l : List CVal) (i : Nat) : nthO l i = if i < l.length then some (nth l i) else none := by
  rw [nthO_eq]
  split
  · exact getElem?_nth ‹_›
  · exact List.getElem?_eq_none (by omega)
theorem nthB_eq : ∀ (l : List UInt8) (i : Nat), nthB l i = l[i]?
  | [], _ => rfl
  | _ :: _, 0 => rfl
  | _ :: r, i + 1 => by rw [List.getElem?_cons_succ, ← nthB_eq r i]; rfl
theorem lenC_eq : ∀ l : List CVal, lenC l = l.length
  | [] => rfl
  | _ :: r => congrArg Nat.succ (lenC_eq r)
theorem lenB_eq : ∀ l : List UInt8, lenB l = l.length
  | [] => rfl
  | _ :: r => congrArg Nat.succ (lenB_eq r)
theorem dropC_eq : ∀ (l : List CVal) (i : Nat), dropC l i = l.drop i
  | [], i => by simp; rfl
  | _ :: _, 0 => rfl
  | _ :: r, i + 1 => dropC_eq r i
theorem dropB_eq : ∀ (l : List UInt8) (i : Nat), dropB l i = l.drop i
  | [], i => by simp; rfl
  | _ :: _, 0 => rfl
  | _ :: r, i + 1 => dropB_eq r i
theorem takeB_eq : ∀ (l : List UInt8) (i : Nat), takeB l i = l.take i
  | [], i => by simp; rfl
  | _ :: _, 0 => rfl
  | v :: r, i + 1 => congrArg (v :: ·) (takeB_eq r i)
theorem appC_eq : ∀ (l y : List CVal), appC l y = l ++ y
  | [], _ => rfl
  | v :: r, y => congrArg (v :: ·) (appC_eq r y)
theorem eqB_eq : ∀ (l y : List UInt8), eqB l y = (l == y)
  | [], [] => rfl
  | [], _ :: _ => rfl
  | _ :: _, [] => rfl
  | a :: r, b :: y => by
    show andF (Nat.beq a.toNat b.toNat) (eqB r y) = _
    have : Nat.beq a.toNat b.toNat = (a == b) := by rw [Bool.eq_iff_iff]; simp [UInt8.toNat_inj]
    rw [andF_eq, eqB_eq r y, this]
    rfl
theorem mapO_eq (f : COpnd → CVal) : ∀ l : List COpnd, mapO f l = l.map f
  | [] => rfl
  | _ :: r => congrArg (f _ :: ·) (mapO_eq f r)
theorem opndF_eq (o : COpnd) (tm vals : List CVal) : opndF o tm vals = evalOpnd tm vals o := by
  cases o
  · exact nthF_eq _ _
  · exact nthF_eq _ _
  · rfl
theorem opndF_fun (tm vals : List CVal) : (fun o => opndF o tm vals) = evalOpnd tm vals := funext fun o => opndF_eq o tm vals

theorem kEqF_eq (a b : IntKind) : kEqF a b = decide (a = b) := by cases a <;> cases b <;> rfl
theorem ltF_eq (a b : Int) : ltF a b = decide (a < b) := by
  cases a <;> cases b
  · rename_i m n
    show Nat.blt m n = _
    rw [Bool.eq_iff_iff]; simp [Nat.blt]; omega
  · rename_i m n
    show false = _
    symm; simp; omega
  · rename_i m n
    show true = _
    symm; simp; omega
  · rename_i m n
    show Nat.blt n m = _
    rw [Bool.eq_iff_iff]; simp [Nat.blt]; omega
theorem eqF_eq (a b : Int) : eqF a b = (a == b) := by
  cases a <;> cases b
  · rename_i m n
    show Nat.beq m n = _
    rw [Bool.eq_iff_iff]; simp; omega
  · rename_i m n
    show false = _
    symm; simp
  · rename_i m n
    show false = _
    symm; simp
  · rename_i m n
    show Nat.beq m n = _
    rw [Bool.eq_iff_iff]; simp
theorem addF_eq (a b : Int) : addF a b = a + b := by cases a <;> cases b <;> rfl
theorem subF_eq (a b : Int) : subF a b = a - b := by
  cases a <;> cases b
  · rename_i m n
    show bF (Nat.ble n m) Int (.ofNat (Nat.sub m n)) (Int.sub (.ofNat m) (.ofNat n)) = _
    rw [bF_eq]
    split
    · rename_i h
      have h := Nat.le_of_ble_eq_true h
      have : (Int.ofNat (Nat.sub m n) : Int) = ((m - n : Nat) : Int) := rfl
      rw [this]
      show ((m - n : Nat) : Int) = (m : Int) - (n : Int)
      omega
    · rfl
  all_goals rfl
theorem wrap_id {k : IntKind} {x : Int} (h0 : 0 ≤ x) (h1 : x ≤ maxN k) : IntKind.wrap k x = x := by
  cases k <;> simp [maxN] at h1 <;> simp [IntKind.wrap, IntKind.bits, IntKind.signed] <;> first | (split <;> omega) | omega
theorem wrap_neg {k : IntKind} {n : Nat} (hs : sgnN k = true) (h1 : n ≤ maxN k) : IntKind.wrap k (.negSucc n) = .negSucc n := by
  have e : Int.negSucc n = -(n : Int) - 1 := by omega
  rw [e]
  cases k <;> simp [sgnN] at hs <;> simp [maxN] at h1 <;> simp [IntKind.wrap, IntKind.bits, IntKind.signed] <;> split <;> omega
theorem wrapF_eq (k : IntKind) (x : Int) : wrapF k x = IntKind.wrap k x := by
  cases x with
  | ofNat n =>
    show bF (Nat.ble n (maxN k)) Int (.ofNat n) (IntKind.wrap k (.ofNat n)) = _
    rw [bF_eq]
    split
    · rename_i h
      have h := Nat.le_of_ble_eq_true h
      exact (wrap_id (x := (n : Int)) (by omega) (by omega)).symm
    · rfl
  | negSucc n =>
    show bF (andF (sgnN k) (Nat.ble n (maxN k))) Int (.negSucc n) (IntKind.wrap k (.negSucc n)) = _
    rw [bF_eq, andF_eq]
    split
    · rename_i h
      simp only [Bool.and_eq_true] at h
      exact (wrap_neg h.1 (Nat.le_of_ble_eq_true h.2)).symm
    · rfl

theorem arithF_eq (b : BinOp) (k : IntKind) (x y : Int) : arithF b k x y = evalInt b k x y := by
  cases b <;> first
    | rfl
    | (show some (CVal.int k (wrapF k (addF x y))) = _; rw [wrapF_eq, addF_eq]; rfl)
    | (show some (CVal.int k (wrapF k (subF x y))) = _; rw [wrapF_eq, subF_eq]; rfl)
    | (show some (CVal.int k (wrapF k (Int.mul x y))) = _; rw [wrapF_eq]; rfl)
    | (show some (CVal.bool (eqF x y)) = _; rw [eqF_eq]; rfl)
    | (show some (CVal.bool (notF (eqF x y))) = _; rw [eqF_eq, notF_eq]; rfl)
    | (show some (CVal.bool (ltF x y)) = _; rw [ltF_eq]; rfl)
    | (show some (CVal.bool (ltF y x)) = _; rw [ltF_eq]; rfl)
    | (show some (CVal.bool (notF (ltF y x))) = _; rw [ltF_eq, notF_eq]; simp only [evalInt]; congr 2; by_cases h : y < x <;> simp [h] <;> omega)
    | (show some (CVal.bool (notF (ltF x y))) = _; rw [ltF_eq, notF_eq]; simp only [evalInt]; congr 2; by_cases h : x < y <;> simp [h] <;> omega)
theorem strF_eq (b : BinOp) (x y : List UInt8) : strF b x y = evalStr b x y := by
  cases b <;> first
    | rfl
    | (show some (CVal.bool (eqB x y)) = _; rw [eqB_eq]; rfl)
    | (show some (CVal.bool (notF (eqB x y))) = _; rw [eqB_eq, notF_eq]; rfl)
theorem gen2_eq {b : BinOp} (hb : isShF b = false) (x y : CVal) : gen2 (arithF b) (strF b) x y = evalBin b x y := by
  cases x <;> cases y <;> first
    | (cases b <;> first | rfl | (simp [isShF] at hb; done))
    | (rename_i k a l c
       show bF (kEqF k l) (Option CVal) (arithF b k a c) none = _
       rw [bF_eq, kEqF_eq, arithF_eq]
       cases b <;> first | (simp [isShF] at hb; done) | (simp only [evalBin]; by_cases h : k = l <;> simp [h]))
    | (rename_i s t
       show strF b s t = _
       rw [strF_eq]
       cases b <;> first | rfl | (simp [isShF] at hb; done))
theorem binF_eq (b : BinOp) (x y : CVal) : binF b x y = evalBin b x y := by
  unfold binF
  rw [bF_eq]
  split
  · rfl
  · rename_i h; exact gen2_eq (by simpa using h) x y
theorem eqvF_eq (e : EqK) (x y : CVal) : eqvF e x y = eqVal e x y := by
  cases e
  · cases x <;> cases y <;> first
      | rfl
      | (rename_i a b; cases a <;> cases b <;> rfl)
  all_goals (cases x <;> cases y <;> rfl)

theorem wholeF_eq (v : CVal) : wholeF v = v.whole := by cases v <;> rfl
theorem cellsF_eq (v : CVal) : cellsF v = v.cells := by cases v <;> rfl
theorem stripF_eq (v : CVal) : stripF v = v.strip := by
  cases v <;> first
    | rfl
    | (rename_i t k es; cases t <;> rfl)
theorem isUndefF_eq (v : CVal) : isUndefF v = v.isUndef := by cases v <;> rfl

theorem partF_eq (cs : List CVal) (o : Nat) (k : Option Nat) : partF cs o k = partOf cs o k := by
  cases k with
  | none => exact nthO_if cs o
  | some k =>
    show bF (Nat.ble (Nat.add o k) (lenC cs)) (Option CVal) (some (.agg (cut o (o + k) cs))) none = _
    rw [bF_eq, lenC_eq, show Nat.add o k = o + k from rfl]
    simp only [partOf]
    by_cases h : o + k ≤ cs.length
    · rw [if_pos (Nat.ble_eq_true_of_le h), if_pos h]
    · rw [if_neg (fun e => h (Nat.le_of_ble_eq_true e)), if_neg h]

theorem intNat_int {β : Type} (k : IntKind) (n : Int) (f : Nat → β) (d : β) : intNat (.int k n) β f d = if 0 ≤ n then f n.toNat else d := by
  cases n with
  | ofNat m => show f m = _; rw [if_pos (show (0 : Int) ≤ Int.ofNat m from Int.natCast_nonneg m)]; rfl
  | negSucc m => show d = _; rw [if_neg (by have := Int.negSucc_lt_zero m; omega)]

theorem obCV_eq {β : Type} (o : Option CVal) (f : CVal → β) (d : β) : obCV o β f d = match o with | some v => f v | none => d := by cases o <;> rfl

theorem idxAddrF_eq (ev : COpnd → CVal) (id k : Nat) (x i : COpnd) : idxAddrF k (ev x) (ev i) = evalP ev id (.idxAddr k x i) := by
  simp only [evalP]
  generalize ev x = X
  generalize ev i = I
  cases I <;> first
    | (cases X <;> rfl)
    | skip
  rename_i kd n
  show intNat (.int kd n) (Option CVal) _ _ = _
  rw [intNat_int]
  cases X <;> first
    | (show (if 0 ≤ n then _ else _) = none; split <;> rfl)
    | skip
  · rename_i t l es
    show (if 0 ≤ n then bF (Nat.beq k l) (Option CVal) (obCV (nthO es n.toNat) (Option CVal) (fun e => some (.cptr (cellsF e) 0)) none) none else none) = _
    rw [bF_eq, obCV_eq, nthO_if]
    by_cases h0 : 0 ≤ n
    · by_cases hk : k = l
      · subst hk
        by_cases hl : n.toNat < es.length
        · have : n < (es.length : Int) := by omega
          simp [h0, hl, this, cellsF_eq]
        · have : ¬ n < (es.length : Int) := by omega
          simp [h0, hl, this]
      · simp [h0, hk]
    · simp [h0]
  · rename_i b ver l off len
    show (if 0 ≤ n then bF (andF (Nat.beq k l) (Nat.blt n.toNat len)) (Option CVal) (some (.eptr b ver (off + n.toNat) 0)) none else none) = _
    rw [bF_eq, andF_eq]
    by_cases h0 : 0 ≤ n
    · by_cases hk : k = l
      · subst hk
        by_cases hl : n.toNat < len
        · have : n < (len : Int) := by omega
          have h2 : Nat.blt n.toNat len = true := Nat.ble_eq_true_of_le hl
          simp [h0, this, h2]
        · have : ¬ n < (len : Int) := by omega
          have h2 : Nat.blt n.toNat len = false := by
            cases hb : Nat.blt n.toNat len with
            | false => rfl
            | true => exact absurd (Nat.le_of_ble_eq_true hb) hl
          simp [h0, this, h2]
      · simp [h0, hk]
    · simp [h0]

theorem idxStrF_eq (ev : COpnd → CVal) (id : Nat) (x i : COpnd) : idxStrF (ev x) (ev i) = evalP ev id (.idxStr x i) := by
  simp only [evalP]
  generalize ev x = X
  generalize ev i = I
  cases I <;> first
    | (cases X <;> rfl)
    | skip
  rename_i kd n
  show intNat (.int kd n) (Option CVal) _ _ = _
  rw [intNat_int]
  cases X <;> first
    | (show (if 0 ≤ n then _ else _) = none; split <;> rfl)
    | skip
  rename_i s
  show (if 0 ≤ n then obB (nthB s n.toNat) (Option CVal) (fun b => some (.int .u8 (.ofNat b.toNat))) none else none) = _
  rw [nthB_eq]
  simp only
  cases hs : s[n.toNat]? <;> rfl

theorem lenF_eq (ev : COpnd → CVal) (id : Nat) (s : Bool) (x : COpnd) : lenF s (ev x) = evalP ev id (.len s x) := by
  simp only [evalP]
  generalize ev x = X
  cases s <;> cases X <;> first
    | rfl
    | (rename_i t; show some (CVal.int .i64 (.ofNat (lenB t))) = _; rw [lenB_eq]; rfl)
    | (rename_i t k es; show some (CVal.int .i64 (.ofNat (lenC es))) = _; rw [lenC_eq]; rfl)

theorem bndF_eq {β : Type} (o : Option CVal) (d : Nat) (f : Nat → β) (e : β) : bndF o d β f e = match optBound d o with | some n => f n | none => e := by
  cases o with
  | none => rfl
  | some v =>
    show intNat v β f e = _
    cases v <;> first
      | rfl
      | (rename_i k n; rw [intNat_int]; simp only [optBound]; by_cases h : 0 ≤ n <;> simp [h])

theorem slcF_eq (k : Nat) (x : CVal) (lo hi : Option CVal) : slcF k x lo hi = evalSlc k x lo hi := by
  unfold slcF
  rw [bF_eq]
  split
  · rename_i hk
    have hk : k = 0 := Nat.eq_of_beq_eq_true hk
    subst hk
    cases x
    case str s =>
         show bndF lo 0 (Option CVal) _ _ = _
         rw [bndF_eq]
         simp only [evalSlc, CVal.lenOf]
         cases hi with
         | none =>
           have e0 : optBound s.length none = some s.length := rfl
           rw [e0]
           cases hl : optBound 0 lo with
           | none => rfl
           | some l =>
             show bF (Nat.ble l (lenB s)) (Option CVal) (some (.str (dropB s l))) none = _
             rw [bF_eq, lenB_eq, dropB_eq]
             by_cases h : l ≤ s.length
             · simp [h, cut]
             · simp [h]
         | some hv =>
           cases hl : optBound 0 lo with
           | none => cases optBound s.length (some hv) <;> rfl
           | some l =>
             show intNat hv (Option CVal) _ _ = _
             cases hv <;> first
               | rfl
               | (rename_i kd n
                  rw [intNat_int]
                  simp only [optBound]
                  by_cases h0 : 0 ≤ n
                  · simp only [h0, if_true]
                    rw [bF_eq, andF_eq, lenB_eq, dropB_eq, takeB_eq]
                    by_cases h1 : l ≤ n.toNat <;> by_cases h2 : n.toNat ≤ s.length <;> simp [h1, h2, cut]
                  · simp [h0])
    all_goals rfl
  · rfl

theorem extrF_eq (ev : COpnd → CVal) (id i : Nat) (x : COpnd) : extrF i (ev x) = evalP ev id (.extract i x) := by
  simp only [evalP]
  generalize ev x = X
  cases X <;> first
    | rfl
    | exact nthO_if _ _
theorem faF_eq (ev : COpnd → CVal) (id o : Nat) (x : COpnd) : faF o (ev x) = evalP ev id (.fieldAddr o x) := by
  simp only [evalP]
  generalize ev x = X
  cases X <;> rfl

theorem getF_eq : ∀ (l : List (Nat × CObj)) (b : Nat), getF l b = getEnt l b
  | [], _ => rfl
  | (i, o) :: r, b => by
    show bF (Nat.beq i b) (Option CObj) (some o) (getF r b) = _
    rw [bF_eq, getF_eq r b, nbeq]; rfl
theorem setF_eq : ∀ (l : List (Nat × CObj)) (b : Nat) (x : CObj), setF l b x = setEnt l b x
  | [], _, _ => rfl
  | (i, o) :: r, b, x => by
    show bF (Nat.beq i b) (List (Nat × CObj)) ((i, x) :: r) ((i, o) :: setF r b x) = _
    rw [bF_eq, setF_eq r b x, nbeq]; rfl
theorem hgetF_eq (h : CHeap) (b : Nat) : hgetF h b = h.get b := getF_eq h.ents b
theorem hsetF_eq (h : CHeap) (b : Nat) (x : CObj) : hsetF h b x = h.set b x := by
  show (⟨setF h.ents b x, h.next, h.tys⟩ : CHeap) = _
  rw [setF_eq]; rfl
theorem hputF_eq (h : CHeap) (b : Nat) (x : CObj) : hputF h b x = h.put b x := rfl
theorem selCells_eq {β : Type} (o : Option CObj) (f : List CVal → β) (d : β) : selCells o β f d = match o with | some (.cells cs) => f cs | _ => d := by
  cases o with
  | none => rfl
  | some c => cases c <;> rfl
theorem selRow_eq {β : Type} (o : Option CObj) (f : Nat → List CVal → β) (d : β) : selRow o β f d = match o with | some (.row v es) => f v es | _ => d := by
  cases o with
  | none => rfl
  | some c => cases c <;> rfl

theorem loadF_eq (ev : COpnd → CVal) (k : Option Nat) (a : COpnd) (h : CHeap) : loadF k (ev a) h = evalL ev h (.load k a) := by
  simp only [evalL]
  generalize ev a = A
  cases A <;> first
    | rfl
    | (rename_i b sz o
       show selCells (hgetF h b) (Option CVal) (fun cs => partF cs o k) none = _
       rw [selCells_eq, hgetF_eq]
       simp only [partF_eq]
       cases h.get b with
       | none => rfl
       | some c => cases c <;> rfl)
    | (rename_i cs o; exact partF_eq cs o k)
    | (rename_i b ver i o
       show selRow (hgetF h b) (Option CVal) (fun v es => bF (Nat.beq v ver) (Option CVal) (obCV (nthO es i) (Option CVal) (fun e => partF (cellsF e) o k) none) none) none = _
       rw [selRow_eq, hgetF_eq]
       dsimp only
       cases hg : h.get b with
       | none => rfl
       | some c =>
         cases c
         case row v es =>
              show bF (Nat.beq v ver) (Option CVal) (obCV (nthO es i) (Option CVal) (fun e => partF (cellsF e) o k) none) none = if (decide (v = ver) && decide (i < es.length)) = true then partOf (nth es i).cells o k else none
              rw [bF_eq, obCV_eq, nthO_if]
              by_cases h1 : v = ver
              · by_cases h2 : i < es.length <;> simp [h1, h2, partF_eq, cellsF_eq]
              · simp [h1]
         all_goals rfl)

theorem setCsF_eq : ∀ (cs : List CVal) (o : Nat) (v : List CVal), o ≤ cs.length → setCsF cs o v = setCells cs o v
  | [], o, v, h => by
    have : o = 0 := by simpa using h
    subst this
    simp [setCells]; rfl
  | c :: r, 0, v, _ => by
    show appC v (dropC (c :: r) (lenC v)) = _
    rw [appC_eq, dropC_eq, lenC_eq]
    simp [setCells]
  | c :: r, o + 1, v, h => by
    show c :: setCsF r o v = _
    rw [setCsF_eq r o v (by simpa using h)]
    simp only [setCells, List.take_succ_cons, List.cons_append]
    congr 3
    rw [show o + 1 + v.length = (o + v.length) + 1 by omega, List.drop_succ_cons]

theorem storeF_eq (cf : Nat → List CVal → CHeap → Option (CVal × CHeap)) (ev : COpnd → CVal) (h : CHeap) (id k : Nat) (a x : COpnd) : storeF k (ev a) (ev x) h = evalE cf ev h id (.store k a x) := by
  unfold storeF
  rw [bF_eq, andF_eq, wholeF_eq, lenC_eq, cellsF_eq]
  simp only [evalE]
  generalize hA : ev a = A
  generalize hX : ev x = X
  by_cases hw : X.whole = true
  · by_cases hk : X.cells.length = k
    · have e1 : (X.whole && Nat.beq X.cells.length k) = true := by simp [hw, hk]
      have e2 : (X.whole && decide (X.cells.length = k)) = true := by simp [hw, hk]
      rw [if_pos e1, if_pos e2]
      cases A <;> first
        | (rename_i b sz o
           show selCells (hgetF h b) (Option (CVal × CHeap)) (fun cs => bF (Nat.ble (Nat.add o k) (lenC cs)) (Option (CVal × CHeap)) (some (.undef, hsetF h b (.cells (setCsF cs o X.cells)))) none) none = _
           rw [selCells_eq, hgetF_eq]
           dsimp only
           cases hg : h.get b with
           | none => rfl
           | some c =>
             cases c
             case cells cs =>
                  show bF (Nat.ble (Nat.add o k) (lenC cs)) (Option (CVal × CHeap)) (some (.undef, hsetF h b (.cells (setCsF cs o X.cells)))) none = if o + k ≤ cs.length then some (.undef, h.set b (.cells (setCells cs o X.cells))) else none
                  rw [bF_eq, lenC_eq, hsetF_eq, show Nat.add o k = o + k from rfl]
                  by_cases hl : o + k ≤ cs.length
                  · rw [if_pos (Nat.ble_eq_true_of_le hl), if_pos hl, setCsF_eq _ _ _ (by omega)]
                  · rw [if_neg (fun e => hl (Nat.le_of_ble_eq_true e)), if_neg hl]
             all_goals rfl)
        | (show evalE (fun _ _ _ => none) (fun o => opndF o [] [_, X]) h 0 (.store k (.loc 0) (.loc 1)) = _
           simp only [evalE, opndF_eq, evalOpnd, nth, e2, if_true])
    · have e1 : ¬ (X.whole && Nat.beq X.cells.length k) = true := by simp [hk]
      have e2 : ¬ (X.whole && decide (X.cells.length = k)) = true := by simp [hk]
      rw [if_neg e1, if_neg e2]
  · have e1 : ¬ (X.whole && Nat.beq X.cells.length k) = true := by simp [hw]
    have e2 : ¬ (X.whole && decide (X.cells.length = k)) = true := by simp [hw]
    rw [if_neg e1, if_neg e2]

theorem initF_eq (cf : Nat → List CVal → CHeap → Option (CVal × CHeap)) (ev : COpnd → CVal) (h : CHeap) (id k : Nat) (a x : COpnd) : initF k (ev a) (ev x) h = evalE cf ev h id (.init k a x) := by
  unfold initF
  rw [bF_eq, andF_eq, wholeF_eq, lenC_eq, cellsF_eq]
  simp only [evalE]
  generalize hA : ev a = A
  generalize hX : ev x = X
  by_cases hw : X.whole = true
  · by_cases hk : X.cells.length = k
    · have e1 : (X.whole && Nat.beq X.cells.length k) = true := by simp [hw, hk]
      have e2 : (X.whole && decide (X.cells.length = k)) = true := by simp [hw, hk]
      rw [if_pos e1, if_pos e2]
      cases A <;> first
        | (rename_i b s o
           show bF (andF (Nat.beq (Nat.mod s 1048576) k) (Nat.beq o 0)) (Option (CVal × CHeap)) (@Option.rec.{1, 0} CObj (fun _ => Option (CVal × CHeap)) (some (.undef, hputF h b (.cells X.cells))) (fun _ => none) (hgetF h b)) none = _
           rw [bF_eq, andF_eq, hgetF_eq]
           have e3 : szOf s = Nat.mod s 1048576 := rfl
           dsimp only
           rw [e3, nbeq, nbeq]
           have e4 : ((Nat.mod s 1048576 == k) && (o == 0)) = (decide (Nat.mod s 1048576 = k) && decide (o = 0)) := by rw [Bool.eq_iff_iff]; simp
           rw [e4]
           split
           · cases h.get b <;> rfl
           · rfl)
        | rfl
    · have e1 : ¬ (X.whole && Nat.beq X.cells.length k) = true := by simp [hk]
      have e2 : ¬ (X.whole && decide (X.cells.length = k)) = true := by simp [hk]
      rw [if_neg e1, if_neg e2]
  · have e1 : ¬ (X.whole && Nat.beq X.cells.length k) = true := by simp [hw]
    have e2 : ¬ (X.whole && decide (X.cells.length = k)) = true := by simp [hw]
    rw [if_neg e1, if_neg e2]

theorem map_strip (cs : List CVal) : @List.rec.{1, 0} CVal (fun _ => List CVal) [] (fun c _ ih => stripF c :: ih) cs = cs.map CVal.strip := by
  induction cs with
  | nil => rfl
  | cons c r ih => rw [List.map_cons, ← stripF_eq, ← ih]
theorem bareF_eq (v : CVal) : bareF v = v.bare := by
  cases v <;> first
    | (rename_i t k es; exact stripF_eq (.imm t k es))
    | (rename_i cs; exact congrArg CVal.agg (map_strip cs))
    | rfl
theorem map_bare (cs : List CVal) : @List.rec.{1, 0} CVal (fun _ => List CVal) [] (fun c _ ih => bareF c :: ih) cs = cs.map CVal.bare := by
  induction cs with
  | nil => rfl
  | cons c r ih => rw [List.map_cons, ← bareF_eq, ← ih]
end Go.CI
