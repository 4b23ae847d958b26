/- A deterministic interpreter over values, proved sound against the model's rules (part 3 of 4): what a run of it gives, a call in the model gives. -/
import Derived.Test.YtcehpodknbjimaaCi2
import Derived.Laws.MakeOwn
import Derived.Orders
import Derived.LoopN
import Derived.Defers

/- A deterministic interpreter over values: append, copy, make: whole. -/
set_option linter.unusedVariables false
namespace Go.CI
open Go.RowKit

section
variable {P : Program} {base : Nat} {G : Gh} {h : CHeap} {w : World} {id : Nat}

theorem post_ex {ex ex' : Nat → Prop} {G' : Gh} {h' : CHeap} {w' : World} (p : Post base ex G h w G' h' w') (hx : ∀ i, ex i → i < h.next → Fresh G h i → ex' i) : Post base ex' G h w G' h' w' :=
  ⟨p.le, p.inv, p.below, p.next, fun i hi he hf => p.fresh i hi (fun h => he (hx i h hi hf)) hf⟩

theorem setCells_nil (w : World) (b o : Nat) : w.setCells b o [] = w := rfl

theorem e_append {t u e : TypeId} {d : TypeDesc} {g : ElemInfo} {ty : TypeId} {m : SMode} {x y v : CVal} {X Y : Value} {ys0 : List CVal} {h' : CHeap} (I : Inv base G h w) (hfr : Fresh G h id) (hid : id < h.next) (ht : P.underlying t = some (.slice e)) (hu : P.underlying u = some d) (hd : d = .string ∨ ∃ e', d = .slice e')
    (hg : infoOf P e = some g) (hb : g.bytes ≤ 4096) (hx : VR G x X) (hy : VR G y Y) (hel : elems h g.size y = some ys0) (hv : evalAppend h id m g.size x (ys0.map CVal.bare) = some (v, h')) :
    OutE P base G h id v h' (do pure (.value (← Builtin.append_ #[t, u] ty #[X, Y]))) w := by
  obtain ⟨hk0, hf0, hlen, news, hvn0, hfirst⟩ := src_ok (P := P) I hel hy (Nat.le_refl _)
  obtain ⟨_, _, _, newsD, hvnD0, hfirstD⟩ := src_ok (P := P) I.drew hel hy (Nat.le_refl _)
  rw [List.take_length] at hvn0 hvnD0
  obtain ⟨hfl, hk, hf⟩ := bare_list hk0 hf0
  have hvn : VRs G (flatC (ys0.map CVal.bare)) news := by rw [hfl]; exact hvn0.map _ fun _ _ => VR.strip
  have hvnD : VRs G (flatC (ys0.map CVal.bare)) newsD := by rw [hfl]; exact hvnD0.map _ fun _ _ => VR.strip
  have hone := one_of_vrs hvn (flat_flatC hf)
  have hyl : (ys0.map CVal.bare).length = ys0.length := List.length_map _
  generalize hys : ys0.map CVal.bare = ys at *
  have hnl : news.length = ys0.length * g.size := by rw [← hvn.1, flatC_length hk, hyl]
  have hgs : 0 < g.size := by obtain ⟨_, _, _, ok⟩ := infoOf_ok hg; exact ok.pos
  -- the ways in which the model may go
  have fits : ∀ (a : Addr) (sLen sCap : Nat), a.spot = none → X = .slice (some a) sLen sCap → sLen + ys0.length ≤ sCap → (∀ j, j < news.length → Live w a.block (a.off + sLen * g.size + j)) →
      (Builtin.append_ #[t, u] ty #[X, Y]).run P w = .ok (.slice (some a) (sLen + ys0.length) sCap) (w.setCells a.block (a.off + sLen * g.size) news) := by
    intro a sLen sCap hs hX hroom hlive
    subst hX
    exact run_append_fits ht hu hd hg hs hlen hfirst hroom hlive hone
  have grows : ∀ (a : Option Addr) (sLen sCap : Nat) (olds : List Value), X = .slice a sLen sCap → (Builtin.firstCells g.size sLen (.slice a sLen sCap)).run P w.drew = .ok olds.toArray w.drew → sCap < sLen + ys0.length → sLen + ys0.length ≤ sizeMost → olds.length = sLen * g.size →
      ∃ newCap rest, sLen + ys0.length ≤ newCap ∧ (olds ++ (newsD ++ rest)).toArray.size = newCap * g.size ∧ (Builtin.append_ #[t, u] ty #[X, Y]).run P w = .ok (.slice (some ⟨w.heap.size, 0, none⟩) (sLen + ys0.length) newCap) (w.drew.alloc (.cells (olds ++ (newsD ++ rest)).toArray e)) := by
    intro a sLen sCap olds hX ho hroom hmost hol
    subst hX
    obtain ⟨newCap, rest, h1, h2, h3⟩ := run_append_grows ht hu hd hg hb hlen ho hfirstD hroom hmost
    refine ⟨newCap, rest, h1, ?_, h3⟩
    have hnlD : newsD.length = ys0.length * g.size := by rw [← hvnD.1, flatC_length hk, hyl]
    rw [List.size_toArray, List.length_append, List.length_append, hol, hnlD, h2, ← Nat.add_mul, ← Nat.add_mul]
    congr 1; omega
  unfold evalAppend at hv
  cases ys with
  | nil =>
    -- nothing is added
    have hn0 : ys0.length = 0 := by rw [← hyl]; rfl
    have hnews : news = [] := List.eq_nil_of_length_eq_zero (by rw [hnl, hn0, Nat.zero_mul])
    simp only at hv
    cases x <;> first | (cases hv; done) | skip
    · cases hv; cases hx
      obtain ⟨i, d', z, ok⟩ := infoOf_ok hg
      refine .inl ⟨.slice none 0 0, w, ?_, G, .nils, .refl I⟩
      rw [hn0] at hlen hfirst
      rw [ok.size] at hfirst
      rcases hd with rfl | ⟨e', rfl⟩ <;> simp [Builtin.append_, r_und ht, r_und hu, r_size ok.info, hlen, hfirst]
    · cases hv
      have hx' := hx
      cases hx with
      | imm hs hk hcap hfz htg =>
        rename_i a cap
        have := fits a _ cap hs rfl (by omega) (fun j hj => by rw [hnews] at hj; simp at hj)
        rw [hnews, setCells_nil, hn0, Nat.add_zero] at this
        exact .inl ⟨_, _, by rw [Sem.run_bind, this]; rfl, G, hx', .refl I⟩
    · cases hv
      have hx' := hx
      cases hx with
      | ref hw hk hl hs ha =>
        rename_i ab ao cap a
        have := fits a _ _ hs rfl (by omega) (fun j hj => by rw [hnews] at hj; simp at hj)
        rw [hnews, setCells_nil, hn0, Nat.add_zero] at this
        exact .inl ⟨_, _, by rw [Sem.run_bind, this]; rfl, G, hx', .refl I⟩
  | cons y1 yr =>
    have hnpos : 0 < ys0.length := by rw [← hyl]; simp
    rw [hyl] at hv
    generalize hyy : y1 :: yr = ys at *
    have hyl' : ys.length = ys0.length := hyl
    cases x <;> first | (rw [← hyy] at hv; cases hv; done) | skip
    · -- nil
      rw [← hyy] at hv
      dsimp only at hv
      rw [hyy] at hv
      cases hx
      split at hv
      · rename_i hmost
        obtain ⟨newCap, rest, h1, h2, h3⟩ := grows none 0 0 [] rfl (by simp [Builtin.firstCells]) (by omega) (by omega) (by simp)
        rw [Nat.zero_add] at h1 h3
        have hgc := grown_cells (rest := rest) (L := ys) (es := []) (by simp) (VRs.nil G) hvnD
        cases m with
        | imm =>
          cases hv
          have hroom : ys.length + (newCap - ys.length) = newCap := by omega
          refine .inl ⟨_, _, by rw [Sem.run_bind, h3]; rfl, _, ?_, Post.drewL (post_new_tok (room := newCap - ys.length) I.drew hid (fresh_lt hfr).2 hk hf (by rw [hroom, h2]; exact Nat.le_refl _) hgc (put_self _ _ _) (fun b' hne => put_other hne) rfl (by obtain ⟨_, I⟩ := I; exact nodup_put I.nod hfr.2.2.2))⟩
          have := vr_new_tok (G := G) (b := id) (ver := 0) (room := newCap - ys.length) (w := w.drew) hk hgs hf
          rw [hroom] at this
          rw [← hyl']
          exact this
        | ref =>
          cases hv
          exact .inl ⟨_, _, by rw [Sem.run_bind, h3]; rfl, G.withRw id 0 (w.heap.size, 0, g.size, newCap), vr_row0 hgs h1, Post.drewL (post_new_row (lo := 0) (hi := 0) (cap := newCap) I.drew (Nat.le_refl _) hid (fresh_lt hfr).1 hk hf (by omega) (by rw [h2]; exact Nat.le_refl _) hgc (put_self _ _ _) (fun b' hne => put_other hne) rfl (by obtain ⟨_, I⟩ := I; exact nodup_put I.nod hfr.2.2.2))⟩
      · cases hv
    · -- a list
      rename_i tg l es
      rw [← hyy] at hv
      have hx' := hx
      cases hx with
      | imm hs hkl hcap hfz htg =>
        rename_i a cap
        have hel' : elems h l (.imm tg l es) = some es := by simp [elems]
        cases tg with
        | none => dsimp only at hv; cases hv
        | full =>
          dsimp only at hv
          rw [hyy] at hv
          split at hv
          · rename_i hc
            simp only [Bool.and_eq_true, decide_eq_true_eq] at hc
            obtain ⟨rfl, hmost⟩ := hc
            have hcapeq : cap = es.length := htg
            obtain ⟨hke, hfe, _, olds, hvo, holds⟩ := src_ok (P := P) I.drew hel' hx' (Nat.le_refl _)
            rw [List.take_length] at hvo
            have hol : olds.length = es.length * g.size := by rw [← hvo.1, flatC_length hke]
            obtain ⟨newCap, rest, h1, h2, h3⟩ := grows (some a) _ cap olds rfl holds (by omega) (by omega) hol
            have hgc := grown_cells (rest := rest) (L := es ++ ys) rfl hvo hvnD
            have hll : (es ++ ys).length = es.length + ys0.length := by rw [List.length_append, hyl']
            cases m with
            | imm =>
              cases hv
              have hroom : (es ++ ys).length + (newCap - (es ++ ys).length) = newCap := by omega
              refine .inl ⟨_, _, by rw [Sem.run_bind, h3]; rfl, _, ?_, Post.drewL (post_new_tok (room := newCap - (es ++ ys).length) I.drew hid (fresh_lt hfr).2 (allK_append hke hk) (allFlat_append hfe hf) (by rw [hroom, h2]; exact Nat.le_refl _) hgc (put_self _ _ _) (fun b' hne => put_other hne) rfl (by obtain ⟨_, I⟩ := I; exact nodup_put I.nod hfr.2.2.2))⟩
              have := vr_new_tok (G := G) (b := id) (ver := 0) (room := newCap - (es ++ ys).length) (w := w.drew) (allK_append hke hk) hgs (allFlat_append hfe hf)
              rw [hroom] at this
              rw [← hll]
              exact this
            | ref =>
              cases hv
              exact .inl ⟨_, _, by rw [Sem.run_bind, h3]; rfl, G.withRw id 0 (w.heap.size, 0, g.size, newCap), vr_row0 hgs (by omega), Post.drewL (post_new_row (lo := 0) (hi := 0) (cap := newCap) I.drew (Nat.le_refl _) hid (fresh_lt hfr).1 (allK_append hke hk) (allFlat_append hfe hf) (by omega) (by rw [h2]; exact Nat.le_refl _) hgc (put_self _ _ _) (fun b' hne => put_other hne) rfl (by obtain ⟨_, I⟩ := I; exact nodup_put I.nod hfr.2.2.2))⟩
          · cases hv
        | own i ver =>
          dsimp only at hv
          rw [hyy] at hv
          split at hv
          · rename_i uu hgi
            split at hv
            · rename_i hc
              simp only [Bool.and_eq_true, decide_eq_true_eq] at hc
              obtain ⟨rfl, rfl, hmost⟩ := hc
              cases hv
              obtain ⟨ab, e0, room, htk, hcapeq, hend⟩ := htg
              obtain ⟨own, Io⟩ := I
              obtain ⟨hin, hvmax, htok⟩ := Io.ents i _ hgi
              obtain ⟨hab, hroomlive⟩ := htok _ _ _ _ htk
              have I : Inv base G h w := ⟨own, Io⟩
              have hke : AllK g.size es := fun e' he' => by obtain ⟨j, hj⟩ := List.getElem?_of_mem he'; exact (hfz j e' hj).1
              have hfe : AllFlat es := fun e' he' c hc => by obtain ⟨j, hj⟩ := List.getElem?_of_mem he'; obtain ⟨q, hq⟩ := List.getElem?_of_mem hc; exact ((hfz j e' hj).2 q c hq).1
              by_cases hfit : es.length + ys0.length ≤ cap
              · have hr0 : room ≠ 0 := by omega
                obtain ⟨he1, he2⟩ := hend.resolve_left hr0
                subst he1 he2
                have hlive : ∀ j, j < news.length → Live w a.block (a.off + es.length * g.size + j) := fun j hj => (hroomlive j (by
                  have : ys0.length * g.size ≤ room * g.size := Nat.mul_le_mul_right _ (by omega)
                  omega)).2
                have hrun := fits a _ cap hs rfl hfit hlive
                have hp := post_fill_tok (id := id) I hk hf hgi htk (by omega) hvn
                refine .inl ⟨_, _, by rw [Sem.run_bind, hrun]; rfl, _, ?_, hp⟩
                have hll : (es ++ ys).length = es.length + ys0.length := by rw [List.length_append, hyl']
                rw [← hll]
                refine .imm hs hkl (by omega) ?_ ⟨a.block, a.off + es.length * g.size + ys.length * g.size, room - ys.length, withTk_self _ _ _ _, by omega, .inr ⟨rfl, by rw [List.length_append, Nat.add_mul, Nat.add_assoc]⟩⟩
                intro j e' he'
                by_cases hj : j < es.length
                · rw [List.getElem?_append_left hj] at he'
                  exact ⟨(hfz j e' he').1, fun q c hq => ⟨((hfz j e' he').2 q c hq).1, hp.le.fz _ _ _ ((hfz j e' he').2 q c hq).2⟩⟩
                · rw [List.getElem?_append_right (by omega)] at he'
                  have hm := List.mem_of_getElem? he'
                  refine ⟨hk e' hm, fun q c hq => ⟨hf e' hm c (List.mem_of_getElem? hq), ?_⟩⟩
                  have hfc := flatC_get hk he' hq
                  have hlt := (List.getElem?_eq_some_iff.1 hfc).1
                  rw [flatC_length hk] at hlt
                  have e1 : j * g.size = es.length * g.size + (j - es.length) * g.size := by rw [← Nat.add_mul]; congr 1; omega
                  show (if a.block = a.block ∧ a.off + es.length * g.size ≤ a.off + j * g.size + q ∧ a.off + j * g.size + q < a.off + es.length * g.size + ys.length * g.size then (flatC ys)[a.off + j * g.size + q - (a.off + es.length * g.size)]? else _) = some c
                  rw [if_pos ⟨rfl, by omega, by omega⟩, show a.off + j * g.size + q - (a.off + es.length * g.size) = (j - es.length) * g.size + q by omega]
                  exact hfc
              · obtain ⟨_, _, _, olds, hvo, holds⟩ := src_ok (P := P) I.drew hel' hx' (Nat.le_refl _)
                rw [List.take_length] at hvo
                have hol : olds.length = es.length * g.size := by rw [← hvo.1, flatC_length hke]
                obtain ⟨newCap, rest, h1, h2, h3⟩ := grows (some a) _ cap olds rfl holds (by omega) (by omega) hol
                have hgc := grown_cells (rest := rest) (L := es ++ ys) rfl hvo hvnD
                have hll : (es ++ ys).length = es.length + ys0.length := by rw [List.length_append, hyl']
                have hroom : (es ++ ys).length + (newCap - (es ++ ys).length) = newCap := by omega
                refine .inl ⟨_, _, by rw [Sem.run_bind, h3]; rfl, _, ?_, post_ex (Post.drewL (post_new_tok (ver := uu + 1) (room := newCap - (es ++ ys).length) I.drew hin (fun v x hx => by have := hvmax v x hx; omega) (allK_append hke hk) (allFlat_append hfe hf) (by rw [hroom, h2]; exact Nat.le_refl _) hgc (get_set_self hgi) (fun b' hne => get_set_other hne) rfl (nodup_set h i _ Io.nod))) (fun j hj _ hfj => by subst hj; have := hfj.2.2.2; rw [hgi] at this; cases this)⟩
                have := vr_new_tok (G := G) (b := i) (ver := uu + 1) (room := newCap - (es ++ ys).length) (w := w.drew) (allK_append hke hk) hgs (allFlat_append hfe hf)
                rw [hroom] at this
                rw [← hll]
                exact this
            · cases hv
          · cases hv
    · -- a row
      rename_i b ver l off len
      rw [← hyy] at hv
      dsimp only at hv
      rw [hyy] at hv
      have hx' := hx
      split at hv
      · rename_i v' es hgb
        split at hv
        · rename_i hc
          simp only [Bool.and_eq_true, decide_eq_true_eq] at hc
          obtain ⟨rfl, rfl, hle, hmost⟩ := hc
          cases hx with
          | ref hw hkl hl hs ha =>
            rename_i ab ao cap a
            obtain ⟨own, Io⟩ := I
            obtain ⟨hbn, hvmax, hrow⟩ := Io.ents b _ hgb
            obtain ⟨hab, hcapl, hown, hel2⟩ := hrow _ _ _ _ hw
            have I : Inv base G h w := ⟨own, Io⟩
            have hel' : elems h g.size (.ref b v' g.size off len) = some (cut off (off + len) es) := by simp [elems, hgb, hle]
            have hcl : (cut off (off + len) es).length = len := by rw [length_cut _ _ _ hle]; omega
            have livec : off + len + ys0.length ≤ cap → a = ⟨ab, ao + off * g.size, none⟩ → ∀ j, j < news.length → Live w a.block (a.off + len * g.size + j) := by
              intro hle2 ha2 j hj
              subst ha2
              have h1 : (off + len + ys0.length) * g.size ≤ cap * g.size := Nat.mul_le_mul_right _ hle2
              have := (hown (off * g.size + len * g.size + j) (by rw [Nat.add_mul, Nat.add_mul] at h1; omega)).2
              rw [← Nat.add_assoc, ← Nat.add_assoc] at this
              exact this
            split at hv
            · rename_i hin
              cases hv
              have ha2 := ha.resolve_left (by omega)
              have hrun := fits a _ _ hs rfl (by omega) (livec (by omega) ha2)
              have hp := post_over_row (id := id) (o := off + len) I hk hf hgb hw (by omega) hvn
              refine .inl ⟨_, _, by rw [Sem.run_bind, hrun]; rfl, G, ?_, ?_⟩
              · exact .ref hw hkl (by omega) hs ha
              · subst ha2
                rw [Nat.add_mul, ← Nat.add_assoc] at hp
                exact hp
            · rename_i hout
              cases hv
              by_cases hfit : len + ys0.length ≤ cap - off
              · have ha2 := ha.resolve_left (by omega)
                have hrun := fits a _ _ hs rfl hfit (livec (by omega) ha2)
                have hp := post_ext_row (id := id) I hk hf hkl hgb hw hle (by omega) hvn
                have hvr : VR (G.withRw b (v' + 1) (ab, ao + off * g.size, g.size, cap - off)) (.ref b (v' + 1) g.size 0 (len + ys0.length)) (.slice (some a) (len + ys0.length) (cap - off)) := by
                  have := VR.ref (off := 0) (len := len + ys0.length) (a := a) (withRw_self G b (v' + 1) (ab, ao + off * g.size, g.size, cap - off)) hkl (by omega) hs (.inr (by rw [ha2]; simp))
                  simpa using this
                refine .inl ⟨_, _, by rw [Sem.run_bind, hrun]; rfl, _, hvr, ?_⟩
                subst ha2
                rw [Nat.add_mul, ← Nat.add_assoc] at hp
                exact hp
              · obtain ⟨hke, hfe, _, olds, hvo, holds⟩ := src_ok (P := P) I.drew hel' hx' (Nat.le_refl _)
                rw [List.take_length] at hvo
                rw [hcl] at holds
                have hol : olds.length = len * g.size := by rw [← hvo.1, flatC_length hke, hcl]
                obtain ⟨newCap, rest, h1, h2, h3⟩ := grows (some a) _ _ olds rfl holds (by omega) (by omega) hol
                have hgc := grown_cells (rest := rest) (L := cut off (off + len) es ++ ys) rfl hvo hvnD
                have hll : (cut off (off + len) es ++ ys).length = len + ys0.length := by rw [List.length_append, hyl', hcl]
                exact .inl ⟨_, _, by rw [Sem.run_bind, h3]; rfl, G.withRw b (v' + 1) (w.heap.size, 0, g.size, newCap), vr_row0 hgs (by omega), post_ex (Post.drewL (post_new_row (lo := 0) (hi := 0) (ver := v' + 1) (cap := newCap) I.drew (Nat.le_refl _) hbn (fun v x hx => by have := hvmax v x hx; omega) (allK_append hke hk) (allFlat_append hfe hf) (by omega) (by rw [h2]; exact Nat.le_refl _) hgc (get_set_self hgb) (fun b' hne => get_set_other hne) rfl (nodup_set h b _ Io.nod))) (fun j hj _ hfj => by subst hj; have := hfj.2.2.2; rw [hgb] at this; cases this)⟩
        · cases hv
      · cases hv
end
end Go.CI

/- A deterministic interpreter over values: copy, make; every writing operation. -/
set_option linter.unusedVariables false
namespace Go.CI
open Go.RowKit

section
variable {P : Program} {base : Nat} {G : Gh} {h : CHeap} {w : World} {id : Nat}

theorem e_copy {t u e : TypeId} {g : ElemInfo} {ty : TypeId} {x y v : CVal} {X Y : Value} {ys : List CVal} {h' : CHeap} (I : Inv base G h w)
    (hv : (match x with
      | .ref b ver l off len => match h.get b with
        | some (.row v es) => if g.size = l && (v = ver && decide (off + len ≤ es.length)) then some (CVal.int .i64 (min ys.length len : Nat), h.set b (.row ver (setCells es off ((ys.take len).map CVal.bare)))) else none
        | _ => none
      | .nils => some (.int .i64 0, h)
      | _ => none) = some (v, h'))
    (ht : P.underlying t = some (.slice e))
    (hg : infoOf P e = some g) (hx : VR G x X) (hy : VR G y Y) (hel : elems h g.size y = some ys) :
    OutE P base G h id v h' (do pure (.value (← Builtin.copy_ #[t, u] ty #[X, Y]))) w := by
  obtain ⟨i, d', z, ok⟩ := infoOf_ok hg
  cases x <;> first | (cases hv; done) | skip
  · cases hv; cases hx
    obtain ⟨_, _, hl, news, hvn, hf⟩ := src_ok (P := P) (n := 0) I hel hy (Nat.zero_le _)
    rw [ok.size] at hf
    refine .inl ⟨.int .i64 0, w, ?_, G, .int _ _, .refl I⟩
    simp [Builtin.copy_, r_und ht, hl, r_size ok.info, hf, goInt]
  · rename_i b ver l off len
    dsimp only at hv
    split at hv
    · rename_i v' es hgb
      split at hv
      · rename_i hc
        simp only [Bool.and_eq_true, decide_eq_true_eq] at hc
        obtain ⟨rfl, rfl, hle⟩ := hc
        cases hv
        obtain ⟨hk0, hf0, hl, news, hvn0, hf⟩ := src_ok (P := P) (n := min ys.length len) I hel hy (Nat.min_le_left _ _)
        obtain ⟨hfl, hk, hfl2⟩ := bare_list (allK_take hk0 (min ys.length len)) (fun e he => hf0 e (List.mem_of_mem_take he))
        have hvn : VRs G (flatC ((ys.take (min ys.length len)).map CVal.bare)) news := by rw [hfl]; exact hvn0.map _ fun _ _ => VR.strip
        have htk : ys.take (min ys.length len) = ys.take len := by
          rcases Nat.le_total ys.length len with h1 | h1
          · rw [Nat.min_eq_left h1, List.take_length, List.take_of_length_le h1]
          · rw [Nat.min_eq_right h1]
        rw [htk] at hk hfl2 hvn
        have hnl : ((ys.take len).map CVal.bare).length = min ys.length len := by rw [List.length_map, List.length_take, Nat.min_comm]
        cases hx with
        | ref hw hkl hll hs ha =>
          rename_i ab ao cap a
          have I' := I
          obtain ⟨own, Io⟩ := I
          obtain ⟨hbn, hvmax, hrow⟩ := Io.ents b _ hgb
          obtain ⟨hab, hcapl, hown, hel2⟩ := hrow _ _ _ _ hw
          have hp := post_over_row (id := id) (o := off) I' hk hfl2 hgb hw (by rw [hnl]; have := Nat.min_le_right ys.length len; omega) hvn
          have hnews : news.length = min ys.length len * g.size := by rw [← hvn.1, flatC_length hk, hnl]
          by_cases h0 : cap - off = 0
          · have hm0 : min ys.length len = 0 := by have := Nat.min_le_right ys.length len; omega
            have hne : news = [] := List.eq_nil_of_length_eq_zero (by rw [hnews, hm0, Nat.zero_mul])
            subst hne
            rw [setCells_nil] at hp
            refine .inl ⟨.int .i64 (min ys.length len : Nat), w, ?_, G, .int _ _, hp⟩
            rw [ok.size] at hf
            simp [Builtin.copy_, r_und ht, hl, r_size ok.info, hf, goInt, storeCells]
          · have ha2 := ha.resolve_left h0
            subst ha2
            refine .inl ⟨.int .i64 (min ys.length len : Nat), _, ?_, G, .int _ _, hp⟩
            have hst := run_storeCells_cells (P := P) ab (ao + off * g.size) news 0 w (fun j hj => by
                rw [Nat.add_zero]
                have h1 : (off + min ys.length len) * g.size ≤ cap * g.size := Nat.mul_le_mul_right _ (by have := Nat.min_le_right ys.length len; omega)
                obtain ⟨v, hv⟩ := (hown (off * g.size + j) (by rw [Nat.add_mul] at h1; omega)).2.1
                rw [← Nat.add_assoc] at hv
                rw [hv]; rfl) (fun j hj => by
                rw [Nat.add_zero]
                have h1 : (off + min ys.length len) * g.size ≤ cap * g.size := Nat.mul_le_mul_right _ (by have := Nat.min_le_right ys.length len; omega)
                have := (hown (off * g.size + j) (by rw [Nat.add_mul] at h1; omega)).2.2
                rw [← Nat.add_assoc] at this
                exact this) (one_of_vrs hvn (flat_flatC hfl2))
            rw [Nat.add_zero] at hst
            rw [ok.size] at hf hst
            rw [ok.size]
            simp [Builtin.copy_, r_und ht, hl, r_size ok.info, hf, goInt, hst]
      · cases hv
    · cases hv

theorem run_mkslice {t e : TypeId} {g : ElemInfo} {i : TypeInfo} {d : TypeDesc} {z : Value} {kl kc : IntKind} {l c : Int} (ht : P.underlying t = some (.slice e)) (ok : InfoOk P e g i d z) (hb : g.bytes ≤ 4096) (h0 : 0 ≤ l) (h1 : l ≤ c) (h2 : c ≤ sizeMost) :
    (Instr.makeSlice t (.int kl l) (.int kc c)).run P w = .ok (.slice (some ⟨w.heap.size, 0, none⟩) l.toNat c.toNat) (w.alloc (.cells ((Array.range (c.toNat * g.size)).map fun i => z.cells[i % z.cells.size]!) e)) := by
  have hm : (sizeMost : Int) = 1073741824 := rfl
  have hby : (i.bytes : Int) ≤ 4096 := by rw [← ok.bytes]; omega
  have hmul : (i.bytes : Int) * c ≤ 4096 * 1073741824 := Int.mul_le_mul hby (by omega) (by omega) (by omega)
  rw [ok.size]
  exact run_make w t e i z ht ok.info ok.zero kl kc l c h0 h1 (by omega) (by omega)

theorem e_mkref {t e : TypeId} {g : ElemInfo} {kl kc : IntKind} {l c : Int} (I : Inv base G h w) (hfr : Fresh G h id) (hid : id < h.next) (ht : P.underlying t = some (.slice e)) (hg : infoOf P e = some g) (hb : g.bytes ≤ 4096) (h0 : 0 ≤ l) (h1 : l ≤ c) (h2 : c ≤ sizeMost) :
    OutE P base G h id (.ref id 0 g.zero.length 0 l.toNat) (h.put id (.row 0 (List.replicate c.toNat (mkElem g.agg g.zero)))) (do pure (.value (← Instr.makeSlice t (.int kl l) (.int kc c)))) w := by
  obtain ⟨i, d, z, ok⟩ := infoOf_ok hg
  rw [ok.len]
  have hk0 : AllK g.size (List.replicate c.toNat (mkElem g.agg g.zero)) := by
    intro e he; rw [(List.mem_replicate.1 he).2, elem_cells ok, ok.len]
  have hf0 : AllFlat (List.replicate c.toNat (mkElem g.agg g.zero)) := by
    intro e he; rw [(List.mem_replicate.1 he).2, elem_cells ok]; exact ok.flat
  have hz := zero_row ok G c.toNat
  refine .inl ⟨_, _, by rw [Sem.run_bind, run_mkslice ht ok hb h0 h1 h2]; rfl, G.withRw id 0 (w.heap.size, 0, g.size, c.toNat), vr_row0 ok.pos (by omega), ?_⟩
  exact post_new_row I (lo := 0) (hi := 0) (Nat.le_refl _) hid (fresh_lt hfr).1 hk0 hf0 (by rw [List.length_replicate]; exact Nat.le_refl _) (by simp) (fun j c hc => by
    have hj := (List.getElem?_eq_some_iff.1 hc).1
    rw [hz.1] at hj
    exact ⟨_, by rw [← Array.getElem?_toList]; exact List.getElem?_eq_getElem hj, hz.2 j c _ hc (List.getElem?_eq_getElem hj)⟩)
    (put_self _ _ _) (fun b' hne => put_other hne) rfl (by obtain ⟨_, I⟩ := I; exact nodup_put I.nod hfr.2.2.2)

theorem e_mkimm {t e : TypeId} {g : ElemInfo} {kl kc : IntKind} {c : Int} (I : Inv base G h w) (ht : P.underlying t = some (.slice e)) (hg : infoOf P e = some g) (hb : g.bytes ≤ 4096) (h0 : 0 ≤ c) (h2 : c ≤ sizeMost) :
    OutE P base G h id (.imm .full g.zero.length (List.replicate c.toNat (mkElem g.agg g.zero))) h (do pure (.value (← Instr.makeSlice t (.int kl c) (.int kc c)))) w := by
  obtain ⟨i, d, z, ok⟩ := infoOf_ok hg
  rw [ok.len]
  have hk0 : AllK g.size (List.replicate c.toNat (mkElem g.agg g.zero)) := by
    intro e he; rw [(List.mem_replicate.1 he).2, elem_cells ok, ok.len]
  have hf0 : AllFlat (List.replicate c.toNat (mkElem g.agg g.zero)) := by
    intro e he; rw [(List.mem_replicate.1 he).2, elem_cells ok]; exact ok.flat
  have hz := zero_row ok G c.toNat
  obtain ⟨G', hv', hpost⟩ := post_list I (· = id) ((Array.range (c.toNat * g.size)).map fun i => z.cells[i % z.cells.size]!) e (0, 0) g.size c.toNat (List.replicate c.toNat (mkElem g.agg g.zero)) .full ok.pos hk0 (by rw [List.length_replicate]; exact Nat.le_refl _) (.inr ⟨rfl, by rw [List.length_replicate]⟩) hf0 (fun j c hc => by
    have hj := (List.getElem?_eq_some_iff.1 hc).1
    rw [hz.1] at hj
    exact ⟨_, by rw [← Array.getElem?_toList]; exact List.getElem?_eq_getElem hj, hz.2 j c _ hc (List.getElem?_eq_getElem hj)⟩)
  rw [List.length_replicate] at hv'
  exact .inl ⟨_, _, by rw [Sem.run_bind, run_mkslice ht ok hb h0 (Int.le_refl _) h2]; rfl, G', hv', hpost⟩

/-- Is it a call? -/
def COp.isCall : COp → Bool
  | .call _ _ _ => true
  | .callv _ _ _ => true
  | _ => false

theorem simE {E : Env} {rg i : Nat} {dsts : List (Option Tmp)} {earlier later : List Oper} {o : Oper} {c : COp} {cf : Nat → List CVal → CHeap → Option (CVal × CHeap)} {ev : COpnd → CVal} {ρ : Operand → Value} {v : CVal} {h' : CHeap} (hE : E.P = P) (hc : cop E rg i dsts earlier later o = some c) (hcls : c.cls = .e) (hnc : c.isCall = false)
    (hr : ORel G E dsts ev ρ) (hv : evalE cf ev h id c = some (v, h')) (I : Inv base G h w) (hid : id < h.next) (hf : Fresh G h id) : OutE P base G h id v h' (execOp ρ o) w := by
  obtain ⟨dst, op, type, pos, after, guard⟩ := o
  subst hE
  cases op
  case slice t x lo hi mx =>
    exfalso
    cases mx with
    | some m => simp [cop] at hc
    | none =>
      simp only [cop] at hc
      split at hc
      · cases hc; simp [COp.cls] at hcls
      · split at hc
        · cases hc; simp [COp.cls] at hcls
        · cases hc
      · cases hc
  all_goals simp only [cop] at hc
  all_goals try (cases hc; done)
  case alloc t =>
    split at hc
    · rename_i f d hfi
      split at hc
      · cases hc; simp [COp.cls] at hcls
      · cases hc
        simp only [evalE] at hv; cases hv
        exact e_alloc I hf hid hfi
    · cases hc
  case box t x =>
    obtain ⟨y, hy, rfl⟩ := Option.map_eq_some_iff.1 hc
    simp only [evalE] at hv
    split at hv
    · rename_i hw; cases hv; exact e_box I hf hid hw (hr x y hy)
    · cases hv
  case buildSlice t len parts =>
    split at hc
    · rename_i e ps hu hps
      split at hc
      · rename_i g hg
        split at hc
        · rename_i hlen
          cases hc
          cases hm : modeOf E rg i with
          | imm => rw [hm] at hcls; simp [COp.cls] at hcls
          | ref =>
            rw [hm] at hv
            simp only [evalE] at hv
            split at hv
            · rename_i es hes; cases hv; exact e_litref I hf hid hu hg hlen (hr.parts _ _ hps) hes
            · cases hv
        · cases hc
      · cases hc
    · cases hc
  case store t a x =>
    have key : ∀ f b y, infoOf E.P t = some f → copnd E dsts a = some b → copnd E dsts x = some y → evalE cf ev h id (.store f.size b y) = some (v, h') → OutE E.P base G h id v h' (do Instr.storeAt t (ρ a) (ρ x); pure .skip) w := by
      intro f b y hfi hb hy hv
      simp only [evalE] at hv
      split at hv
      · rename_i hcond
        simp only [Bool.and_eq_true, decide_eq_true_eq] at hcond
        obtain ⟨hw, hk⟩ := hcond
        have h1 := hr _ _ hb
        have h2 := hr _ _ hy
        split at hv
        · rename_i b' sz o' hev
          rw [hev] at h1
          split at hv
          · rename_i cs hgb
            split at hv
            · rename_i hle; cases hv; exact e_store_ptr I hfi hw hk h1 h2 hgb hle
            · cases hv
          · cases hv
        · rename_i b' ver i' o' hev
          rw [hev] at h1
          split at hv
          · rename_i v' es hgb
            split at hv
            · rename_i hcond2
              simp only [Bool.and_eq_true, decide_eq_true_eq] at hcond2
              obtain ⟨⟨rfl, hi⟩, hle⟩ := hcond2
              cases hv
              exact e_store_eptr I hfi hw hk h1 h2 hgb hi hle
            · cases hv
          · cases hv
        · cases hv
      · cases hv
    have keyI : ∀ f b y, infoOf E.P t = some f → copnd E dsts a = some b → copnd E dsts x = some y → evalE cf ev h id (.init f.size b y) = some (v, h') → OutE E.P base G h id v h' (do Instr.storeAt t (ρ a) (ρ x); pure .skip) w := by
      intro f b y hfi hb hy hv
      simp only [evalE] at hv
      split at hv
      · rename_i hcond
        simp only [Bool.and_eq_true, decide_eq_true_eq] at hcond
        obtain ⟨hw, hk⟩ := hcond
        have h1 := hr _ _ hb
        have h2 := hr _ _ hy
        split at hv
        · rename_i b' sz o' hev
          rw [hev] at h1
          split at hv
          · rename_i hcond2
            simp only [Bool.and_eq_true, decide_eq_true_eq] at hcond2
            obtain ⟨rfl, rfl⟩ := hcond2
            split at hv
            · rename_i hgb; cases hv; exact e_init I hfi hw hk h1 h2 hgb
            · cases hv
          · cases hv
        · cases hv
      · cases hv
    split at hc
    · rename_i f b y hfi hb hy
      split at hc
      · split at hc
        · cases hc; exact keyI f b y hfi hb hy hv
        · cases hc; exact key f b y hfi hb hy hv
      · cases hc; exact key f b y hfi hb hy hv
    · cases hc
  case convert s d x =>
    split at hc
    · cases hc; simp [COp.cls] at hcls
    · cases hc; simp [COp.cls] at hcls
    · rename_i e y hs hd hy
      split at hc
      · rename_i he
        cases hc
        cases hm : modeOf E rg i with
        | imm => rw [hm] at hcls; simp [COp.cls] at hcls
        | ref =>
          rw [hm] at hv
          simp [evalE] at hv
      · cases hc
    · split at hc
      · cases hc; simp [COp.cls] at hcls
      · cases hc
    · cases hc
  case makeSlice t l cp =>
    split at hc
    · rename_i e ly cy hu hl hcp
      split at hc
      · rename_i g hg
        split at hc
        · rename_i hsm
          cases hc
          have hb : g.bytes ≤ 4096 := by simpa [smallBytes] using hsm
          have h1 := hr _ _ hl
          have h2 := hr _ _ hcp
          show OutE E.P base G h id v h' (do pure (.value (← Instr.makeSlice t (ρ l) (ρ cp)))) w
          cases hm : modeOf E rg i with
          | imm =>
            rw [hm] at hv
            simp only [evalE] at hv
            split at hv
            · rename_i k1 n1 k2 n2 e1 e2
              split at hv
              · rename_i hcond
                simp only [Bool.and_eq_true, decide_eq_true_eq] at hcond
                obtain ⟨h0, rfl, h3⟩ := hcond
                cases hv
                rw [e1] at h1
                rw [e2] at h2
                generalize ρ l = X at h1 ⊢
                generalize ρ cp = Y at h2 ⊢
                cases h1; cases h2
                exact e_mkimm I hu hg hb h0 h3
              · cases hv
            · cases hv
          | ref =>
            rw [hm] at hv
            simp only [evalE] at hv
            split at hv
            · rename_i k1 n1 k2 n2 e1 e2
              split at hv
              · rename_i hcond
                simp only [Bool.and_eq_true, decide_eq_true_eq] at hcond
                obtain ⟨h0, h3, h4⟩ := hcond
                cases hv
                rw [e1] at h1
                rw [e2] at h2
                generalize ρ l = X at h1 ⊢
                generalize ρ cp = Y at h2 ⊢
                cases h1; cases h2
                exact e_mkref I hf hid hu hg hb h0 h3 h4
              · cases hv
            · cases hv
        · cases hc
      · cases hc
    · cases hc
  case call cl =>
    obtain ⟨callee, args, argTypes⟩ := cl
    simp only at hc
    split at hc
    · obtain ⟨y, hy, rfl⟩ := Option.map_eq_some_iff.1 hc; simp [COp.isCall] at hnc
    · split at hc
      · cases hc; simp [COp.isCall] at hnc
      · cases hc
    · split at hc
      · split at hc
        · obtain ⟨y, hy, rfl⟩ := Option.map_eq_some_iff.1 hc; simp [COp.cls] at hcls
        · obtain ⟨y, hy, rfl⟩ := Option.map_eq_some_iff.1 hc; simp [COp.cls] at hcls
        · cases hc
      · cases hc
    · split at hc
      · rename_i t u x y hts hxs
        have e1 : argTypes = #[t, u] := by apply Array.ext'; simpa using hts
        have e2 : args = #[x, y] := by apply Array.ext'; simpa using hxs
        subst e1 e2
        have key : ∀ e d g a b, E.P.underlying t = some (.slice e) → E.P.underlying u = some d → (d = .string ∨ ∃ e', d = .slice e') → infoOf E.P e = some g → smallBytes g.bytes = true → copnd E dsts x = some a → copnd E dsts y = some b →
            evalE cf ev h id (.append (modeOf E rg i) g.size a b) = some (v, h') → OutE E.P base G h id v h' (do pure (.value (← Builtin.append_ #[t, u] type #[ρ x, ρ y]))) w := by
          intro e d g a b ht hu hd hg hsm ha hb hv
          simp only [evalE] at hv
          split at hv
          · rename_i ys hys
            exact e_append I hf hid ht hu hd hg (by simpa [smallBytes] using hsm) (hr _ _ ha) (hr _ _ hb) hys hv
          · cases hv
        split at hc
        · rename_i e e' a b ht hu ha hb
          split at hc
          · rename_i g hg
            split at hc
            · rename_i hsm
              cases hc
              have := key e _ g a b ht hu (.inr ⟨e', rfl⟩) hg hsm ha hb hv
              simpa [execOp, resolve, invoke, builtin] using this
            · cases hc
          · cases hc
        · rename_i e a b ht hu ha hb
          split at hc
          · rename_i g hg
            split at hc
            · rename_i hsm
              cases hc
              have := key e _ g a b ht hu (.inl rfl) hg hsm ha hb hv
              simpa [execOp, resolve, invoke, builtin] using this
            · cases hc
          · cases hc
        · cases hc
      · cases hc
    · split at hc
      · rename_i t u x y hts hxs
        have e1 : argTypes = #[t, u] := by apply Array.ext'; simpa using hts
        have e2 : args = #[x, y] := by apply Array.ext'; simpa using hxs
        subst e1 e2
        split at hc
        · rename_i e a b ht ha hb
          split at hc
          · rename_i g hg
            cases hc
            simp only [evalE] at hv
            have h1 := hr _ _ ha
            have h2 := hr _ _ hb
            have : OutE E.P base G h id v h' (do pure (.value (← Builtin.copy_ #[t, u] type #[ρ x, ρ y]))) w := by
              cases hel : elems h g.size (ev b) with
              | none => rw [hel] at hv; cases hv
              | some ys =>
                rw [hel] at hv
                refine e_copy I ?_ ht hg h1 h2 hel
                cases hea : ev a <;> simp only [hea] at hv ⊢ <;> first | exact hv | (cases hv; done)
            simpa [execOp, resolve, invoke, builtin] using this
          · cases hc
        · cases hc
      · cases hc
    · split at hc
      · split at hc
        · cases hc; simp [COp.cls] at hcls
        · cases hc
      · cases hc
    · split at hc
      · split at hc
        · cases hc; simp [COp.cls] at hcls
        · cases hc
      · cases hc
    · cases hc
  all_goals
    exfalso
    revert hcls
    first
      | (obtain ⟨y, _, rfl⟩ := Option.map_eq_some_iff.1 hc; simp [COp.cls]; done)
      | (repeat' (split at hc))
  all_goals first
    | (cases hc; done)
    | (cases hc; simp [COp.cls]; done)
    | (obtain ⟨y, _, rfl⟩ := Option.map_eq_some_iff.1 hc; simp [COp.cls]; done)
end
end Go.CI

/- A deterministic interpreter over values: what a run of a region's operations has gone through. -/
set_option linter.unusedVariables false
namespace Go.CI
open Go.RowKit

def COper.w (c : COper) : Bool := match c.op.cls with
  | .e => true
  | .d => true
  | _ => false

/-- One operation, from a heap and deferred calls on. -/
def Trans (cf : Nat → List CVal → CHeap → Option (CVal × CHeap)) (ev : COpnd → CVal) (id : Nat) (c : COper) (wanted : Bool) (v : CVal) (h : CHeap) (ds : List (Nat × List CVal)) (h' : CHeap) (ds' : List (Nat × List CVal)) : Prop :=
  if wanted then match c.op.cls with
    | .p => evalP ev id c.op = some v ∧ v.isUndef = false ∧ h' = h ∧ ds' = ds
    | .l => evalL ev h c.op = some v ∧ v.isUndef = false ∧ h' = h ∧ ds' = ds
    | .e => evalE cf ev h id c.op = some (v, h') ∧ (v.isUndef = true → c.op.isStore = true) ∧ ds' = ds
    | .d => ∃ x args f first cap, c.op = .defer x args ∧ ev x = .fn (.func f) first cap ∧ v = .undef ∧ h' = h ∧ ds' = (f, first ++ (args.map ev ++ cap)) :: ds
  else v = .undef ∧ h' = h ∧ ds' = ds

structure Stepped (cf : Nat → List CVal → CHeap → Option (CVal × CHeap)) (tm : List CVal) (id : Nat) (c : COper) (s s' : RS) (v : CVal) : Prop where
  vals : s'.vals = v :: s.vals
  hs : s'.hs = if c.w then s.h :: s.hs else s.hs
  tr : Trans cf (evalOpnd tm s.vals) id c (wantedC s.vals c.guard) v s.h s.defs s'.h s'.defs

theorem stepped_of {cf : Nat → List CVal → CHeap → Option (CVal × CHeap)} {tm : List CVal} {id : Nat} {c : COper} {s s' : RS} (h : evalOper cf tm id c s = some s') : ∃ v, Stepped cf tm id c s s' v := by
  unfold evalOper at h
  split at h
  · rename_i hw
    split at h
    · rename_i hcl
      split at h
      · rename_i v hv
        split at h
        · cases h
        · rename_i hu
          cases h
          exact ⟨v, rfl, by simp [COper.w, hcl], by simp [Trans, hw, hcl, hv]; simpa using hu⟩
      · cases h
    · rename_i hcl
      split at h
      · rename_i v hv
        split at h
        · cases h
        · rename_i hu
          cases h
          exact ⟨v, rfl, by simp [COper.w, hcl], by simp [Trans, hw, hcl, hv]; simpa using hu⟩
      · cases h
    · rename_i hcl
      split at h
      · rename_i v h1 hv
        split at h
        · cases h
        · rename_i hu
          cases h
          exact ⟨v, rfl, by simp [COper.w, hcl], by simp [Trans, hw, hcl, hv]; simpa using hu⟩
      · cases h
    · rename_i hcl
      split at h
      · rename_i x args hop
        split at h
        · rename_i f first cap hx
          cases h
          refine ⟨.undef, rfl, by simp [COper.w, hcl], ?_⟩
          simp only [Trans, hw, hcl, if_true]
          exact ⟨x, args, f, first, cap, hop, hx, by simp⟩
        · cases h
      · cases h
  · rename_i hw
    cases h
    refine ⟨.undef, rfl, ?_, by simp [Trans, hw]⟩
    unfold COper.w
    generalize c.op.cls = q
    cases q <;> simp

theorem trace_of {cf : Nat → List CVal → CHeap → Option (CVal × CHeap)} {tm : List CVal} : ∀ (cs : List COper) (id : Nat) (s s' : RS), evalOps cf tm id cs s = some s' →
    ∃ (tr : Nat → RS) (r : Nat → CVal), tr 0 = s ∧ tr cs.length = s' ∧ ∀ i c, cs[i]? = some c → Stepped cf tm (id + i) c (tr i) (tr (i + 1)) (r i)
  | [], id, s, s', h => by
    simp only [evalOps] at h; cases h
    exact ⟨fun _ => s, fun _ => .undef, rfl, rfl, fun i c h => by simp at h⟩
  | c :: cs, id, s, s', h => by
    simp only [evalOps] at h
    split at h
    · rename_i s1 h1
      obtain ⟨v, hv⟩ := stepped_of h1
      obtain ⟨tr, r, h0, hn, hst⟩ := trace_of cs (id + 1) s1 s' h
      refine ⟨fun i => match i with | 0 => s | i + 1 => tr i, fun i => match i with | 0 => v | i + 1 => r i, rfl, hn, fun i c' hc => ?_⟩
      cases i with
      | zero => simp at hc; subst hc; simp only [h0]; exact hv
      | succ i =>
        simp at hc
        have := hst i c' hc
        rw [show id + 1 + i = id + (i + 1) by omega] at this
        exact this
    · cases h

/-- The facts of a whole run. -/
structure Run (cf : Nat → List CVal → CHeap → Option (CVal × CHeap)) (tm : List CVal) (id : Nat) (cs : List COper) (tr : Nat → RS) (r : Nat → CVal) : Prop where
  v0 : (tr 0).vals = []
  hs0 : (tr 0).hs = []
  st : ∀ i c, cs[i]? = some c → Stepped cf tm (id + i) c (tr i) (tr (i + 1)) (r i)

section
variable {cf : Nat → List CVal → CHeap → Option (CVal × CHeap)} {tm : List CVal} {id : Nat} {cs : List COper} {tr : Nat → RS} {r : Nat → CVal}

theorem Run.valsS (R : Run cf tm id cs tr r) {i : Nat} (hi : i < cs.length) : (tr (i + 1)).vals = r i :: (tr i).vals :=
  (R.st i _ (List.getElem?_eq_getElem hi)).vals

theorem Run.nth (R : Run cf tm id cs tr r) : ∀ (i k : Nat), i ≤ cs.length → k < i → nth (tr i).vals k = r (i - 1 - k)
  | 0, k, _, h => by omega
  | i + 1, k, hi, hk => by
    rw [R.valsS (by omega)]
    cases k with
    | zero => simp [CI.nth]
    | succ k =>
      simp only [CI.nth]
      rw [R.nth i k (by omega) (by omega)]
      congr 1; omega

theorem Run.len (R : Run cf tm id cs tr r) : ∀ (i : Nat), i ≤ cs.length → (tr i).vals.length = i
  | 0, _ => by rw [R.v0]; rfl
  | i + 1, hi => by rw [R.valsS (by omega), List.length_cons, R.len i (by omega)]

theorem Run.dropV (R : Run cf tm id cs tr r) : ∀ (k i : Nat), i + k = cs.length → (tr cs.length).vals.drop k = (tr i).vals
  | 0, i, h => by simp at h; subst h; rfl
  | k + 1, i, h => by
    have := R.dropV k (i + 1) (by omega)
    rw [R.valsS (by omega)] at this
    rw [Nat.add_comm k 1, Nat.add_comm 1 k, ← List.drop_drop, this]
    rfl

theorem nthOp_eq (cs : List COper) (i : Nat) : nthOp cs i = cs[i]? := by
  induction cs generalizing i with
  | nil => simp [nthOp]
  | cons a r ih => cases i with
    | zero => rfl
    | succ i => simp [nthOp, ih]

theorem isW_eq {i : Nat} {c : COper} (h : cs[i]? = some c) : isW cs i = c.w := by
  unfold isW COper.w
  rw [nthOp_eq, h]
  rfl
theorem isW_lt {i : Nat} (h : isW cs i = true) : i < cs.length := by
  unfold isW at h
  rw [nthOp_eq] at h
  rcases Nat.lt_or_ge i cs.length with h1 | h1
  · exact h1
  · rw [List.getElem?_eq_none h1] at h; cases h

/-- How many writers there are ahead. -/
def cnt (cs : List COper) (m : Nat) : Nat := ((List.range m).filter (isW cs)).length
theorem cnt_succ (m : Nat) : cnt cs (m + 1) = cnt cs m + if isW cs m then 1 else 0 := by
  unfold cnt
  rw [List.range_succ, List.filter_append, List.length_append]
  congr 1
  by_cases h : isW cs m = true <;> simp [h]

theorem Run.hsS (R : Run cf tm id cs tr r) {i : Nat} (hi : i < cs.length) : (tr (i + 1)).hs = if isW cs i then (tr i).h :: (tr i).hs else (tr i).hs := by
  have := (R.st i _ (List.getElem?_eq_getElem hi)).hs
  rw [isW_eq (List.getElem?_eq_getElem hi)]; exact this
theorem Run.hsLen (R : Run cf tm id cs tr r) : ∀ (m : Nat), m ≤ cs.length → (tr m).hs.length = cnt cs m
  | 0, _ => by rw [R.hs0]; rfl
  | m + 1, h => by
    rw [R.hsS (by omega), cnt_succ]
    by_cases hw : isW cs m = true <;> simp [hw, R.hsLen m (by omega)]

theorem Run.quiet (R : Run cf tm id cs tr r) {i : Nat} (hi : i < cs.length) (hw : isW cs i = false) : (tr (i + 1)).h = (tr i).h ∧ (tr (i + 1)).defs = (tr i).defs := by
  have hc := List.getElem?_eq_getElem hi
  have := (R.st i _ hc).tr
  rw [isW_eq hc] at hw
  unfold Trans at this
  split at this
  · unfold COper.w at hw
    split at this
    · exact ⟨this.2.2.1, this.2.2.2⟩
    · exact ⟨this.2.2.1, this.2.2.2⟩
    · rename_i h; rw [h] at hw; cases hw
    · rename_i h; rw [h] at hw; cases hw
  · exact ⟨this.2.1, this.2.2⟩

theorem Run.quietTo (R : Run cf tm id cs tr r) {i : Nat} : ∀ (k : Nat), i + k ≤ cs.length → (∀ j, i ≤ j → j < i + k → isW cs j = false) → (tr (i + k)).h = (tr i).h ∧ (tr (i + k)).defs = (tr i).defs
  | 0, _, _ => ⟨rfl, rfl⟩
  | k + 1, h, hq => by
    obtain ⟨h1, h2⟩ := R.quietTo k (by omega) (fun j a b => hq j a (by omega))
    obtain ⟨h3, h4⟩ := R.quiet (i := i + k) (by omega) (hq _ (by omega) (by omega))
    exact ⟨h3.trans h1, h4.trans h2⟩

theorem Run.same (R : Run cf tm id cs tr r) {i j : Nat} (hij : i ≤ j) (hj : j ≤ cs.length) (hq : ∀ k, i ≤ k → k < j → isW cs k = false) : (tr j).h = (tr i).h ∧ (tr j).defs = (tr i).defs := by
  have := R.quietTo (i := i) (j - i) (by omega) (fun k a b => hq k a (by omega))
  rwa [show i + (j - i) = j by omega] at this

/-- The list of the heaps, and where each stands in it. -/
theorem Run.heaps (R : Run cf tm id cs tr r) : ∀ (k m : Nat), m + k = cs.length → ∃ rest, ((tr cs.length).h :: (tr cs.length).hs).reverse = (tr m).hs.reverse ++ rest ∧ rest[0]? = some (tr m).h
  | 0, m, h => by simp at h; subst h; exact ⟨[(tr cs.length).h], by simp, rfl⟩
  | k + 1, m, h => by
    obtain ⟨rest, h1, h2⟩ := R.heaps k (m + 1) (by omega)
    have hm : m < cs.length := by omega
    have hs := R.hsS hm
    by_cases hw : isW cs m = true
    · rw [hw, if_pos rfl] at hs
      rw [hs, List.reverse_cons (a := (tr m).h), List.append_assoc] at h1
      exact ⟨_, h1, rfl⟩
    · have hw' : isW cs m = false := by simpa using hw
      rw [hw', if_neg (by simp)] at hs
      rw [hs] at h1
      exact ⟨rest, h1, by rw [h2, (R.quiet hm hw').1]⟩
theorem Run.heapAt (R : Run cf tm id cs tr r) {m : Nat} (hm : m ≤ cs.length) : ((tr cs.length).h :: (tr cs.length).hs).reverse[cnt cs m]? = some (tr m).h := by
  obtain ⟨rest, h1, h2⟩ := R.heaps (cs.length - m) m (by omega)
  rw [h1, ← R.hsLen m hm, List.getElem?_append_right (by simp)]
  simpa using h2

mutual
theorem beq_sound : ∀ (a b : CVal), a.beq b = true → a = b
  | a, b, h => by
    cases a <;> cases b <;> simp only [CVal.beq, Bool.and_eq_true, decide_eq_true_eq, beq_iff_eq] at h <;> first
      | (cases h; done)
      | rfl
      | (simp_all; done)
      | skip
    · rw [beqs_sound _ _ h.1, h.2]
    · rw [h.1.1, h.1.2, beqs_sound _ _ h.2]
    · rw [h.1.1, beqs_sound _ _ h.1.2, beqs_sound _ _ h.2]
    · rw [h.1, beq_sound _ _ h.2]
    · rw [beqs_sound _ _ h]
    · rw [beqs_sound _ _ h]
theorem beqs_sound : ∀ (a b : List CVal), beqs a b = true → a = b
  | [], [], _ => rfl
  | [], _ :: _, h => by simp [beqs] at h
  | _ :: _, [], h => by simp [beqs] at h
  | a :: x, b :: y, h => by
    simp only [beqs, Bool.and_eq_true] at h
    rw [beq_sound a b h.1, beqs_sound x y h.2]
end

theorem sameAt_mem {ev : COpnd → CVal} {op : COp} {v : CVal} : ∀ {l : List CHeap} {h : CHeap}, sameAt ev op v l = true → h ∈ l → evalL ev h op = some v
  | [], _, _, hm => by simp at hm
  | a :: l, h, hs, hm => by
    simp only [sameAt, Bool.and_eq_true] at hs
    rcases List.mem_cons.1 hm with rfl | hm
    · have := hs.1
      split at this
      · rename_i u hu; rw [hu, beq_sound _ _ this]
      · cases this
    · exact sameAt_mem hs.2 hm

/-- A store's block and what it does there. -/
theorem store_shape (cf : Nat → List CVal → CHeap → Option (CVal × CHeap)) (ev : COpnd → CVal) (id k : Nat) (a x : COpnd) : ∃ f : CObj → Option CObj, ∀ h : CHeap, evalE cf ev h id (.store k a x) =
    match (ev a).block with
    | some b => match h.get b with
      | some o => (f o).map fun o' => (.undef, h.set b o')
      | none => none
    | none => none := by
  by_cases hc : ((ev x).whole && decide ((ev x).cells.length = k)) = true
  · cases ha : ev a with
    | ptr b s o =>
      refine ⟨fun ob => match ob with | .cells cs => if o + k ≤ cs.length then some (.cells (setCells cs o (ev x).cells)) else none | _ => none, fun h => ?_⟩
      simp only [evalE, ha, hc, if_true, CVal.block]
      cases h.get b with
      | none => rfl
      | some ob => cases ob <;> simp only <;> (try rfl); split <;> rfl
    | eptr b ver i o =>
      refine ⟨fun ob => match ob with | .row v es => if v = ver && decide (i < es.length) && decide (o + k ≤ (CI.nth es i).cells.length) then some (.row ver (setNth es i (setElem (CI.nth es i) o (ev x).bare.cells))) else none | _ => none, fun h => ?_⟩
      simp only [evalE, ha, hc, if_true, CVal.block]
      cases h.get b with
      | none => rfl
      | some ob => cases ob <;> simp only <;> (try rfl); split <;> rfl
    | _ => exact ⟨fun _ => none, fun h => by simp [evalE, ha, hc, CVal.block]⟩
  · refine ⟨fun _ => none, fun h => ?_⟩
    simp only [evalE, if_neg hc, Option.map_none]
    cases (ev a).block with
    | none => rfl
    | some b => simp only; cases h.get b <;> rfl

theorem setEnt_comm (l : List (Nat × CObj)) {a b : Nat} (x y : CObj) (h : a ≠ b) : setEnt (setEnt l a x) b y = setEnt (setEnt l b y) a x := by
  induction l with
  | nil => rfl
  | cons p r ih =>
    obtain ⟨i, q⟩ := p
    by_cases h1 : i = a
    · subst h1
      simp [setEnt, h]
    · by_cases h2 : i = b
      · subst h2
        simp [setEnt, h1]
      · simp [setEnt, h1, h2, ih]

/-- Two stores to two blocks may change places. -/
theorem store_swap {eva evb : COpnd → CVal} {ida idb ka kb : Nat} {a x b y : COpnd} {va vb : CVal} {h h1 h2 : CHeap} {A B : Nat} (hA : (eva a).block = some A) (hB : (evb b).block = some B) (hne : A ≠ B)
    (ha : evalE cf eva h ida (.store ka a x) = some (va, h1)) (hb : evalE cf evb h1 idb (.store kb b y) = some (vb, h2)) :
    ∃ h', evalE cf evb h idb (.store kb b y) = some (vb, h') ∧ evalE cf eva h' ida (.store ka a x) = some (va, h2) := by
  obtain ⟨f, hf⟩ := store_shape cf eva ida ka a x
  obtain ⟨g, hg⟩ := store_shape cf evb idb kb b y
  rw [hf, hA] at ha
  rw [hg, hB] at hb
  simp only at ha hb
  cases hoa : h.get A with
  | none => rw [hoa] at ha; cases ha
  | some oa =>
    rw [hoa] at ha
    simp only at ha
    obtain ⟨oa', hfa, he⟩ := Option.map_eq_some_iff.1 ha
    cases he
    rw [get_set_other (Ne.symm hne)] at hb
    cases hob : h.get B with
    | none => rw [hob] at hb; cases hb
    | some ob =>
      rw [hob] at hb
      simp only at hb
      obtain ⟨ob', hgb, he⟩ := Option.map_eq_some_iff.1 hb
      cases he
      refine ⟨h.set B ob', by rw [hg, hB]; simp [hob, hgb], ?_⟩
      rw [hf, hA]
      simp only
      rw [get_set_other hne, hoa]
      simp only [hfa, Option.map_some, Option.some.injEq, Prod.mk.injEq, true_and]
      simp only [CHeap.set, CHeap.mk.injEq, and_true]
      exact setEnt_comm _ _ _ (Ne.symm hne)
end
end Go.CI

/- A deterministic interpreter over values: where the readers and writers of a region stand, in every order that may be. -/
set_option linter.unusedVariables false
namespace Go.CI
open Go.RowKit

section
variable {cf : Nat → List CVal → CHeap → Option (CVal × CHeap)} {tm : List CVal} {id : Nat} {cs : List COper} {tr : Nat → RS} {r : Nat → CVal}

/-- The operation may be run from here to there, as the run did. -/
def TransAt (cf : Nat → List CVal → CHeap → Option (CVal × CHeap)) (tm : List CVal) (id : Nat) (cs : List COper) (tr : Nat → RS) (r : Nat → CVal) (i : Nat) (h : CHeap) (ds : List (Nat × List CVal)) (h' : CHeap) (ds' : List (Nat × List CVal)) : Prop :=
  ∀ c, cs[i]? = some c → Trans cf (evalOpnd tm (tr i).vals) (id + i) c (wantedC (tr i).vals c.guard) (r i) h ds h' ds'

/-- The heap and the deferred calls when the operations in S have run. -/
def HeapFor (cf : Nat → List CVal → CHeap → Option (CVal × CHeap)) (tm : List CVal) (id : Nat) (cs : List COper) (tr : Nat → RS) (r : Nat → CVal) (sw : List (Nat × Nat)) (S : Nat → Bool) (h : CHeap) (ds : List (Nat × List CVal)) : Prop :=
  (∃ m, m ≤ cs.length ∧ (∀ j, isW cs j = true → (S j = true ↔ j < m)) ∧ h = (tr m).h ∧ ds = (tr m).defs) ∨
  ∃ a b, sw = [(a, b)] ∧ (∀ j, isW cs j = true → (S j = true ↔ j < a ∨ j = b)) ∧ TransAt cf tm id cs tr r a h ds (tr (b + 1)).h (tr (b + 1)).defs

/-- What the orders are bound to: j is ahead of i. -/
structure Bound (cf : Nat → List CVal → CHeap → Option (CVal × CHeap)) (tm : List CVal) (id : Nat) (cs : List COper) (tr : Nat → RS) (r : Nat → CVal) (sw : List (Nat × Nat)) (Bef : Nat → Nat → Prop) : Prop where
  chain : ∀ i j, isW cs i = true → isW cs j = true → i < j → Bef i j ∨ (i, j) ∈ sw
  swap : sw = [] ∨ ∃ a b, sw = [(a, b)] ∧ a < b ∧ isW cs a = true ∧ isW cs b = true ∧ (∀ j, a < j → j < b → isW cs j = false) ∧
    (∀ i, isR cs i = true → (Bef a i ∧ Bef b i) ∨ (Bef i a ∧ Bef i b)) ∧
    ∃ hx, TransAt cf tm id cs tr r b (tr a).h (tr a).defs hx (tr a).defs ∧ TransAt cf tm id cs tr r a hx (tr a).defs (tr (b + 1)).h (tr (b + 1)).defs
  read : ∀ i c, cs[i]? = some c → c.op.cls = .l → wantedC (tr i).vals c.guard = true → ∀ m, m ≤ cs.length → (∀ j, isW cs j = true → Bef j i → j < m) → (∀ j, isW cs j = true → j < m → ¬ Bef i j) →
    evalL (evalOpnd tm (tr i).vals) (tr m).h c.op = some (r i)

theorem heapFor_step {sw : List (Nat × Nat)} {Bef : Nat → Nat → Prop} (R : Run cf tm id cs tr r) (B : Bound cf tm id cs tr r sw Bef) {S : Nat → Bool} {h : CHeap} {ds : List (Nat × List CVal)} {i : Nat} (hi : i < cs.length)
    (hS : S i = false) (hpre : ∀ j, Bef j i → S j = true) (hcl0 : ∀ j k, S k = true → Bef j k → S j = true) (H : HeapFor cf tm id cs tr r sw S h ds) :
    ∃ h' ds', TransAt cf tm id cs tr r i h ds h' ds' ∧ HeapFor cf tm id cs tr r sw (fun j => S j || j == i) h' ds' := by
  have hc := List.getElem?_eq_getElem hi
  generalize cs[i] = c at hc
  have hst := (R.st i c hc).tr
  have hone : ∀ {h' ds'}, Trans cf (evalOpnd tm (tr i).vals) (id + i) c (wantedC (tr i).vals c.guard) (r i) h ds h' ds' → TransAt cf tm id cs tr r i h ds h' ds' := fun ht c' hc' => by rw [hc] at hc'; cases hc'; exact ht
  by_cases hw : isW cs i = true
  · rcases H with ⟨m, hm, hsm, rfl, rfl⟩ | ⟨a, b, hsw, hsm, hta⟩
    · have hmi : m ≤ i := by
        rcases Nat.lt_or_ge i m with h1 | h1
        · rw [(hsm i hw).2 h1] at hS; cases hS
        · exact h1
      by_cases hmid : ∃ j, isW cs j = true ∧ m ≤ j ∧ j < i
      · obtain ⟨j, hj, hmj, hji⟩ := hmid
        have hnS : S j ≠ true := fun h1 => by have := (hsm j hj).1 h1; omega
        have hsw : ∀ k, isW cs k = true → m ≤ k → k < i → (k, i) ∈ sw := fun k hk hmk hki => (B.chain k i hk hw hki).resolve_left (fun hb => by have := (hsm k hk).1 (hpre k hb); omega)
        rcases B.swap with h0 | ⟨a, b, h0, hab, hwa, hwb, hnone, hrd, hx, h1, h2⟩
        · have := hsw j hj hmj hji; rw [h0] at this; cases this
        · have hjj := hsw j hj hmj hji
          rw [h0, List.mem_singleton] at hjj
          cases hjj
          have hsame := R.same (i := m) (j := j) hmj (by omega) (fun k h3 h4 => by
            rcases Bool.eq_false_or_eq_true (isW cs k) with h5 | h5
            · have := hsw k h5 h3 (by omega)
              rw [h0, List.mem_singleton] at this
              cases this; omega
            · exact h5)
          rw [hsame.1, hsame.2] at h1
          refine ⟨hx, (tr m).defs, h1, .inr ⟨j, i, h0, fun k hk => ?_, by rw [← hsame.2]; exact h2⟩⟩
          simp only [Bool.or_eq_true, beq_iff_eq]
          rw [hsm k hk]
          constructor
          · rintro (h3 | h3)
            · exact .inl (by omega)
            · exact .inr h3
          · rintro (h3 | h3)
            · left
              rcases Nat.lt_or_ge k m with h4 | h4
              · exact h4
              · have := hsw k hk h4 (by omega)
                rw [h0, List.mem_singleton] at this
                cases this; omega
            · exact .inr h3
      · have hsame := R.same (i := m) (j := i) hmi (by omega) (fun k h3 h4 => by
          rcases Bool.eq_false_or_eq_true (isW cs k) with h5 | h5
          · exact absurd ⟨k, h5, h3, h4⟩ hmid
          · exact h5)
        refine ⟨(tr (i + 1)).h, (tr (i + 1)).defs, hone (by rw [← hsame.1, ← hsame.2]; exact hst), .inl ⟨i + 1, hi, fun k hk => ?_, rfl, rfl⟩⟩
        simp only [Bool.or_eq_true, beq_iff_eq]
        rw [hsm k hk]
        constructor
        · rintro (h3 | h3) <;> omega
        · intro h3
          rcases Nat.lt_or_ge k m with h4 | h4
          · exact .inl h4
          · right
            rcases Nat.lt_or_ge k i with h5 | h5
            · exact absurd ⟨k, hk, h4, h5⟩ hmid
            · omega
    · rcases B.swap with h0 | ⟨a', b', h0, hab, hwa, hwb, hnone, hrd, hx, h1, h2⟩
      · rw [hsw] at h0; cases h0
      · rw [hsw] at h0
        cases h0
        have hia : i = a := by
          rcases Nat.lt_trichotomy i a with h3 | h3 | h3
          · rw [(hsm i hw).2 (.inl h3)] at hS; cases hS
          · exact h3
          · have hnb : i ≠ b := fun e => by rw [(hsm i hw).2 (.inr e)] at hS; cases hS
            rcases B.chain a i hwa hw h3 with h4 | h4
            · have := (hsm a hwa).1 (hpre a h4); omega
            · rw [hsw, List.mem_singleton] at h4; cases h4; exact absurd rfl hnb
        subst hia
        refine ⟨_, _, hta, .inl ⟨b + 1, isW_lt hwb, fun k hk => ?_, rfl, rfl⟩⟩
        simp only [Bool.or_eq_true, beq_iff_eq]
        rw [hsm k hk]
        constructor
        · rintro ((h3 | h3) | h3) <;> omega
        · intro h3
          rcases Nat.lt_trichotomy k i with h4 | h4 | h4
          · exact .inl (.inl h4)
          · exact .inr h4
          · rcases Nat.lt_or_ge k b with h5 | h5
            · rw [hnone k h4 h5] at hk; cases hk
            · exact .inl (.inr (by omega))
  · have hw' : isW cs i = false := by simpa using hw
    have hkeep : HeapFor cf tm id cs tr r sw (fun j => S j || j == i) h ds := by
      have hiff : ∀ j, isW cs j = true → ((S j || j == i) = true ↔ S j = true) := fun j hj => by
        simp only [Bool.or_eq_true, beq_iff_eq]
        exact ⟨fun h => h.elim (fun x => x) (fun e => by rw [e, hw'] at hj; cases hj), .inl⟩
      rcases H with ⟨m, hm, hsm, h1, h2⟩ | ⟨a, b, hsw, hsm, hta⟩
      · exact .inl ⟨m, hm, fun j hj => (hiff j hj).trans (hsm j hj), h1, h2⟩
      · exact .inr ⟨a, b, hsw, fun j hj => (hiff j hj).trans (hsm j hj), hta⟩
    refine ⟨h, ds, hone ?_, hkeep⟩
    rw [isW_eq hc] at hw'
    unfold Trans at hst ⊢
    by_cases hwt : wantedC (tr i).vals c.guard = true
    · rw [if_pos hwt] at hst ⊢
      cases hcl : c.op.cls with
      | p => rw [hcl] at hst; exact ⟨hst.1, hst.2.1, rfl, rfl⟩
      | l =>
        rw [hcl] at hst
        refine ⟨?_, hst.2.1, rfl, rfl⟩
        rcases H with ⟨m, hm, hsm, rfl, rfl⟩ | ⟨a, b, hsw, hsm, hta⟩
        · exact B.read i c hc hcl hwt m hm (fun j hj hb => (hsm j hj).1 (hpre j hb)) (fun j hj hjm hb => by
            have := hcl0 i j ((hsm j hj).2 hjm) hb
            rw [hS] at this; cases this)
        · exfalso
          rcases B.swap with h0 | ⟨a', b', h0, hab, hwa, hwb, hnone, hrd, hx, h1, h2⟩
          · rw [hsw] at h0; cases h0
          · rw [hsw] at h0
            cases h0
            have hr : isR cs i = true := by unfold isR; rw [nthOp_eq, hc]; simp [hcl]
            rcases hrd i hr with ⟨h3, h4⟩ | ⟨h3, h4⟩
            · have := (hsm a hwa).1 (hpre a h3); omega
            · rw [hcl0 i b ((hsm b hwb).2 (.inr rfl)) h4] at hS; cases hS
      | e => simp [COper.w, hcl] at hw'
      | d => simp [COper.w, hcl] at hw'
    · rw [if_neg hwt] at hst ⊢
      exact ⟨hst.1, rfl, rfl⟩
end
end Go.CI

/- A deterministic interpreter over values: what the checks of a region say of its orders. -/
set_option linter.unusedVariables false
namespace Go.CI
open Go.RowKit

section
variable {cf : Nat → List CVal → CHeap → Option (CVal × CHeap)} {tm : List CVal} {id : Nat} {cs : List COper} {tr : Nat → RS} {r : Nat → CVal}

theorem Run.readAt (R : Run cf tm id cs tr r) {i : Nat} {c : COper} (hc : cs[i]? = some c) (hl : c.op.cls = .l) (hw : wantedC (tr i).vals c.guard = true) : evalL (evalOpnd tm (tr i).vals) (tr i).h c.op = some (r i) := by
  have := (R.st i c hc).tr
  unfold Trans at this
  rw [if_pos hw, hl] at this
  exact this.1

theorem notW_of_l {i : Nat} {c : COper} (hc : cs[i]? = some c) (hl : c.op.cls = .l) : isW cs i = false := by
  rw [isW_eq hc]; simp [COper.w, hl]

theorem bound_seq (R : Run cf tm id cs tr r) : Bound cf tm id cs tr r [] (fun j i => j < i) where
  chain i j _ _ h := .inl h
  swap := .inl rfl
  read i c hc hl hw m hm h1 h2 := by
    have hi : i < cs.length := (List.getElem?_eq_some_iff.1 hc).1
    have hr := R.readAt hc hl hw
    have hnw := notW_of_l hc hl
    have hs : (tr m).h = (tr i).h := by
      rcases Nat.le_total m i with h3 | h3
      · refine (R.same h3 (by omega) (fun k a b => ?_)).1.symm
        rcases Bool.eq_false_or_eq_true (isW cs k) with h5 | h5
        · have := h1 k h5 b; omega
        · exact h5
      · refine (R.same h3 hm (fun k a b => ?_)).1
        rcases Bool.eq_false_or_eq_true (isW cs k) with h5 | h5
        · have := h2 k h5 b
          have : k = i := by omega
          rw [this] at h5; rw [h5] at hnw; cases hnw
        · exact h5
    rw [hs]; exact hr

theorem cnt_range {n m : Nat} (hm : m ≤ n) : cnt cs m = (List.range n).countP fun e => isW cs e && decide (e < m) := by
  induction n generalizing m with
  | zero => simp at hm; subst hm; rfl
  | succ n ih =>
    rw [List.range_succ, List.countP_append]
    rcases Nat.lt_or_ge m (n + 1) with h | h
    · rw [ih (by omega)]
      have : ([n].countP fun e => isW cs e && decide (e < m)) = 0 := by simp; intro _; omega
      rw [this]; rfl
    · have : m = n + 1 := by omega
      subst this
      rw [cnt_succ]
      have h1 : ((List.range n).countP fun e => isW cs e && decide (e < n + 1)) = (List.range n).countP fun e => isW cs e && decide (e < n) := by
        apply List.countP_congr
        intro x hx
        rw [List.mem_range] at hx
        simp [hx, show x < n + 1 by omega]
      rw [h1, ← ih (Nat.le_refl n)]
      congr 1
      by_cases hw : isW cs n = true <;> simp [hw]

theorem range_fst (pre : List Nat) (i : Nat) : (rangeOf pre cs i).1 = (List.range cs.length).countP fun e => isW cs e && (decide (e < i) && (pre.getD i 0).testBit e) := List.countP_eq_length_filter.symm
theorem range_snd (pre : List Nat) (i : Nat) : (rangeOf pre cs i).2 = (List.range cs.length).countP fun e => isW cs e && (decide (e < i) || !(pre.getD e 0).testBit i) := List.countP_eq_length_filter.symm

theorem bound_any (R : Run cf tm id cs tr r) {pre : List Nat} {sw : List (Nat × Nat)} (h1 : chainOk pre cs sw = true) (h2 : swapsOk pre cs sw = true)
    (h3 : (checksOf pre cs).all (checkOne tm cs cs.length (tr cs.length).vals ((tr cs.length).h :: (tr cs.length).hs).reverse) = true)
    (h4 : sw.all (swapOne tm cs cs.length (tr cs.length).vals) = true) : Bound cf tm id cs tr r sw (fun j i => (pre.getD i 0).testBit j = true) where
  chain i j hi hj hij := by
    simp only [chainOk, List.all_eq_true, List.mem_range] at h1
    have := h1 j (isW_lt hj) i (isW_lt hi)
    simp only [hi, hj, hij, decide_true, Bool.and_self, Bool.not_true, Bool.false_or, Bool.or_eq_true, List.contains_iff_mem] at this
    exact this
  swap := by
    match sw, h2, h4 with
    | [], _, _ => exact .inl rfl
    | [(a, b)], h2, h4 =>
      right
      simp only [swapsOk, Bool.and_eq_true, decide_eq_true_eq, List.all_eq_true, List.mem_range] at h2
      obtain ⟨⟨hab, hsa, hsb⟩, hall⟩ := h2
      simp only [List.all_cons, List.all_nil, Bool.and_true, swapOne] at h4
      have hvals : ∀ i, i < cs.length → (tr cs.length).vals.drop (cs.length - i) = (tr i).vals := fun i hi => R.dropV (cs.length - i) i (by omega)
      have shape : ∀ i, isStore cs i = true → ∃ k x y, cs[i]? = some ⟨.store k x y, none⟩ := fun i hi => by
        unfold isStore at hi
        rw [nthOp_eq] at hi
        split at hi
        · rename_i k x y h; exact ⟨k, x, y, h⟩
        · cases hi
      obtain ⟨ka, xa, ya, hca⟩ := shape a hsa
      obtain ⟨kb, xb, yb, hcb⟩ := shape b hsb
      have ha : a < cs.length := (List.getElem?_eq_some_iff.1 hca).1
      have hb : b < cs.length := (List.getElem?_eq_some_iff.1 hcb).1
      have hwa : isW cs a = true := by rw [isW_eq hca]; rfl
      have hwb : isW cs b = true := by rw [isW_eq hcb]; rfl
      have hnone : ∀ j, a < j → j < b → isW cs j = false := fun j h5 h6 => by
        have := (hall j (by omega)).1
        rcases Bool.eq_false_or_eq_true (isW cs j) with h7 | h7
        · simp [h7, h5, h6] at this
        · exact h7
      refine ⟨a, b, rfl, hab, hwa, hwb, hnone, fun i hi => ?_, ?_⟩
      · have hlt : i < cs.length := by
          unfold isR at hi
          rw [nthOp_eq] at hi
          rcases Nat.lt_or_ge i cs.length with h | h
          · exact h
          · rw [List.getElem?_eq_none h] at hi; cases hi
        have := (hall i hlt).2
        simp only [hi, Bool.not_true, Bool.false_or, Bool.or_eq_true, Bool.and_eq_true] at this
        exact this
      · simp only [storesTo, nthOp_eq, hca, hcb, hvals a ha, hvals b hb] at h4
        cases hA : (evalOpnd tm (tr a).vals xa).block with
        | none => rw [hA] at h4; cases h4
        | some A =>
          cases hB : (evalOpnd tm (tr b).vals xb).block with
          | none => rw [hA, hB] at h4; cases h4
          | some B =>
            rw [hA, hB] at h4
            have hne : A ≠ B := by simpa using h4
            have ta := (R.st a _ hca).tr
            have tb := (R.st b _ hcb).tr
            simp only [Trans, wantedC, if_true, COp.cls, COp.isStore] at ta tb
            obtain ⟨hea, _, hda⟩ := ta
            obtain ⟨heb, _, hdb⟩ := tb
            have hsame := R.same (i := a + 1) (j := b) hab (by omega) (fun k h5 h6 => hnone k (by omega) h6)
            rw [hsame.1] at heb
            obtain ⟨hx, hx1, hx2⟩ := store_swap hA hB hne hea heb
            refine ⟨hx, fun c' hc' => ?_, fun c' hc' => ?_⟩
            · rw [hcb] at hc'; cases hc'
              simp only [Trans, wantedC, if_true, COp.cls, COp.isStore]
              exact ⟨hx1, fun _ => trivial, trivial⟩
            · rw [hca] at hc'; cases hc'
              simp only [Trans, wantedC, if_true, COp.cls, COp.isStore]
              exact ⟨hx2, fun _ => trivial, by rw [hdb, hsame.2, hda]⟩
  read i c hc hl hw m hm hlo hhi := by
    have hi : i < cs.length := (List.getElem?_eq_some_iff.1 hc).1
    have hr := R.readAt hc hl hw
    have hnw := notW_of_l hc hl
    have hrd : isR cs i = true := by unfold isR; rw [nthOp_eq, hc]; simp [hl]
    have b1 : ∀ m', m' ≤ cs.length → (∀ j, isW cs j = true → j < i → (pre.getD i 0).testBit j = true → j < m') → (rangeOf pre cs i).1 ≤ cnt cs m' := fun m' hm' h => by
      rw [cnt_range hm', range_fst]
      apply List.countP_mono_left
      intro x _ hx
      simp only [Bool.and_eq_true, decide_eq_true_eq] at hx ⊢
      exact ⟨hx.1, h x hx.1 hx.2.1 hx.2.2⟩
    have b2 : ∀ m', m' ≤ cs.length → (∀ j, isW cs j = true → j < m' → j < i ∨ ¬ (pre.getD j 0).testBit i = true) → cnt cs m' ≤ (rangeOf pre cs i).2 := fun m' hm' h => by
      rw [cnt_range hm', range_snd]
      apply List.countP_mono_left
      intro x _ hx
      simp only [Bool.and_eq_true, decide_eq_true_eq, Bool.or_eq_true, Bool.not_eq_true'] at hx ⊢
      exact ⟨hx.1, (h x hx.1 hx.2).imp (fun h => h) (fun h => by simpa using h)⟩
    have m1 := b1 m hm (fun j h5 _ h6 => hlo j h5 h6)
    have m2 := b2 m hm (fun j h5 h6 => .inr (hhi j h5 h6))
    have i1 := b1 i (by omega) (fun j _ h6 _ => h6)
    have i2 := b2 i (by omega) (fun j _ h6 => .inl h6)
    have hF := R.heapAt hm
    by_cases heq : (rangeOf pre cs i).1 = (rangeOf pre cs i).2
    · have : cnt cs m = cnt cs i := by omega
      rw [this, R.heapAt (show i ≤ cs.length by omega)] at hF
      have e := Option.some.inj hF
      rw [← e]; exact hr
    · have hmem : (i, (rangeOf pre cs i).1, (rangeOf pre cs i).2) ∈ checksOf pre cs := by
        unfold checksOf
        rw [List.mem_filterMap]
        exact ⟨i, List.mem_range.2 hi, by simp [hrd, heq]⟩
      have hck := List.all_eq_true.1 h3 _ hmem
      unfold checkOne at hck
      simp only [nthOp_eq, hc] at hck
      rw [R.dropV (cs.length - i) i (by omega), if_pos hw] at hck
      refine (sameAt_mem hck ?_).trans ?_
      · rw [List.mem_iff_getElem?]
        refine ⟨cnt cs m - (rangeOf pre cs i).1, ?_⟩
        rw [List.getElem?_drop, show (rangeOf pre cs i).1 + (cnt cs m - (rangeOf pre cs i).1) = cnt cs m by omega, List.getElem?_take, if_pos (by omega)]
        exact hF
      · rw [R.nth cs.length (cs.length - 1 - i) (Nat.le_refl _) (by omega), show cs.length - 1 - (cs.length - 1 - i) = i by omega]
end
end Go.CI

/- A deterministic interpreter over values: one operation of a region, in the model. -/
set_option linter.unusedVariables false
namespace Go.CI
open Go.RowKit

/-- What a call gives: at once, or by entering a function. -/
def Entr (P : Program) (s : Sem Next) (w : World) (Q : Value → World → Prop) : Prop :=
  (∃ u w', s.run P w = .ok (.value u) w' ∧ Q u w') ∨ ∃ f args, s.run P w = .ok (.enter f args) w ∧ Calls P f args w fun e w' => ∃ u, e = .returned u ∧ Q u w'

def CallPost (base : Nat) (G : Gh) (h : CHeap) (w : World) (v : CVal) (h' : CHeap) (u : Value) (w' : World) : Prop := ∃ G', VR G' v u ∧ Post base (fun _ => False) G h w G' h' w'

/-- Our calls are the model's. -/
def SimCall (P : Program) (base : Nat) (cf : Nat → List CVal → CHeap → Option (CVal × CHeap)) : Prop :=
  ∀ (G : Gh) (h : CHeap) (w : World) (f : Nat) (xs : List CVal) (vs : List Value) (v : CVal) (h' : CHeap), cf f xs h = some (v, h') → Inv base G h w → VRs G xs vs → Entr P (callFunc f ⟨vs⟩) w (CallPost base G h w v h')

inductive DefsR (G : Gh) : List (Nat × List CVal) → List Deferred → Prop
  | nil : DefsR G [] []
  | cons {f : Nat} {xs : List CVal} {vs cap : List Value} {ds : List (Nat × List CVal)} {dl : List Deferred} (h : VRs G xs (vs ++ cap)) (r : DefsR G ds dl) : DefsR G ((f, xs) :: ds) ({ target := .fn (.func f) ⟨cap⟩, args := ⟨vs⟩ } :: dl)

theorem DefsR.mono {G G' : Gh} (hg : G.le G') {ds : List (Nat × List CVal)} {dl : List Deferred} (h : DefsR G ds dl) : DefsR G' ds dl := by
  induction h with
  | nil => exact .nil
  | cons h _ ih => exact .cons (h.mono hg) ih

theorem cop_call {E : Env} {rg i : Nat} {dsts : List (Option Tmp)} {earlier later : List Oper} {o : Oper} {c : COp} (hc : cop E rg i dsts earlier later o = some c) :
    (∀ keep f xs, c = .call keep f xs → ∃ cl, o.op = .call cl ∧ cl.callee = .value (.func f) ∧ copnds E dsts cl.args.toList = some xs) ∧
    (∀ keep x xs, c = .callv keep x xs → ∃ cl X, o.op = .call cl ∧ cl.callee = .value X ∧ copnd E dsts X = some x ∧ copnds E dsts cl.args.toList = some xs) ∧
    (∀ x xs, c = .defer x xs → ∃ cl X, o.op = .defer cl ∧ cl.callee = .value X ∧ copnd E dsts X = some x ∧ copnds E dsts cl.args.toList = some xs) := by
  obtain ⟨dst, op, type, pos, after, guard⟩ := o
  cases op
  case slice t x lo hi mx =>
    cases mx with
    | some m => simp [cop] at hc
    | none =>
      simp only [cop] at hc
      split at hc
      · cases hc; simp
      · split at hc
        · cases hc; simp
        · cases hc
      · cases hc
  all_goals simp only [cop] at hc
  all_goals try (cases hc; done)
  case call cl =>
    split at hc
    · rename_i f hf
      obtain ⟨xs, hxs, rfl⟩ := Option.map_eq_some_iff.1 hc
      refine ⟨fun keep f' xs' he => ?_, fun _ _ _ he => by simp at he, fun _ _ he => by simp at he⟩
      cases he
      exact ⟨cl, rfl, hf, hxs⟩
    · rename_i X hX
      split at hc
      · rename_i x xs hx hxs
        cases hc
        refine ⟨fun _ _ _ he => by simp at he, fun keep x' xs' he => ?_, fun _ _ he => by simp at he⟩
        cases he
        exact ⟨cl, _, rfl, hX, hx, hxs⟩
      · cases hc
    all_goals
      try (cases hc; done)
      (repeat' (split at hc))
    all_goals first
      | (cases hc; done)
      | (cases hc; simp; done)
      | (obtain ⟨y, _, rfl⟩ := Option.map_eq_some_iff.1 hc; simp; done)
  case defer cl =>
    split at hc
    · rename_i X hX
      split at hc
      · rename_i x xs hx hxs
        cases hc
        refine ⟨fun _ _ _ he => by simp at he, fun _ _ _ he => by simp at he, fun x' xs' he => ?_⟩
        cases he
        exact ⟨cl, _, rfl, hX, hx, hxs⟩
      · cases hc
    · cases hc
  all_goals
    first
      | (obtain ⟨y, _, rfl⟩ := Option.map_eq_some_iff.1 hc; simp; done)
      | (repeat' (split at hc))
  all_goals first
    | (cases hc; done)
    | (cases hc; simp; done)
    | (obtain ⟨y, _, rfl⟩ := Option.map_eq_some_iff.1 hc; simp; done)

section
variable {P : Program} {base : Nat} {G : Gh} {h : CHeap} {w : World} {id : Nat}

theorem arr_map (a : Array Operand) (ρ : Operand → Value) : a.map ρ = ⟨a.toList.map ρ⟩ := by
  apply Array.ext'
  simp

theorem entr_wp {o : Oper} {a : Act} {K : Act → World → Prop} {Q : Exit → Act → World → Prop} {R : Value → World → Prop} (hs : Entr P (execOp a.eval o) w R) (hK : ∀ u w', R u w' → K (a.put o.dst u) w') : o.wp P a w K Q := by
  unfold Oper.wp
  rcases hs with ⟨u, w', hr, hq⟩ | ⟨f, args, hr, hq⟩
  · rw [hr, Oper.upon_value]; exact hK u w' hq
  · rw [hr, Oper.upon_enter]
    exact Calls.mono hq fun e w' he => by
      obtain ⟨u, rfl, hu⟩ := he
      exact hK u w' hu

theorem gives_wp {o : Oper} {a : Act} {K : Act → World → Prop} {Q : Exit → Act → World → Prop} {R : Value → World → Prop} (hs : Gives P (execOp a.eval o) w R) (hK : ∀ u w', R u w' → K (a.put o.dst u) w') : o.wp P a w K Q := by
  unfold Oper.wp
  rcases hs with ⟨u, w', hr, hq⟩ | ⟨w', hr, hq⟩
  · rw [hr, Oper.upon_value]; exact hK u w' hq
  · rw [hr, Oper.upon_skip]; exact hK undef w' hq

/-- The call of a function value. -/
theorem run_callv {o : Oper} {cl : Call} {X : Operand} {ρ : Operand → Value} {f : Nat} {first cap : List Value} (ho : o.op = .call cl) (hc : cl.callee = .value X) (hX : ρ X = .func (.func f) ⟨first⟩ ⟨cap⟩) :
    (execOp ρ o).run P w = (callFunc f ⟨first ++ (cl.args.toList.map ρ ++ cap)⟩).run P w := by
  have : (⟨first ++ (cl.args.toList.map ρ ++ cap)⟩ : Array Value) = (⟨first⟩ ++ cl.args.map ρ) ++ ⟨cap⟩ := by
    apply Array.ext'
    simp [Array.toList_append]
  rw [this]
  simp [execOp, ho, resolve, hc, hX, Deferred.ofValue, invoke]

theorem run_defer {o : Oper} {cl : Call} {X : Operand} {ρ : Operand → Value} {f : Nat} {first cap : List Value} (ho : o.op = .defer cl) (hc : cl.callee = .value X) (hX : ρ X = .func (.func f) ⟨first⟩ ⟨cap⟩) :
    (execOp ρ o).run P w = .ok (.defer { target := .fn (.func f) ⟨cap⟩, args := ⟨first ++ cl.args.toList.map ρ⟩ }) w := by
  have : (⟨first ++ cl.args.toList.map ρ⟩ : Array Value) = (⟨first⟩ ++ cl.args.map ρ) := by
    apply Array.ext'
    simp [Array.toList_append]
  rw [this]
  simp [execOp, ho, resolve, hc, hX, Deferred.ofValue]

theorem Entr.of_run {s s' : Sem Next} {Q : Value → World → Prop} (h : s.run P w = s'.run P w) (he : Entr P s' w Q) : Entr P s w Q := by
  unfold Entr at *; rw [h]; exact he

theorem VRs.ofBare {G : Gh} {cs : List CVal} {vs : List Value} (h : VRs G cs vs) : VRs G (cs.map CVal.bare) vs := h.map _ fun _ _ hv => hv.bare

theorem op_step {ops : Array Oper} {Q : Exit → Act → World → Prop} {E : Env} {rg i j : Nat} {dsts : List (Option Tmp)} {earlier later : List Oper} {o : Oper} {c : COper} {cf : Nat → List CVal → CHeap → Option (CVal × CHeap)} {ev : COpnd → CVal} {wt : Bool} {v : CVal} {h' : CHeap} {ds ds' : List (Nat × List CVal)} {a : Act} {K : Act → World → Prop}
    (hE : E.P = P) (hcs : c.op = (cop E rg j dsts earlier later o).getD .stuck) (hdst : o.dst ≠ none → c.op.isStore = false) (hsim : SimCall P base cf)
    (hr : ORel G E dsts ev a.eval) (hg : Region.wanted o (yielded ops a.tmps) = wt) (ht : Trans cf ev id c wt v h ds h' ds') (I : Inv base G h w) (hid : id < h.next) (hf : Fresh G h id) (hd : DefsR G ds a.defers) (ho : ops[i]? = some o)
    (hK : ∀ u w' G' dl, VR G' v u → (v = .undef → o.dst ≠ none → u = undef) → Post base (· = id) G h w G' h' w' → DefsR G' ds' dl → K (({ a with defers := dl } : Act).put o.dst u) w') : wpOp P ops Q i K a w := by
  unfold wpOp
  simp only [ho, hg]
  unfold Trans at ht
  cases wt with
  | false =>
    simp only [Bool.false_eq_true, if_false] at ht ⊢
    obtain ⟨rfl, rfl, rfl⟩ := ht
    exact hK undef w G a.defers (.undef _) (fun _ _ => rfl) (.refl I) hd
  | true =>
    simp only [if_true] at ht ⊢
    left
    have hc : cop E rg j dsts earlier later o = some c.op := by
      cases hco : cop E rg j dsts earlier later o with
      | some c' => rw [hco] at hcs; rw [hcs]; rfl
      | none =>
        rw [hco] at hcs
        have hcs' : c.op = .stuck := hcs
        rw [hcs'] at ht
        have := ht.1
        simp [evalP] at this
    cases hcl : c.op.cls with
    | p =>
      rw [hcl] at ht
      obtain ⟨hv, hu, rfl, rfl⟩ := ht
      refine gives_wp (simP hE hc hcl hr hv I hid hf) fun u w' ⟨G', h1, h2⟩ => hK u w' G' a.defers h1 (fun e => ?_) h2 (hd.mono h2.le)
      subst e; cases hu
    | l =>
      rw [hcl] at ht
      obtain ⟨hv, hu, rfl, rfl⟩ := ht
      obtain ⟨u, hu1, hu2⟩ := simL hE hc hcl hr hv I
      unfold Oper.wp
      rw [hu1, Oper.upon_value]
      refine hK u w G a.defers hu2 (fun e => ?_) (.refl I) hd
      subst e; cases hu
    | d =>
      rw [hcl] at ht
      obtain ⟨x, args, f, first, cap, hop, hx, rfl, rfl, rfl⟩ := ht
      obtain ⟨cl, X, ho', hcal, hX, hargs⟩ := (cop_call hc).2.2 x args hop
      have h1 := hr X x hX
      rw [hx] at h1
      generalize hz : a.eval X = z at h1
      cases h1 with
      | fn hl1 hl2 hf1 hf2 =>
        unfold Oper.wp
        rw [run_defer ho' hcal hz, Oper.upon_defer]
        refine hK undef w G _ (.undef _) (fun _ _ => rfl) (.refl I) (.cons ?_ hd)
        rw [List.append_assoc]
        exact VRs.append ⟨hl1, hf1⟩ (VRs.append (hr.list _ _ hargs) ⟨hl2, hf2⟩)
    | e =>
      rw [hcl] at ht
      obtain ⟨hv, hu, rfl⟩ := ht
      have hund : v = .undef → o.dst ≠ none → ∀ u : Value, u = undef := fun e hn => by
        subst e
        have := hu rfl
        rw [hdst hn] at this; cases this
      by_cases hcall : c.op.isCall = true
      · have key : ∃ f xs vs, cf f xs h = some (v, h') ∧ VRs G xs vs ∧ (execOp a.eval o).run P w = (callFunc f ⟨vs⟩).run P w := by
          cases hop : c.op <;> rw [hop] at hcall <;> first | (simp [COp.isCall] at hcall; done) | skip
          · rename_i keep f xs
            obtain ⟨cl, ho', hcal, hargs⟩ := (cop_call hc).1 _ _ _ hop
            rw [hop] at hv
            simp only [evalE] at hv
            refine ⟨f, _, cl.args.toList.map a.eval, hv, ?_, ?_⟩
            · have := hr.list _ _ hargs
              cases keep with
              | true => exact this
              | false =>
                have h2 := this.ofBare
                rw [List.map_map] at h2
                exact h2
            · have := run_callv (P := P) (w := w) (ρ := a.eval) (first := []) (cap := []) ho' hcal rfl
              simpa using this
          · rename_i keep x xs
            obtain ⟨cl, X, ho', hcal, hX, hargs⟩ := (cop_call hc).2.1 _ _ _ hop
            rw [hop] at hv
            simp only [evalE] at hv
            have h1 := hr X x hX
            generalize hz : a.eval X = z at h1
            split at hv
            · rename_i f first cap hx
              rw [hx] at h1
              cases h1 with
              | fn hl1 hl2 hf1 hf2 =>
                refine ⟨f, _, _, hv, VRs.append ⟨hl1, hf1⟩ (VRs.append ?_ ⟨hl2, hf2⟩), run_callv ho' hcal hz⟩
                have := hr.list _ _ hargs
                cases keep with
                | true => exact this
                | false =>
                  have h2 := this.ofBare
                  rw [List.map_map] at h2
                  exact h2
            · cases hv
        obtain ⟨f, xs, vs, hcf, hvs, hrun⟩ := key
        refine entr_wp (Entr.of_run hrun (hsim G h w f xs vs v h' hcf I hvs)) fun u w' ⟨G', h1, h2⟩ => hK u w' G' a.defers h1 (fun e hn => hund e hn u) (h2.mono fun _ hh => hh.elim) (hd.mono h2.le)
      · have hcall' : c.op.isCall = false := by simpa using hcall
        exact gives_wp (simE hE hc hcl hcall' hr hv I hid hf) fun u w' ⟨G', h1, h2⟩ => hK u w' G' a.defers h1 (fun e hn => hund e hn u) h2 (hd.mono h2.le)
end
end Go.CI

/- A deterministic interpreter over values: a region in the model, in every order. -/
set_option linter.unusedVariables false
namespace Go.CI
open Go.RowKit

def dstAt (ops : Array Oper) (j : Nat) : Option Tmp := (ops[j]?).bind (·.dst)

structure IsLast (ops : Array Oper) (S : Nat → Bool) (t : Tmp) (j : Nat) : Prop where
  mem : S j = true
  dst : dstAt ops j = some t
  last : ∀ k, S k = true → dstAt ops k = some t → k ≤ j

/-- The temporaries, when the operations in S have run. -/
structure TR (ops : Array Oper) (r : Nat → CVal) (G : Gh) (S : Nat → Bool) (a0 a : Act) : Prop where
  new : ∀ t j, IsLast ops S t j → VR G (r j) (a.tmps.getD t undef) ∧ (r j = .undef → a.tmps.getD t undef = undef)
  old : ∀ t, (∀ j, S j = true → dstAt ops j ≠ some t) → a.tmps.getD t undef = a0.tmps.getD t undef

/-- The temporaries and the deferred calls, between the regions. -/
structure AR (E : Env) (G : Gh) (tm : List CVal) (ds : List (Nat × List CVal)) (a : Act) : Prop where
  size : E.ntmps ≤ a.tmps.size
  len : tm.length = E.vars.length
  val : ∀ t v, findVar E.vars t 0 = some v → VR G (nth tm v) (a.tmps.getD t undef)
  defs : DefsR G ds a.defers

theorem AR.mono {E : Env} {G G' : Gh} {tm : List CVal} {ds : List (Nat × List CVal)} {a : Act} (h : AR E G tm ds a) (hg : G.le G') : AR E G' tm ds a :=
  ⟨h.size, h.len, fun t v hv => (h.val t v hv).mono hg, h.defs.mono hg⟩

def dstsRev (ops : Array Oper) (i : Nat) : List (Option Tmp) := ((ops.toList.take i).map (·.dst)).reverse

theorem dstsRev_at {ops : Array Oper} {i k : Nat} (hi : i ≤ ops.size) (hk : k < i) : (dstsRev ops i)[k]? = some (dstAt ops (i - 1 - k)) := by
  unfold dstsRev dstAt
  have hl : ((ops.toList.take i).map (·.dst)).length = i := by simp; omega
  rw [List.getElem?_reverse (by omega), hl, List.getElem?_map, List.getElem?_take, if_pos (by omega), Array.getElem?_toList]
  have : ops[i - 1 - k]? = some ops[i - 1 - k] := Array.getElem?_eq_getElem (by omega)
  rw [this]; rfl
theorem dstsRev_length {ops : Array Oper} {i : Nat} (hi : i ≤ ops.size) : (dstsRev ops i).length = i := by unfold dstsRev; simp; omega

theorem findLoc_some : ∀ {l : List (Option Tmp)} {t : Tmp} {b i : Nat}, findLoc l t b = some i → ∃ k, i = b + k ∧ l[k]? = some (some t) ∧ ∀ k', k' < k → l[k']? ≠ some (some t)
  | [], t, b, i, h => by simp [findLoc] at h
  | d :: l, t, b, i, h => by
    simp only [findLoc] at h
    split at h
    · rename_i hd
      cases h
      exact ⟨0, rfl, by simpa using hd, fun _ h => by omega⟩
    · rename_i hd
      obtain ⟨k, h1, h2, h3⟩ := findLoc_some h
      refine ⟨k + 1, by omega, h2, fun k' hk' => ?_⟩
      cases k' with
      | zero => simpa using hd
      | succ k' => simpa using h3 k' (by omega)
theorem findLoc_none : ∀ {l : List (Option Tmp)} {t : Tmp} {b : Nat}, findLoc l t b = none → ∀ k : Nat, l[k]? ≠ some (some t)
  | [], t, b, h => by simp
  | d :: l, t, b, h => by
    simp only [findLoc] at h
    split at h
    · cases h
    · rename_i hd
      intro k
      cases k with
      | zero => simpa using hd
      | succ k => simpa using findLoc_none h k
theorem findVar_some : ∀ {l : List Tmp} {t : Tmp} {b i : Nat}, findVar l t b = some i → ∃ k, i = b + k ∧ l[k]? = some t
  | [], t, b, i, h => by simp [findVar] at h
  | d :: l, t, b, i, h => by
    simp only [findVar] at h
    split at h
    · rename_i hd
      cases h
      exact ⟨0, rfl, by simpa using hd⟩
    · obtain ⟨k, h1, h2⟩ := findVar_some h
      exact ⟨k + 1, by omega, h2⟩

structure CopAt (E : Env) (rg : Nat) (ops : Array Oper) (cs : List COper) : Prop where
  len : cs.length = ops.size
  at_ : ∀ i o, ops[i]? = some o → ∃ c e la, cs[i]? = some c ∧ c.op = (cop { E with only := some (opTmps o) } rg i (dstsRev ops i) e la o).getD .stuck ∧ cguard (dstsRev ops i) i o.guard = some c.guard

theorem cops_at {E : Env} {rg : Nat} : ∀ (l : List Oper) (i : Nat) (dsts : List (Option Tmp)) (e : List Oper) (cs : List COper), cops E rg i dsts e l = some cs →
    cs.length = l.length ∧ ∀ j o, l[j]? = some o → ∃ c e la, cs[j]? = some c ∧ c.op = (cop { E with only := some (opTmps o) } rg (i + j) (((l.take j).map (·.dst)).reverse ++ dsts) e la o).getD .stuck ∧ cguard (((l.take j).map (·.dst)).reverse ++ dsts) (i + j) o.guard = some c.guard
  | [], i, dsts, e, cs, h => by simp only [cops] at h; cases h; exact ⟨rfl, fun j o h => by simp at h⟩
  | o :: l, i, dsts, e, cs, h => by
    simp only [cops] at h
    split at h
    · rename_i g rest hg hr
      cases h
      obtain ⟨hl, ha⟩ := cops_at l (i + 1) (o.dst :: dsts) (o :: e) rest hr
      refine ⟨by simp [hl], fun j o' ho => ?_⟩
      cases j with
      | zero =>
        simp at ho; subst ho
        exact ⟨_, e, l, rfl, by simp, by simpa using hg⟩
      | succ j =>
        simp at ho
        obtain ⟨c', e', la', h1, h2, h3⟩ := ha j o' ho
        refine ⟨c', e', la', by simpa using h1, ?_, ?_⟩
        · rw [show i + (j + 1) = i + 1 + j by omega]
          simpa using h2
        · rw [show i + (j + 1) = i + 1 + j by omega]
          simpa using h3
    · cases h

theorem copAt_of {E : Env} {rg : Nat} {ops : Array Oper} {cs : List COper} (h : cops E rg 0 [] [] ops.toList = some cs) : CopAt E rg ops cs := by
  obtain ⟨h1, h2⟩ := cops_at _ _ _ _ _ h
  refine ⟨by simpa using h1, fun i o ho => ?_⟩
  obtain ⟨c, e, la, h3, h4, h5⟩ := h2 i o (by rw [Array.getElem?_toList]; exact ho)
  rw [Nat.zero_add, List.append_nil] at h4 h5
  exact ⟨c, e, la, h3, h4, h5⟩

theorem dstsOk_at {n : Nat} : ∀ {l : List Oper} {cs : List COper}, dstsOk n l cs = true → ∀ (i : Nat) (o : Oper) (c : COper), l[i]? = some o → cs[i]? = some c → ∀ d, o.dst = some d → d < n ∧ c.op.isStore = false
  | [], _, _, i, o, c, h, _, _, _ => by simp at h
  | _ :: _, [], _, i, o, c, _, h, _, _ => by simp at h
  | o :: l, c :: cs, h, i, o', c', ho, hc, d, hd => by
    simp only [dstsOk, Bool.and_eq_true] at h
    cases i with
    | zero =>
      simp at ho hc
      subst ho hc
      have := h.1
      rw [hd] at this
      simpa using this
    | succ i => exact dstsOk_at h.2 i o' c' (by simpa using ho) (by simpa using hc) d hd

section
variable {P : Program} {base : Nat} {E : Env} {rg : Nat} {ops : Array Oper} {cf : Nat → List CVal → CHeap → Option (CVal × CHeap)} {tm : List CVal} {id : Nat} {cs : List COper} {tr : Nat → RS} {r : Nat → CVal} {sw : List (Nat × Nat)}
  {G0 : Gh} {h0 : CHeap} {w0 : World} {a0 : Act}

/-- The state when the operations in S have run. -/
def J (base : Nat) (ops : Array Oper) (cf : Nat → List CVal → CHeap → Option (CVal × CHeap)) (tm : List CVal) (id : Nat) (cs : List COper) (tr : Nat → RS) (r : Nat → CVal) (sw : List (Nat × Nat)) (G0 : Gh) (h0 : CHeap) (w0 : World) (a0 : Act) (S : Nat → Bool) (a : Act) (w : World) : Prop :=
  ∃ G h ds, HeapFor cf tm id cs tr r sw S h ds ∧ Post base (fun k => ∃ j, S j = true ∧ k = id + j) G0 h0 w0 G h w ∧ TR ops r G S a0 a ∧ DefsR G ds a.defers ∧ a.tmps.size = a0.tmps.size

theorem put_getD (a : Act) (dst : Option Tmp) (u : Value) (t : Tmp) : (a.put dst u).tmps.getD t undef = if dst = some t ∧ t < a.tmps.size then u else a.tmps.getD t undef := by
  cases dst with
  | none => simp [Act.put]
  | some d =>
    simp only [Act.put, Option.some.injEq]
    by_cases hd : d = t
    · subst hd
      by_cases hl : d < a.tmps.size
      · simp [hl]
      · simp [hl]
    · simp [hd, Array.getElem?_setIfInBounds_ne hd]

theorem put_size (a : Act) (dst : Option Tmp) (u : Value) : (a.put dst u).tmps.size = a.tmps.size := by cases dst <;> simp [Act.put]
theorem put_defers' (a : Act) (dst : Option Tmp) (u : Value) : (a.put dst u).defers = a.defers := by cases dst <;> rfl

theorem yielded_eq (ops : Array Oper) (tmps : Array Value) (j : Nat) {t : Tmp} (h : dstAt ops j = some t) : yielded ops tmps j = match tmps.getD t undef with | .bool b => some b | _ => none := by
  unfold yielded
  unfold dstAt at h
  rw [h]
  simp only [Option.bind_some]
  by_cases ht : t < tmps.size
  · simp only [ht, Array.getElem?_eq_getElem, Array.getD_eq_getD_getElem?, Option.getD_some]
    cases tmps[t] <;> rfl
  · simp [ht, undef]

theorem j_step {Q : Exit → Act → World → Prop} {Bef : Nat → Nat → Prop} (hE : E.P = P) (hglob : E.H.globals = []) (C : CopAt E rg ops cs) (hdst : dstsOk E.ntmps ops.toList cs = true) (R : Run cf tm id cs tr r) (B : Bound cf tm id cs tr r sw Bef)
    (hsim : SimCall P base cf) (A : AR E G0 tm (tr 0).defs a0) (hres : ∀ i, i < cs.length → id + i < h0.next ∧ Fresh G0 h0 (id + i)) {S : Nat → Bool} {a : Act} {w : World} {i : Nat} {o : Oper} (ho : ops[i]? = some o) (hS : S i = false)
    (hpre : ∀ j, Bef j i → S j = true) (hcl : ∀ j k, S k = true → Bef j k → S j = true) (hnames : ∀ j t, j ≠ i → dstAt ops j = some t → t ∈ namesOf ops.toList o → (S j = true ↔ j < i))
    {K : Act → World → Prop} (hK : ∀ a' w', J base ops cf tm id cs tr r sw G0 h0 w0 a0 (fun j => S j || j == i) a' w' → K a' w') (HJ : J base ops cf tm id cs tr r sw G0 h0 w0 a0 S a w) : wpOp P ops Q i K a w := by
  obtain ⟨G, h, ds, hH, hP, hT, hD, hsz⟩ := HJ
  have hio : i < ops.size := (Array.getElem?_eq_some_iff.1 ho).1
  have hi : i < cs.length := by rw [C.len]; exact hio
  obtain ⟨c, e, la, hc, hcop, hgd⟩ := C.at_ i o ho
  obtain ⟨h', ds', htr, hH'⟩ := heapFor_step R B hi hS hpre hcl hH
  have ht := htr c hc
  have hdsto := dstsOk_at hdst i o c (by rw [Array.getElem?_toList]; exact ho) hc
  -- who wrote a named temporary last
  have hloc : ∀ t k, t ∈ namesOf ops.toList o → findLoc (dstsRev ops i) t 0 = some k → IsLast ops S t (i - 1 - k) ∧ k < i := fun t k hn hf => by
    obtain ⟨k', hk', h1, h2⟩ := findLoc_some hf
    rw [Nat.zero_add] at hk'
    subst hk'
    have hki : k < i := by
      have := (List.getElem?_eq_some_iff.1 h1).1
      rwa [dstsRev_length (by omega)] at this
    rw [dstsRev_at (by omega) hki] at h1
    have hd := Option.some.inj h1
    refine ⟨⟨(hnames _ t (by omega) hd hn).2 (by omega), hd, fun m hm hmd => ?_⟩, hki⟩
    have hmi : m ≠ i := fun e => by rw [e, hS] at hm; cases hm
    have hmlt := (hnames m t hmi hmd hn).1 hm
    rcases Nat.lt_or_ge (i - 1 - k) m with h3 | h3
    · exfalso
      refine h2 (i - 1 - m) (by omega) ?_
      rw [dstsRev_at (by omega) (by omega), show i - 1 - (i - 1 - m) = m by omega, hmd]
    · exact h3
  have hnone : ∀ t, t ∈ namesOf ops.toList o → findLoc (dstsRev ops i) t 0 = none → ∀ j, S j = true → dstAt ops j ≠ some t := fun t hn hf j hj hd => by
    have hji : j ≠ i := fun e => by rw [e, hS] at hj; cases hj
    have hlt := (hnames j t hji hd hn).1 hj
    refine findLoc_none hf (i - 1 - j) ?_
    rw [dstsRev_at (by omega) (by omega), show i - 1 - (i - 1 - j) = j by omega, hd]
  have hop : ∀ t, t ∈ opTmps o → t ∈ namesOf ops.toList o := fun t h1 => by
    unfold namesOf
    exact List.mem_append_right _ (List.mem_append_left _ h1)
  have hr : ORel G { E with only := some (opTmps o) } (dstsRev ops i) (evalOpnd tm (tr i).vals) a.eval := by
    intro X x hx
    cases X with
    | tmp t =>
      simp only [copnd] at hx
      split at hx
      · rename_i hcan
        have hmem : t ∈ opTmps o := by simpa [Env.can] using hcan
        split at hx
        · rename_i k hk
          cases hx
          obtain ⟨hl, hki⟩ := hloc t k (hop t hmem) hk
          show VR G (nth (tr i).vals k) (a.tmps.getD t undef)
          rw [R.nth i k (by omega) hki]
          exact (hT.new t _ hl).1
        · rename_i hk
          obtain ⟨v, hv, rfl⟩ := Option.map_eq_some_iff.1 hx
          show VR G (nth tm v) (a.tmps.getD t undef)
          rw [hT.old t (hnone t (hop t hmem) hk)]
          exact (A.val t v hv).mono hP.le
      · cases hx
    | const v =>
      simp only [copnd] at hx
      obtain ⟨c', hc', rfl⟩ := Option.map_eq_some_iff.1 hx
      exact ofValue_sound G v c' hc'
    | global g => simp [copnd, hglob, lookupG] at hx
    | func f =>
      simp only [copnd] at hx
      cases hx
      exact .fn rfl rfl (fun i c v h => by simp at h) (fun i c v h => by simp at h)
  have hg : Region.wanted o (yielded ops a.tmps) = wantedC (tr i).vals c.guard := by
    unfold Region.wanted
    cases hog : o.guard with
    | none => rw [hog] at hgd; simp only [cguard] at hgd; rw [← Option.some.inj hgd]; rfl
    | some p =>
      obtain ⟨j, b⟩ := p
      rw [hog] at hgd
      simp only [cguard] at hgd
      split at hgd
      · rename_i hji
        split at hgd
        · rename_i t ht'
          split at hgd
          · rename_i hfl
            have hgd := Option.some.inj hgd
            have hd : dstAt ops j = some t := by
              rw [dstsRev_at (by omega) (by omega), show i - 1 - (i - 1 - j) = j by omega] at ht'
              exact Option.some.inj ht'
            have hn : t ∈ namesOf ops.toList o := by
              unfold namesOf
              refine List.mem_append_right _ (List.mem_append_right _ ?_)
              rw [hog]
              simp only [Array.getElem?_toList]
              show t ∈ (dstAt ops j).toList
              rw [hd]; simp
            obtain ⟨hl, _⟩ := hloc t _ hn hfl
            rw [show i - 1 - (i - 1 - j) = j by omega] at hl
            obtain ⟨hv1, hv2⟩ := hT.new t j hl
            rw [← hgd]
            simp only [wantedC]
            rw [R.nth i _ (by omega) (by omega), show i - 1 - (i - 1 - j) = j by omega, yielded_eq ops a.tmps j hd]
            generalize hz : a.tmps.getD t undef = z at hv1 hv2
            generalize hrj : r j = rj at hv1 hv2
            cases hv1 <;> first
              | rfl
              | (rw [hv2 rfl]; rfl)
              | (rename_i b'; cases b <;> cases b' <;> rfl)
          · cases hgd
        · cases hgd
      · cases hgd
  have hfr : Fresh G h (id + i) := hP.fresh _ (hres i hi).1 (fun ⟨j, hj, he⟩ => by
    have : j = i := by omega
    rw [this, hS] at hj; cases hj) (hres i hi).2
  refine op_step (dsts := dstsRev ops i) (earlier := e) (later := la) (E := { E with only := some (opTmps o) }) (v := r i) hE hcop (fun hn => ?_) hsim hr hg ht hP.inv (Nat.lt_of_lt_of_le (hres i hi).1 hP.next) hfr hD ho fun u w' G' dl hv hu hp hdl => hK _ _ ⟨G', h', ds', hH', ?_, ?_, ?_, ?_⟩
  · cases hd : o.dst with
    | none => exact absurd hd hn
    | some d => exact (hdsto d hd).2
  · refine (hP.trans hp).mono fun k hk => ?_
    rcases hk with ⟨j, h1, h2⟩ | h1
    · exact ⟨j, by simp [h1], h2⟩
    · exact ⟨i, by simp, h1⟩
  · have hdi : dstAt ops i = o.dst := by simp [dstAt, ho]
    constructor
    · intro t j hj
      rw [put_getD]
      by_cases hot : o.dst = some t
      · have hlt : t < a.tmps.size := by
          have h8 := A.size
          have h9 := (hdsto t hot).1
          rw [hsz]; exact Nat.lt_of_lt_of_le h9 h8
        rw [if_pos ⟨hot, hlt⟩]
        have hji : j = i := by
          have h1 := hj.last i (by simp) (by rw [hdi]; exact hot)
          rcases Nat.eq_or_lt_of_le h1 with h2 | h2
          · exact h2.symm
          · have h3 := hj.mem
            simp only [Bool.or_eq_true, beq_iff_eq] at h3
            have h4 := h3.resolve_right (by omega)
            have := (hnames j t (by omega) hj.dst (by unfold namesOf; rw [hot]; simp)).1 h4
            omega
        subst hji
        exact ⟨hv, fun e => hu e (by rw [hot]; simp)⟩
      · rw [if_neg (fun hh => hot hh.1)]
        have hji : j ≠ i := fun e => by
          have := hj.dst
          rw [e, hdi] at this; exact hot this
        have h3 := hj.mem
        simp only [Bool.or_eq_true, beq_iff_eq] at h3
        have := hT.new t j ⟨h3.resolve_right hji, hj.dst, fun k hk hkd => hj.last k (by simp [hk]) hkd⟩
        exact ⟨this.1.mono hp.le, this.2⟩
    · intro t hno
      rw [put_getD, if_neg (fun hh => hno i (by simp) (by rw [hdi]; exact hh.1))]
      exact hT.old t fun j hj => hno j (by simp [hj])
  · rw [put_defers']; exact hdl
  · rw [put_size]; exact hsz
end
end Go.CI

/- A deterministic interpreter over values: a region is the model's. -/
set_option linter.unusedVariables false
namespace Go.CI
open Go.RowKit

inductive Reach (ops : Array Oper) : Nat → Nat → Prop
  | edge {i : Nat} {o : Oper} {e : Edge} (ho : ops[i]? = some o) (he : e ∈ o.after) (hb : Region.binds .any e = true) : Reach ops i e.on
  | step {i j : Nat} {o : Oper} {e : Edge} (ho : ops[i]? = some o) (he : e ∈ o.after) (hb : Region.binds .any e = true) (h : Reach ops e.on j) : Reach ops i j

theorem foldl_bits (acc : List Nat) : ∀ (l : List Edge) (s j : Nat), (l.foldl (fun s e => if Region.binds .any e then s ||| (2 ^ e.on ||| acc.getD e.on 0) else s) s).testBit j = true → s.testBit j = true ∨ ∃ e ∈ l, Region.binds .any e = true ∧ (e.on = j ∨ (acc.getD e.on 0).testBit j = true)
  | [], s, j, h => .inl h
  | e :: l, s, j, h => by
    simp only [List.foldl_cons] at h
    rcases foldl_bits acc l _ j h with h1 | ⟨e', h1, h2, h3⟩
    · split at h1
      · rename_i hb
        simp only [Nat.testBit_or, Bool.or_eq_true] at h1
        rcases h1 with h1 | h1 | h1
        · exact .inl h1
        · refine .inr ⟨e, by simp, hb, .inl ?_⟩
          rw [Nat.testBit_two_pow] at h1
          simpa using h1
        · exact .inr ⟨e, by simp, hb, .inr h1⟩
      · exact .inl h1
    · exact .inr ⟨e', List.mem_cons_of_mem _ h1, h2, h3⟩

theorem preOf_reach {ops : Array Oper} : ∀ (l done : List Oper) (acc : List Nat), ops.toList = done ++ l → acc.length = done.length → (∀ i j, (acc.getD i 0).testBit j = true → Reach ops i j) → ∀ i j, ((preOf l acc).getD i 0).testBit j = true → Reach ops i j
  | [], done, acc, _, _, h => h
  | o :: l, done, acc, he, hl, h => by
    simp only [preOf]
    refine preOf_reach l (done ++ [o]) _ (by rw [he]; simp) (by simp [hl]) fun i j hij => ?_
    have hoi : ops[acc.length]? = some o := by
      rw [← Array.getElem?_toList, he, hl, List.getElem?_append_right (Nat.le_refl _)]
      simp
    simp only [List.getD_eq_getElem?_getD] at hij
    rcases Nat.lt_trichotomy i acc.length with h1 | h1 | h1
    · rw [List.getElem?_append_left h1] at hij
      exact h i j (by rw [List.getD_eq_getElem?_getD]; exact hij)
    · subst h1
      rw [List.getElem?_append_right (Nat.le_refl _)] at hij
      simp only [Nat.sub_self, List.getElem?_cons_zero, Option.getD_some] at hij
      have := foldl_bits acc o.after.toList 0 j (by simpa only [List.getD_eq_getElem?_getD] using hij)
      rcases this with h2 | ⟨e, h2, h3, h4⟩
      · simp at h2
      · rcases h4 with h4 | h4
        · subst h4; exact .edge hoi (by simpa using h2) h3
        · exact .step hoi (by simpa using h2) h3 (h _ _ h4)
    · rw [List.getElem?_eq_none (by simp; omega)] at hij
      simp at hij

/-- What is bound stays behind. -/
def Closed (ops : Array Oper) (S : Nat → Bool) : Prop := ∀ i o, S i = true → ops[i]? = some o → ∀ e ∈ o.after, Region.binds .any e = true → S e.on = true
theorem Closed.reach {ops : Array Oper} {S : Nat → Bool} (h : Closed ops S) {i j : Nat} (hr : Reach ops i j) (hS : (S i = true) ∨ ∀ o, ops[i]? = some o → ∀ e ∈ o.after, Region.binds .any e = true → S e.on = true) : S j = true := by
  induction hr with
  | edge ho he hb =>
    rcases hS with hS | hS
    · exact h _ _ hS ho _ he hb
    · exact hS _ ho _ he hb
  | step ho he hb _ ih =>
    refine ih (.inl ?_)
    rcases hS with hS | hS
    · exact h _ _ hS ho _ he hb
    · exact hS _ ho _ he hb

theorem tmpsOk_at {ops : Array Oper} {pre : List Nat} (h : tmpsOk ops.toList pre = true) {i j : Nat} {o : Oper} {t : Tmp} (ho : ops[i]? = some o) (hj : dstAt ops j = some t) (hne : j ≠ i) (hn : t ∈ namesOf ops.toList o) : (pre.getD (max i j) 0).testBit (min i j) = true := by
  unfold tmpsOk at h
  rw [List.all_eq_true] at h
  have h1 := h (o, i) (by rw [List.mem_zipIdx_iff_getElem?]; simpa using ho)
  simp only at h1
  rw [List.all_eq_true] at h1
  unfold dstAt at hj
  cases hw : ops[j]? with
  | none => rw [hw] at hj; cases hj
  | some w =>
    rw [hw] at hj
    simp only [Option.bind_some] at hj
    have h2 := h1 (w, j) (by rw [List.mem_zipIdx_iff_getElem?]; simpa using hw)
    simp only [hj, Bool.or_eq_true, beq_iff_eq, Bool.not_eq_true', List.contains_eq_mem, decide_eq_false_iff_not] at h2
    rcases h2 with (h2 | h2) | h2
    · exact absurd h2 hne
    · exact absurd hn h2
    · rw [Nat.max_comm, Nat.min_comm]; exact h2

theorem countP_lt {p q : Nat → Bool} : ∀ {l : List Nat} {x : Nat}, (∀ y, q y = true → p y = true) → x ∈ l → p x = true → q x = false → l.countP q < l.countP p
  | [], x, _, hx, _, _ => by simp at hx
  | a :: l, x, h, hx, hp, hq => by
    rw [List.countP_cons, List.countP_cons]
    have hle : l.countP q ≤ l.countP p := List.countP_mono_left fun y _ hy => h y hy
    rcases List.mem_cons.1 hx with rfl | hx
    · rw [hp, hq]; simp; omega
    · have := countP_lt h hx hp hq
      by_cases ha : q a = true
      · rw [ha, h a ha]; simp; omega
      · rw [if_neg ha]; omega

section
variable {P : Program} {base : Nat} {E : Env} {rg : Nat} {ops : Array Oper} {cf : Nat → List CVal → CHeap → Option (CVal × CHeap)} {tm : List CVal} {id : Nat} {cs : List COper} {tr : Nat → RS} {r : Nat → CVal} {sw : List (Nat × Nat)}
  {G0 : Gh} {h0 : CHeap} {w0 : World} {a0 : Act} {Q : Exit → Act → World → Prop}

theorem J.congr {S S' : Nat → Bool} {a : Act} {w : World} (h : ∀ j, S j = S' j) (HJ : J base ops cf tm id cs tr r sw G0 h0 w0 a0 S a w) : J base ops cf tm id cs tr r sw G0 h0 w0 a0 S' a w := by
  have : S = S' := funext h
  rw [← this]; exact HJ

theorem seq_ops (hE : E.P = P) (hglob : E.H.globals = []) (C : CopAt E rg ops cs) (hdst : dstsOk E.ntmps ops.toList cs = true) (R : Run cf tm id cs tr r)
    (hsim : SimCall P base cf) (A : AR E G0 tm (tr 0).defs a0) (hres : ∀ i, i < cs.length → id + i < h0.next ∧ Fresh G0 h0 (id + i))
    (hQ : ∀ a w, J base ops cf tm id cs tr r [] G0 h0 w0 a0 (fun j => decide (j < ops.size)) a w → Q .normal a w) : ∀ (k i : Nat) (a : Act) (w : World), i + k = ops.size → J base ops cf tm id cs tr r [] G0 h0 w0 a0 (fun j => decide (j < i)) a w → wpOps P ops Q (List.range' i k) a w
  | 0, i, a, w, hk, HJ => by
    simp at hk; subst hk
    exact hQ a w HJ
  | k + 1, i, a, w, hk, HJ => by
    rw [List.range'_succ, wpOps_cons]
    have hi : i < ops.size := by omega
    refine j_step (S := fun j => decide (j < i)) (o := ops[i]) (Bef := fun j i => j < i) hE hglob C hdst R (bound_seq R) hsim A hres (Array.getElem?_eq_getElem hi) (by simp) (fun j hj => by simpa using hj) (fun j k hk hj => by simp at hk ⊢; omega) (fun j t _ _ _ => by simp) ?_ HJ
    intro a' w' HJ'
    refine seq_ops hE hglob C hdst R hsim A hres hQ k (i + 1) a' w' (by omega) (HJ'.congr fun j => ?_)
    by_cases h1 : j < i
    · simp [h1, show j < i + 1 by omega]
    · by_cases h2 : j = i
      · simp [h2]
      · simp [h1, h2, show ¬ j < i + 1 by omega]

theorem any_ops {pre : List Nat} (hpre : ∀ i j, (pre.getD i 0).testBit j = true → Reach ops i j) (hedges : edgesOk ops.toList = true) (htmps : tmpsOk ops.toList pre = true) (hE : E.P = P) (hglob : E.H.globals = []) (C : CopAt E rg ops cs) (hdst : dstsOk E.ntmps ops.toList cs = true) (R : Run cf tm id cs tr r)
    (B : Bound cf tm id cs tr r sw (fun j i => (pre.getD i 0).testBit j = true))
    (hsim : SimCall P base cf) (A : AR E G0 tm (tr 0).defs a0) (hres : ∀ i, i < cs.length → id + i < h0.next ∧ Fresh G0 h0 (id + i))
    (hQ : ∀ S a w, (∀ i, i < ops.size → S i = true) → J base ops cf tm id cs tr r sw G0 h0 w0 a0 S a w → Q .normal a w) : ∀ (fuel : Nat) (listed : Array Bool) (a : Act) (w : World), listed.size = ops.size → (List.range ops.size).countP (fun j => !listed.getD j false) ≤ fuel →
      Closed ops (fun j => listed.getD j false) → J base ops cf tm id cs tr r sw G0 h0 w0 a0 (fun j => listed.getD j false) a w → wpAny P .any ops Q fuel listed a w := by
  have done : ∀ (listed : Array Bool) (a : Act) (w : World), listed.size = ops.size → Region.ready .any ops listed = [] → J base ops cf tm id cs tr r sw G0 h0 w0 a0 (fun j => listed.getD j false) a w → Q .normal a w := fun listed a w hsz hready HJ => by
    refine hQ _ a w ?_ HJ
    intro i
    induction i using Nat.strongRecOn with
    | ind i ih =>
      intro hi
      rcases Bool.eq_false_or_eq_true (listed.getD i false) with h1 | h1
      · exact h1
      · exfalso
        have hmem : i ∈ Region.ready .any ops listed := by
          rw [mem_ready]
          refine ⟨?_, ops[i], Array.getElem?_eq_getElem hi, fun e he hb => ?_⟩
          · have hlt : i < listed.size := by omega
            simp [hlt] at h1 ⊢; exact h1
          · unfold edgesOk at hedges
            rw [List.all_eq_true] at hedges
            have h2 := hedges (ops[i], i) (by rw [List.mem_zipIdx_iff_getElem?]; simp)
            simp only [List.all_eq_true] at h2
            have h3 := h2 e (by simpa using he)
            simp only [hb, Bool.not_true, Bool.false_or, decide_eq_true_eq] at h3
            exact ih e.on h3 (by omega)
        rw [hready] at hmem
        cases hmem
  intro fuel
  induction fuel with
  | zero =>
    intro listed a w hsz hfuel hcl HJ
    have hall : Region.ready .any ops listed = [] := by
      cases hr : Region.ready .any ops listed with
      | nil => rfl
      | cons x xs =>
        exfalso
        have hx : x ∈ Region.ready .any ops listed := by rw [hr]; simp
        obtain ⟨h0, o, ho, _⟩ := mem_ready.1 hx
        have hxi : x < ops.size := (Array.getElem?_eq_some_iff.1 ho).1
        have hlt : x < listed.size := by omega
        have h1 := List.countP_eq_zero.1 (Nat.le_zero.1 hfuel) x (List.mem_range.2 hxi)
        simp [hlt] at h0 h1
        rw [h1] at h0; cases h0
    exact ⟨hall, done listed a w hsz hall HJ⟩
  | succ fuel ihf =>
    intro listed a w hsz hfuel hcl HJ
    refine ⟨fun hr => done listed a w hsz hr HJ, fun i hi => ?_⟩
    obtain ⟨h0, o, ho, hbefore⟩ := mem_ready.1 hi
    have hio : i < ops.size := (Array.getElem?_eq_some_iff.1 ho).1
    have hlt : i < listed.size := by omega
    have hS : listed.getD i false = false := by
      simp [hlt] at h0 ⊢; exact h0
    have hpi : ∀ j, (pre.getD i 0).testBit j = true → listed.getD j false = true := fun j hj => hcl.reach (hpre i j hj) (.inr fun o' ho' e he hb => by rw [ho] at ho'; cases ho'; exact hbefore e he hb)
    have hset : ∀ j, (listed.getD j false || j == i) = (listed.setIfInBounds i true).getD j false := fun j => by
      by_cases hji : j = i
      · subst hji; simp [hlt]
      · rw [getD_set_ne false (fun e => hji e.symm)]; simp [hji]
    refine j_step (S := fun j => listed.getD j false) (o := o) (Bef := fun j i => (pre.getD i 0).testBit j = true) hE hglob C hdst R B hsim A hres ho hS hpi (fun j k hk hj => hcl.reach (hpre k j hj) (.inl hk)) (fun j t hne hd hn => ?_) ?_ HJ
    · have h1 := tmpsOk_at htmps ho hd hne hn
      constructor
      · intro hj
        rcases Nat.lt_or_ge j i with h2 | h2
        · exact h2
        · exfalso
          rw [Nat.max_eq_right h2, Nat.min_eq_left h2] at h1
          have := hcl.reach (hpre j i h1) (.inl hj)
          rw [hS] at this; cases this
      · intro hj
        rw [Nat.max_eq_left (by omega), Nat.min_eq_right (by omega)] at h1
        exact hpi j h1
    · intro a' w' HJ'
      refine ihf _ a' w' (by simpa using hsz) ?_ ?_ (HJ'.congr hset)
      · have : (List.range ops.size).countP (fun j => !(listed.setIfInBounds i true).getD j false) < (List.range ops.size).countP (fun j => !listed.getD j false) := by
          refine countP_lt (x := i) (fun y hy => ?_) (List.mem_range.2 hio) (by rw [hS]; rfl) (by rw [← hset i]; simp)
          rw [← hset y] at hy
          simp only [Bool.not_or, Bool.and_eq_true] at hy
          exact hy.1
        omega
      · intro j o' hj ho' e he hb
        have hj : (listed.setIfInBounds i true).getD j false = true := hj
        show (listed.setIfInBounds i true).getD e.on false = true
        rw [← hset] at hj ⊢
        simp only [Bool.or_eq_true, beq_iff_eq] at hj ⊢
        rcases hj with hj | hj
        · exact .inl (hcl j o' hj ho' e he hb)
        · subst hj
          rw [ho] at ho'; cases ho'
          exact .inl (hbefore e he hb)

theorem lastDst_spec (t : Tmp) : ∀ (l : List Oper) (i : Nat) (acc : Option Nat), (∃ (k : Nat) (o : Oper), lastDst t l i acc = some (i + k) ∧ l[k]? = some o ∧ o.dst = some t ∧ ∀ (k' : Nat) (o' : Oper), l[k']? = some o' → o'.dst = some t → k' ≤ k) ∨ (lastDst t l i acc = acc ∧ ∀ (k : Nat) (o : Oper), l[k]? = some o → o.dst ≠ some t)
  | [], i, acc => .inr ⟨rfl, fun k o h => by simp at h⟩
  | o :: l, i, acc => by
    simp only [lastDst]
    rcases lastDst_spec t l (i + 1) (if o.dst == some t then some i else acc) with ⟨k, o', h1, h2, h3, h4⟩ | ⟨h1, h2⟩
    · refine .inl ⟨k + 1, o', by rw [h1]; congr 1; omega, by simpa using h2, h3, fun k' o'' h5 h6 => ?_⟩
      cases k' with
      | zero => omega
      | succ k' => have := h4 k' o'' (by simpa using h5) h6; omega
    · by_cases ho : o.dst = some t
      · refine .inl ⟨0, o, by rw [h1]; simp [ho], rfl, ho, fun k' o'' h5 h6 => ?_⟩
        cases k' with
        | zero => omega
        | succ k' => exact absurd h6 (h2 k' o'' (by simpa using h5))
      · refine .inr ⟨by rw [h1]; simp [ho], fun k o'' h5 => ?_⟩
        cases k with
        | zero => simp at h5; rw [← h5]; exact ho
        | succ k => exact h2 k o'' (by simpa using h5)

theorem nth_setNth (l : List CVal) (k v : Nat) (x : CVal) (hk : k < l.length) : nth (setNth l k x) v = if v = k then x else nth l v := by
  rw [nth_eq, getElem?_setNth]
  by_cases h : k = v
  · subst h; simp [hk]
  · rw [if_neg (fun hh => h hh.1), if_neg (fun e => h e.symm), nth_eq]

theorem wb_nth (n : Nat) (vals : List CVal) (l : List Oper) : ∀ (vars : List Tmp) (k : Nat) (tm : List CVal), k + vars.length ≤ tm.length → (writeBack n vals tm (wbFrom l vars k)).length = tm.length ∧
    ∀ v, nth (writeBack n vals tm (wbFrom l vars k)) v = match (if k ≤ v then vars[v - k]? else none) with
      | some t => (match lastDst t l 0 none with
        | some i => nth vals (n - 1 - i)
        | none => nth tm v)
      | none => nth tm v
  | [], k, tm, _ => by
    refine ⟨rfl, fun v => ?_⟩
    simp [wbFrom, writeBack]
  | t :: vars, k, tm, hl => by
    simp only [List.length_cons] at hl
    simp only [wbFrom]
    cases hd : lastDst t l 0 none with
    | some i =>
      simp only [writeBack]
      obtain ⟨h1, h2⟩ := wb_nth n vals l vars (k + 1) (setNth tm k (nth vals (n - 1 - i))) (by rw [length_setNth]; omega)
      refine ⟨by rw [h1, length_setNth], fun v => ?_⟩
      rw [h2 v, nth_setNth _ _ _ _ (by omega)]
      rcases Nat.lt_trichotomy v k with h3 | h3 | h3
      · rw [if_neg (show ¬ k + 1 ≤ v by omega), if_neg (show ¬ k ≤ v by omega), if_neg (show ¬ v = k by omega)]
      · subst h3
        rw [if_neg (show ¬ v + 1 ≤ v by omega), if_pos (Nat.le_refl v), if_pos rfl]
        simp [hd]
      · rw [if_pos (show k + 1 ≤ v by omega), if_pos (show k ≤ v by omega), show v - k = (v - (k + 1)) + 1 by omega, List.getElem?_cons_succ, if_neg (show ¬ v = k by omega)]
    | none =>
      simp only
      obtain ⟨h1, h2⟩ := wb_nth n vals l vars (k + 1) tm (by omega)
      refine ⟨h1, fun v => ?_⟩
      rw [h2 v]
      rcases Nat.lt_trichotomy v k with h3 | h3 | h3
      · rw [if_neg (show ¬ k + 1 ≤ v by omega), if_neg (show ¬ k ≤ v by omega)]
      · subst h3
        rw [if_neg (show ¬ v + 1 ≤ v by omega), if_pos (Nat.le_refl v)]
        simp [hd]
      · rw [if_pos (show k + 1 ≤ v by omega), if_pos (show k ≤ v by omega), show v - k = (v - (k + 1)) + 1 by omega, List.getElem?_cons_succ]

/-- When every operation has run. -/
theorem j_done (C : CopAt E rg ops cs) (R : Run cf tm id cs tr r) (A : AR E G0 tm (tr 0).defs a0) (hsw : ∀ a b, sw = [(a, b)] → isW cs a = true ∧ a < b) {S : Nat → Bool} {a : Act} {w : World} (hS : ∀ i, i < ops.size → S i = true) (HJ : J base ops cf tm id cs tr r sw G0 h0 w0 a0 S a w) :
    ∃ G, Post base (fun k => id ≤ k) G0 h0 w0 G (tr cs.length).h w ∧ AR E G (writeBack cs.length (tr cs.length).vals tm (wbOf E.vars ops.toList)) (tr cs.length).defs a := by
  obtain ⟨G, h, ds, hH, hP, hT, hD, hsz⟩ := HJ
  have hall : ∀ j, isW cs j = true → S j = true := fun j hj => hS j (by rw [← C.len]; exact isW_lt hj)
  have heq : h = (tr cs.length).h ∧ ds = (tr cs.length).defs := by
    rcases hH with ⟨m, hm, hsm, rfl, rfl⟩ | ⟨x, b, he, hsm, _⟩
    · have := R.same hm (Nat.le_refl _) (fun k h1 h2 => by
        rcases Bool.eq_false_or_eq_true (isW cs k) with h3 | h3
        · have := (hsm k h3).1 (hall k h3); omega
        · exact h3)
      exact ⟨this.1.symm, this.2.symm⟩
    · obtain ⟨h1, h2⟩ := hsw x b he
      have := (hsm x h1).1 (hall x h1)
      omega
  obtain ⟨rfl, rfl⟩ := heq
  refine ⟨G, hP.mono fun k ⟨j, _, hj⟩ => by omega, ?_, ?_, ?_, hD⟩
  · rw [hsz]; exact A.size
  · rw [wbOf, (wb_nth _ _ _ _ _ _ (by rw [A.len]; omega)).1]; exact A.len
  · intro t v hv
    obtain ⟨k, hk, hvk⟩ := findVar_some hv
    rw [Nat.zero_add] at hk
    subst hk
    rw [wbOf, (wb_nth _ _ _ _ _ _ (by rw [A.len]; omega)).2 v, if_pos (Nat.zero_le _), Nat.sub_zero, hvk]
    simp only
    rcases lastDst_spec t ops.toList 0 none with ⟨k, o, h1, h2, h3, h4⟩ | ⟨h1, h2⟩
    · rw [h1, Nat.zero_add]
      simp only
      rw [Array.getElem?_toList] at h2
      have hk : k < ops.size := (Array.getElem?_eq_some_iff.1 h2).1
      have hc := C.len
      rw [R.nth cs.length _ (Nat.le_refl _) (by omega), show cs.length - 1 - (cs.length - 1 - k) = k by omega]
      refine (hT.new t k ⟨hS k hk, by simp [dstAt, h2, h3], fun m _ hmd => ?_⟩).1
      unfold dstAt at hmd
      cases hom : ops[m]? with
      | none => rw [hom] at hmd; cases hmd
      | some om =>
        rw [hom] at hmd
        exact h4 m om (by rw [Array.getElem?_toList]; exact hom) hmd
    · rw [h1]
      simp only
      rw [hT.old t (fun j _ hd => ?_)]
      · exact (A.val t v hv).mono hP.le
      · unfold dstAt at hd
        cases hom : ops[j]? with
        | none => rw [hom] at hd; cases hd
        | some om =>
          rw [hom] at hd
          exact h2 j om (by rw [Array.getElem?_toList]; exact hom) hd
end
end Go.CI

/- A deterministic interpreter over values: a region's code is the model's. -/
set_option linter.unusedVariables false
namespace Go.CI
open Go.RowKit

theorem cell_of_heap {w w' : World} (h : w'.heap = w.heap) (a : Addr) : w'.cell? a = w.cell? a := by unfold World.cell?; rw [h]
theorem frozen_of_heap {w w' : World} (h : w'.heap = w.heap) (a : Addr) : w'.frozen? a = w.frozen? a := by unfold World.frozen?; rw [h]

theorem Inv.of_heap {base : Nat} {G : Gh} {h : CHeap} {w w' : World} (I : Inv base G h w) (he : w'.heap = w.heap) : Inv base G h w' := by
  obtain ⟨own, I⟩ := I
  have hl : ∀ ab i, Live w ab i → Live w' ab i := fun ab i ⟨⟨v, h1⟩, h2⟩ => ⟨⟨v, by rw [cell_of_heap he]; exact h1⟩, by rw [frozen_of_heap he]; exact h2⟩
  have hh : ∀ ab i c, Holds G w ab i c → Holds G w' ab i c := fun ab i c ⟨v, h1, h2⟩ => ⟨v, by rw [cell_of_heap he]; exact h1, h2⟩
  refine ⟨own, fun ab o c hf => ⟨(I.fzs ab o c hf).1, hh _ _ _ (I.fzs ab o c hf).2⟩, fun b ab k hm => ⟨(I.mus b ab k hm).1, (I.mus b ab k hm).2.1, fun i hi => ⟨((I.mus b ab k hm).2.2 i hi).1, hl _ _ ((I.mus b ab k hm).2.2 i hi).2⟩⟩, I.rws, I.tks, fun b o ho => ⟨(I.ents b o ho).1, ?_⟩, fun ab o x hx => by rw [he]; exact I.old ab o x hx, by rw [he]; exact I.top, I.nod, fun b v x hx => ⟨by rw [he]; exact (I.cln b v x hx).1, fun T n hs => by rw [frozen_of_heap he]; exact (I.cln b v x hx).2 T n (by unfold World.shape? at hs ⊢; rw [← he]; exact hs)⟩⟩
  have hb := (I.ents b o ho).2
  cases o with
  | cells cs => exact fun ab k hm => ⟨(hb ab k hm).1, fun i c hi => ⟨((hb ab k hm).2 i c hi).1, hh _ _ _ ((hb ab k hm).2 i c hi).2⟩⟩
  | row ver es => exact ⟨hb.1, fun ab ao k cap hr => let ⟨h1, h2, h3, h4⟩ := hb.2 ab ao k cap hr; ⟨h1, h2, fun i hi => ⟨(h3 i hi).1, hl _ _ (h3 i hi).2⟩, fun i e hie => ⟨(h4 i e hie).1, fun j c hj => ⟨((h4 i e hie).2 j c hj).1, hh _ _ _ ((h4 i e hie).2 j c hj).2⟩⟩⟩⟩
  | tok ver => exact ⟨hb.1, fun ab e k room ht => ⟨(hb.2 ab e k room ht).1, fun i hi => ⟨((hb.2 ab e k room ht).2 i hi).1, hl _ _ ((hb.2 ab e k room ht).2 i hi).2⟩⟩⟩

/-- Room for new numbers. -/
theorem Inv.bump {base : Nat} {G : Gh} {h : CHeap} {w : World} (I : Inv base G h w) (n : Nat) : Inv base G { h with next := h.next + n } w := by
  obtain ⟨own, I⟩ := I
  exact ⟨own, I.sub (h' := { h with next := h.next + n }) (List.Sublist.refl _) (Nat.le_add_right _ _)⟩
theorem Inv.freshAt {base : Nat} {G : Gh} {h : CHeap} {w : World} (I : Inv base G h w) {i : Nat} (hi : h.next ≤ i) (n : Nat) : Fresh G { h with next := h.next + n } i := by
  obtain ⟨own, I⟩ := I
  refine ⟨?_, fun v => ?_, fun v => ?_, ?_⟩
  · cases hm : G.mu i with
    | none => rfl
    | some x => have := (I.mus i x.1 x.2 hm).1; omega
  · cases hm : G.rw i v with
    | none => rfl
    | some x => have := I.rws i v x hm; omega
  · cases hm : G.tk i v with
    | none => rfl
    | some x => have := I.tks i v x hm; omega
  · show h.get i = none
    cases hm : h.get i with
    | none => rfl
    | some x => have := (I.ents i x hm).1; omega

theorem region_sim {P : Program} {base : Nat} {E : Env} {T : Nat → Option CFn} {ex : CCode → CSt → Option (CExit × CSt)} {rg : Nat} {ops : Array Oper} {draw : Bool} {cc : CCode} {st st' : CSt} {x : CExit} (hE : E.P = P) (hglob : E.H.globals = []) (hmixed : P.follows .mixedOrders = true)
    (hc : cregion E rg ops.toList draw = some cc) (hx : execStep T ex cc st = some (x, st')) (hsim : SimCall P base (callFn T ex)) {G : Gh} {a : Act} {w : World} (A : AR E G st.tm st.defs a) (I : Inv base G st.h w) {Q : Exit → Act → World → Prop}
    (hQ : ∀ G' a' w', AR E G' st'.tm st'.defs a' → Post base (fun _ => False) G st.h w G' st'.h w' → Q .normal a' w') : x = .normal ∧ (Code.region rg ops draw).wp P Q a w := by
  unfold cregion at hc
  split at hc
  · rename_i cs hcs
    split at hc
    · rename_i hdst
      have C := copAt_of hcs
      have main : ∀ (wb : List (Nat × Nat)) (chk : List (Nat × Nat × Nat)) (sw : List (Nat × Nat)), wb = wbOf E.vars ops.toList → execStep T ex (.region cs wb chk sw) st = some (x, st') →
          ∃ (tr : Nat → RS) (r : Nat → CVal), Run (callFn T ex) st.tm st.h.next cs tr r ∧ tr 0 = ⟨[], { st.h with next := st.h.next + cs.length }, st.defs, []⟩ ∧ x = .normal ∧ st' = ⟨writeBack cs.length (tr cs.length).vals st.tm wb, (tr cs.length).h, (tr cs.length).defs⟩ ∧
            chk.all (checkOne st.tm cs cs.length (tr cs.length).vals ((tr cs.length).h :: (tr cs.length).hs).reverse) = true ∧ sw.all (swapOne st.tm cs cs.length (tr cs.length).vals) = true := by
        intro wb chk sw hwb hx
        simp only [execStep] at hx
        split at hx
        · rename_i s hs
          obtain ⟨tr, r, h0, hn, hst⟩ := trace_of cs _ _ _ hs
          split at hx
          · rename_i hck
            simp only [Bool.and_eq_true] at hck
            cases hx
            refine ⟨tr, r, ⟨by rw [h0], by rw [h0], hst⟩, h0, rfl, by rw [hn], ?_, ?_⟩
            · rw [hn]; exact hck.1
            · rw [hn]; exact hck.2
          · cases hx
        · cases hx
      have hres : ∀ i, i < cs.length → st.h.next + i < ({ st.h with next := st.h.next + cs.length } : CHeap).next ∧ Fresh G { st.h with next := st.h.next + cs.length } (st.h.next + i) := fun i hi => ⟨by show st.h.next + i < st.h.next + cs.length; omega, I.freshAt (by omega) _⟩
      have hfin : ∀ {w0 : World} {tr : Nat → RS} {G' : Gh} {w' : World}, w0.heap = w.heap → Below base w w0 → Post base (fun k => st.h.next ≤ k) G { st.h with next := st.h.next + cs.length } w0 G' (tr cs.length).h w' → Post base (fun _ => False) G st.h w G' (tr cs.length).h w' := fun h1 h2 hp =>
        ⟨hp.le, hp.inv, h2.trans hp.below, Nat.le_trans (Nat.le_add_right _ _) hp.next, fun i hi _ hf => hp.fresh i (Nat.lt_of_lt_of_le hi (Nat.le_add_right _ _)) (by omega) hf⟩
      have J0 : ∀ {w0 : World} {tr : Nat → RS} {r : Nat → CVal} {sw : List (Nat × Nat)}, w0.heap = w.heap → tr 0 = ⟨[], { st.h with next := st.h.next + cs.length }, st.defs, []⟩ →
          J base ops (callFn T ex) st.tm st.h.next cs tr r sw G { st.h with next := st.h.next + cs.length } w0 a (fun _ => false) a w0 := fun h1 h0 =>
        ⟨G, { st.h with next := st.h.next + cs.length }, st.defs, .inl ⟨0, Nat.zero_le _, fun j _ => by simp, by rw [h0], by rw [h0]⟩, .refl ((I.of_heap h1).bump _), ⟨fun t j hl => absurd hl.mem (by simp), fun t _ => rfl⟩, A.defs, rfl⟩
      cases draw with
      | false =>
        simp only [Bool.false_eq_true, if_false] at hc
        cases hc
        obtain ⟨tr, r, R, h0, rfl, rfl, _, _⟩ := main _ _ _ rfl hx
        refine ⟨rfl, wp_region ?_⟩
        rw [List.range_eq_range']
        refine seq_ops hE hglob C hdst R hsim (by rw [h0]; exact A) hres (fun a' w' HJ => ?_) ops.size 0 a w (by omega) ((J0 (tr := tr) (r := r) rfl h0).congr fun j => by simp)
        obtain ⟨G', hp, hA⟩ := j_done C R (by rw [h0]; exact A) (fun a b h => by cases h) (fun i hi => by simpa using hi) HJ
        exact hQ G' a' w' hA (hfin rfl (Below.refl _ _) hp)
      | true =>
        simp only [if_true] at hc
        split at hc
        · rename_i hok
          simp only [Bool.and_eq_true] at hok
          obtain ⟨hedges, htmps, hchain, hswaps⟩ := hok
          cases hc
          obtain ⟨tr, r, R, h0, rfl, rfl, hchk, hsw⟩ := main _ _ _ rfl hx
          refine ⟨rfl, wp_region_any hmixed ?_⟩
          have B := bound_any R hchain hswaps hchk hsw
          have hrep : ∀ j, (Array.replicate ops.size false).getD j false = false := fun j => by
            by_cases hj : j < ops.size <;> simp [hj]
          refine any_ops (preOf_reach ops.toList [] [] (by simp) rfl (fun i j h => by simp at h)) hedges htmps hE hglob C hdst R B hsim (by rw [h0]; exact A) hres (fun S a' w' hS HJ => ?_) ops.size _ a _ (by simp) ?_ (fun i o hi => absurd (show (Array.replicate ops.size false).getD i false = true from hi) (by rw [hrep]; simp)) ((J0 (tr := tr) (r := r) (w0 := { w with drawn := w.drawn + 1 }) rfl h0).congr fun j => (hrep j).symm)
          · obtain ⟨G', hp, hA⟩ := j_done C R (by rw [h0]; exact A) (fun a b h => by
              rcases B.swap with h1 | ⟨a', b', h1, h2, h3, _⟩
              · rw [h] at h1; cases h1
              · rw [h] at h1; cases h1; exact ⟨h3, h2⟩) hS HJ
            exact hQ G' a' w' hA (hfin (w0 := { w with drawn := w.drawn + 1 }) rfl ⟨rfl, rfl, rfl, Nat.le_refl _, fun _ _ => rfl⟩ hp)
          · exact Nat.le_trans List.countP_le_length (by simp)
        · cases hc
    · cases hc
  · cases hc
end Go.CI
