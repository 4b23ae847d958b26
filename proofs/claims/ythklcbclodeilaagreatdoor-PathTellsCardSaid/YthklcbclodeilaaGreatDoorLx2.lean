/- What the functions of the law 'PathTells' do: part 2 of 4. -/
import Derived.Test.YthklcbclodeilaaGreatDoorLx1
namespace Go.Proofs.YthklcbclodeilaaGreatDoor.IrT
open Go Go.CI
set_option maxRecDepth 100000
set_option maxHeartbeats 4000000
set_option linter.unusedVariables false
set_option linter.unusedSimpArgs false
attribute [local irreducible] W Wo Wc WoR

theorem nd_mid {L1 i i2 L2 : List Nat} (h : (L1 ++ (i ++ L2)).Nodup) (h2 : i2.Nodup) (hs : ∀ q ∈ i2, q ∈ i ∨ (q ∉ L1 ∧ q ∉ L2)) : (L1 ++ (i2 ++ L2)).Nodup := by
  rw [List.nodup_append] at h ⊢
  obtain ⟨a1, a2, a3⟩ := h
  rw [List.nodup_append] at a2 ⊢
  obtain ⟨b1, b2, b3⟩ := a2
  refine ⟨a1, ⟨h2, b2, ?_⟩, ?_⟩
  · intro q hq r hr e
    subst e
    rcases hs q hq with g | g
    · exact b3 q g q hr rfl
    · exact g.2 hr
  · intro q hq r hr e
    subst e
    rcases List.mem_append.1 hr with g | g
    · rcases hs q g with g2 | g2
      · exact a3 q hq q (by simp [g2]) rfl
      · exact g2.1 hq
    · exact a3 q hq q (by simp [g]) rfl
theorem zids_mid {M : Type} (A B : List (Zr M)) (z : Zr M) : zids (A ++ z :: B) = zids A ++ (z.ids ++ zids B) := by simp [zids]
theorem fin_ {n : Nat} {zs : List (Zr (MT n))} {a va b vb c vc n0 : Nat} {X l' : List (Nat × CObj)} (ha : getEnt X a = some (.row va (zs.map fun z => .str z.nm))) (hb : getEnt X b = some (.row vb (zs.map Zr.wh))) (hc : getEnt X c = some (.row vc (zs.map (·.v)))) (hz : ∀ z ∈ zs, ZR n X z) (hR : RWS n0 X l') :
    MR (n + 1) (zs.map fun z => (z.nm, z.o)) (.agg [.ref a va 1 0 zs.length, .ref b vb 1 0 zs.length, .ref c vc 3 0 zs.length]) l' (a :: b :: c :: zids zs) :=
  .inr ⟨a, va, b, vb, c, vc, zs, rfl, rfl, hR.row _ _ _ ha, hR.row _ _ _ hb, hR.row _ _ _ hc, rfl, fun z h => (hz z h).rows fun q _ va es hq => hR.row q va es hq⟩
def upO (n : Nat) (ps : List (List UInt8)) (o : Option (MT n)) : Option (MT n) := match o with | none => none | some t => if ps.isEmpty then none else some (addT n t ps)
theorem st2 {n : Nat} (IH : AC n) {A B : List (Zr (MT n))} {z : Zr (MT n)} {x : List UInt8} {ps : List (List UInt8)} (hok : ∀ t, z.o = some t → (ps.isEmpty || okT n t ps) = true) (hpl : ps.length < 50) (hlen : (A ++ z :: B).length < 2000) {a va b vb c vc bx bo : Nat} {h : CHeap} (hf : Fit h)
    (hga : getEnt h.ents a = some (.row va ((A ++ z :: B).map fun z => .str z.nm))) (hgb : getEnt h.ents b = some (.row vb ((A ++ z :: B).map Zr.wh))) (hgc : getEnt h.ents c = some (.row vc ((A ++ z :: B).map (·.v)))) (hgx : getEnt h.ents bx = some (.cells [.ref a va 1 0 (A ++ z :: B).length, .ref b vb 1 0 (A ++ z :: B).length, .ref c vc 3 0 (A ++ z :: B).length])) (hgo : getEnt h.ents bo = some (.cells [.nils, .nils, .nils])) (hob : bo ≠ bx)
    (hnd : (a :: b :: c :: zids (A ++ z :: B)).Nodup) (hty : ∀ q ∈ a :: b :: c :: zids (A ++ z :: B), lookupN h.tys q = none) (hz : ∀ y ∈ (A ++ z :: B), ZR n h.ents y)
    {n0 : Nat} (hob0 : n0 ≤ bo) (hun : UnderT h.tys n0) (hn0 : n0 ≤ h.next) {v0 v3 v4 v6 v7 : CVal} {K : CVal → CHeap → Prop}
    (hk : ∀ v' h', Fit h' → h.next ≤ h'.next → h'.tys = h.tys → (∃ ids', MR (n + 1) (A.map (fun z => (z.nm, z.o)) ++ (z.nm, upO n ps z.o) :: B.map (fun z => (z.nm, z.o)) : List (List UInt8 × Option (MT n))) v' h'.ents ids' ∧ ids'.Nodup ∧ ∀ q ∈ ids', q ∈ a :: b :: c :: zids (A ++ z :: B) ∨ h.next ≤ q) →
      (∀ q, q < n0 → q ∉ a :: b :: c :: zids (A ++ z :: B) → getEnt h'.ents q = getEnt h.ents q) → K v' h') : W tree.getF swC ⟨[v0, .ptr bx 31457283 0, .imm .none 1 ((x :: ps).map .str), v3, v4, .int .i64 (A.length : Int), v6, v7, .ptr bo 31457283 0], h, []⟩ (fun x st' => thenW tree.getF adT (endW c14 n0 K) x st') := by
  have hfr := hf
  have n1 : a ≠ b := fun e => by subst e; simp at hnd
  have n2 : a ≠ c := fun e => by subst e; simp at hnd
  have n3 : b ≠ c := fun e => by subst e; simp at hnd
  have x1 : a ≠ bx := fun e => by rw [e, hgx] at hga; cases hga
  have x2 : b ≠ bx := fun e => by rw [e, hgx] at hgb; cases hgb
  have x3 : c ≠ bx := fun e => by rw [e, hgx] at hgc; cases hgc
  have hp : A.length < ((A ++ z :: B).map fun z => CVal.str z.nm).length := by simp
  have hl1 : ((A ++ z :: B).map fun z => CVal.str z.nm).length < 10000 := by rw [List.length_map]; omega
  have hl2 : ((A ++ z :: B).map Zr.wh).length = ((A ++ z :: B).map fun z => CVal.str z.nm).length := by simp
  have hl3 : ((A ++ z :: B).map (·.v)).length = ((A ++ z :: B).map fun z => CVal.str z.nm).length := by simp
  have hgx2 : getEnt h.ents bx = some (.cells [.ref a va 1 0 ((A ++ z :: B).map fun z => CVal.str z.nm).length, .ref b vb 1 0 ((A ++ z :: B).map Zr.wh).length, .ref c vc 3 0 ((A ++ z :: B).map (·.v)).length]) := by rw [hgx]; simp
  have hnw : nth ((A ++ z :: B).map Zr.wh) A.length = .bool z.o.isNone := by
    have := nth_mid (A.map Zr.wh) (B.map Zr.wh) z.wh
    simpa [Zr.wh] using this
  have hnv : nth ((A ++ z :: B).map (·.v)) A.length = z.v := by
    have := nth_mid (A.map (·.v)) (B.map (·.v)) z.v
    simpa using this
  have hsv : ∀ y, setNth ((A ++ z :: B).map (·.v)) A.length y = A.map (·.v) ++ y :: B.map (·.v) := fun y => by
    have := setNth_mid (A.map (·.v)) (B.map (·.v)) z.v y
    simpa using this
  have hsw : ∀ y, setNth ((A ++ z :: B).map Zr.wh) A.length y = A.map Zr.wh ++ y :: B.map Zr.wh := fun y => by
    have := setNth_mid (A.map Zr.wh) (B.map Zr.wh) z.wh y
    simpa using this
  have hzz := hz z (by simp)
  cases ho : z.o with
  | none =>
    rw [ho] at hnw
    refine adS_whole hp hl1 hl2 hl3 hf hga hgb hgc hgx2 n1 n2 n3 x1 x2 x3 hgo hob hob0 hun hn0 hnw fun l' n' g hu hR => ?_
    refine hk _ _ ⟨hu, hf.2.le g⟩ g rfl ⟨_, ?_, hnd, fun q hq => .inl hq⟩ fun q hq _ => hR.lt q hq
    have := fin_ hga hgb hgc hz hR
    simpa [ho, upO] using this
  | some t =>
    rw [ho] at hnw
    have hnd2 : ((a :: b :: c :: zids A) ++ (z.ids ++ zids B)).Nodup := by rw [zids_mid] at hnd; exact hnd
    have hM : MR n t z.v h.ents z.ids := by unfold ZR at hzz; simp only [ho] at hzz; exact hzz
    obtain ⟨r0, r1, r2, hv, q0, q1, q2⟩ := hM.nr
    have hnv2 : nth ((A ++ z :: B).map (·.v)) A.length = .agg [r0, r1, r2] := by rw [hnv, hv]
    have hin : ∀ q, q ∈ zids (A ++ z :: B) ↔ q ∈ zids A ∨ q ∈ z.ids ∨ q ∈ zids B := fun q => by rw [zids_mid]; simp
    have hlt : ∀ y ∈ (A ++ z :: B), ∀ q ∈ y.ids, q < h.next ∧ q ≠ b ∧ q ≠ c := fun y hy q hq => by
      have hm : q ∈ zids (A ++ z :: B) := by unfold zids; exact List.mem_flatMap.2 ⟨y, hy, hq⟩
      refine ⟨?_, fun e => ?_, fun e => ?_⟩
      · have h8 := hz y hy
        unfold ZR at h8
        cases hy2 : y.o with
        | none => simp only [hy2] at h8; rw [h8.2] at hq; cases hq
        | some t2 =>
          simp only [hy2] at h8
          obtain ⟨_, _, h9⟩ := h8.row q hq
          exact in_under hf.1 h9
      · subst e; simp [hm] at hnd
      · subst e; simp [hm] at hnd
    cases hps : ps with
    | nil =>
      subst hps
      refine adS_one hp hl1 hl2 hl3 hf hga hgb hgc hgx2 n1 n2 n3 x1 x2 x3 hgo hob hob0 hun hn0 hnw hnv2 rfl fun l' n' g hu hR => ?_
      have e1 := fin_ (zs := A ++ (⟨z.nm, none, nil3, []⟩ : Zr (MT n)) :: B) (a := a) (va := va) (b := b) (vb := vb) (c := c) (vc := vc) ?_ ?_ ?_ ?_ hR
      · refine hk _ _ ⟨hu, hf.2.le g⟩ g rfl ⟨a :: b :: c :: zids (A ++ (⟨z.nm, none, nil3, []⟩ : Zr (MT n)) :: B), ?_, ?_, fun q hq => .inl ?_⟩ fun q hq hqi => ?_
        · simpa [ho, upO] using e1
        · rw [zids_mid]
          exact nd_mid (L1 := a :: b :: c :: zids A) hnd2 List.nodup_nil (fun q hq => by cases hq)
        · rw [zids_mid] at hq ⊢
          simp at hq ⊢
          rcases hq with h1 | h1 | h1 | h1 | h1 <;> simp [h1]
        · simp at hqi
          rw [hR.lt q hq, getEnt_setEnt_ne hqi.2.2.1, getEnt_setEnt_ne hqi.2.1]
      · rw [getEnt_setEnt_ne n2, getEnt_setEnt_ne n1, hga]; simp
      · rw [getEnt_setEnt_ne n3, sy_getEnt_setEnt hgb, hsw]; simp [Zr.wh]
      · rw [sy_getEnt_setEnt ((getEnt_setEnt_ne (Ne.symm n3)).trans hgc), hsv]; simp
      · intro y hy
        simp only [List.mem_append, List.mem_cons] at hy
        rcases hy with hy | rfl | hy
        · have hy2 : y ∈ (A ++ z :: B) := by simp [hy]
          exact (hz y hy2).rows fun q hq va es h9 => by rw [getEnt_setEnt_ne (hlt y hy2 q hq).2.2, getEnt_setEnt_ne (hlt y hy2 q hq).2.1]; exact h9
        · exact ⟨rfl, rfl⟩
        · have hy2 : y ∈ (A ++ z :: B) := by simp [hy]
          exact (hz y hy2).rows fun q hq va es h9 => by rw [getEnt_setEnt_ne (hlt y hy2 q hq).2.2, getEnt_setEnt_ne (hlt y hy2 q hq).2.1]; exact h9
    | cons p0 pr =>
      have hne : ps ≠ [] := by rw [hps]; simp
      have hie : ps.isEmpty = false := by rw [hps]; rfl
      have hokt : okT n t ps = true := by have := hok t ho; rw [hie] at this; simpa using this
      rw [← hps]
      have hndz : z.ids.Nodup := by
        rw [List.nodup_append] at hnd2
        exact (List.nodup_append.1 hnd2.2.1).1
      have hzl : ∀ q ∈ z.ids, q < h.next ∧ q ≠ b ∧ q ≠ c := hlt z (by simp)
      have hca : c ∉ z.ids := fun hc => (hzl c hc).2.2 rfl
      have hba : b ∉ z.ids := fun hc => (hzl b hc).2.1 rfl
      have haa : a ∉ z.ids := fun hc => by
        have hm : a ∈ zids (A ++ z :: B) := (hin a).2 (.inr (.inl hc))
        simp [hm] at hnd
      have hxz : bx ∉ z.ids := fun hc => by obtain ⟨_, _, h9⟩ := hM.row bx hc; rw [hgx] at h9; cases h9
      have hoz : bo ∉ z.ids := fun hc => by obtain ⟨_, _, h9⟩ := hM.row bo hc; rw [hgo] at h9; cases h9
      have lx := in_under hf.1 hgx
      have lo := in_under hf.1 hgo
      have la := in_under hf.1 hga
      have lb := in_under hf.1 hgb
      have lc := in_under hf.1 hgc
      refine sw_rec hp hl1 hl2 hl3 hf hga hgb hgc hgx2 n1 n2 n3 x1 x2 x3 v0 v3 v4 v6 v7 hnw hnv2 q0 q1 q2 hne (by omega) (P := fun v' h' => ∃ m1, h.next ≤ m1 ∧ AR n (addT n t ps) ⟨h.ents, m1, h.tys⟩ z.ids v' h') (fun m1 K' hm1 hK => ?_) fun v6 v7 v' h' n' hf' g hP => ?_
      · rw [← hv]
        refine IH t z.v ⟨h.ents, m1, h.tys⟩ z.ids ps hokt ⟨hf.1.le hm1, hf.2.le hm1⟩ hM hndz (fun q hq => hty q (by simp [(hin q).2 (.inr (.inl hq))])) K' fun v' h' R => ?_
        obtain ⟨ids', hm, _, _⟩ := R.mr
        obtain ⟨w0, w1, w2, rfl, y0, y1, y2⟩ := hm.nr
        exact hK w0 w1 w2 h' R.fit R.nx ((R.fr c (Nat.lt_of_lt_of_le lc hm1) hca).trans hgc) ((R.fr bx (Nat.lt_of_lt_of_le lx hm1) hxz).trans hgx2) y0 y1 y2 ⟨m1, hm1, R⟩
      · obtain ⟨m1, hm1, R⟩ := hP
        obtain ⟨ids', hm, hnd', hsub⟩ := R.mr
        have hnx : h.next ≤ h'.next := Nat.le_trans hm1 R.nx
        have gC : getEnt h'.ents c = _ := (R.fr c (Nat.lt_of_lt_of_le lc hm1) hca).trans hgc
        have gX : getEnt h'.ents bx = _ := (R.fr bx (Nat.lt_of_lt_of_le lx hm1) hxz).trans hgx2
        have gO : getEnt h'.ents bo = _ := (R.fr bo (Nat.lt_of_lt_of_le lo hm1) hoz).trans hgo
        have gA : getEnt h'.ents a = _ := (R.fr a (Nat.lt_of_lt_of_le la hm1) haa).trans hga
        have gB : getEnt h'.ents b = _ := (R.fr b (Nat.lt_of_lt_of_le lb hm1) hba).trans hgb
        have hbc2 : bo ≠ c := fun e => by rw [e, hgc] at hgo; cases hgo
        have hu1 : Under (setEnt h'.ents c (.row vc (setNth ((A ++ z :: B).map (·.v)) A.length v'))) n' := hf'.1.set.le g
        have gO2 : getEnt (setEnt h'.ents c (.row vc (setNth ((A ++ z :: B).map (·.v)) A.length v'))) bo = some (.cells [.nils, .nils, .nils]) := by rw [getEnt_setEnt_ne hbc2]; exact gO
        refine ad_end (hh := ⟨setEnt h'.ents c (.row vc (setNth ((A ++ z :: B).map (·.v)) A.length v')), n', h'.tys⟩) ⟨hu1, hf'.2.le g⟩ (.inr ⟨_, _, _, _, rfl⟩) (.inr ⟨_, _, _, _, rfl⟩) (.inr ⟨_, _, _, _, rfl⟩) (by dsimp only; rw [getEnt_setEnt_ne (Ne.symm x3)]; exact gX) gO2 hob (by have := R.ty; dsimp only at this ⊢; rw [this]; exact hun) (Nat.le_trans hn0 (Nat.le_trans hnx g)) fun n'' g2 => ?_
        have hR : RWS n0 (setEnt h'.ents c (.row vc (setNth ((A ++ z :: B).map (·.v)) A.length v'))) _ := RWS.end (x := .cells [.ref a va 1 0 ((A ++ z :: B).map fun z => CVal.str z.nm).length, .ref b vb 1 0 ((A ++ z :: B).map Zr.wh).length, .ref c vc 3 0 ((A ++ z :: B).map (·.v)).length]) hob0 fun va es h9 => by rw [gO2] at h9; cases h9
        have hkeep : ∀ y ∈ (A ++ z :: B), (∀ q ∈ y.ids, q ∉ z.ids) → ZR n (setEnt h'.ents c (.row vc (setNth ((A ++ z :: B).map (·.v)) A.length v'))) y := fun y hy hd =>
          (hz y hy).rows fun q hq va es h9 => by rw [getEnt_setEnt_ne (hlt y hy q hq).2.2, R.fr q (Nat.lt_of_lt_of_le (hlt y hy q hq).1 hm1) (hd q hq)]; exact h9
        have hd3 := List.nodup_append.1 hnd2
        have hd4 := List.nodup_append.1 hd3.2.1
        have e1 := fin_ (zs := A ++ (⟨z.nm, some (addT n t ps), v', ids'⟩ : Zr (MT n)) :: B) (a := a) (va := va) (b := b) (vb := vb) (c := c) (vc := vc) ?_ ?_ ?_ ?_ hR
        · refine hk _ _ ⟨dc_under (hu1.le g2).set, hf'.2.le (Nat.le_trans g g2)⟩ (Nat.le_trans hnx (Nat.le_trans g g2)) R.ty ⟨a :: b :: c :: zids (A ++ (⟨z.nm, some (addT n t ps), v', ids'⟩ : Zr (MT n)) :: B), ?_, ?_, fun q hq => ?_⟩ fun q hq hqi => ?_
          · simpa [ho, upO, hie] using e1
          · rw [zids_mid]
            refine nd_mid (L1 := a :: b :: c :: zids A) hnd2 hnd' fun q hq => ?_
            rcases hsub q hq with h1 | h1
            · exact .inl h1
            · refine .inr ⟨fun h2 => ?_, fun h2 => ?_⟩
              · simp only [List.mem_cons] at h2
                rcases h2 with rfl | rfl | rfl | h2
                · dsimp only at h1; omega
                · dsimp only at h1; omega
                · dsimp only at h1; omega
                · obtain ⟨y, hy, hq2⟩ := List.mem_flatMap.1 h2
                  have := (hlt y (by simp [hy]) q hq2).1
                  dsimp only at h1; omega
              · obtain ⟨y, hy, hq2⟩ := List.mem_flatMap.1 h2
                have := (hlt y (by simp [hy]) q hq2).1
                dsimp only at h1; omega
          · rw [zids_mid] at hq
            simp only [List.mem_cons, List.mem_append] at hq
            rcases hq with h1 | h1 | h1 | h1 | h1 | h1
            · exact .inl (by simp [h1])
            · exact .inl (by simp [h1])
            · exact .inl (by simp [h1])
            · exact .inl (by simp [(hin q).2 (.inl h1)])
            · rcases hsub q h1 with h2 | h2
              · exact .inl (by simp [(hin q).2 (.inr (.inl h2))])
              · exact .inr (Nat.le_trans hm1 h2)
            · exact .inl (by simp [(hin q).2 (.inr (.inr h1))])
          · have hq2 : q ∉ z.ids := fun h2 => hqi (by simp [(hin q).2 (.inr (.inl h2))])
            simp only [List.mem_cons, not_or] at hqi
            rw [hR.lt q hq, getEnt_setEnt_ne hqi.2.2.1]
            exact R.fr q (by dsimp only; omega) hq2
        · rw [getEnt_setEnt_ne n2, gA]; simp
        · rw [getEnt_setEnt_ne n3, gB]; simp [Zr.wh, ho]
        · rw [sy_getEnt_setEnt gC, hsv]; simp
        · intro y hy
          simp only [List.mem_append, List.mem_cons] at hy
          rcases hy with hy | rfl | hy
          · refine hkeep y (by simp [hy]) fun q hq hq2 => ?_
            exact hd3.2.2 q (by simp only [List.mem_cons, zids, List.mem_flatMap]; exact .inr (.inr (.inr ⟨y, hy, hq⟩))) q (by simp [hq2]) rfl
          · show MR n _ _ _ _
            refine hm.rows fun q hq va es h9 => ?_
            have hqc : q ≠ c := fun e => by
              subst e
              rcases hsub q hq with h1 | h1
              · exact hca h1
              · dsimp only at h1; omega
            rw [getEnt_setEnt_ne hqc]; exact h9
          · refine hkeep y (by simp [hy]) fun q hq hq2 => ?_
            exact hd4.2.2 q hq2 q (by simp only [zids, List.mem_flatMap]; exact ⟨y, hy, hq⟩) rfl
end Go.Proofs.YthklcbclodeilaaGreatDoor.IrT
namespace Go.Proofs.YthklcbclodeilaaGreatDoor.IrT
open Go Go.CI
set_option maxRecDepth 100000
set_option maxHeartbeats 4000000
set_option linter.unusedVariables false
set_option linter.unusedSimpArgs false
attribute [local irreducible] W Wo Wc WoR

theorem getEnt_skip {i q : Nat} {o : CObj} {l : List (Nat × CObj)} (h : i ≠ q) : getEnt ((i, o) :: l) q = getEnt l q := by simp [getEnt, h]
theorem hpos_of {M : Type} {A R : List (Zr M)} {x : List UInt8} (hA : ∀ y ∈ A, bytesLt y.nm x = true) (hR : ∀ y ∈ R, bytesLt y.nm x = false) : ∀ k y, ((A ++ R).map (·.nm))[k]? = some y → bytesLt y x = decide (k < A.length) := by
  intro k y h
  rw [List.getElem?_map] at h
  obtain ⟨w, h1, h2⟩ := Option.map_eq_some_iff.1 h
  subst h2
  rcases Nat.lt_or_ge k A.length with g | g
  · rw [List.getElem?_append_left g] at h1
    rw [hA w (List.mem_of_getElem? h1)]; simp [g]
  · rw [List.getElem?_append_right g] at h1
    rw [hR w (List.mem_of_getElem? h1)]; simp; omega
theorem bsZ_in {M : Type} {A B : List (Zr M)} {z : Zr M} {a va L : Nat} (hL : (A ++ z :: B).length = L) {x : List UInt8} (hl : (A ++ z :: B).length < 2000) (hA : ∀ y ∈ A, bytesLt y.nm x = true) (hR : ∀ y ∈ z :: B, bytesLt y.nm x = false) (hx : z.nm = x) {h : CHeap} (hf : Fit h) (hg : getEnt h.ents a = some (.row va ((A ++ z :: B).map fun z => .str z.nm))) {K : CVal → CHeap → Prop} (hk : ∀ n', h.next ≤ n' → K (.tup [.int .i64 (A.length : Int), .bool true]) ⟨h.ents, n', h.tys⟩) : Wc tree.getF 28 [.ref a va 1 0 L, .str x] h K := by
  subst hL
  have := bs_in (a := a) (va := va) (l := (A ++ z :: B).map (·.nm)) (t := x) (pos := A.length) (K := K) (by rw [List.length_map]; omega) (hpos_of hA hR) hf (by rw [hg, List.map_map]; rfl) (in_under hf.1 hg) (by simp) (by simp [hx]) hk
  rwa [List.length_map] at this
theorem bsZ_out {M : Type} {A B : List (Zr M)} {a va L : Nat} (hL : (A ++ B).length = L) {x : List UInt8} (hl : (A ++ B).length < 2000) (hA : ∀ y ∈ A, bytesLt y.nm x = true) (hR : ∀ y ∈ B, bytesLt y.nm x = false) (hx : ∀ z r, B = z :: r → (z.nm == x) = false) {h : CHeap} (hf : Fit h) (hg : getEnt h.ents a = some (.row va ((A ++ B).map fun z => .str z.nm))) {K : CVal → CHeap → Prop} (hk : ∀ n', h.next ≤ n' → K (.tup [.int .i64 (A.length : Int), .bool false]) ⟨h.ents, n', h.tys⟩) : Wc tree.getF 28 [.ref a va 1 0 L, .str x] h K := by
  subst hL
  cases hB : B with
  | nil =>
    subst hB
    have := bs_end (a := a) (va := va) (l := (A ++ ([] : List (Zr M))).map (·.nm)) (t := x) (pos := A.length) (K := K) (by rw [List.length_map]; omega) (hpos_of hA hR) hf (by rw [hg, List.map_map]; rfl) (in_under hf.1 hg) (by simp) (by simp) hk
    rwa [List.length_map] at this
  | cons z r =>
    subst hB
    have := bs_out (a := a) (va := va) (l := (A ++ z :: r).map (·.nm)) (t := x) (pos := A.length) (K := K) (by rw [List.length_map]; omega) (hpos_of hA hR) hf (by rw [hg, List.map_map]; rfl) (in_under hf.1 hg) (by simp) (x := z.nm) (by simp) (hx z r rfl) hk
    rwa [List.length_map] at this

theorem ad_f {n : Nat} (IH : AC n) {A B : List (Zr (MT n))} {z : Zr (MT n)} {x : List UInt8} {ps : List (List UInt8)} (hpl : ps.length < 50) {a va b vb c vc : Nat} {h : CHeap} (hf : Fit h) {L : Nat} (hL : (A ++ z :: B).length = L) (hok : ∀ t, z.o = some t → (ps.isEmpty || okT n t ps) = true) (hlen : (A ++ z :: B).length < 2000) (hA : ∀ y ∈ A, bytesLt y.nm x = true) (hR : ∀ y ∈ z :: B, bytesLt y.nm x = false) (hx : z.nm = x)
    (hga : getEnt h.ents a = some (.row va ((A ++ z :: B).map fun z => .str z.nm))) (hgb : getEnt h.ents b = some (.row vb ((A ++ z :: B).map Zr.wh))) (hgc : getEnt h.ents c = some (.row vc ((A ++ z :: B).map (·.v))))
    (hnd : (a :: b :: c :: zids (A ++ z :: B)).Nodup) (hty : ∀ q ∈ a :: b :: c :: zids (A ++ z :: B), lookupN h.tys q = none) (hz : ∀ y ∈ (A ++ z :: B), ZR n h.ents y) {K : CVal → CHeap → Prop} (hk : ∀ v' h', AR (n + 1) (A.map (fun z => (z.nm, z.o)) ++ (z.nm, upO n ps z.o) :: B.map (fun z => (z.nm, z.o)) : List (List UInt8 × Option (MT n))) h (a :: b :: c :: zids (A ++ z :: B)) v' h' → K v' h') : Wc tree.getF 14 [(.agg [.ref a va 1 0 L, .ref b vb 1 0 L, .ref c vc 3 0 L]), .imm .none 1 ((x :: ps).map .str)] h K := by
  obtain ⟨hu, hut, hX⟩ := fx4 hf
  have la := in_under hf.1 hga
  have lb := in_under hf.1 hgb
  have lc := in_under hf.1 hgc
  have hz2 : ∀ q ∈ zids (A ++ z :: B), q < h.next := fun q hq => by
    obtain ⟨y, hy, hq2⟩ := List.mem_flatMap.1 hq
    have h8 := hz y hy
    unfold ZR at h8
    cases hy2 : y.o with
    | none => simp only [hy2] at h8; rw [h8.2] at hq2; cases hq2
    | some t2 => simp only [hy2] at h8; obtain ⟨_, _, h9⟩ := h8.row q hq2; exact in_under hf.1 h9
  have hz3 : ∀ q ∈ a :: b :: c :: zids (A ++ z :: B), q < h.next := fun q hq => by
    simp only [List.mem_cons] at hq
    rcases hq with rfl | rfl | rfl | hq
    · exact la
    · exact lb
    · exact lc
    · exact hz2 q hq
  refine Wc.mkG 14 c14 (by kernel_rfl) rfl ?_
  generalize e : entryC .. = r
  simp (disch := omega) [c14] at e
  subst e
  repeat (fail_if_success (show W tree.getF swC _ _)
          first
    | refine st_ rfl ?_
    | ((first | refine W.regG ?_ | refine WoR.go ?_); generalize e : goR .. = r; simp (disch := omega) [hX, hga, hgb, hgc, c14] at e; replace e : some _ = _ := e; subst e; (try dsimp only [goW]))
    | (refine bsZ_in hL hlen hA hR hx ft_ (by simp (disch := omega) [getEnt, hga]) fun _ g => ⟨rfl, ?_⟩; (try dsimp only at g)))
  refine st2 (va := va) (vb := vb) (vc := vc) (h := ⟨_, _, _⟩) IH hok hpl hlen ?_ ?_ ?_ ?_ ?_ ?_ ?_ hnd ?_ ?_ ?_ ?_ ?_ fun v' h' F N T M G => ?_
  · exact ft_
  · dsimp only; rw [getEnt_skip (by omega), getEnt_skip (by omega)]; exact hga
  · dsimp only; rw [getEnt_skip (by omega), getEnt_skip (by omega)]; exact hgb
  · dsimp only; rw [getEnt_skip (by omega), getEnt_skip (by omega)]; exact hgc
  · rw [hL]; simp [getEnt]
  · simp [getEnt]
  · omega
  · exact hty
  · intro y hy
    refine (hz y hy).rows fun q hq va es h9 => ?_
    have := hz2 q (List.mem_flatMap.2 ⟨y, hy, hq⟩)
    dsimp only; rw [getEnt_skip (by omega), getEnt_skip (by omega)]; exact h9
  · omega
  · exact hut
  · (try dsimp only); omega
  · dsimp only at N T M G
    refine hk v' h' ⟨F, by omega, T, ?_, fun q hq hqi => ?_⟩
    · obtain ⟨ids', m1, m2, m3⟩ := M
      refine ⟨ids', m1, m2, fun q hq => ?_⟩
      rcases m3 q hq with h1 | h1
      · exact .inl h1
      · exact .inr (by omega)
    · rw [G q hq hqi, getEnt_skip (by omega), getEnt_skip (by omega)]
end Go.Proofs.YthklcbclodeilaaGreatDoor.IrT
namespace Go.Proofs.YthklcbclodeilaaGreatDoor.IrT
open Go Go.CI
set_option maxRecDepth 100000
set_option maxHeartbeats 4000000
set_option linter.unusedVariables false
set_option linter.unusedSimpArgs false
attribute [local irreducible] W Wo Wc WoR
theorem ins_st {a va b vb c vc bx bo : Nat} {ns ws ss : List CVal} {x : List UInt8} {ps : List (List UInt8)} {p : Nat} (hp : p ≤ ns.length) (hnl : ns.length < 10000) (hw : ws.length = ns.length) (hs : ss.length = ns.length) {h : CHeap} (hf : Fit h)
    (hga : getEnt h.ents a = some (.row va ns)) (hgb : getEnt h.ents b = some (.row vb ws)) (hgc : getEnt h.ents c = some (.row vc ss)) (hgx : getEnt h.ents bx = some (.cells [.ref a va 1 0 ns.length, .ref b vb 1 0 ws.length, .ref c vc 3 0 ss.length]))
    (hab : a ≠ b) (hac : a ≠ c) (hbc : b ≠ c) (hax : a ≠ bx) (hbx : b ≠ bx) (hcx : c ≠ bx) (hta : lookupN h.tys a = none) (htb : lookupN h.tys b = none) (htc : lookupN h.tys c = none) (v0 v3 v4 v6 v7 : CVal) {Q : CExit → CSt → Prop}
    (hk : ∀ E1 n', h.next ≤ n' → Under E1 n' → getEnt E1 a = some (.row (va + 1) (ns.take p ++ .str x :: ns.drop p)) → getEnt E1 b = some (.row (vb + 1) (ws.take p ++ .bool false :: ws.drop p)) → getEnt E1 c = some (.row (vc + 1) (ss.take p ++ nil3 :: ss.drop p)) →
      getEnt E1 bx = some (.cells [.ref a (va + 1) 1 0 (ns.length + 1), .ref b (vb + 1) 1 0 (ws.length + 1), .ref c (vc + 1) 3 0 (ss.length + 1)]) → (∀ q, q ≠ a → q ≠ b → q ≠ c → q ≠ bx → getEnt E1 q = getEnt h.ents q) → Q .normal ⟨[v0, .ptr bx 31457283 0, .imm .none 1 ((x :: ps).map .str), v3, v4, .int .i64 (p : Int), v6, v7, .ptr bo 31457283 0], ⟨E1, n', h.tys⟩, []⟩) : W tree.getF insC ⟨[v0, .ptr bx 31457283 0, .imm .none 1 ((x :: ps).map .str), v3, v4, .int .i64 (p : Int), v6, v7, .ptr bo 31457283 0], h, []⟩ Q := by
  refine ins_ref hp hnl hw hs hf hga hgb hgc hgx hab hac hbc hax hbx hcx hta htb htc v0 v3 v4 v6 v7 fun n' g => ?_
  have Na := Ne.symm hax
  have Nb := Ne.symm hbx
  have Nc := Ne.symm hcx
  have Nba := Ne.symm hab
  have Nca := Ne.symm hac
  have Ncb := Ne.symm hbc
  have P1 := fun (y : CObj) => (getEnt_setEnt_ne (x := y) (l := h.ents) (m := a) (n := bx) Na).trans hgx
  have P2 := fun (y z : CObj) => sy_getEnt_setEnt (x := z) (P1 y)
  have P3 := fun (y z w : CObj) => (getEnt_setEnt_ne (x := w) (m := b) (n := bx) Nb).trans (P2 y z)
  have P4 := fun (y z w u : CObj) => sy_getEnt_setEnt (x := u) (P3 y z w)
  have P5 := fun (y z w u t : CObj) => (getEnt_setEnt_ne (x := t) (m := c) (n := bx) Nc).trans (P4 y z w u)
  refine hk _ n' g ?_ ?_ ?_ ?_ ?_ ?_
  · exact (hf.1.set.set.set.set.set.set).le g
  · rw [getEnt_setEnt_ne hax, getEnt_setEnt_ne hac, getEnt_setEnt_ne hax, getEnt_setEnt_ne hab, getEnt_setEnt_ne hax, sy_getEnt_setEnt hga]
  · rw [getEnt_setEnt_ne hbx, getEnt_setEnt_ne hbc, getEnt_setEnt_ne hbx]
    exact sy_getEnt_setEnt ((getEnt_setEnt_ne hbx).trans ((getEnt_setEnt_ne Nba).trans hgb))
  · rw [getEnt_setEnt_ne hcx]
    exact sy_getEnt_setEnt ((getEnt_setEnt_ne hcx).trans ((getEnt_setEnt_ne Ncb).trans ((getEnt_setEnt_ne hcx).trans ((getEnt_setEnt_ne Nca).trans hgc))))
  · exact sy_getEnt_setEnt (P5 _ _ _ _ _)
  · intro q h1 h2 h3 h4
    rw [getEnt_setEnt_ne h4, getEnt_setEnt_ne h3, getEnt_setEnt_ne h4, getEnt_setEnt_ne h2, getEnt_setEnt_ne h4, getEnt_setEnt_ne h1]

theorem ad_o {n : Nat} (IH : AC n) {A B : List (Zr (MT n))} {x : List UInt8} {ps : List (List UInt8)} (hpl : ps.length < 50) {a va b vb c vc : Nat} {h : CHeap} (hf : Fit h) {L : Nat} (hL : (A ++ B).length = L) (hok : (ps.isEmpty || okT n (empT n) ps) = true) (hlen : (A ++ B).length < 1000) (hA : ∀ y ∈ A, bytesLt y.nm x = true) (hR : ∀ y ∈ B, bytesLt y.nm x = false) (hx : ∀ z r, B = z :: r → (z.nm == x) = false)
    (hga : getEnt h.ents a = some (.row va ((A ++ B).map fun z => .str z.nm))) (hgb : getEnt h.ents b = some (.row vb ((A ++ B).map Zr.wh))) (hgc : getEnt h.ents c = some (.row vc ((A ++ B).map (·.v))))
    (hnd : (a :: b :: c :: zids (A ++ B)).Nodup) (hty : ∀ q ∈ a :: b :: c :: zids (A ++ B), lookupN h.tys q = none) (hz : ∀ y ∈ (A ++ B), ZR n h.ents y) {K : CVal → CHeap → Prop} (hk : ∀ v' h', AR (n + 1) (A.map (fun z => (z.nm, z.o)) ++ (x, upO n ps (some (empT n))) :: B.map (fun z => (z.nm, z.o)) : List (List UInt8 × Option (MT n))) h (a :: b :: c :: zids (A ++ B)) v' h' → K v' h') : Wc tree.getF 14 [(.agg [.ref a va 1 0 L, .ref b vb 1 0 L, .ref c vc 3 0 L]), .imm .none 1 ((x :: ps).map .str)] h K := by
  obtain ⟨hu, hut, hX⟩ := fx4 hf
  have la := in_under hf.1 hga
  have lb := in_under hf.1 hgb
  have lc := in_under hf.1 hgc
  have hz2 : ∀ q ∈ zids (A ++ B), q < h.next := fun q hq => by
    obtain ⟨y, hy, hq2⟩ := List.mem_flatMap.1 hq
    have h8 := hz y hy
    unfold ZR at h8
    cases hy2 : y.o with
    | none => simp only [hy2] at h8; rw [h8.2] at hq2; cases hq2
    | some t2 => simp only [hy2] at h8; obtain ⟨_, _, h9⟩ := h8.row q hq2; exact in_under hf.1 h9
  refine Wc.mkG 14 c14 (by kernel_rfl) rfl ?_
  generalize e : entryC .. = r
  simp (disch := omega) [c14] at e
  subst e
  repeat (fail_if_success (first | show W tree.getF swC _ _ | show W tree.getF insC _ _)
          first
    | refine st_ rfl ?_
    | ((first | refine W.regG ?_ | refine WoR.go ?_); generalize e : goR .. = r; simp (disch := omega) [hX, hga, hgb, hgc, c14] at e; replace e : some _ = _ := e; subst e; (try dsimp only [goW]))
    | (refine bsZ_out hL (by omega) hA hR hx ft_ (by simp (disch := omega) [getEnt, hga]) fun _ g => ⟨rfl, ?_⟩; (try dsimp only at g)))
  refine ins_st (a := a) (b := b) (c := c) (va := va) (vb := vb) (vc := vc) (ns := (A ++ B).map fun z => .str z.nm) (ws := (A ++ B).map Zr.wh) (ss := (A ++ B).map (·.v)) (h := ⟨_, _, _⟩) ?_ ?_ ?_ ?_ ?_ ?_ ?_ ?_ ?_ ?_ ?_ ?_ ?_ ?_ ?_ ?_ ?_ ?_ _ _ _ _ _ fun E1 n' g2 u1 ga gb gc gx gq => ?_
  · simp
  · rw [List.length_map]; omega
  · simp
  · simp
  · exact ft_
  · dsimp only; rw [getEnt_skip (by omega), getEnt_skip (by omega)]; exact hga
  · dsimp only; rw [getEnt_skip (by omega), getEnt_skip (by omega)]; exact hgb
  · dsimp only; rw [getEnt_skip (by omega), getEnt_skip (by omega)]; exact hgc
  · simp only [List.length_map]; rw [hL]; simp [getEnt]
  · exact fun e => by subst e; simp at hnd
  · exact fun e => by subst e; simp at hnd
  · exact fun e => by subst e; simp at hnd
  · omega
  · omega
  · omega
  · exact hty a (by simp)
  · exact hty b (by simp)
  · exact hty c (by simp)
  · dsimp only at g2 gq
    refine st_ rfl ?_
    have hzz : zids (A ++ (⟨x, some (empT n), nil3, []⟩ : Zr (MT n)) :: B) = zids (A ++ B) := by rw [zids_mid]; simp [zids]
    have tk : ∀ {β : Type} (f : Zr (MT n) → β), (List.map f (A ++ B)).take A.length = A.map f := fun f => by rw [← List.map_take, List.take_left']; rfl
    have dk : ∀ {β : Type} (f : Zr (MT n) → β), (List.map f (A ++ B)).drop A.length = B.map f := fun f => by rw [← List.map_drop, List.drop_left']; rfl
    simp only [tk, dk, List.length_map, hL] at ga gb gc gx
    have hL1 : (A ++ (⟨x, some (empT n), nil3, []⟩ : Zr (MT n)) :: B).length = L + 1 := by rw [← hL]; simp; omega
    have hq0 : ∀ q, q < h.next → q ≠ a → q ≠ b → q ≠ c → getEnt E1 q = getEnt h.ents q := fun q h1 h2 h3 h4 => by
      rw [gq q h2 h3 h4 (by omega), getEnt_skip (by omega), getEnt_skip (by omega)]
    refine st2 (A := A) (B := B) (z := (⟨x, some (empT n), nil3, []⟩ : Zr (MT n))) (a := a) (b := b) (c := c) (va := va + 1) (vb := vb + 1) (vc := vc + 1) (h := ⟨_, _, _⟩) IH (fun t ht => by cases ht; exact hok) hpl (by rw [hL1]; omega) ?_ ?_ ?_ ?_ ?_ ?_ ?_ (by rw [hzz]; exact hnd) ?_ ?_ ?_ ?_ ?_ fun v' h' F N T M G => ?_
    · exact ⟨u1, hut.le (by (try dsimp only); omega)⟩
    · rw [List.map_append, List.map_cons]; exact ga
    · rw [List.map_append, List.map_cons]; exact gb
    · rw [List.map_append, List.map_cons]; exact gc
    · rw [hL1]; exact gx
    · dsimp only; rw [gq _ (by omega) (by omega) (by omega) (by omega)]; simp [getEnt]
    · omega
    · rw [hzz]; exact hty
    · intro y hy
      simp only [List.mem_append, List.mem_cons] at hy
      have hk2 : ∀ y ∈ A ++ B, ZR n E1 y := fun y hy => (hz y hy).rows fun q hq va es h9 => by
        have hm : q ∈ zids (A ++ B) := List.mem_flatMap.2 ⟨y, hy, hq⟩
        rw [hq0 q (hz2 q hm) (fun e => by subst e; simp [hm] at hnd) (fun e => by subst e; simp [hm] at hnd) (fun e => by subst e; simp [hm] at hnd)]; exact h9
      rcases hy with hy | rfl | hy
      · exact hk2 y (by simp [hy])
      · exact MR.emp n E1
      · exact hk2 y (by simp [hy])
    · omega
    · exact hut
    · (try dsimp only); omega
    · dsimp only at N T M G
      rw [hzz] at M G
      refine hk v' h' ⟨F, by omega, T, ?_, fun q hq hqi => ?_⟩
      · obtain ⟨ids', m1, m2, m3⟩ := M
        refine ⟨ids', m1, m2, fun q hq => ?_⟩
        rcases m3 q hq with h1 | h1
        · exact .inl h1
        · exact .inr (by omega)
      · rw [G q hq hqi]
        simp only [List.mem_cons, not_or] at hqi
        exact hq0 q hq hqi.1 hqi.2.1 hqi.2.2.1
end Go.Proofs.YthklcbclodeilaaGreatDoor.IrT
namespace Go.Proofs.YthklcbclodeilaaGreatDoor.IrT
open Go Go.CI
set_option maxRecDepth 100000
set_option maxHeartbeats 4000000
set_option linter.unusedVariables false
set_option linter.unusedSimpArgs false
attribute [local irreducible] W Wo Wc WoR

theorem bs_nil (x : List UInt8) : Pe 28 [.nils, .str x] (.tup [.int .i64 0, .bool false]) := by
  intro h hf K hk
  obtain ⟨hu, hut, hX⟩ := fx4 hf
  refine Wc.mkG 28 c28 (by kernel_rfl) rfl ?_
  generalize e : entryC .. = r
  simp (disch := omega) [c28] at e
  subst e
  repeat (first
    | refine st_ rfl ?_
    | ((first | refine W.regG ?_ | refine WoR.go ?_); generalize e : goR .. = r; simp (disch := omega) [hX, c28] at e; replace e : some _ = _ := e; subst e; (try dsimp only [goW]))
    | (refine W.loop ?_; try (generalize e : dropped .. = r; simp (disch := omega) [hX, c28] at e; subst e; try dsimp only))
    | ((first | (refine W.ret ?_; (try simp only [outOf, thenW_ret, thenW_exit, roundW, reduceIte]); refine endW.of (.inl rfl) rfl ?_) | refine endW.of (.inl rfl) rfl ?_ | refine endW.of (.inr rfl) rfl ?_); generalize e : endsC .. = r; simp (disch := omega) [hX, c28] at e; subst e; refine hk _ ?_; omega))

theorem ad_n {n : Nat} (IH : AC n) {x : List UInt8} {ps : List (List UInt8)} (hpl : ps.length < 50) {h : CHeap} (hf : Fit h) (hok : (ps.isEmpty || okT n (empT n) ps) = true)
    {K : CVal → CHeap → Prop} (hk : ∀ v' h', AR (n + 1) ([(x, upO n ps (some (empT n)))] : List (List UInt8 × Option (MT n))) h [] v' h' → K v' h') : Wc tree.getF 14 [nil3, .imm .none 1 ((x :: ps).map .str)] h K := by
  obtain ⟨hu, hut, hX⟩ := fx4 hf
  refine Wc.mkG 14 c14 (by kernel_rfl) rfl ?_
  generalize e : entryC .. = r
  simp (disch := omega) [c14] at e
  subst e
  repeat (fail_if_success (show W tree.getF swC _ _)
          first
    | refine st_ rfl ?_
    | ((first | refine W.regG ?_ | refine WoR.go ?_); generalize e : goR .. = r; simp (disch := omega) [hX, c14] at e; replace e : some _ = _ := e; subst e; (try dsimp only [goW]))
    | (refine pe_ (bs_nil _) fun n37 g37 => ⟨rfl, ?_⟩; (try dsimp only at g37))
    | (refine in38_nil (.str x) _ rfl ft_ fun n38 g38 => ⟨rfl, ?_⟩; (try dsimp only at g38))
    | (refine in39_nil (.bool false) _ rfl ft_ fun n39 g39 => ⟨rfl, ?_⟩; (try dsimp only at g39))
    | (refine in40_nil nil3 _ rfl ft_ fun n40 g40 => ⟨rfl, ?_⟩; (try dsimp only at g40)))
  have hn0 : UnderT h.tys h.next := hut
  refine st2 (A := []) (B := []) (z := (⟨x, some (empT n), nil3, []⟩ : Zr (MT n))) (h := ⟨_, _, _⟩) (a := n37 + 2 + 10) (b := n38 + 7) (c := n39 + 8) (va := 0) (vb := 0) (vc := 0) IH (fun t ht => by cases ht; exact hok) hpl (by simp) ?_ ?_ ?_ ?_ ?_ ?_ ?_ ?_ ?_ ?_ ?_ ?_ ?_ fun v' h' F N T M G => ?_
  · exact ft_
  · dsimp only; rw [getEnt_skip (by omega), getEnt_skip (by omega)]; simp [getEnt]
  · dsimp only; rw [getEnt_skip (by omega)]; simp [getEnt, Zr.wh]
  · simp [getEnt]
  · dsimp only; rw [getEnt_skip (by omega), getEnt_skip (by omega), getEnt_skip (by omega), getEnt_skip (by omega)]; simp [getEnt]
  · dsimp only; rw [getEnt_skip (by omega), getEnt_skip (by omega), getEnt_skip (by omega)]; simp [getEnt]
  · omega
  · simp [zids]; omega
  · intro q hq
    simp [zids] at hq
    exact hX.2.2.2 q (by omega)
  · intro y hy
    simp at hy
    subst hy
    exact MR.emp n _
  · omega
  · exact hut
  · (try dsimp only); omega
  · dsimp only at N T M G
    refine hk v' h' ⟨F, by omega, T, ?_, fun q hq hqi => ?_⟩
    · obtain ⟨ids', m1, m2, m3⟩ := M
      refine ⟨ids', m1, m2, fun q hq => .inr ?_⟩
      rcases m3 q hq with h1 | h1
      · simp [zids] at h1; omega
      · omega
    · rw [G q hq (by simp [zids]; omega)]
      rw [getEnt_skip (by omega), getEnt_skip (by omega), getEnt_skip (by omega), getEnt_skip (by omega), getEnt_skip (by omega)]
theorem tw_map {α β : Type} (f : α → β) (p : β → Bool) (l : List α) : (l.map f).takeWhile p = (l.takeWhile (p ∘ f)).map f := by
  induction l with
  | nil => rfl
  | cons a l ih => simp only [List.map_cons, List.takeWhile_cons, Function.comp]; split <;> simp [*, Function.comp_def]
theorem dw_map {α β : Type} (f : α → β) (p : β → Bool) (l : List α) : (l.map f).dropWhile p = (l.dropWhile (p ∘ f)).map f := by
  induction l with
  | nil => rfl
  | cons a l ih => simp only [List.map_cons, List.dropWhile_cons, Function.comp]; split <;> simp [*, Function.comp_def]
theorem tw_all {α : Type} (p : α → Bool) (l : List α) : ∀ y ∈ l.takeWhile p, p y = true := by
  induction l with
  | nil => intro y hy; cases hy
  | cons a l ih =>
    intro y hy
    rw [List.takeWhile_cons] at hy
    split at hy
    · rcases List.mem_cons.1 hy with rfl | hy
      · assumption
      · exact ih y hy
    · cases hy
theorem add_C : ∀ n, AC n
  | 0 => fun m v h ids ps hok => by simp [okT] at hok
  | n + 1 => fun m v h ids ps hok hf hM hnd hty K hk => by
    cases ps with
    | nil => simp [okT] at hok
    | cons x ps =>
      rw [okT] at hok
      simp only [Bool.and_eq_true, decide_eq_true_eq] at hok
      obtain ⟨⟨⟨k1, k2⟩, k3⟩, k4⟩ := hok
      rcases hM with ⟨rfl, rfl, rfl⟩ | ⟨a, va, b, vb, c, vc, zs, rfl, rfl, h3, h4, h5, rfl, h7⟩
      · exact ad_n (add_C n) k2 hf (by simpa using k4) fun v' h' R => hk v' h' (by simpa [addT, upO] using R)
      · rw [dw_map] at k3 k4
        rw [List.length_map] at k1
        have hsp := List.takeWhile_append_dropWhile (p := ((fun e => bytesLt e.1 x) ∘ fun z => (z.nm, z.o))) (l := zs)
        have hA := tw_all ((fun e : List UInt8 × Option (MT n) => bytesLt e.1 x) ∘ fun z => (z.nm, z.o)) zs
        simp only [addT, tw_map, dw_map] at hk
        generalize List.takeWhile ((fun e => bytesLt e.1 x) ∘ fun z => (z.nm, z.o)) zs = A at hsp hA hk
        generalize List.dropWhile ((fun e => bytesLt e.1 x) ∘ fun z => (z.nm, z.o)) zs = R at hsp k3 k4 hk
        have hR : ∀ y ∈ R, bytesLt y.nm x = false := fun y hy => by
          have := List.all_eq_true.1 k3 _ (List.mem_map_of_mem hy)
          simpa using this
        subst hsp
        cases hRR : R with
        | nil =>
          subst hRR
          exact ad_o (B := []) (add_C n) k2 hf rfl (by simpa using k4) k1 hA hR (fun z r e => by cases e) h3 h4 h5 hnd hty h7 fun v' h' R => hk v' h' (by simpa [upO] using R)
        | cons z B =>
          subst hRR
          simp only [List.map_cons] at k4 hk
          by_cases hx : z.nm = x
          · have hxb : (z.nm == x) = true := by simp [hx]
            rw [hxb] at k4 hk
            refine ad_f (add_C n) k2 hf rfl (fun t ht => ?_) (by omega) hA hR hx h3 h4 h5 hnd hty h7 fun v' h' R => hk v' h' ?_
            · rw [ht] at k4; simpa using k4
            · cases ho : z.o with
              | none => simpa [ho, upO, tw_map] using R
              | some t => simpa [ho, upO, hx] using R
          · have hxb : (z.nm == x) = false := by simp [hx]
            rw [hxb] at k4 hk
            exact ad_o (B := z :: B) (add_C n) k2 hf rfl (by simpa using k4) k1 hA hR (fun z r e => by cases e; exact hxb) h3 h4 h5 hnd hty h7 fun v' h' R => hk v' h' (by simpa [upO] using R)
end Go.Proofs.YthklcbclodeilaaGreatDoor.IrT
namespace Go.Proofs.YthklcbclodeilaaGreatDoor.IrT
open Go Go.CI
set_option maxRecDepth 100000
set_option maxHeartbeats 4000000
set_option linter.unusedVariables false
set_option linter.unusedSimpArgs false
attribute [local irreducible] W Wo Wc WoR

def szT : (n : Nat) → MT n → Bool
  | 0, _ => true
  | n + 1, m => decide (List.length m < 2000) && List.all m fun e => decide (e.1.length < 1000) && match e.2 with | none => true | some t => szT n t
def pathsT : (n : Nat) → MT n → List UInt8 → List (List UInt8)
  | 0, _, _ => []
  | n + 1, m, ah => List.flatMap (fun e : List UInt8 × Option (MT n) => match e.2 with | none => [ah ++ e.1] | some t => pathsT n t (ah ++ (e.1 ++ [46]))) m
def lV (l : List CVal) : CVal := match l with | [] => .nils | _ :: _ => .imm .none 1 l
def accV (i u : Nat) (l : List CVal) : CVal := match l with | [] => .nils | _ :: _ => .imm (.own i u) 1 l
def accE (i u : Nat) (l : List CVal) (base : List (Nat × CObj)) : List (Nat × CObj) := match l with | [] => base | _ :: _ => (i, .tok u) :: base
def elT (n : Nat) (ah : List UInt8) (e : List UInt8 × Option (MT n)) : List (List UInt8) := match e.2 with | none => [ah ++ e.1] | some t => pathsT n t (ah ++ (e.1 ++ [46]))
def PC (n : Nat) : Prop := ∀ (m : MT n) (v : CVal) (h : CHeap) (ids : List Nat) (ah : List UInt8), MR n m v h.ents ids → Fit h → szT n m = true → ah.length + 2000 * n < 1000000 → (pathsT n m ah).length < 1000 → ∀ K : CVal → CHeap → Prop, (∀ n', h.next ≤ n' → K (lV ((pathsT n m ah).map .str)) ⟨h.ents, n', h.tys⟩) → Wc tree.getF 21 [v, .str ah] h K
abbrev paL : CCode := (.loop true (.seq (.region [.g (.bin .lss (.var 2) (.var 3))] [(4, 0)] [] []) (.seq (.cond (.var 4) .skip (.exit 0)) (.seq (.block 1 (.seq (.region [.v 2, .g (.idxAddr 1 (.var 5) (.var 2)), .l 0, .m (.loc 2), .m (.loc 1)] [(6, 3), (10, 4)] [] []) (.seq (.region [.g (.fieldAddr 1 (.var 1)), .l 0, .v 6, .g (.idxAddr 1 (.loc 1) (.loc 0)), .l 0] [(7, 4)] [] []) (.cond (.var 7) (.region [.v 8, .v 9, .v 10, .h .add 1 0, .g (.lit .imm false [(.str [])] 1 [(0, (.loc 0))]), .g (.append .imm 0 1 (.loc 4) (.loc 0)), .m (.loc 0)] [(8, 6)] [] []) (.region [.v 8, .g (.fieldAddr 2 (.var 1)), .l 0, .v 6, .g (.idxAddr 3 (.loc 1) (.loc 0)), .g (.load (some 3) (.loc 0)), .v 9, .v 10, .h .add 1 0, .g (.bin .add (.loc 0) (.const (.str [46]))), .g (.call false 21 [(.loc 4), (.loc 0)]), .g (.append .imm 0 1 (.loc 10) (.loc 0)), .m (.loc 0)] [(8, 12)] [] []))))) (.region [.g (.bin .add (.var 2) (.k 1)), .m (.loc 0)] [(2, 1)] [] [])))))
abbrev paB : CCode := (.block 1 (.seq (.region [.v 2, .g (.idxAddr 1 (.var 5) (.var 2)), .l 0, .m (.loc 2), .m (.loc 1)] [(6, 3), (10, 4)] [] []) (.seq (.region [.g (.fieldAddr 1 (.var 1)), .l 0, .v 6, .g (.idxAddr 1 (.loc 1) (.loc 0)), .l 0] [(7, 4)] [] []) (.cond (.var 7) (.region [.v 8, .v 9, .v 10, .h .add 1 0, .g (.lit .imm false [(.str [])] 1 [(0, (.loc 0))]), .g (.append .imm 0 1 (.loc 4) (.loc 0)), .m (.loc 0)] [(8, 6)] [] []) (.region [.v 8, .g (.fieldAddr 2 (.var 1)), .l 0, .v 6, .g (.idxAddr 3 (.loc 1) (.loc 0)), .g (.load (some 3) (.loc 0)), .v 9, .v 10, .h .add 1 0, .g (.bin .add (.loc 0) (.const (.str [46]))), .g (.call false 21 [(.loc 4), (.loc 0)]), .g (.append .imm 0 1 (.loc 10) (.loc 0)), .m (.loc 0)] [(8, 12)] [] [])))))
theorem pa_b {n : Nat} (IH : PC n) {A B : List (Zr (MT n))} {z : Zr (MT n)} {acc : List CVal} {ah : List UInt8} {L : Nat} (hL : (A ++ z :: B).length = L) (hlen : L < 2000) {a va b vb c vc bx n0 i u nx : Nat} {base : List (Nat × CObj)} {ty : List (Nat × Nat)} (hb : Under base n0) (hn0 : n0 ≤ i) (hi : i < nx) (hty : UnderT ty n0)
    (hga : getEnt base a = some (.row va ((A ++ z :: B).map fun z => .str z.nm))) (hgb : getEnt base b = some (.row vb ((A ++ z :: B).map Zr.wh))) (hgc : getEnt base c = some (.row vc ((A ++ z :: B).map (·.v)))) (hgx : getEnt base bx = some (.cells [.ref a va 1 0 L, .ref b vb 1 0 L, .ref c vc 3 0 L])) (hzz : ZR n base z) (hsz : ∀ t, z.o = some t → szT n t = true) (hle : (elT n ah (z.nm, z.o)).length < 1000) (hla : acc.length < 1000) (hah : ah.length + 2000 * (n + 1) < 1000000) (hnm : z.nm.length < 1000) (v0 v4 v6 v7 v10 : CVal) {Q : CExit → CSt → Prop}
    (hk : ∀ i u v6 v7 v10 n', n0 ≤ i → i < n' → Q .normal ⟨[v0, .ptr bx 31457283 0, .int .i64 (A.length : Int), .int .i64 (L : Int), v4, .ref a va 1 0 L, v6, v7, accV i u (acc ++ (elT n ah (z.nm, z.o)).map .str), .str ah, v10], ⟨accE i u (acc ++ (elT n ah (z.nm, z.o)).map .str) base, n', ty⟩, []⟩) : W tree.getF paB ⟨[v0, .ptr bx 31457283 0, .int .i64 (A.length : Int), .int .i64 (L : Int), v4, .ref a va 1 0 L, v6, v7, accV i u acc, .str ah, v10], ⟨accE i u acc base, nx, ty⟩, []⟩ Q := by
  have hp3 : (A.length : Int) < (L : Int) := by rw [← hL]; simp; omega
  have hpp : A.length < L := by omega
  have hp2 : (A.length : Int).toNat = A.length := by omega
  have hn1 : nth ((A ++ z :: B).map fun z => CVal.str z.nm) A.length = .str z.nm := by
    have := nth_mid (A.map fun z => CVal.str z.nm) (B.map fun z => CVal.str z.nm) (.str z.nm)
    simpa using this
  have hn2 : nth ((A ++ z :: B).map Zr.wh) A.length = .bool z.o.isNone := by
    have := nth_mid (A.map Zr.wh) (B.map Zr.wh) z.wh
    simpa [Zr.wh] using this
  have hn3 : nth ((A ++ z :: B).map (·.v)) A.length = z.v := by
    have := nth_mid (A.map (·.v)) (B.map (·.v)) z.v
    simpa using this
  have hl1 : ((A ++ z :: B).map fun z => CVal.str z.nm).length = L := by rw [List.length_map, hL]
  have hl2 : ((A ++ z :: B).map Zr.wh).length = L := by rw [List.length_map, hL]
  have hl3 : ((A ++ z :: B).map (·.v)).length = L := by rw [List.length_map, hL]
  generalize ((A ++ z :: B).map fun z => CVal.str z.nm) = NS at *
  generalize ((A ++ z :: B).map Zr.wh) = WS at *
  generalize ((A ++ z :: B).map (·.v)) = SS at *
  have ja := in_under hb hga
  have jb := in_under hb hgb
  have jc := in_under hb hgc
  have jx := in_under hb hgx
  have ka : (i == a) = false := by simp; omega
  have kb : (i == b) = false := by simp; omega
  have kc : (i == c) = false := by simp; omega
  have kx : (i == bx) = false := by simp; omega
  have hf : Fit (⟨accE i u acc base, nx, ty⟩ : CHeap) := by
    refine ⟨?_, hty.le (by (try dsimp only); omega)⟩
    cases acc with
    | nil => exact hb.le (by (try dsimp only); omega)
    | cons _ _ => exact Under.cons (by (try dsimp only); omega) (hb.le (by (try dsimp only); omega))
  obtain ⟨hu, hut, hX⟩ := fx4 hf
  cases ho : z.o with
  | none =>
    rw [ho] at hn2 hk
    cases acc with
    | nil =>
      simp only [accV, accE] at hX hu ⊢
      repeat (first
        | refine st_ rfl ?_
        | ((first | refine W.regG ?_ | refine WoR.go ?_); generalize e : goR .. = r; simp (disch := omega) [hX, hga, hgb, hgc, hgx, ka, kb, kc, kx, hp3, hpp, hp2, hn1, hn2, hn3, hl1, hl2, hl3, hla] at e; replace e : some _ = _ := e; subst e; (try dsimp only [goW])))
      (try simp only [outOf, thenW_ret, thenW_exit, roundW, reduceIte])
      refine hk _ _ _ _ _ _ ?_ ?_
      · omega
      · omega
    | cons q qs =>
      simp only [accV, accE, List.length_cons] at hX hu hla ⊢
      repeat (first
        | refine st_ rfl ?_
        | ((first | refine W.regG ?_ | refine WoR.go ?_); generalize e : goR .. = r; simp (disch := omega) [hX, hga, hgb, hgc, hgx, ka, kb, kc, kx, hp3, hpp, hp2, hn1, hn2, hn3, hl1, hl2, hl3, hla] at e; replace e : some _ = _ := e; subst e; (try dsimp only [goW])))
      (try simp only [outOf, thenW_ret, thenW_exit, roundW, reduceIte])
      refine hk _ _ _ _ _ _ ?_ ?_
      · omega
      · omega
  | some t =>
    rw [ho] at hn2 hk
    have hM : MR n t z.v base z.ids := by unfold ZR at hzz; simp only [ho] at hzz; exact hzz
    obtain ⟨r0, r1, r2, hv, q0, q1, q2⟩ := hM.nr
    have e0 := q0.strip
    have e1 := q1.strip
    have e2 := q2.strip
    simp only [CVal.strip] at e0 e1 e2
    rw [ho] at hle
    have hst := hsz t ho
    rw [hv] at hn3
    have hIH := fun (K : CVal → CHeap → Prop) (E : List (Nat × CObj)) (nx : Nat) (hM2 : MR n t z.v E z.ids) (hf : Fit ⟨E, nx, ty⟩) (hk : ∀ n', nx ≤ n' → K (lV ((pathsT n t (ah ++ (z.nm ++ [46]))).map .str)) ⟨E, n', ty⟩) => IH t z.v ⟨E, nx, ty⟩ z.ids (ah ++ (z.nm ++ [46])) hM2 hf hst (by simp; omega) hle K hk
    rw [hv] at hIH hM
    have he : (elT n ah (z.nm, some t)).map CVal.str = (pathsT n t (ah ++ (z.nm ++ [46]))).map .str := rfl
    rw [he] at hk
    generalize hrr : pathsT n t (ah ++ (z.nm ++ [46])) = rr at hIH hk
    have hlr : rr.length < 1000 := by rw [← hrr]; exact hle
    cases acc with
    | nil =>
      simp only [accV, accE] at hX hu ⊢
      cases rr with
      | nil =>
        simp only [lV, List.map_nil, List.map_cons, List.length_cons] at hIH hlr
        skip
        skip
        repeat (first
          | refine st_ rfl ?_
          | ((first | refine W.regG ?_ | refine WoR.go ?_); generalize e : goR .. = r; simp (disch := omega) [hX, hga, hgb, hgc, hgx, ka, kb, kc, kx, hp3, hpp, hp2, hn1, hn2, hn3, hl1, hl2, hl3, hla, e0, e1, e2, hlr] at e; replace e : some _ = _ := e; subst e; (try dsimp only [goW]))
          | (refine hIH _ _ _ hM ft_ fun _ g => ⟨rfl, ?_⟩; (try dsimp only at g)))
        (try simp only [outOf, thenW_ret, thenW_exit, roundW, reduceIte])
        simp only [List.append_nil, List.map_nil] at hk
        refine hk i u _ _ _ _ ?_ ?_
        · omega
        · omega
      | cons w wr =>
        simp only [lV, List.map_nil, List.map_cons, List.length_cons] at hIH hlr
        have hbb : wr.map (CVal.bare ∘ CVal.str) = wr.map .str := rfl
        have hbc : (wr.map CVal.str).map CVal.bare = wr.map .str := by rw [List.map_map]; rfl
        repeat (first
          | refine st_ rfl ?_
          | ((first | refine W.regG ?_ | refine WoR.go ?_); generalize e : goR .. = r; simp (disch := omega) [hX, hga, hgb, hgc, hgx, ka, kb, kc, kx, hp3, hpp, hp2, hn1, hn2, hn3, hl1, hl2, hl3, hla, e0, e1, e2, hlr, hbb, hbc] at e; replace e : some _ = _ := e; subst e; (try dsimp only [goW]))
          | (refine hIH _ _ _ hM ft_ fun _ g => ⟨rfl, ?_⟩; (try dsimp only at g)))
        (try simp only [outOf, thenW_ret, thenW_exit, roundW, reduceIte])
        skip
        refine hk _ _ _ _ _ _ ?_ ?_
        · omega
        · omega
    | cons q qs =>
      simp only [accV, accE, List.length_cons] at hX hu hla ⊢
      cases rr with
      | nil =>
        simp only [lV, List.map_nil, List.map_cons, List.length_cons] at hIH hlr
        skip
        skip
        repeat (first
          | refine st_ rfl ?_
          | ((first | refine W.regG ?_ | refine WoR.go ?_); generalize e : goR .. = r; simp (disch := omega) [hX, hga, hgb, hgc, hgx, ka, kb, kc, kx, hp3, hpp, hp2, hn1, hn2, hn3, hl1, hl2, hl3, hla, e0, e1, e2, hlr] at e; replace e : some _ = _ := e; subst e; (try dsimp only [goW]))
          | (refine hIH _ _ _ (hM.rows fun q hq va es h9 => by rw [getEnt_skip (by have := in_under hb h9; omega)]; exact h9) ft_ fun _ g => ⟨rfl, ?_⟩; (try dsimp only at g)))
        (try simp only [outOf, thenW_ret, thenW_exit, roundW, reduceIte])
        simp only [List.append_nil, List.map_nil] at hk
        refine hk i u _ _ _ _ ?_ ?_
        · omega
        · omega
      | cons w wr =>
        simp only [lV, List.map_nil, List.map_cons, List.length_cons] at hIH hlr
        have hbb : wr.map (CVal.bare ∘ CVal.str) = wr.map .str := rfl
        have hbc : (wr.map CVal.str).map CVal.bare = wr.map .str := by rw [List.map_map]; rfl
        repeat (first
          | refine st_ rfl ?_
          | ((first | refine W.regG ?_ | refine WoR.go ?_); generalize e : goR .. = r; simp (disch := omega) [hX, hga, hgb, hgc, hgx, ka, kb, kc, kx, hp3, hpp, hp2, hn1, hn2, hn3, hl1, hl2, hl3, hla, e0, e1, e2, hlr, hbb, hbc] at e; replace e : some _ = _ := e; subst e; (try dsimp only [goW]))
          | (refine hIH _ _ _ (hM.rows fun q hq va es h9 => by rw [getEnt_skip (by have := in_under hb h9; omega)]; exact h9) ft_ fun _ g => ⟨rfl, ?_⟩; (try dsimp only at g)))
        (try simp only [outOf, thenW_ret, thenW_exit, roundW, reduceIte])
        skip
        refine hk _ _ _ _ _ _ ?_ ?_
        · omega
        · omega
end Go.Proofs.YthklcbclodeilaaGreatDoor.IrT
namespace Go.Proofs.YthklcbclodeilaaGreatDoor.IrT
open Go Go.CI
set_option maxRecDepth 100000
set_option maxHeartbeats 4000000
set_option linter.unusedVariables false
set_option linter.unusedSimpArgs false
attribute [local irreducible] W Wo Wc WoR

theorem accE_drop {i u n0 m : Nat} {l : List CVal} {base : List (Nat × CObj)} (hb : Under base n0) (hm : n0 ≤ m) : dropCells (accE i u l base) m = accE i u l base := by
  have h1 : dropCells base m = base := dropCells_under (hb.le hm)
  cases l with
  | nil => exact h1
  | cons _ _ =>
    simp only [accE, dropCells]
    split
    · rw [h1]
    · rfl
theorem accE_ends {i u n0 : Nat} {l : List CVal} {base : List (Nat × CObj)} (hb : Under base n0) (hm : n0 ≤ i) : dropEnts (accE i u l base) n0 = base := by
  have h1 : dropEnts base n0 = base := dropEnts_under hb
  cases l with
  | nil => exact h1
  | cons _ _ => simp only [accE, dropEnts, if_pos hm, h1]
theorem accV_strip {i u : Nat} {l : List CVal} : (accV i u l).strip = lV l := by cases l <;> rfl
theorem accV_iu {i u : Nat} {l : List CVal} : (accV i u l).isUndef = false := by cases l <;> rfl
theorem accV_bare {i u : Nat} {l : List CVal} : (accV i u l).bare = lV l := by cases l <;> rfl
theorem accE_get {i u q n0 : Nat} {l : List CVal} {o : CObj} {base : List (Nat × CObj)} (hb : Under base n0) (hm : n0 ≤ i) (h : getEnt base q = some o) : getEnt (accE i u l base) q = some o := by
  have := in_under hb h
  cases l with
  | nil => exact h
  | cons _ _ => simp only [accE]; rw [getEnt_skip (by omega)]; exact h
theorem pa_go {n : Nat} (IH : PC n) {A B : List (Zr (MT n))} {z : Zr (MT n)} {acc : List CVal} {ah : List UInt8} {L : Nat} (hL : (A ++ z :: B).length = L) (hlen : L < 2000) {a va b vb c vc bx n0 i u nx : Nat} {base : List (Nat × CObj)} {ty : List (Nat × Nat)} (hb : Under base n0) (hn0 : n0 ≤ i) (hi : i < nx) (hty : UnderT ty n0)
    (hga : getEnt base a = some (.row va ((A ++ z :: B).map fun z => .str z.nm))) (hgb : getEnt base b = some (.row vb ((A ++ z :: B).map Zr.wh))) (hgc : getEnt base c = some (.row vc ((A ++ z :: B).map (·.v)))) (hgx : getEnt base bx = some (.cells [.ref a va 1 0 L, .ref b vb 1 0 L, .ref c vc 3 0 L])) (hzz : ZR n base z) (hsz : ∀ t, z.o = some t → szT n t = true) (hle : (elT n ah (z.nm, z.o)).length < 1000) (hla : acc.length < 1000) (hah : ah.length + 2000 * (n + 1) < 1000000) (hnm : z.nm.length < 1000) (v0 v4 v6 v7 v10 : CVal) {Q : CExit → CSt → Prop}
    (hk : ∀ i u v4 v6 v7 v10 n', n0 ≤ i → i < n' → W tree.getF paL ⟨[v0, .ptr bx 31457283 0, .int .i64 ((A.length : Int) + 1), .int .i64 (L : Int), v4, .ref a va 1 0 L, v6, v7, accV i u (acc ++ (elT n ah (z.nm, z.o)).map .str), .str ah, v10], ⟨accE i u (acc ++ (elT n ah (z.nm, z.o)).map .str) base, n', ty⟩, []⟩ Q) : W tree.getF paL ⟨[v0, .ptr bx 31457283 0, .int .i64 (A.length : Int), .int .i64 (L : Int), v4, .ref a va 1 0 L, v6, v7, accV i u acc, .str ah, v10], ⟨accE i u acc base, nx, ty⟩, []⟩ Q := by
  have hp3 : (A.length : Int) < (L : Int) := by rw [← hL]; simp; omega
  have hAL : A.length < 2000 := by omega
  refine W.loop ?_
  repeat (fail_if_success (show W tree.getF paB _ _)
          first
    | refine st_ rfl ?_
    | ((first | refine W.regG ?_ | refine WoR.go ?_); generalize e : goR .. = r; simp (disch := omega) [hp3] at e; replace e : some _ = _ := e; subst e; (try dsimp only [goW])))
  refine pa_b IH hL hlen hb hn0 (by omega) hty hga hgb hgc hgx hzz hsz hle hla hah hnm _ _ _ _ _ fun i u v6 v7 v10 n' g1 g2 => ?_
  try dsimp only
  repeat (first
    | refine st_ rfl ?_
    | ((first | refine W.regG ?_ | refine WoR.go ?_); generalize e : goR .. = r; simp (disch := omega) [hp3, hAL] at e; replace e : some _ = _ := e; subst e; (try dsimp only [goW])))
  show W tree.getF paL (dropped true _ _) Q
  have hDr : ∀ (i u m : Nat) (l : List CVal), n0 ≤ m → dropCells (accE i u l base) m = accE i u l base := fun i u m l hm => accE_drop hb hm
  generalize e : dropped _ _ _ = r
  simp (disch := omega) [hDr] at e
  subst e
  refine hk _ _ _ _ _ _ _ g1 ?_; omega
theorem pa_end {L : Nat} {acc : List CVal} {ah : List UInt8} {a va bx n0 i u nx : Nat} {base : List (Nat × CObj)} {ty : List (Nat × Nat)} (hb : Under base n0) (hn0 : n0 ≤ i) (hi : i < nx) (v0 v4 v6 v7 v10 : CVal) {Q : CExit → CSt → Prop}
    (hk : ∀ v4 v6 v7 v10 n', i < n' → Q (.exit 0) ⟨[v0, .ptr bx 31457283 0, .int .i64 (L : Int), .int .i64 (L : Int), v4, .ref a va 1 0 L, v6, v7, accV i u acc, .str ah, v10], ⟨accE i u acc base, n', ty⟩, []⟩) : W tree.getF paL ⟨[v0, .ptr bx 31457283 0, .int .i64 (L : Int), .int .i64 (L : Int), v4, .ref a va 1 0 L, v6, v7, accV i u acc, .str ah, v10], ⟨accE i u acc base, nx, ty⟩, []⟩ Q := by
  have hDr : ∀ (i u m : Nat) (l : List CVal), n0 ≤ m → dropCells (accE i u l base) m = accE i u l base := fun i u m l hm => accE_drop hb hm
  refine W.loop ?_
  repeat (first
    | refine st_ rfl ?_
    | ((first | refine W.regG ?_ | refine WoR.go ?_); generalize e : goR .. = r; simp (disch := omega) [hDr, Int.lt_irrefl] at e; replace e : some _ = _ := e; subst e; (try dsimp only [goW])))
  all_goals (refine hk _ _ _ _ _ ?_; ((try dsimp only); omega))
theorem pa_loop {n : Nat} (IH : PC n) {zs : List (Zr (MT n))} {ah : List UInt8} {L : Nat} (hL : zs.length = L) (hlen : L < 2000) {a va b vb c vc bx n0 : Nat} {base : List (Nat × CObj)} {ty : List (Nat × Nat)} (hb : Under base n0) (hty : UnderT ty n0)
    (hga : getEnt base a = some (.row va (zs.map fun z => .str z.nm))) (hgb : getEnt base b = some (.row vb (zs.map Zr.wh))) (hgc : getEnt base c = some (.row vc (zs.map (·.v)))) (hgx : getEnt base bx = some (.cells [.ref a va 1 0 L, .ref b vb 1 0 L, .ref c vc 3 0 L])) (hz : ∀ z ∈ zs, ZR n base z) (hsz : ∀ z ∈ zs, z.nm.length < 1000 ∧ ∀ t, z.o = some t → szT n t = true) (hah : ah.length + 2000 * (n + 1) < 1000000) (v0 : CVal) {Q : CExit → CSt → Prop} (hle : ((zs.map fun z => elT n ah (z.nm, z.o)).flatten).length < 1000)
    (hk : ∀ i u v4 v6 v7 v10 n', n0 ≤ i → i < n' → Q (.exit 0) ⟨[v0, .ptr bx 31457283 0, .int .i64 (L : Int), .int .i64 (L : Int), v4, .ref a va 1 0 L, v6, v7, accV i u (((zs.map fun z => elT n ah (z.nm, z.o)).flatten).map .str), .str ah, v10], ⟨accE i u (((zs.map fun z => elT n ah (z.nm, z.o)).flatten).map .str) base, n', ty⟩, []⟩) :
    ∀ (R A : List (Zr (MT n))) (i u nx : Nat) (v4 v6 v7 v10 : CVal), zs = A ++ R → n0 ≤ i → i < nx → W tree.getF paL ⟨[v0, .ptr bx 31457283 0, .int .i64 (A.length : Int), .int .i64 (L : Int), v4, .ref a va 1 0 L, v6, v7, accV i u ((A.map fun z => elT n ah (z.nm, z.o)).flatten.map .str), .str ah, v10], ⟨accE i u ((A.map fun z => elT n ah (z.nm, z.o)).flatten.map .str) base, nx, ty⟩, []⟩ Q := by
  intro R
  induction R with
  | nil =>
    intro A i u nx v4 v6 v7 v10 h1 h2 h3
    rw [List.append_nil] at h1
    subst h1
    rw [hL]
    exact pa_end hb h2 h3 _ _ _ _ _ fun v4 v6 v7 v10 n' g => hk i u v4 v6 v7 v10 n' h2 g
  | cons z R ih =>
    intro A i u nx v4 v6 v7 v10 h1 h2 h3
    have hzm : z ∈ zs := by rw [h1]; simp
    have hl9 : ((A.map fun z => elT n ah (z.nm, z.o)).flatten).length + (elT n ah (z.nm, z.o)).length < 1000 := by
      rw [h1] at hle; simp at hle ⊢; omega
    refine pa_go IH (B := R) (z := z) (a := a) (va := va) (b := b) (vb := vb) (c := c) (vc := vc) (by rw [← h1]; exact hL) hlen hb h2 h3 hty (by rw [← h1]; exact hga) (by rw [← h1]; exact hgb) (by rw [← h1]; exact hgc) hgx (hz z hzm) (hsz z hzm).2 (by omega) (by rw [List.length_map]; omega) hah (hsz z hzm).1 _ _ _ _ _ fun i u v4 v6 v7 v10 n' g1 g2 => ?_
    have := ih (A ++ [z]) i u n' v4 v6 v7 v10 (by rw [h1]; simp) g1 g2
    simp only [List.map_append, List.flatten_append, List.map_cons, List.map_nil, List.flatten_cons, List.flatten_nil, List.append_nil, List.length_append, List.length_cons, List.length_nil, Nat.zero_add, Int.natCast_add, Int.natCast_one] at this
    exact this
end Go.Proofs.YthklcbclodeilaaGreatDoor.IrT
namespace Go.Proofs.YthklcbclodeilaaGreatDoor.IrT
open Go Go.CI
set_option maxRecDepth 100000
set_option maxHeartbeats 4000000
set_option linter.unusedVariables false
set_option linter.unusedSimpArgs false
attribute [local irreducible] W Wo Wc WoR

theorem pa_nil (ah : List UInt8) : Pe 21 [nil3, .str ah] .nils := by
  intro h hf K hk
  obtain ⟨hu, hut, hX⟩ := fx4 hf
  refine Wc.mkG 21 c21 (by kernel_rfl) rfl ?_
  generalize e : entryC .. = r
  simp (disch := omega) [c21] at e
  subst e
  repeat (first
    | refine st_ rfl ?_
    | ((first | refine W.regG ?_ | refine WoR.go ?_); generalize e : goR .. = r; simp (disch := omega) [hX, Int.lt_irrefl, c21] at e; replace e : some _ = _ := e; subst e; (try dsimp only [goW]))
    | (refine W.loop ?_; try (generalize e : dropped .. = r; simp (disch := omega) [hX, Int.lt_irrefl, c21] at e; subst e; try dsimp only))
    | ((first | (refine W.ret ?_; (try simp only [outOf, thenW_ret, thenW_exit, roundW, reduceIte]); refine endW.of (.inl rfl) rfl ?_) | refine endW.of (.inl rfl) rfl ?_ | refine endW.of (.inr rfl) rfl ?_); generalize e : endsC .. = r; simp (disch := omega) [hX, Int.lt_irrefl, c21] at e; subst e; refine hk _ ?_; omega))

theorem elT_path {n : Nat} {ah : List UInt8} (zs : List (Zr (MT n))) : pathsT (n + 1) (zs.map fun z => (z.nm, z.o)) ah = ((zs.map fun z => elT n ah (z.nm, z.o)).flatten) := by
  induction zs with
  | nil => rfl
  | cons z r ih =>
    rw [List.map_cons, List.map_cons, List.flatten_cons, ← ih]
    rfl
theorem pa_rows {n : Nat} (IH : PC n) {zs : List (Zr (MT n))} {ah : List UInt8} {L : Nat} (hL : zs.length = L) (hlen : L < 2000) {a va b vb c vc : Nat} {h : CHeap} (hf : Fit h)
    (hga : getEnt h.ents a = some (.row va (zs.map fun z => .str z.nm))) (hgb : getEnt h.ents b = some (.row vb (zs.map Zr.wh))) (hgc : getEnt h.ents c = some (.row vc (zs.map (·.v)))) (hz : ∀ z ∈ zs, ZR n h.ents z) (hsz : ∀ z ∈ zs, z.nm.length < 1000 ∧ ∀ t, z.o = some t → szT n t = true) (hah : ah.length + 2000 * (n + 1) < 1000000) (hle : ((zs.map fun z => elT n ah (z.nm, z.o)).flatten).length < 1000) {K : CVal → CHeap → Prop}
    (hk : ∀ n', h.next ≤ n' → K (lV (((zs.map fun z => elT n ah (z.nm, z.o)).flatten).map .str)) ⟨h.ents, n', h.tys⟩) : Wc tree.getF 21 [(.agg [.ref a va 1 0 L, .ref b vb 1 0 L, .ref c vc 3 0 L]), .str ah] h K := by
  obtain ⟨hu, hut, hX⟩ := fx4 hf
  refine Wc.mkG 21 c21 (by kernel_rfl) rfl ?_
  generalize e : entryC .. = r
  simp (disch := omega) [c21] at e
  subst e
  repeat (fail_if_success (show W tree.getF paL _ _)
          first
    | refine st_ rfl ?_
    | ((first | refine W.regG ?_ | refine WoR.go ?_); generalize e : goR .. = r; simp (disch := omega) [hX, hga, hgb, hgc, c21] at e; replace e : some _ = _ := e; subst e; (try dsimp only [goW])))
  have hb1 : Under ((h.next, CObj.cells [.ref a va 1 0 L, .ref b vb 1 0 L, .ref c vc 3 0 L]) :: h.ents) (h.next + 1) := Under.cons (by omega) (hu.le (by omega))
  have la := in_under hu hga
  have lb := in_under hu hgb
  have lc := in_under hu hgc
  have hK2 : ∀ q va es, getEnt h.ents q = some (.row va es) → getEnt ((h.next, CObj.cells [.ref a va 1 0 L, .ref b vb 1 0 L, .ref c vc 3 0 L]) :: h.ents) q = some (.row va es) := fun q va es h9 => by
    rw [getEnt_skip (by have := in_under hu h9; omega)]; exact h9
  refine pa_loop (zs := zs) (a := a) (va := va) (b := b) (vb := vb) (c := c) (vc := vc) (bx := h.next) (n0 := h.next + 1) (ah := ah) (base := (h.next, CObj.cells [.ref a va 1 0 L, .ref b vb 1 0 L, .ref c vc 3 0 L]) :: h.ents) (ty := h.tys) IH hL hlen hb1 (hut.le (by omega)) ?_ ?_ ?_ ?_ ?_ hsz hah _ hle (fun i u v4 v6 v7 v10 n' g1 g2 => ?_) zs [] (h.next + 1) 0 (h.next + 2 + 4) _ _ _ _ rfl (Nat.le_refl _) (by omega)
  · rw [getEnt_skip (by omega)]; exact hga
  · rw [getEnt_skip (by omega)]; exact hgb
  · rw [getEnt_skip (by omega)]; exact hgc
  · simp [getEnt]
  · intro z hz1
    refine (hz z hz1).rows fun q hq va es h9 => ?_
    rw [getEnt_skip (by have := in_under hu h9; omega)]; exact h9
  · generalize ((zs.map fun z => elT n ah (z.nm, z.o)).flatten).map CVal.str = l at hk ⊢
    have q1 : h.next ≤ i := by omega
    have q2 : dropEnts h.ents h.next = h.ents := hX.1 _ (Nat.le_refl _)
    (try simp only [outOf, thenW_ret, thenW_exit, roundW, reduceIte])
    cases l with
    | nil =>
      simp only [accV, accE, lV] at hk ⊢
      repeat (first
        | refine st_ rfl ?_
        | ((first | refine W.regG ?_ | refine WoR.go ?_); generalize e : goR .. = r; simp (disch := omega) [hX, q1, q2, c21] at e; replace e : some _ = _ := e; subst e; (try dsimp only [goW]))
        | ((first | (refine W.ret ?_; (try simp only [outOf, thenW_ret, thenW_exit, roundW, reduceIte]); refine endW.of (.inl rfl) rfl ?_) | refine endW.of (.inl rfl) rfl ?_ | refine endW.of (.inr rfl) rfl ?_); generalize e : endsC .. = r; simp (disch := omega) [hX, q1, q2, c21] at e; subst e; refine hk _ ?_; omega))
    | cons _ _ =>
      simp only [accV, accE, lV] at hk ⊢
      repeat (first
        | refine st_ rfl ?_
        | ((first | refine W.regG ?_ | refine WoR.go ?_); generalize e : goR .. = r; simp (disch := omega) [hX, q1, q2, c21] at e; replace e : some _ = _ := e; subst e; (try dsimp only [goW]))
        | ((first | (refine W.ret ?_; (try simp only [outOf, thenW_ret, thenW_exit, roundW, reduceIte]); refine endW.of (.inl rfl) rfl ?_) | refine endW.of (.inl rfl) rfl ?_ | refine endW.of (.inr rfl) rfl ?_); generalize e : endsC .. = r; simp (disch := omega) [hX, q1, q2, c21] at e; subst e; refine hk _ ?_; omega))

theorem path_C : ∀ n, PC n
  | 0 => fun m v h ids ah hM hf _ _ _ K hk => by
    obtain ⟨rfl, rfl⟩ := hM
    exact pa_nil ah h hf K hk
  | n + 1 => fun m v h ids ah hM hf hs ha hle K hk => by
    rcases hM with ⟨rfl, rfl, rfl⟩ | ⟨a, va, b, vb, c, vc, zs, rfl, rfl, h3, h4, h5, rfl, h7⟩
    · exact pa_nil ah h hf K hk
    · rw [elT_path] at hle hk
      simp only [szT, Bool.and_eq_true, decide_eq_true_eq, List.length_map, List.all_eq_true, List.mem_map, forall_exists_index, and_imp, forall_apply_eq_imp_iff₂] at hs
      refine pa_rows (path_C n) rfl hs.1 hf h3 h4 h5 h7 (fun z hz => ⟨(hs.2 z hz).1, fun t ht => ?_⟩) ha hle hk
      have := (hs.2 z hz).2
      rw [ht] at this
      exact this
end Go.Proofs.YthklcbclodeilaaGreatDoor.IrT
namespace Go.Proofs.YthklcbclodeilaaGreatDoor.IrT
open Go Go.CI
set_option maxRecDepth 100000
set_option maxHeartbeats 4000000
set_option linter.unusedVariables false
set_option linter.unusedSimpArgs false
attribute [local irreducible] W Wo Wc WoR

abbrev psL : CCode := (.loop true (.seq (.region [.g (.bin .lss (.var 5) (.var 6))] [(7, 0)] [] []) (.seq (.cond (.var 7) .skip (.exit 0)) (.seq (.block 1 (.seq (.region [.v 5, .g (.idxAddr 1 (.var 8) (.var 5)), .l 0, .m (.loc 2), .m (.loc 1)] [(9, 4), (10, 3)] [] []) (.seq (.region [.v 9, .g (.call false 13 [(.loc 0)]), .m (.loc 0), .g (.extract 0 (.loc 0)), .g (.extract 1 (.loc 1)), .m (.loc 1), .m (.loc 1)] [(12, 6), (14, 5)] [] []) (.seq (.seq (.region [.v 10, .x .geq 0 (.k 20)] [(11, 1)] [] []) (.cond (.var 11) (.region [.m (.k 3)] [(12, 0)] [] []) .skip)) (.seq (.seq (.region [.v 12, .x .neq 0 (.k 0)] [(13, 1)] [] []) (.cond (.var 13) (.seq (.region [.g (.build [.nils, .nils, .nils] []), .v 12, .g (.store 3 (.var 2) (.loc 1)), .m (.loc 1)] [(15, 3)] [] []) .ret) .skip)) (.region [.g (.load (some 3) (.var 4)), .v 14, .g (.call false 14 [(.loc 1), (.loc 0)]), .g (.store 3 (.var 4) (.loc 0))] [] [] [])))))) (.region [.g (.bin .add (.var 5) (.k 1)), .m (.loc 0)] [(5, 1)] [] [])))))
structure PI (n : Nat) (m : MT n) (h0 : CHeap) (p2 p4 : Nat) (hh : CHeap) : Prop where
  fit : Fit hh
  nx : h0.next ≤ hh.next
  ty : hh.tys = h0.tys
  ty0 : UnderT h0.tys h0.next
  o2 : h0.next ≤ p2
  o4 : h0.next ≤ p4
  ne : p2 ≠ p4
  g2 : getEnt hh.ents p2 = some (.cells [.nils, .nils, .nils])
  mr : ∃ r0 r1 r2 ids, getEnt hh.ents p4 = some (.cells [r0, r1, r2]) ∧ MR n m (.agg [r0, r1, r2]) hh.ents ids ∧ ids.Nodup ∧ ∀ q ∈ ids, h0.next ≤ q
  fr : ∀ q, q < h0.next → getEnt hh.ents q = getEnt h0.ents q
theorem ps_go {n : Nat} {m : MT n} {h0 hh : CHeap} {p2 p4 : Nat} (S : PI n m h0 p2 p4 hh) {ps : List (List UInt8)} (hl : ps.length ≤ 20) (i : Nat) {t : List UInt8} (hx : ps[i]? = some t) (ht : t.length < 10000) (h20 : (splitF 46 t).length ≤ 20) (hP : ∀ x ∈ splitF 46 t, PV x) (hok : okT n m (splitF 46 t) = true) (v0 v1 v3 : CVal) (v7 v9 v10 v11 v12 v13 v14 : CVal) {Q : CExit → CSt → Prop}
    (hk : ∀ (v7 v9 v10 v11 v12 v13 v14 : CVal) h', PI n (addT n m (splitF 46 t)) h0 p2 p4 h' → W tree.getF psL ⟨[v0, v1, .ptr p2 31457283 0, v3, .ptr p4 31457283 0, .int .i64 ((i : Int) + 1), .int .i64 (ps.length : Int), v7, .imm .none 1 (ps.map .str), v9, v10, v11, v12, v13, v14, .int .i64 0], h', []⟩ Q) : W tree.getF psL ⟨[v0, v1, .ptr p2 31457283 0, v3, .ptr p4 31457283 0, .int .i64 (i : Int), .int .i64 (ps.length : Int), v7, .imm .none 1 (ps.map .str), v9, v10, v11, v12, v13, v14, .int .i64 0], hh, []⟩ Q := by
  obtain ⟨r0, r1, r2, ids, g4, hM, hnd, hid⟩ := S.mr
  obtain ⟨q0, q1, q2, hv, y0, y1, y2⟩ := hM.nr
  cases hv
  have e0 := y0.strip
  have e1 := y1.strip
  have e2 := y2.strip
  simp only [CVal.strip] at e0 e1 e2
  have hf := S.fit
  obtain ⟨hu, hut, hX⟩ := fx4 hf
  have PT := nm_F t ht h20 hP
  obtain ⟨hi, hx2⟩ := List.getElem?_eq_some_iff.1 hx
  have hx3 : nth (ps.map CVal.str) i = .str t := nth_mapG CVal.str ps i _ hx
  have hdl : (i : Int) < (ps.length : Int) := by omega
  have hdl2 : (i : Int) < 20 := by omega
  have hi2 : (i : Int).toNat = i := by omega
  refine W.loop ?_
  repeat (first
    | refine st_ rfl ?_
    | ((first | refine W.regG ?_ | refine WoR.go ?_); generalize e : goR .. = r; simp (disch := omega) [hX, hx, hx2, hx3, hi2, hdl, hdl2, hi, hl, g4, e0, e1, e2] at e; replace e : some _ = _ := e; subst e; (try dsimp only [goW]))
    | (refine pe_ (PT) fun _ g => ⟨rfl, ?_⟩; (try dsimp only at g)))
  refine add_C n m _ ⟨hh.ents, _, hh.tys⟩ ids (splitF 46 t) hok ?_ ?_ hnd (fun q hq => ?_) _ fun v' h' R => ?_
  · exact ft_
  · exact hM
  · dsimp only; rw [S.ty]; exact lookupN_under S.ty0 (hid q hq)
  obtain ⟨ids', hM', hnd', hs'⟩ := R.mr
  obtain ⟨w0, w1, w2, rfl, z0, z1, z2⟩ := hM'.nr
  have f0 := z0.strip
  have f1 := z1.strip
  have f2 := z2.strip
  simp only [CVal.strip] at f0 f1 f2
  have hp4i : p4 ∉ ids := fun hc => by obtain ⟨_, _, h9⟩ := hM.row p4 hc; rw [g4] at h9; cases h9
  have hp2i : p2 ∉ ids := fun hc => by obtain ⟨_, _, h9⟩ := hM.row p2 hc; rw [S.g2] at h9; cases h9
  have l4 := in_under hu g4
  have l2 := in_under hu S.g2
  have k4 : getEnt h'.ents p4 = _ := (R.fr p4 (by dsimp only; omega) hp4i).trans g4
  have k2 : getEnt h'.ents p2 = _ := (R.fr p2 (by dsimp only; omega) hp2i).trans S.g2
  have hty' : h'.tys = hh.tys := R.ty
  have hf' := R.fit
  have hnx' := R.nx
  dsimp only at hnx'
  obtain ⟨hu', hut', hX'⟩ := fx4 hf'
  refine ⟨rfl, ?_⟩
  repeat (first
    | refine st_ rfl ?_
    | ((first | refine W.regG ?_ | refine WoR.go ?_); generalize e : goR .. = r; simp (disch := omega) [hX', k4, f0, f1, f2, sy_getEnt_setEnt k4, hdl, hi, hl, hdl2] at e; replace e : some _ = _ := e; subst e; (try dsimp only [goW])))
  show W tree.getF psL (dropped true _ _) Q
  generalize e : dropped _ _ _ = r
  simp (disch := omega) [hty'] at e
  subst e
  have hnx := S.nx
  have hrow : ∀ q ∈ ids', ∀ va es, getEnt h'.ents q = some (.row va es) → getEnt (dropCells (setEnt h'.ents p4 (.cells [w0, w1, w2])) hh.next) q = some (.row va es) := fun q hq va es h9 => by
    have hq4 : q ≠ p4 := fun e => by subst e; rw [k4] at h9; cases h9
    exact dc_row (by rw [getEnt_setEnt_ne hq4]; exact h9)
  refine hk _ _ _ _ _ _ _ _ ⟨⟨dc_under (hf'.1.set.le (by (try dsimp only); omega)), hut.le (by (try dsimp only); omega)⟩, by (try dsimp only); omega, S.ty, S.ty0, S.o2, S.o4, S.ne, ?_, ⟨w0, w1, w2, ids', ?_, hM'.rows hrow, hnd', fun q hq => ?_⟩, fun q hq => ?_⟩
  · dsimp only; rw [dc_lt l2, getEnt_setEnt_ne S.ne]; exact k2
  · dsimp only; rw [dc_lt l4]; exact sy_getEnt_setEnt k4
  · rcases hs' q hq with h1 | h1
    · exact hid q h1
    · dsimp only at h1; omega
  · have o4 := S.o4
    dsimp only
    rw [dc_lt (by omega), getEnt_setEnt_ne (by omega), R.fr q (by dsimp only; omega) (fun hc => by have := hid q hc; omega)]
    exact S.fr q hq
theorem ps_end {n : Nat} {m : MT n} {h0 hh : CHeap} {p2 p4 : Nat} (S : PI n m h0 p2 p4 hh) {ps : List (List UInt8)} (v0 v1 v3 : CVal) (v7 v9 v10 v11 v12 v13 v14 : CVal) {Q : CExit → CSt → Prop}
    (hk : ∀ (v7 v9 v10 v11 v12 v13 v14 : CVal) h', PI n m h0 p2 p4 h' → Q (.exit 0) ⟨[v0, v1, .ptr p2 31457283 0, v3, .ptr p4 31457283 0, .int .i64 (ps.length : Int), .int .i64 (ps.length : Int), v7, .imm .none 1 (ps.map .str), v9, v10, v11, v12, v13, v14, .int .i64 0], h', []⟩) : W tree.getF psL ⟨[v0, v1, .ptr p2 31457283 0, v3, .ptr p4 31457283 0, .int .i64 (ps.length : Int), .int .i64 (ps.length : Int), v7, .imm .none 1 (ps.map .str), v9, v10, v11, v12, v13, v14, .int .i64 0], hh, []⟩ Q := by
  have hf := S.fit
  obtain ⟨hu, hut, hX⟩ := fx4 hf
  refine W.loop ?_
  repeat (first
    | refine st_ rfl ?_
    | ((first | refine W.regG ?_ | refine WoR.go ?_); generalize e : goR .. = r; simp (disch := omega) [hX, Int.lt_irrefl] at e; replace e : some _ = _ := e; subst e; (try dsimp only [goW])))
  have hP : ∀ k, PI n m h0 p2 p4 ⟨hh.ents, hh.next + k, hh.tys⟩ := fun k => ⟨⟨hu.le (by (try dsimp only); omega), hut.le (by (try dsimp only); omega)⟩, by have := S.nx; (try dsimp only); omega, S.ty, S.ty0, S.o2, S.o4, S.ne, S.g2, S.mr, S.fr⟩
  exact hk _ _ _ _ _ _ _ _ (hP _)
theorem ps_loop {n : Nat} {h0 : CHeap} {p2 p4 : Nat} {ps : List (List UInt8)} (hl : ps.length ≤ 20) (hps : ∀ t ∈ ps, t.length < 10000 ∧ (splitF 46 t).length ≤ 20 ∧ ∀ x ∈ splitF 46 t, PV x) (v0 v1 v3 : CVal) {Q : CExit → CSt → Prop} (mE : MT n)
    (hk : ∀ (v7 v9 v10 v11 v12 v13 v14 : CVal) h', PI n mE h0 p2 p4 h' → Q (.exit 0) ⟨[v0, v1, .ptr p2 31457283 0, v3, .ptr p4 31457283 0, .int .i64 (ps.length : Int), .int .i64 (ps.length : Int), v7, .imm .none 1 (ps.map .str), v9, v10, v11, v12, v13, v14, .int .i64 0], h', []⟩) :
    ∀ (R A : List (List UInt8)) (m : MT n) (v7 v9 v10 v11 v12 v13 v14 : CVal) hh, ps = A ++ R → R.foldl (fun m t => addT n m (splitF 46 t)) m = mE → (∀ (k : Nat) t, R[k]? = some t → okT n ((R.take k).foldl (fun m t => addT n m (splitF 46 t)) m) (splitF 46 t) = true) → PI n m h0 p2 p4 hh → W tree.getF psL ⟨[v0, v1, .ptr p2 31457283 0, v3, .ptr p4 31457283 0, .int .i64 (A.length : Int), .int .i64 (ps.length : Int), v7, .imm .none 1 (ps.map .str), v9, v10, v11, v12, v13, v14, .int .i64 0], hh, []⟩ Q := by
  intro R
  induction R with
  | nil =>
    intro A m v7 v9 v10 v11 v12 v13 v14 hh h1 h2 _ S
    rw [List.append_nil] at h1
    subst h1 h2
    exact ps_end S _ _ _ _ _ _ _ _ _ _ hk
  | cons t R ih =>
    intro A m v7 v9 v10 v11 v12 v13 v14 hh h1 h2 h3 S
    have htm : t ∈ ps := by rw [h1]; simp
    obtain ⟨t1, t2, t3⟩ := hps t htm
    refine ps_go S hl A.length (by rw [h1]; simp) t1 t2 t3 (h3 0 t rfl) _ _ _ _ _ _ _ _ _ _ fun v7 v9 v10 v11 v12 v13 v14 h' S' => ?_
    have := ih (A ++ [t]) (addT n m (splitF 46 t)) v7 v9 v10 v11 v12 v13 v14 h' (by rw [h1]; simp) h2 (fun k t' hk' => h3 (k + 1) t' hk') S'
    simp only [List.length_append, List.length_cons, List.length_nil, Nat.zero_add, Int.natCast_add, Int.natCast_one] at this
    exact this
end Go.Proofs.YthklcbclodeilaaGreatDoor.IrT
namespace Go.Proofs.YthklcbclodeilaaGreatDoor.IrT
open Go Go.CI
set_option maxRecDepth 100000
set_option maxHeartbeats 4000000
set_option linter.unusedVariables false
set_option linter.unusedSimpArgs false
attribute [local irreducible] W Wo Wc WoR

/-- What Parse reads: the paths of a text, one by one. -/
def foldT (n : Nat) (l : List (List UInt8)) : MT n := l.foldl (fun m t => addT n m (splitF 46 t)) (empT n)
theorem ps_F (n : Nat) (s : List UInt8) (hs : s.length < 10000) (hne : s ≠ []) (hl : (splitF 44 s).length ≤ 20) (hps : ∀ t ∈ splitF 44 s, t.length < 10000 ∧ (splitF 46 t).length ≤ 20 ∧ ∀ x ∈ splitF 46 t, PV x)
    (hok : ∀ (k : Nat) t, (splitF 44 s)[k]? = some t → okT n (foldT n ((splitF 44 s).take k)) (splitF 46 t) = true) {K : CVal → CHeap → Prop} {h : CHeap} (hf : Fit h)
    (hk : ∀ v' h', AR n (foldT n (splitF 44 s)) h [] v' h' → K (.tup [v', .int .i64 0]) h') : Wc tree.getF 5 [.str s] h K := by
  obtain ⟨hu, hut, hX⟩ := fx4 hf
  have SP := sp_F s 44 (by omega)
  have hne2 : (s == []) = false := by cases s with | nil => exact absurd rfl hne | cons _ _ => rfl
  refine Wc.mkG 5 c5 (by kernel_rfl) rfl ?_
  generalize e : entryC .. = r
  simp (disch := omega) [c5] at e
  subst e
  repeat (fail_if_success (show W tree.getF psL _ _)
          first
    | refine st_ rfl ?_
    | ((first | refine W.regG ?_ | refine WoR.go ?_); generalize e : goR .. = r; simp (disch := omega) [hX, hne, hne2, hs, c5] at e; replace e : some _ = _ := e; subst e; (try dsimp only [goW]))
    | (refine pe_ (SP) fun n37 g37 => ⟨rfl, ?_⟩; (try dsimp only at g37)))
  refine ps_loop (n := n) (h0 := h) hl hps _ _ _ (foldT n (splitF 44 s)) (fun v7 v9 v10 v11 v12 v13 v14 h' S => ?_) (splitF 44 s) [] (empT n) _ _ _ _ _ _ _ _ rfl rfl hok ⟨?_, ?_, rfl, hut, ?_, ?_, ?_, ?_, ⟨.nils, .nils, .nils, [], ?_, MR.emp n _, List.nodup_nil, fun q hq => by cases hq⟩, fun q hq => ?_⟩
  · obtain ⟨r0, r1, r2, ids, g4, hM, hnd, hid⟩ := S.mr
    obtain ⟨q0, q1, q2, hv, y0, y1, y2⟩ := hM.nr
    cases hv
    have e0 := y0.strip
    have e1 := y1.strip
    have e2 := y2.strip
    simp only [CVal.strip] at e0 e1 e2
    have hf' := S.fit
    have k2 := S.g2
    obtain ⟨hu', hut', hX'⟩ := fx4 hf'
    (try simp only [outOf, thenW_ret, thenW_exit, roundW, reduceIte])
    repeat (first
      | refine st_ rfl ?_
      | ((first | refine W.regG ?_ | refine WoR.go ?_); generalize e : goR .. = r; simp (disch := omega) [hX', g4, k2, e0, e1, e2, sy_getEnt_setEnt k2, c5] at e; replace e : some _ = _ := e; subst e; (try dsimp only [goW])))
    (first | (refine W.ret ?_; (try simp only [outOf, thenW_ret, thenW_exit, roundW, reduceIte]); refine endW.of (.inl rfl) rfl ?_) | refine endW.of (.inl rfl) rfl ?_ | refine endW.of (.inr rfl) rfl ?_); generalize e : endsC .. = r; simp (disch := omega) [hX', g4, k2, e0, e1, e2, sy_getEnt_setEnt k2, c5] at e
    subst e
    have hnx := S.nx
    have hty := S.ty
    have hrow : ∀ q ∈ ids, ∀ va es, getEnt h'.ents q = some (.row va es) → getEnt (dropCells (setEnt h'.ents h.next (.cells [r0, r1, r2])) h.next) q = some (.row va es) := fun q hq va es h9 => by
      have hq4 : q ≠ h.next := fun e => by subst e; rw [k2] at h9; cases h9
      exact dc_row (by rw [getEnt_setEnt_ne hq4]; exact h9)
    refine hk _ _ ⟨⟨dc_under (hu'.set.le (by (try dsimp only); omega)), hut'.le (by (try dsimp only); omega)⟩, by (try dsimp only); omega, hty, ⟨ids, hM.rows hrow, hnd, fun q hq => .inr (hid q hq)⟩, fun q hq _ => ?_⟩
    dsimp only
    rw [dc_lt hq, getEnt_setEnt_ne (by omega)]
    exact S.fr q hq
  · exact ft_
  · (try dsimp only); omega
  · omega
  · omega
  · omega
  · dsimp only; rw [getEnt_skip (by omega)]; simp [getEnt]
  · simp [getEnt]
  · dsimp only; rw [getEnt_skip (by omega), getEnt_skip (by omega)]
theorem ps_nil (n : Nat) {K : CVal → CHeap → Prop} {h : CHeap} (hf : Fit h)
    (hk : ∀ h', AR n (empT n) h [] nil3 h' → K (.tup [nil3, .int .i64 0]) h') : Wc tree.getF 5 [.str []] h K := by
  obtain ⟨hu, hut, hX⟩ := fx4 hf
  refine Wc.mkG 5 c5 (by kernel_rfl) rfl ?_
  generalize e : entryC .. = r
  simp (disch := omega) [c5] at e
  subst e
  repeat (first
    | refine st_ rfl ?_
    | ((first | refine W.regG ?_ | refine WoR.go ?_); generalize e : goR .. = r; simp (disch := omega) [hX, c5] at e; replace e : some _ = _ := e; subst e; (try dsimp only [goW])))
  (first | (refine W.ret ?_; (try simp only [outOf, thenW_ret, thenW_exit, roundW, reduceIte]); refine endW.of (.inl rfl) rfl ?_) | refine endW.of (.inl rfl) rfl ?_ | refine endW.of (.inr rfl) rfl ?_); generalize e : endsC .. = r; simp (disch := omega) [hX, c5] at e
  subst e
  refine hk _ ⟨⟨hu.le (by (try dsimp only); omega), hut.le (by (try dsimp only); omega)⟩, by (try dsimp only); omega, rfl, ⟨[], MR.emp n _, List.nodup_nil, fun q hq => by cases hq⟩, fun q hq _ => rfl⟩
end Go.Proofs.YthklcbclodeilaaGreatDoor.IrT
namespace Go.Proofs.YthklcbclodeilaaGreatDoor.IrT
open Go Go.CI
set_option maxRecDepth 100000
set_option maxHeartbeats 4000000
set_option linter.unusedVariables false
set_option linter.unusedSimpArgs false
attribute [local irreducible] W Wo Wc WoR

def neT : (n : Nat) → MT n → Prop
  | 0, _ => False
  | _ + 1, m => m ≠ []
abbrev lsT {n : Nat} (m : MT (n + 1)) : List (List UInt8 × Option (MT n)) := m
def mayT : (n : Nat) → MT n → Prop
  | 0, _ => True
  | n + 1, m => List.length m < 2000 ∧ (∀ e ∈ (lsT m), PV e.1 ∧ ∀ t, e.2 = some t → neT n t ∧ mayT n t) ∧ ∀ (k : Nat) x y, (lsT m)[k]? = some x → (lsT m)[k + 1]? = some y → bytesLt x.1 y.1 = true
def MC (n : Nat) : Prop := ∀ (m : MT n) (v : CVal) (h : CHeap) (ids : List Nat) (dp : Nat), MR n m v h.ents ids → Fit h → mayT n m → dp + n < 20 → ∀ K : CVal → CHeap → Prop, (∀ n', h.next ≤ n' → K (.bool true) ⟨h.ents, n', h.tys⟩) → Wc tree.getF 15 [v, .int .i64 (dp : Int)] h K
abbrev myL : CCode := (.loop true (.seq (.region [.g (.bin .lss (.var 4) (.var 5))] [(6, 0)] [] []) (.seq (.cond (.var 6) .skip (.exit 0)) (.seq (.block 1 (.seq (.region [.v 4, .g (.idxAddr 1 (.var 7) (.var 4)), .l 0, .m (.loc 2), .m (.loc 1)] [(8, 4), (9, 3)] [] []) (.seq (.region [.v 8, .g (.call false 27 [(.loc 0)]), .g (.not (.loc 0)), .m (.loc 0), .q (.mv (.var 9)) 0 false, .q (.bin .gtr (.loc 0) (.k 0)) 1 false, .q (.mv (.loc 0)) 2 false, .q (.fieldAddr 0 (.var 1)) 0 true, .q (.load none (.loc 0)) 1 true, .q (.mv (.var 9)) 2 true, .q (.bin .sub (.loc 0) (.k 1)) 3 true, .q (.idxAddr 1 (.loc 2) (.loc 0)) 4 true, .q (.load none (.loc 0)) 5 true, .q (.mv (.var 8)) 6 true, .q (.bin .geq (.loc 1) (.loc 0)) 7 true, .q (.pick (.loc 8) (.loc 0) (.b false)) 11 false, .g (.pick (.loc 12) (.b true) (.loc 0)), .m (.loc 0), .q (.fieldAddr 1 (.var 1)) 0 false, .q (.load none (.loc 0)) 1 false, .q (.mv (.var 9)) 2 false, .q (.idxAddr 1 (.loc 1) (.loc 0)) 3 false, .q (.load none (.loc 0)) 4 false, .q (.fieldAddr 2 (.var 1)) 5 false, .q (.load none (.loc 0)) 6 false, .q (.mv (.var 9)) 7 false, .q (.idxAddr 3 (.loc 1) (.loc 0)) 8 false, .q (.load (some 3) (.loc 0)) 9 false, .q (.call false 32 [(.loc 0)]) 10 false, .q (.eqv .bool true (.loc 6) (.loc 0)) 11 false, .g (.pick (.loc 12) (.b true) (.loc 0)), .m (.loc 0), .q (.fieldAddr 2 (.var 1)) 0 false, .q (.load none (.loc 0)) 1 false, .q (.mv (.var 9)) 2 false, .q (.idxAddr 3 (.loc 1) (.loc 0)) 3 false, .q (.load (some 3) (.loc 0)) 4 false, .q (.mv (.var 2)) 5 false, .q (.bin .add (.loc 0) (.k 1)) 6 false, .q (.call false 15 [(.loc 2), (.loc 0)]) 7 false, .q (.not (.loc 0)) 8 false, .g (.pick (.loc 9) (.b true) (.loc 0))] [(10, 41)] [(19, 1, 2), (22, 1, 2)] []) (.cond (.var 10) (.seq (.region [.m (.b false)] [(11, 0)] [] []) .ret) .skip)))) (.region [.g (.bin .add (.var 4) (.k 1)), .m (.loc 0)] [(4, 1)] [] [])))))

theorem nn_nil  : Pe 32 [nil3] (.bool true) := by
  intro h hf K hk
  obtain ⟨hu, hut, hX⟩ := fx4 hf
  refine Wc.mkG 32 c32 (by kernel_rfl) rfl ?_
  generalize e : entryC .. = r
  simp (disch := omega) [c32] at e
  subst e
  repeat (first
    | refine st_ rfl ?_
    | ((first | refine W.regG ?_ | refine WoR.go ?_); generalize e : goR .. = r; simp (disch := omega) [hX, c32] at e; replace e : some _ = _ := e; subst e; (try dsimp only [goW]))
    | ((first | (refine W.ret ?_; (try simp only [outOf, thenW_ret, thenW_exit, roundW, reduceIte]); refine endW.of (.inl rfl) rfl ?_) | refine endW.of (.inl rfl) rfl ?_ | refine endW.of (.inr rfl) rfl ?_); generalize e : endsC .. = r; simp (disch := omega) [hX, c32] at e; subst e; refine hk _ ?_; omega))

theorem nn_ref {a va b vb c vc L : Nat} (hL : 0 < L) (hl2 : L < 2000) : Pe 32 [.agg [.ref a va 1 0 L, .ref b vb 1 0 L, .ref c vc 3 0 L]] (.bool false) := by
  intro h hf K hk
  obtain ⟨hu, hut, hX⟩ := fx4 hf
  have hZ : ((L : Int) + (L : Int) + (L : Int) == 0) = false := by simp; omega
  refine Wc.mkG 32 c32 (by kernel_rfl) rfl ?_
  generalize e : entryC .. = r
  simp (disch := omega) [c32] at e
  subst e
  repeat (first
    | refine st_ rfl ?_
    | ((first | refine W.regG ?_ | refine WoR.go ?_); generalize e : goR .. = r; simp (disch := omega) [hX, hZ, c32] at e; replace e : some _ = _ := e; subst e; (try dsimp only [goW]))
    | ((first | (refine W.ret ?_; (try simp only [outOf, thenW_ret, thenW_exit, roundW, reduceIte]); refine endW.of (.inl rfl) rfl ?_) | refine endW.of (.inl rfl) rfl ?_ | refine endW.of (.inr rfl) rfl ?_); generalize e : endsC .. = r; simp (disch := omega) [hX, hZ, c32] at e; subst e; refine hk _ ?_; omega))

theorem nn_F {n : Nat} {t : MT n} {v : CVal} {e : List (Nat × CObj)} {ids : List Nat} (hM : MR n t v e ids) (hn : neT n t) (hm : mayT n t) : Pe 32 [v] (.bool false) := by
  cases n with
  | zero => cases hn
  | succ n =>
    rcases hM with ⟨rfl, rfl, rfl⟩ | ⟨a, va, b, vb, c, vc, zs, rfl, rfl, h3, h4, h5, rfl, h7⟩
    · exact absurd rfl hn
    · refine nn_ref ?_ (by simpa using hm.1)
      cases zs with
      | nil => exact absurd rfl hn
      | cons _ _ => simp
theorem my_nil (n dp : Nat) (hdp : dp < 20) : Pe 15 [nil3, .int .i64 (dp : Int)] (.bool true) := by
  intro h hf K hk
  obtain ⟨hu, hut, hX⟩ := fx4 hf
  have hd2 : (dp : Int) < 20 := by omega
  refine Wc.mkG 15 c15 (by kernel_rfl) rfl ?_
  generalize e : entryC .. = r
  simp (disch := omega) [c15] at e
  subst e
  repeat (first
    | refine st_ rfl ?_
    | ((first | refine W.regG ?_ | refine WoR.go ?_); generalize e : goR .. = r; simp (disch := omega) [hX, hd2, Int.lt_irrefl, c15] at e; replace e : some _ = _ := e; subst e; (try dsimp only [goW]))
    | (refine W.loop ?_; try (generalize e : dropped .. = r; simp (disch := omega) [hX, hd2, Int.lt_irrefl, c15] at e; subst e; try dsimp only))
    | (refine pe_ (nn_nil) fun _ g => ⟨rfl, ?_⟩; (try dsimp only at g))
    | ((first | (refine W.ret ?_; (try simp only [outOf, thenW_ret, thenW_exit, roundW, reduceIte]); refine endW.of (.inl rfl) rfl ?_) | refine endW.of (.inl rfl) rfl ?_ | refine endW.of (.inr rfl) rfl ?_); generalize e : endsC .. = r; simp (disch := omega) [hX, hd2, Int.lt_irrefl, c15] at e; subst e; refine hk _ ?_; omega))

end Go.Proofs.YthklcbclodeilaaGreatDoor.IrT
namespace Go.Proofs.YthklcbclodeilaaGreatDoor.IrT
open Go Go.CI
set_option maxRecDepth 100000
set_option maxHeartbeats 4000000
set_option linter.unusedVariables false
set_option linter.unusedSimpArgs false
attribute [local irreducible] W Wo Wc WoR

theorem my_go {n : Nat} (IH : MC n) {A B : List (Zr (MT n))} {z : Zr (MT n)} {L dp : Nat} (hL : (A ++ z :: B).length = L) (hlen : L < 2000) {a va b vb c vc bx : Nat} {h : CHeap} (hf : Fit h)
    (hga : getEnt h.ents a = some (.row va ((A ++ z :: B).map fun z => .str z.nm))) (hgb : getEnt h.ents b = some (.row vb ((A ++ z :: B).map Zr.wh))) (hgc : getEnt h.ents c = some (.row vc ((A ++ z :: B).map (·.v)))) (hgx : getEnt h.ents bx = some (.cells [.ref a va 1 0 L, .ref b vb 1 0 L, .ref c vc 3 0 L])) (hzz : ZR n h.ents z) (hP : PV z.nm) (hsub : ∀ t, z.o = some t → neT n t ∧ mayT n t) (hprev : ∀ y, A[A.length - 1]? = some y → bytesLt y.nm z.nm = true) (hdp : dp + n + 1 < 20) (v0 v3 : CVal) (v6 v8 v9 v10 : CVal) {Q : CExit → CSt → Prop}
    (hk : ∀ (v6 v8 v9 v10 : CVal) n', h.next ≤ n' → W tree.getF myL ⟨[v0, .ptr bx 31457283 0, .int .i64 (dp : Int), v3, .int .i64 ((A.length : Int) + 1), .int .i64 (L : Int), v6, .ref a va 1 0 L, v8, v9, v10, .bool false], ⟨h.ents, n', h.tys⟩, []⟩ Q) : W tree.getF myL ⟨[v0, .ptr bx 31457283 0, .int .i64 (dp : Int), v3, .int .i64 (A.length : Int), .int .i64 (L : Int), v6, .ref a va 1 0 L, v8, v9, v10, .bool false], h, []⟩ Q := by
  obtain ⟨hu, hut, hX⟩ := fx4 hf
  have hp3 : (A.length : Int) < (L : Int) := by rw [← hL]; simp; omega
  have hpp : A.length < L := by omega
  have hp2 : (A.length : Int).toNat = A.length := by omega
  have hn1 : nth ((A ++ z :: B).map fun z => CVal.str z.nm) A.length = .str z.nm := by
    have := nth_mid (A.map fun z => CVal.str z.nm) (B.map fun z => CVal.str z.nm) (.str z.nm)
    simpa using this
  have hn2 : nth ((A ++ z :: B).map Zr.wh) A.length = .bool z.o.isNone := by
    have := nth_mid (A.map Zr.wh) (B.map Zr.wh) z.wh
    simpa [Zr.wh] using this
  have hn3 : nth ((A ++ z :: B).map (·.v)) A.length = z.v := by
    have := nth_mid (A.map (·.v)) (B.map (·.v)) z.v
    simpa using this
  have hl1 : ((A ++ z :: B).map fun z => CVal.str z.nm).length = L := by rw [List.length_map, hL]
  have hl2 : ((A ++ z :: B).map Zr.wh).length = L := by rw [List.length_map, hL]
  have hl3 : ((A ++ z :: B).map (·.v)).length = L := by rw [List.length_map, hL]
  have PT := pt_F _ hP
  have hpr : ∀ y, A[A.length - 1]? = some y → nth ((A ++ z :: B).map fun z => CVal.str z.nm) (A.length - 1) = .str y.nm := fun y hy => by
    obtain ⟨hi, _⟩ := List.getElem?_eq_some_iff.1 hy
    exact nth_mapG (fun z => CVal.str z.nm) (A ++ z :: B) (A.length - 1) y (by rw [List.getElem?_append_left hi]; exact hy)
  generalize ((A ++ z :: B).map fun z => CVal.str z.nm) = NS at *
  generalize ((A ++ z :: B).map Zr.wh) = WS at *
  generalize ((A ++ z :: B).map (·.v)) = SS at *
  have hM0 : ∃ r0 r1 r2, z.v = .agg [r0, r1, r2] ∧ NR r0 ∧ NR r1 ∧ NR r2 := by
    unfold ZR at hzz
    cases ho : z.o with
    | none => simp only [ho] at hzz; exact ⟨_, _, _, hzz.1, .inl rfl, .inl rfl, .inl rfl⟩
    | some t => simp only [ho] at hzz; exact hzz.nr
  obtain ⟨r0, r1, r2, hv, q0, q1, q2⟩ := hM0
  have e0 := q0.strip
  have e1 := q1.strip
  have e2 := q2.strip
  simp only [CVal.strip] at e0 e1 e2
  have hnn : Pe 32 [.agg [r0, r1, r2]] (.bool z.o.isNone) := by
    unfold ZR at hzz
    cases ho : z.o with
    | none =>
      simp only [ho] at hzz
      rw [← hv, hzz.1]; exact nn_nil
    | some t =>
      simp only [ho] at hzz
      rw [← hv]; exact nn_F hzz (hsub t ho).1 (hsub t ho).2
  have hmm : ∀ (nx : Nat) (K : CVal → CHeap → Prop), Fit ⟨h.ents, nx, h.tys⟩ → (∀ n', nx ≤ n' → K (.bool true) ⟨h.ents, n', h.tys⟩) → Wc tree.getF 15 [.agg [r0, r1, r2], .int .i64 ((dp : Int) + 1)] ⟨h.ents, nx, h.tys⟩ K := fun nx K hf hk => by
    have hc : ((dp : Int) + 1) = ((dp + 1 : Nat) : Int) := by omega
    rw [hc, ← hv]
    unfold ZR at hzz
    cases ho : z.o with
    | none =>
      simp only [ho] at hzz
      rw [hzz.1]
      exact my_nil n (dp + 1) (by omega) _ hf K hk
    | some t =>
      simp only [ho] at hzz
      exact IH t z.v ⟨h.ents, nx, h.tys⟩ z.ids (dp + 1) hzz hf (hsub t ho).2 (by omega) K hk
  rw [hv] at hn3
  have hd9 : (dp : Int) < 20 := by omega
  rcases Nat.eq_zero_or_pos A.length with hA | hA
  · have hA2 : ¬ (0 : Int) < (A.length : Int) := by omega
    refine W.loop ?_
    repeat (first
      | refine st_ rfl ?_
      | ((first | refine W.regG ?_ | refine WoR.go ?_); generalize e : goR .. = r; simp (disch := omega) [hX, hga, hgb, hgc, hgx, hp3, hpp, hp2, hn1, hn2, hn3, hl1, hl2, hl3, hA2, hd9, e0, e1, e2] at e; replace e : some _ = _ := e; subst e; (try dsimp only [goW]))
      | (refine pe_ (PT) fun _ g => ⟨rfl, ?_⟩; (try dsimp only at g))
      | (refine pe_ (hnn) fun _ g => ⟨rfl, ?_⟩; (try dsimp only at g))
      | (refine hmm _ _ ft_ fun _ g => ⟨rfl, ?_⟩; (try dsimp only at g)))
    show W tree.getF myL (dropped true _ _) Q
    generalize e : dropped _ _ _ = r
    simp (disch := omega) [hX] at e
    subst e
    refine hk _ _ _ _ _ ?_; omega
  · have hA2 : (0 : Int) < (A.length : Int) := by omega
    have hA3 : ((A.length : Int) - 1).toNat = A.length - 1 := by omega
    have hA4 : (A.length : Int) - 1 < (L : Int) := by omega
    have hA5 : 0 ≤ (A.length : Int) - 1 := by omega
    have hA6 : A.length - 1 < L := by omega
    have hy : A[A.length - 1]? = some (A[A.length - 1]'(by omega)) := List.getElem?_eq_getElem (by omega)
    have hpy := hpr _ hy
    have hby := hprev _ hy
    generalize (A[A.length - 1]'(by omega)) = y at hpy hby
    refine W.loop ?_
    repeat (first
      | refine st_ rfl ?_
      | ((first | refine W.regG ?_ | refine WoR.go ?_); generalize e : goR .. = r; simp (disch := omega) [hX, hga, hgb, hgc, hgx, hp3, hpp, hp2, hn1, hn2, hn3, hl1, hl2, hl3, hA2, hA3, hA4, hA5, hA6, hpy, hby, hd9, e0, e1, e2] at e; replace e : some _ = _ := e; subst e; (try dsimp only [goW]))
      | (refine pe_ (PT) fun _ g => ⟨rfl, ?_⟩; (try dsimp only at g))
      | (refine pe_ (hnn) fun _ g => ⟨rfl, ?_⟩; (try dsimp only at g))
      | (refine hmm _ _ ft_ fun _ g => ⟨rfl, ?_⟩; (try dsimp only at g)))
    show W tree.getF myL (dropped true _ _) Q
    generalize e : dropped _ _ _ = r
    simp (disch := omega) [hX] at e
    subst e
    refine hk _ _ _ _ _ ?_; omega
theorem my_end {L dp : Nat} {a va bx : Nat} {h : CHeap} (hf : Fit h) (v0 v3 : CVal) (v6 v8 v9 v10 : CVal) {Q : CExit → CSt → Prop}
    (hk : ∀ (v6 v8 v9 v10 : CVal) n', h.next ≤ n' → Q (.exit 0) ⟨[v0, .ptr bx 31457283 0, .int .i64 (dp : Int), v3, .int .i64 (L : Int), .int .i64 (L : Int), v6, .ref a va 1 0 L, v8, v9, v10, .bool false], ⟨h.ents, n', h.tys⟩, []⟩) : W tree.getF myL ⟨[v0, .ptr bx 31457283 0, .int .i64 (dp : Int), v3, .int .i64 (L : Int), .int .i64 (L : Int), v6, .ref a va 1 0 L, v8, v9, v10, .bool false], h, []⟩ Q := by
  obtain ⟨hu, hut, hX⟩ := fx4 hf
  refine W.loop ?_
  repeat (first
    | refine st_ rfl ?_
    | ((first | refine W.regG ?_ | refine WoR.go ?_); generalize e : goR .. = r; simp (disch := omega) [hX, Int.lt_irrefl] at e; replace e : some _ = _ := e; subst e; (try dsimp only [goW])))
  all_goals (refine hk _ _ _ _ _ ?_; ((try dsimp only); omega))
end Go.Proofs.YthklcbclodeilaaGreatDoor.IrT
namespace Go.Proofs.YthklcbclodeilaaGreatDoor.IrT
open Go Go.CI
set_option maxRecDepth 100000
set_option maxHeartbeats 4000000
set_option linter.unusedVariables false
set_option linter.unusedSimpArgs false
attribute [local irreducible] W Wo Wc WoR


theorem nn_any {a va b vb c vc L : Nat} (hl2 : L < 2000) : Pe 32 [.agg [.ref a va 1 0 L, .ref b vb 1 0 L, .ref c vc 3 0 L]] (.bool (decide (L = 0))) := by
  intro h hf K hk
  obtain ⟨hu, hut, hX⟩ := fx4 hf
  have hZ : ((L : Int) + (L : Int) + (L : Int) == 0) = decide (L = 0) := by by_cases h0 : L = 0 <;> simp [h0] <;> omega
  refine Wc.mkG 32 c32 (by kernel_rfl) rfl ?_
  generalize e : entryC .. = r
  simp (disch := omega) [c32] at e
  subst e
  repeat (first
    | refine st_ rfl ?_
    | ((first | refine W.regG ?_ | refine WoR.go ?_); generalize e : goR .. = r; simp (disch := omega) [hX, hZ, c32] at e; replace e : some _ = _ := e; subst e; (try dsimp only [goW]))
    | ((first | (refine W.ret ?_; (try simp only [outOf, thenW_ret, thenW_exit, roundW, reduceIte]); refine endW.of (.inl rfl) rfl ?_) | refine endW.of (.inl rfl) rfl ?_ | refine endW.of (.inr rfl) rfl ?_); generalize e : endsC .. = r; simp (disch := omega) [hX, hZ, c32] at e; subst e; refine hk _ ?_; omega))

theorem my_loop {n : Nat} (IH : MC n) {zs : List (Zr (MT n))} {L dp : Nat} (hL : zs.length = L) (hlen : L < 2000) {a va b vb c vc bx : Nat} {h : CHeap} (hf : Fit h)
    (hga : getEnt h.ents a = some (.row va (zs.map fun z => .str z.nm))) (hgb : getEnt h.ents b = some (.row vb (zs.map Zr.wh))) (hgc : getEnt h.ents c = some (.row vc (zs.map (·.v)))) (hgx : getEnt h.ents bx = some (.cells [.ref a va 1 0 L, .ref b vb 1 0 L, .ref c vc 3 0 L])) (hz : ∀ z ∈ zs, ZR n h.ents z) (hm : mayT (n + 1) (zs.map fun z => (z.nm, z.o))) (hdp : dp + n + 1 < 20) (v0 v3 : CVal) {Q : CExit → CSt → Prop}
    (hk : ∀ (v6 v8 v9 v10 : CVal) n', h.next ≤ n' → Q (.exit 0) ⟨[v0, .ptr bx 31457283 0, .int .i64 (dp : Int), v3, .int .i64 (L : Int), .int .i64 (L : Int), v6, .ref a va 1 0 L, v8, v9, v10, .bool false], ⟨h.ents, n', h.tys⟩, []⟩) :
    ∀ (R A : List (Zr (MT n))) (nx : Nat) (v6 v8 v9 v10 : CVal), zs = A ++ R → h.next ≤ nx → W tree.getF myL ⟨[v0, .ptr bx 31457283 0, .int .i64 (dp : Int), v3, .int .i64 (A.length : Int), .int .i64 (L : Int), v6, .ref a va 1 0 L, v8, v9, v10, .bool false], ⟨h.ents, nx, h.tys⟩, []⟩ Q := by
  intro R
  induction R with
  | nil =>
    intro A nx v6 v8 v9 v10 h1 h2
    rw [List.append_nil] at h1
    subst h1
    rw [hL]
    exact my_end (h := ⟨h.ents, nx, h.tys⟩) ⟨hf.1.le h2, hf.2.le h2⟩ _ _ _ _ _ _ fun v6 v8 v9 v10 n' g => hk v6 v8 v9 v10 n' (Nat.le_trans h2 g)
  | cons z R ih =>
    intro A nx v6 v8 v9 v10 h1 h2
    have hzm : z ∈ zs := by rw [h1]; simp
    have hmz := hm.2.1 (z.nm, z.o) (List.mem_map.2 ⟨z, hzm, rfl⟩)
    refine my_go IH (B := R) (z := z) (a := a) (va := va) (b := b) (vb := vb) (c := c) (vc := vc) (h := ⟨h.ents, nx, h.tys⟩) (by rw [← h1]; exact hL) hlen ⟨hf.1.le h2, hf.2.le h2⟩ (by rw [← h1]; exact hga) (by rw [← h1]; exact hgb) (by rw [← h1]; exact hgc) hgx (hz z hzm) hmz.1 hmz.2 (fun y hy => ?_) hdp _ _ _ _ _ _ fun v6 v8 v9 v10 n' g1 => ?_
    · obtain ⟨hi, _⟩ := List.getElem?_eq_some_iff.1 hy
      have := hm.2.2 (A.length - 1) (y.nm, y.o) (z.nm, z.o) (by show (List.map (fun z => (z.nm, z.o)) zs)[_]? = _; rw [List.getElem?_map, h1, List.getElem?_append_left hi, hy]; rfl) (by show (List.map (fun z => (z.nm, z.o)) zs)[_]? = _; rw [List.getElem?_map, h1, List.getElem?_append_right (by omega)]; rw [show A.length - 1 + 1 - A.length = 0 by omega]; rfl)
      exact this
    · have := ih (A ++ [z]) n' v6 v8 v9 v10 (by rw [h1]; simp) (Nat.le_trans h2 g1)
      simp only [List.length_append, List.length_cons, List.length_nil, Nat.zero_add, Int.natCast_add, Int.natCast_one] at this
      exact this
theorem my_rows {n : Nat} (IH : MC n) {zs : List (Zr (MT n))} {L dp : Nat} (hL : zs.length = L) (hlen : L < 2000) {a va b vb c vc : Nat} {h : CHeap} (hf : Fit h)
    (hga : getEnt h.ents a = some (.row va (zs.map fun z => .str z.nm))) (hgb : getEnt h.ents b = some (.row vb (zs.map Zr.wh))) (hgc : getEnt h.ents c = some (.row vc (zs.map (·.v)))) (hz : ∀ z ∈ zs, ZR n h.ents z) (hm : mayT (n + 1) (zs.map fun z => (z.nm, z.o))) (hdp : dp + n + 1 < 20) {K : CVal → CHeap → Prop}
    (hk : ∀ n', h.next ≤ n' → K (.bool true) ⟨h.ents, n', h.tys⟩) : Wc tree.getF 15 [(.agg [.ref a va 1 0 L, .ref b vb 1 0 L, .ref c vc 3 0 L]), .int .i64 (dp : Int)] h K := by
  obtain ⟨hu, hut, hX⟩ := fx4 hf
  have hd9 : (dp : Int) < 20 := by omega
  have hd8 : ¬ (20 : Int) ≤ (dp : Int) := by omega
  refine Wc.mkG 15 c15 (by kernel_rfl) rfl ?_
  generalize e : entryC .. = r
  simp (disch := omega) [c15] at e
  subst e
  repeat (fail_if_success (show W tree.getF myL _ _)
          first
    | refine st_ rfl ?_
    | ((first | refine W.regG ?_ | refine WoR.go ?_); generalize e : goR .. = r; simp (disch := omega) [hX, hga, hgb, hgc, hd9, hd8, c15] at e; replace e : some _ = _ := e; subst e; (try dsimp only [goW]))
    | (refine pe_ (nn_any hlen) fun _ g => ⟨rfl, ?_⟩; (try dsimp only at g)))
  have la := in_under hu hga
  have lb := in_under hu hgb
  have lc := in_under hu hgc
  refine my_loop (zs := zs) (a := a) (va := va) (b := b) (vb := vb) (c := c) (vc := vc) (bx := h.next) (h := ⟨(h.next, CObj.cells [.ref a va 1 0 L, .ref b vb 1 0 L, .ref c vc 3 0 L]) :: h.ents, h.next + 1, h.tys⟩) IH hL hlen ?_ ?_ ?_ ?_ ?_ ?_ hm hdp _ _ (fun v6 v8 v9 v10 n' g1 => ?_) zs [] _ _ _ _ _ rfl ?_
  · exact ft_
  · dsimp only; rw [getEnt_skip (by omega)]; exact hga
  · dsimp only; rw [getEnt_skip (by omega)]; exact hgb
  · dsimp only; rw [getEnt_skip (by omega)]; exact hgc
  · simp [getEnt]
  · intro z hz1
    refine (hz z hz1).rows fun q hq va es h9 => ?_
    rw [getEnt_skip (by have := in_under hu h9; omega)]; exact h9
  · dsimp only at g1
    (try simp only [outOf, thenW_ret, thenW_exit, roundW, reduceIte])
    repeat (first
      | refine st_ rfl ?_
      | ((first | refine W.regG ?_ | refine WoR.go ?_); generalize e : goR .. = r; simp (disch := omega) [hX, c15] at e; replace e : some _ = _ := e; subst e; (try dsimp only [goW]))
      | ((first | (refine W.ret ?_; (try simp only [outOf, thenW_ret, thenW_exit, roundW, reduceIte]); refine endW.of (.inl rfl) rfl ?_) | refine endW.of (.inl rfl) rfl ?_ | refine endW.of (.inr rfl) rfl ?_); generalize e : endsC .. = r; simp (disch := omega) [hX, c15] at e; subst e; refine hk _ ?_; omega))
  · (try dsimp only); omega
theorem may_C : ∀ n, MC n
  | 0 => fun m v h ids dp hM hf _ hd K hk => by
    obtain ⟨rfl, rfl⟩ := hM
    exact my_nil 0 dp (by omega) h hf K hk
  | n + 1 => fun m v h ids dp hM hf hm hd K hk => by
    rcases hM with ⟨rfl, rfl, rfl⟩ | ⟨a, va, b, vb, c, vc, zs, rfl, rfl, h3, h4, h5, rfl, h7⟩
    · exact my_nil (n + 1) dp (by omega) h hf K hk
    · have hl : zs.length < 2000 := by simpa using hm.1
      exact my_rows (may_C n) rfl hl hf h3 h4 h5 h7 hm hd hk
theorem May_F {n : Nat} {m : MT n} {v : CVal} {h : CHeap} {ids : List Nat} (hM : MR n m v h.ents ids) (hf : Fit h) (hm : mayT n m) (hn : n < 20) {K : CVal → CHeap → Prop} (hk : ∀ n', h.next ≤ n' → K (.bool true) ⟨h.ents, n', h.tys⟩) : Wc tree.getF 6 [v] h K := by
  obtain ⟨r0, r1, r2, rfl, y0, y1, y2⟩ := hM.nr
  have e0 := y0.strip
  have e1 := y1.strip
  have e2 := y2.strip
  simp only [CVal.strip] at e0 e1 e2
  obtain ⟨hu, hut, hX⟩ := fx4 hf
  refine Wc.mkG 6 c6 (by kernel_rfl) rfl ?_
  generalize e : entryC .. = r
  simp (disch := omega) [c6] at e
  subst e
  repeat (first
    | refine st_ rfl ?_
    | ((first | refine W.regG ?_ | refine WoR.go ?_); generalize e : goR .. = r; simp (disch := omega) [hX, e0, e1, e2, c6] at e; replace e : some _ = _ := e; subst e; (try dsimp only [goW]))
    | (refine may_C n m _ _ ids 0 ?_ ft_ hm (by omega) _ fun _ g => ⟨rfl, ?_⟩; (focus (refine hM.rows fun q hq va es h9 => ?_; dsimp only; rw [getEnt_skip (by have := in_under hu h9; omega)]; exact h9)); (try dsimp only at g))
    | ((first | (refine W.ret ?_; (try simp only [outOf, thenW_ret, thenW_exit, roundW, reduceIte]); refine endW.of (.inl rfl) rfl ?_) | refine endW.of (.inl rfl) rfl ?_ | refine endW.of (.inr rfl) rfl ?_); generalize e : endsC .. = r; simp (disch := omega) [hX, e0, e1, e2, c6] at e; subst e; refine hk _ ?_; omega))
end Go.Proofs.YthklcbclodeilaaGreatDoor.IrT
namespace Go.Proofs.YthklcbclodeilaaGreatDoor.IrT
open Go Go.CI
set_option maxRecDepth 100000
set_option maxHeartbeats 4000000
set_option linter.unusedVariables false
set_option linter.unusedSimpArgs false
attribute [local irreducible] W Wo Wc WoR

/-- Index: of the first one that is the same. -/
abbrev ixLoop : CCode := (.loop true (.seq (.region [.g (.bin .lss (.var 1) (.var 2))] [(3, 0)] [] []) (.seq (.cond (.var 3) .skip (.exit 0)) (.seq (.block 1 (.seq (.region [.v 1, .m (.loc 0)] [(5, 1)] [] []) (.seq (.region [.v 4, .v 0, .v 5, .g (.idxAddr 1 (.loc 1) (.loc 0)), .l 0, .h .eql 4 0] [(6, 5)] [] []) (.cond (.var 6) (.seq (.region [.v 5, .m (.loc 0)] [(7, 1)] [] []) .ret) .skip)))) (.region [.g (.bin .add (.var 1) (.k 1)), .m (.loc 0)] [(1, 1)] [] [])))))
theorem ix_go {a va : Nat} {l : List (List UInt8)} {t : List UInt8} (hnl : l.length < 10000) {h : CHeap} (hf : Fit h) (hg : getEnt h.ents a = some (.row va (l.map .str))) (i : Nat) {x : List UInt8} (hx : l[i]? = some x) (v3 v5 v6 : CVal) {Q : CExit → CSt → Prop} (b : Bool) (hb : (x == t) = b)
    (hk : ∀ (v3 v5 v6 : CVal) n', h.next ≤ n' → if b then Q .ret ⟨[.ref a va 1 0 l.length, .int .i64 (i : Int), .int .i64 (l.length : Int), v3, .str t, v5, v6, .int .i64 (i : Int)], ⟨h.ents, n', h.tys⟩, []⟩ else W tree.getF ixLoop ⟨[.ref a va 1 0 l.length, .int .i64 ((i + 1 : Nat) : Int), .int .i64 (l.length : Int), v3, .str t, v5, v6, .int .i64 0], ⟨h.ents, n', h.tys⟩, []⟩ Q) : W tree.getF ixLoop ⟨[.ref a va 1 0 l.length, .int .i64 (i : Int), .int .i64 (l.length : Int), v3, .str t, v5, v6, .int .i64 0], h, []⟩ Q := by
  obtain ⟨hu, hut, hX⟩ := fx4 hf
  obtain ⟨hm, _⟩ := List.getElem?_eq_some_iff.1 hx
  have hx3 : nth (l.map CVal.str) i = .str x := nth_mapG CVal.str l i _ hx
  have hx4 : ∀ hh : i < l.length, l[i]'hh = x := fun hh => by rw [List.getElem?_eq_getElem hh] at hx; exact Option.some.inj hx
  have hml : (i : Int) < (l.length : Int) := by omega
  have hm2 : (i : Int).toNat = i := by omega
  have hb2 : (t == x) = b := by rw [← hb]; exact Bool.eq_iff_iff.2 ⟨fun h => by simpa using (by simpa using h : t = x).symm, fun h => by simpa using (by simpa using h : x = t).symm⟩
  refine W.loop ?_
  cases b
  all_goals
    repeat (first
      | refine st_ rfl ?_
      | ((first | refine W.regG ?_ | refine WoR.go ?_); generalize e : goR .. = r; simp (disch := omega) [hX, hg, hnl, hx, hx3, hx4, hml, hm, hm2, hb, hb2] at e; replace e : some _ = _ := e; subst e; (try dsimp only [goW])))
  · simp only [Bool.false_eq_true, if_false] at hk
    show W tree.getF ixLoop (dropped true _ _) Q; generalize e : dropped _ _ _ = r; simp (disch := omega) [hX, hg] at e; subst e
    have hc : ((i + 1 : Nat) : Int) = (i : Int) + 1 := by omega
    rw [hc] at hk
    exact hk _ _ _ _ (by (try dsimp only); omega)
  · simp only [if_true] at hk
    refine W.ret ?_
    (try simp only [outOf, thenW_ret, thenW_exit, roundW, reduceIte])
    exact hk _ _ _ _ (by (try dsimp only); omega)
theorem ix_loop {a va : Nat} {l : List (List UInt8)} {t : List UInt8} (hnl : l.length < 10000) {h0 : CHeap} (hf : Fit h0) (hg : getEnt h0.ents a = some (.row va (l.map .str))) {pos : Nat} (hpos : l[pos]? = some t) (hbef : ∀ (k : Nat) x, k < pos → l[k]? = some x → x ≠ t) {Q : CExit → CSt → Prop}
    (hk : ∀ (v3 v5 v6 : CVal) n', h0.next ≤ n' → Q .ret ⟨[.ref a va 1 0 l.length, .int .i64 (pos : Int), .int .i64 (l.length : Int), v3, .str t, v5, v6, .int .i64 (pos : Int)], ⟨h0.ents, n', h0.tys⟩, []⟩) :
    ∀ (k i nx : Nat) (v3 v5 v6 : CVal), pos - i ≤ k → i ≤ pos → h0.next ≤ nx → W tree.getF ixLoop ⟨[.ref a va 1 0 l.length, .int .i64 (i : Int), .int .i64 (l.length : Int), v3, .str t, v5, v6, .int .i64 0], ⟨h0.ents, nx, h0.tys⟩, []⟩ Q := by
  have hpl := (List.getElem?_eq_some_iff.1 hpos).1
  have stop : ∀ (nx : Nat) (v3 v5 v6 : CVal), h0.next ≤ nx → W tree.getF ixLoop ⟨[.ref a va 1 0 l.length, .int .i64 (pos : Int), .int .i64 (l.length : Int), v3, .str t, v5, v6, .int .i64 0], ⟨h0.ents, nx, h0.tys⟩, []⟩ Q := fun nx v3 v5 v6 hn => by
    refine ix_go (h := ⟨h0.ents, nx, h0.tys⟩) hnl ⟨hf.1.le hn, hf.2.le hn⟩ hg pos hpos v3 v5 v6 true (by simp) fun v3 v5 v6 n' g1 => ?_
    simp only [if_true]
    exact hk v3 v5 v6 n' (Nat.le_trans hn g1)
  intro k
  induction k with
  | zero =>
    intro i nx v3 v5 v6 h1 h2 hn
    have e1 : i = pos := by omega
    rw [e1]; exact stop nx v3 v5 v6 hn
  | succ k ih =>
    intro i nx v3 v5 v6 h1 h2 hn
    rcases Nat.lt_or_ge i pos with g | g
    · obtain ⟨x, hx⟩ : ∃ x, l[i]? = some x := ⟨_, List.getElem?_eq_getElem (by omega)⟩
      refine ix_go (h := ⟨h0.ents, nx, h0.tys⟩) hnl ⟨hf.1.le hn, hf.2.le hn⟩ hg i hx v3 v5 v6 false (by simpa using hbef i x g hx) fun v3 v5 v6 n' g1 => ?_
      simp only [Bool.false_eq_true, if_false]
      exact ih (i + 1) n' v3 v5 v6 (by omega) (by omega) (Nat.le_trans hn g1)
    · have e1 : i = pos := by omega
      rw [e1]; exact stop nx v3 v5 v6 hn
theorem ix_F {a va : Nat} {l : List (List UInt8)} {t : List UInt8} (hnl : l.length < 10000) {h : CHeap} (hf : Fit h) (hg : getEnt h.ents a = some (.row va (l.map .str))) {pos : Nat} (hpos : l[pos]? = some t) (hbef : ∀ (k : Nat) x, k < pos → l[k]? = some x → x ≠ t) {K : CVal → CHeap → Prop} (hk : ∀ n', h.next ≤ n' → K (.int .i64 (pos : Int)) ⟨h.ents, n', h.tys⟩) : Wc tree.getF 16 [.ref a va 1 0 l.length, .str t] h K := by
  obtain ⟨hu, hut, hX⟩ := fx4 hf
  refine Wc.mkG 16 c16 (by kernel_rfl) rfl ?_
  generalize e : entryC .. = r
  simp (disch := omega) [c16] at e
  subst e
  repeat ((fail_if_success (show W tree.getF ixLoop _ _)); first
    | refine st_ rfl ?_
    | ((first | refine W.regG ?_ | refine WoR.go ?_); generalize e : goR .. = r; simp (disch := omega) [hX, hg, c16] at e; replace e : some _ = _ := e; subst e; (try dsimp only [goW])))
  refine ix_loop hnl hf hg hpos hbef (fun v3 v5 v6 n' g1 => ?_) pos 0 _ _ _ _ (by omega) (Nat.zero_le _) (by (try dsimp only); omega)
  (try simp only [outOf, thenW_ret, thenW_exit, roundW, reduceIte])
  repeat (first
    | refine st_ rfl ?_
    | ((first | refine W.regG ?_ | refine WoR.go ?_); generalize e : goR .. = r; simp (disch := omega) [hX, hg, hnl, c16] at e; replace e : some _ = _ := e; subst e; (try dsimp only [goW]))
    | ((first | (refine W.ret ?_; (try simp only [outOf, thenW_ret, thenW_exit, roundW, reduceIte]); refine endW.of (.inl rfl) rfl ?_) | refine endW.of (.inl rfl) rfl ?_ | refine endW.of (.inr rfl) rfl ?_); generalize e : endsC .. = r; simp (disch := omega) [hX, hg, hnl, c16] at e; subst e; refine hk _ ?_; omega))
end Go.Proofs.YthklcbclodeilaaGreatDoor.IrT
