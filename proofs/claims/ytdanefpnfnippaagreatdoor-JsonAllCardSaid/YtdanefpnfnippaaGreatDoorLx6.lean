/- What the functions of the law 'JsonAll' do: part 6 of 8. -/
import Derived.Test.YtdanefpnfnippaaGreatDoorLx5
namespace Go.Proofs.YtdanefpnfnippaaGreatDoor.IrJ
open Go Go.CI
open Go.LexF hiding zC3 zD5
set_option maxRecDepth 100000
set_option maxHeartbeats 4000000
set_option linter.unusedVariables false
set_option linter.unusedSimpArgs false
attribute [local irreducible] W Wo Wc WoR
theorem mem_dropC {k r : Nat} {x : CObj} : ∀ {l : EE} {y : Nat × CObj}, y ∈ zAe (zA5 l r x) k → y ∈ zAe l k ∨ y = (r, x)
 | [], y, h => .inl h
 | (i, o) :: t, y, h => by
  have ih := fun y => mem_dropC (k := k) (r := r) (x := x) (l := t) (y := y)
  unfold zA5 at h
  cases hir : (i == r) with
  | true =>
   rw [hir, if_pos rfl] at h
   have e : i = r := by simpa using hir
   subst e
   simp only [zAe] at h ⊢
   by_cases hk : k ≤ i
   · rw [if_pos hk] at h ⊢
     have hh : y ∈ zAe t k ∨ y = (i, x) := by
      split at h
      · exact .inl h
      · rcases List.mem_cons.1 h with h | h
        · exact .inr h
        · exact .inl h
     rcases hh with hh | hh
     · left; split
       · exact hh
       · exact List.mem_cons_of_mem _ hh
     · exact .inr hh
   · rw [if_neg hk] at h ⊢
     rcases List.mem_cons.1 h with h | h
     · exact .inr h
     · exact .inl (List.mem_cons_of_mem _ h)
  | false =>
   rw [hir, if_neg Bool.false_ne_true] at h
   simp only [zAe] at h ⊢
   by_cases hk : k ≤ i
   · rw [if_pos hk] at h ⊢
     split at h
     · exact ih y h
     · rcases List.mem_cons.1 h with h | h
       · exact .inl (by rw [h]; exact List.mem_cons_self)
       · rcases ih y h with h | h
         · exact .inl (List.mem_cons_of_mem _ h)
         · exact .inr h
   · rw [if_neg hk] at h ⊢
     rcases List.mem_cons.1 h with h | h
     · exact .inl (by rw [h]; exact List.mem_cons_self)
     · rcases zDt h with h | h
       · exact .inl (List.mem_cons_of_mem _ h)
       · exact .inr h
def NZ (b m : Nat) (z : Option Nat) (l : EE) : Prop := match z with
 | none => NC b l
 | some k => b < k ∧ k ≤ m ∧ NC b (zAe l k)
theorem NZ.setB {b m r : Nat} {z : Option Nat} {x : CObj} {l : EE} (h : NZ b m z l) (hr : r ≤ b) : NZ b m z (zA5 l r x) := by
 cases z with
 | none => exact NC.setB h hr
 | some k =>
  refine ⟨h.1, h.2.1, ?_⟩
  intro y hy hb
  rcases mem_dropC hy with hy | rfl
  · exact h.2.2 y hy hb
  · exact absurd hb (by (try dsimp only); omega)
theorem NZ.tok {b m r v : Nat} {z : Option Nat} {l : EE} (h : NZ b m z l) (hr : m ≤ r) : NZ b (r + 1) z ((r, .tok v) :: l) := by
 cases z with
 | none => exact NC.tok h
 | some k =>
  refine ⟨h.1, by have := h.2.1; omega, ?_⟩
  have e : zAe ((r, CObj.tok v) :: l) k = (r, CObj.tok v) :: zAe l k := by simp only [zAe]; rw [if_pos (by have := h.2.1; omega)]
  rw [e]; exact NC.tok h.2.2
theorem NZ.setT {b m r v : Nat} {z : Option Nat} {l : EE} (h : NZ b m z l) : NZ b m z (zA5 l r (.tok v)) := by
 cases z with
 | none => exact NC.setT h
 | some k =>
  refine ⟨h.1, h.2.1, ?_⟩
  intro y hy hb
  rcases mem_dropC hy with hy | rfl
  · exact h.2.2 y hy hb
  · exact ⟨fun cs e => (by cases e), fun ck kvs e => (by cases e)⟩
structure RQ (zk : Option Nat) (n0 : Nat) (E0 : EE) (p b br : Nat) (o : CObj) (cs : List CVal) (tk : NN) (m : Nat) (h : CHeap) : Prop where
 g : zA4 h.ents p = some o
 gb : zA4 h.ents b = some (.cells cs)
 gr : zA4 h.ents br = some (.cells [.int .i64 0, .int .i64 0, .str [], .nils, .nils])
 gt : ∀ x ∈ tk, zA4 h.ents x.1 = some (.tok x.2) ∧ b < x.1
 d : Over n0 (zA5 E0 p o) h.ents
 nc : NZ b m zk h.ents
 u : Under h.ents m
 mn : m ≤ h.next
 hp : p < n0
 hr : n0 ≤ br
 hb : br < b
 lb : b < m
 f : Fit h
variable {zk : Option Nat} {n0 : Nat} {E0 : EE} {p b br : Nat} {o : CObj} {cs : List CVal} {tk : NN} {m : Nat} {h : CHeap}
theorem RQ.up (S : RQ zk n0 E0 p b br o cs tk m h) {n : Nat} (hn : h.next ≤ n) : RQ zk n0 E0 p b br o cs tk m ⟨h.ents, n, h.tys⟩ :=
 ⟨S.g, S.gb, S.gr, S.gt, S.d, S.nc, S.u, Nat.le_trans S.mn hn, S.hp, S.hr, S.hb, S.lb, ⟨S.f.1.le hn, S.f.2.le hn⟩⟩
theorem RQ.put (S : RQ zk n0 E0 p b br o cs tk m h) (o' : CObj) {n : Nat} {ty : NN} (hn : h.next ≤ n) (ht : zA9 ty n) : RQ zk n0 E0 p b br o' cs tk m ⟨zA5 h.ents p o', n, ty⟩ := by
 have h1 := S.hp; have h2 := S.hr; have h3 := S.hb; have h4 := S.lb; have h5 := S.mn
 refine ⟨zA6 S.g, ?_, ?_, ?_, S.d.setP h1, NZ.setB S.nc (by omega), S.u.set, Nat.le_trans h5 hn, h1, h2, h3, h4, ⟨S.f.1.set.le hn, ht⟩⟩
 · exact (zA7 (by omega)).trans S.gb
 · exact (zA7 (by omega)).trans S.gr
 · intro x hx
   have := S.gt x hx
   exact ⟨(zA7 (by omega)).trans this.1, this.2⟩
theorem RQ.app0 (S : RQ zk n0 E0 p b br o cs tk m h) {i : Nat} {cs' : List CVal} {n : Nat} (hi : m ≤ i := by (try dsimp only); omega) (hn : i < n := by (try dsimp only); omega) (hn2 : h.next ≤ n := by (try dsimp only); omega) : RQ zk n0 E0 p b br o cs' [(i, 0)] (i + 1) ⟨(i, .tok 0) :: zA5 h.ents b (.cells cs'), n, h.tys⟩ := by
 have h1 := S.hp; have h2 := S.hr; have h3 := S.hb; have h4 := S.lb; have h5 := S.mn
 have hq : ∀ q o1, q < m → zA4 (zA5 h.ents b (.cells cs')) q = o1 → zA4 ((i, CObj.tok 0) :: zA5 h.ents b (.cells cs')) q = o1 := by
  intro q o1 hq e
  have : (i == q) = false := by simp; omega
  simp only [zA4, this]; exact e
 refine ⟨?_, ?_, ?_, ?_, ?_, ?_, ?_, hn, h1, h2, h3, by omega, ⟨?_, S.f.2.le (by (try dsimp only); omega)⟩⟩
 · exact hq _ _ (by omega) ((zA7 (by omega)).trans S.g)
 · exact hq _ _ (by omega) (zA6 S.gb)
 · exact hq _ _ (by omega) ((zA7 (by omega)).trans S.gr)
 · intro x hx
   have : x = (i, 0) := by simpa using hx
   subst this
   exact ⟨by simp [zA4], by (try dsimp only); omega⟩
 · exact (S.d.set (by omega)).cons (by omega)
 · exact NZ.tok (NZ.setB S.nc (Nat.le_refl _)) hi
 · exact Under.cons (by omega) (S.u.set.le (by omega))
 · exact Under.cons (by (try dsimp only); omega) (S.u.set.le (by (try dsimp only); omega))
theorem RQ.app1 {i v : Nat} (S : RQ zk n0 E0 p b br o cs [(i, v)] m h) {cs' : List CVal} {n : Nat} (hn : h.next ≤ n := by (try dsimp only); omega) : RQ zk n0 E0 p b br o cs' [(i, v + 1)] m ⟨zA5 (zA5 h.ents i (.tok (v + 1))) b (.cells cs'), n, h.tys⟩ := by
 have h1 := S.hp; have h2 := S.hr; have h3 := S.hb; have h4 := S.lb; have h5 := S.mn
 obtain ⟨ht, hbi⟩ := S.gt (i, v) (by simp)
 dsimp only at ht hbi
 refine ⟨?_, ?_, ?_, ?_, ?_, ?_, S.u.set.set, Nat.le_trans h5 hn, h1, h2, h3, h4, ⟨S.f.1.set.set.le hn, S.f.2.le hn⟩⟩
 · exact (zA7 (by omega)).trans ((zA7 (by omega)).trans S.g)
 · exact zA6 ((zA7 (by omega)).trans S.gb)
 · exact (zA7 (by omega)).trans ((zA7 (by omega)).trans S.gr)
 · intro x hx
   have : x = (i, v + 1) := by simpa using hx
   subst this
   exact ⟨(zA7 (by (try dsimp only); omega)).trans (zA6 ht), hbi⟩
 · exact (S.d.set (by omega)).set (by omega)
 · exact NZ.setB (NZ.setT S.nc) (Nat.le_refl _)
theorem RQ.z (S : RQ none n0 E0 p b br o cs tk m h) : zA4 h.ents p = some o ∧ zA4 h.ents b = some (.cells cs) ∧ zA4 h.ents br = some (.cells [.int .i64 0, .int .i64 0, .str [], .nils, .nils]) ∧ (∀ m, b < m → zAe h.ents m = h.ents) ∧ (∀ q, m ≤ q → zA4 h.ents q = none) ∧ (∀ q, h.next ≤ q → zBs h.tys q = none) ∧ (∀ x, zA4 (zA5 h.ents b x) b = some x) ∧ (∀ x, zA4 (zA5 h.ents br x) br = some x) ∧ (∀ x q, m ≤ q → zA4 (zA5 h.ents b x) q = none) :=
 ⟨S.g, S.gb, S.gr, fun m hm => NC.drop hm S.nc, fun q hq => zAx S.u hq, fun q hq => zC4 S.f.2 hq, fun x => zA6 S.gb, fun x => zA6 S.gr, fun x q hq => zAx S.u.set hq⟩
theorem RQ.zj (S : RQ zk n0 E0 p b br o cs tk m h) : zA4 h.ents p = some o ∧ zA4 h.ents b = some (.cells cs) ∧ zA4 h.ents br = some (.cells [.int .i64 0, .int .i64 0, .str [], .nils, .nils]) ∧ (∀ q, m ≤ q → zA4 h.ents q = none) ∧ (∀ q, h.next ≤ q → zBs h.tys q = none) ∧ (∀ x, zA4 (zA5 h.ents b x) b = some x) ∧ (∀ x, zA4 (zA5 h.ents br x) br = some x) ∧ (∀ x q, m ≤ q → zA4 (zA5 h.ents b x) q = none) :=
 ⟨S.g, S.gb, S.gr, fun q hq => zAx S.u hq, fun q hq => zC4 S.f.2 hq, fun x => zA6 S.gb, fun x => zA6 S.gr, fun x q hq => zAx S.u.set hq⟩
theorem RQ.tb {i w : Nat} (S : RQ zk n0 E0 p b br o cs tk m h) (hi : (i, w) ∈ tk) (x : CObj) : zA4 (zA5 h.ents i x) b = some (.cells cs) := (zA7 (by have := (S.gt _ hi).2; (try dsimp only at this); omega)).trans S.gb
theorem RQ.dz (S : RQ zk n0 E0 p b br o cs tk m h) (x : CObj) : zB7 (zA5 h.ents br x) n0 = zA5 E0 p o := (S.d.set S.hr).drop
theorem RQ.start {h : CHeap} {p b : Nat} {o : CObj} {cs : List CVal} (hf : Fit h) (hg : zA4 h.ents p = some o) (hp : p < h.next) {n br : Nat} (hbr : h.next ≤ br := by (try dsimp only); omega) (hb : br < b := by (try dsimp only); omega) (hn : b < n := by (try dsimp only); omega) : RQ none h.next h.ents p b br o cs [] (b + 1) ⟨(b, .cells cs) :: (br, .cells [.int .i64 0, .int .i64 0, .str [], .nils, .nils]) :: h.ents, n, h.tys⟩ := by
 have hu := hf.1
 have hq : ∀ q o1, q < h.next → zA4 h.ents q = o1 → zA4 ((b, CObj.cells cs) :: (br, .cells [.int .i64 0, .int .i64 0, .str [], .nils, .nils]) :: h.ents) q = o1 := by
  intro q o1 hq e
  have h1 : (b == q) = false := by simp; omega
  have h2 : (br == q) = false := by simp; omega
  simp only [zA4, h1, h2]; exact e
 refine ⟨hq _ _ hp hg, by simp [zA4], ?_, fun x hx => (by cases hx), ?_, ?_, ?_, hn, hp, hbr, hb, by omega, ⟨?_, hf.2.le (by (try dsimp only); omega)⟩⟩
 · have : (b == br) = false := by simp; omega
   simp [zA4, this]
 · rw [zBk hg]
   exact Over.cons (Over.cons (over_refl hu) hbr) (by omega)
 · show NC b _; intro y hy hb2
   rcases List.mem_cons.1 hy with rfl | hy
   · exact absurd hb2 (by (try dsimp only); omega)
   rcases List.mem_cons.1 hy with rfl | hy
   · exact absurd hb2 (by (try dsimp only); omega)
   · exact absurd (hu _ hy) (by omega)
 · exact Under.cons (by omega) (Under.cons (by omega) (hu.le (by omega)))
 · exact Under.cons (by (try dsimp only); omega) (Under.cons (by (try dsimp only); omega) (hu.le (by (try dsimp only); omega)))
theorem RQ.upT (S : RQ zk n0 E0 p b br o cs tk m h) {n : Nat} {ty : NN} (hn : h.next ≤ n) (ht : zA9 ty n) : RQ zk n0 E0 p b br o cs tk m ⟨h.ents, n, ty⟩ :=
 ⟨S.g, S.gb, S.gr, S.gt, S.d, S.nc, S.u, Nat.le_trans S.mn hn, S.hp, S.hr, S.hb, S.lb, ⟨S.f.1.le hn, ht⟩⟩
theorem RQ.tks (S : RQ zk n0 E0 p b br o cs tk m h) {tk' : NN} (ht : ∀ x ∈ tk', x ∈ tk) : RQ zk n0 E0 p b br o cs tk' m h :=
 ⟨S.g, S.gb, S.gr, fun x hx => S.gt x (ht x hx), S.d, S.nc, S.u, S.mn, S.hp, S.hr, S.hb, S.lb, S.f⟩
theorem RQ.lt (S : RQ zk n0 E0 p b br o cs tk m h) {x : Nat × Nat} (hx : x ∈ tk) : x.1 < m := by
 rcases Nat.lt_or_ge x.1 m with g | g
 · exact g
 · have := (S.gt x hx).1
   rw [zAx S.u g] at this; cases this
theorem RQ.hpN (S : RQ zk n0 E0 p b br o cs tk m h) : p < h.next :=
 Nat.lt_trans (Nat.lt_of_lt_of_le (Nat.lt_of_lt_of_le S.hp S.hr) (Nat.le_of_lt S.hb)) (Nat.lt_of_lt_of_le S.lb S.mn)
theorem RQ.cell (S : RQ zk n0 E0 p b br o cs tk m h) {cs' : List CVal} : RQ zk n0 E0 p b br o cs' tk m ⟨zA5 h.ents b (.cells cs'), h.next, h.tys⟩ := by
 have h1 := S.hp; have h2 := S.hr; have h3 := S.hb; have h4 := S.lb; have h5 := S.mn
 refine ⟨?_, zA6 S.gb, ?_, ?_, S.d.set (by omega), NZ.setB S.nc (Nat.le_refl _), S.u.set, h5, h1, h2, h3, h4, ⟨S.f.1.set, S.f.2⟩⟩
 · exact (zA7 (by omega)).trans S.g
 · exact (zA7 (by omega)).trans S.gr
 · intro x hx
   have := S.gt x hx
   exact ⟨(zA7 (by omega)).trans this.1, this.2⟩
theorem RQ.t0 (S : RQ zk n0 E0 p b br o cs tk m h) {i n : Nat} (hi : m ≤ i := by (try dsimp only); omega) (hn : i < n := by (try dsimp only); omega) (hn2 : h.next ≤ n := by (try dsimp only); omega) : RQ zk n0 E0 p b br o cs ((i, 0) :: tk) (i + 1) ⟨(i, .tok 0) :: h.ents, n, h.tys⟩ := by
 have h1 := S.hp; have h2 := S.hr; have h3 := S.hb; have h4 := S.lb; have h5 := S.mn
 have hq : ∀ q o1, q < m → zA4 h.ents q = o1 → zA4 ((i, CObj.tok 0) :: h.ents) q = o1 := by
  intro q o1 hq e
  have : (i == q) = false := by simp; omega
  simp only [zA4, this]; exact e
 refine ⟨hq _ _ (by omega) S.g, hq _ _ (by omega) S.gb, hq _ _ (by omega) S.gr, ?_, S.d.cons (by omega), NZ.tok S.nc hi, Under.cons (by omega) (S.u.le (by omega)), hn, h1, h2, h3, by omega, ⟨Under.cons (by (try dsimp only); omega) (S.u.le (by (try dsimp only); omega)), S.f.2.le (by (try dsimp only); omega)⟩⟩
 intro x hx
 rcases List.mem_cons.1 hx with rfl | hx
 · exact ⟨by simp [zA4], by (try dsimp only); omega⟩
 · exact ⟨hq _ _ (S.lt hx) (S.gt x hx).1, (S.gt x hx).2⟩
theorem RQ.t1 {i v : Nat} (S : RQ zk n0 E0 p b br o cs ((i, v) :: tk) m h) (hd : ∀ x ∈ tk, x.1 ≠ i) {n : Nat} (hn : h.next ≤ n := by (try dsimp only); omega) : RQ zk n0 E0 p b br o cs ((i, v + 1) :: tk) m ⟨zA5 h.ents i (.tok (v + 1)), n, h.tys⟩ := by
 have h1 := S.hp; have h2 := S.hr; have h3 := S.hb; have h4 := S.lb; have h5 := S.mn
 obtain ⟨ht, hbi⟩ := S.gt (i, v) (by simp)
 dsimp only at ht hbi
 refine ⟨?_, ?_, ?_, ?_, S.d.set (by omega), NZ.setT S.nc, S.u.set, Nat.le_trans h5 hn, h1, h2, h3, h4, ⟨S.f.1.set.le hn, S.f.2.le hn⟩⟩
 · exact (zA7 (by omega)).trans S.g
 · exact (zA7 (by omega)).trans S.gb
 · exact (zA7 (by omega)).trans S.gr
 · intro x hx
   rcases List.mem_cons.1 hx with rfl | hx
   · exact ⟨zA6 ht, hbi⟩
   · have := S.gt x (List.mem_cons_of_mem _ hx)
     exact ⟨(zA7 (by have := hd x hx; omega)).trans this.1, this.2⟩
theorem RQ.junk (S : RQ none n0 E0 p b br o cs tk m h) {q n k : Nat} {J : List CVal} (hk : b < k) (hkm : k ≤ q := by (try dsimp only); omega) (hq : m ≤ q := by (try dsimp only); omega) (hn : q < n := by (try dsimp only); omega) (hn2 : h.next ≤ n := by (try dsimp only); omega) : RQ (some k) n0 E0 p b br o cs tk (q + 1) ⟨(q, .cells J) :: h.ents, n, h.tys⟩ := by
 have h1 := S.hp; have h2 := S.hr; have h3 := S.hb; have h4 := S.lb; have h5 := S.mn
 have hq1 : ∀ q1 o1, q1 < m → zA4 h.ents q1 = o1 → zA4 ((q, CObj.cells J) :: h.ents) q1 = o1 := by
  intro q1 o1 hq1 e
  have : (q == q1) = false := by simp; omega
  simp only [zA4, this]; exact e
 refine ⟨hq1 _ _ (by omega) S.g, hq1 _ _ (by omega) S.gb, hq1 _ _ (by omega) S.gr, fun x hx => ⟨hq1 _ _ (S.lt hx) (S.gt x hx).1, (S.gt x hx).2⟩, S.d.cons (by omega), ⟨hk, by omega, ?_⟩, Under.cons (by omega) (S.u.le (by omega)), hn, h1, h2, h3, by omega, ⟨Under.cons (by (try dsimp only); omega) (S.f.1.le (by (try dsimp only); omega)), S.f.2.le (by (try dsimp only); omega)⟩⟩
 have : zAe ((q, CObj.cells J) :: h.ents) k = zAe h.ents k := by simp only [zAe]; rw [if_pos (by omega)]
 rw [this, NC.drop hk S.nc]
 exact S.nc
theorem zE8 {k q : Nat} (hq : q < k) : ∀ (l : EE), zA4 (zAe l k) q = zA4 l q
 | [] => rfl
 | (i, x) :: r => by
  have ih := zE8 hq r
  simp only [zAe]
  split
  · have h2 : (i == q) = false := by simp; omega
    split
    · rw [ih]; simp only [zA4, h2]; rfl
    · simp only [zA4, h2]; exact ih
  · rfl
theorem getEnt_dropT {k q v : Nat} : ∀ (l : EE), zA4 l q = some (.tok v) → zA4 (zAe l k) q = some (.tok v)
 | [], h => by cases h
 | (i, x) :: r, h => by
  have ih := getEnt_dropT (k := k) (q := q) (v := v) r
  simp only [zAe]
  cases hiq : (i == q) with
  | true =>
   simp only [zA4, hiq, if_true] at h
   cases h
   split
   · simp only [zA4, hiq, if_true]
   · simp only [zA4, hiq, if_true]
  | false =>
   simp only [zA4, hiq] at h
   have h3 := ih h
   split
   · split
     · exact h3
     · simp only [zA4, hiq]; exact h3
   · simp only [zA4, hiq]; exact h
theorem Over.dropC {n0 k : Nat} {E0 l : EE} (h : Over n0 E0 l) (hk : n0 ≤ k) : Over n0 E0 (zAe l k) := by
 obtain ⟨pre, rfl, h1, h2⟩ := h
 have key : ∀ (pre : EE), (∀ x ∈ pre, n0 ≤ x.1) → ∃ pre', zAe (pre ++ E0) k = pre' ++ E0 ∧ ∀ x ∈ pre', n0 ≤ x.1 := by
  intro pre
  induction pre with
  | nil => intro _; exact ⟨[], by rw [List.nil_append, zBn (fun x hx => by have := h2 x hx; omega)], by simp⟩
  | cons a pre ih =>
   intro ha
   obtain ⟨i, x⟩ := a
   obtain ⟨pre', e1, e2⟩ := ih (fun y hy => ha y (by simp [hy]))
   have h0 := ha (i, x) (by simp)
   by_cases hki : k ≤ i
   · cases x with
     | cells cs => exact ⟨pre', by rw [← e1]; simp only [List.cons_append, zAe]; rw [if_pos hki], e2⟩
     | _ => exact ⟨(i, _) :: pre', by simp only [List.cons_append, zAe]; rw [if_pos hki, e1], fun y hy => by rcases List.mem_cons.1 hy with rfl | hy; exact h0; exact e2 y hy⟩
   · exact ⟨(i, x) :: pre, by simp only [List.cons_append, zAe]; rw [if_neg hki], ha⟩
 obtain ⟨pre', e1, e2⟩ := key pre h1
 exact ⟨pre', e1, e2, h2⟩
theorem RQ.clean {k : Nat} (S : RQ (some k) n0 E0 p b br o cs tk m h) : RQ none n0 E0 p b br o cs tk m ⟨zAe h.ents k, h.next, h.tys⟩ := by
 have h1 := S.hp; have h2 := S.hr; have h3 := S.hb; have h4 := S.lb; have h5 := S.mn
 obtain ⟨hk, hkm, hnc⟩ := S.nc
 refine ⟨(zE8 (by omega) _).trans S.g, (zE8 (by omega) _).trans S.gb, (zE8 (by omega) _).trans S.gr, fun x hx => ⟨getEnt_dropT _ (S.gt x hx).1, (S.gt x hx).2⟩, S.d.dropC (by omega), hnc, fun x hx => S.u x ((zDp _ _).subset hx), h5, h1, h2, h3, h4, ⟨fun x hx => S.f.1 x ((zDp _ _).subset hx), S.f.2⟩⟩
abbrev rq (u : B8) (i e : Int) : CObj := .cells [.str u, .int .i64 i, .int .i64 e]
structure Pos (u r : B8) (i : Int) : Prop where
 e : u.drop i.toNat = r
 n : 0 ≤ i
 l : i + (r.length : Int) = (u.length : Int)
theorem Pos.get {u r r' : B8} {i : Int} {c : UInt8} (P : Pos u r i) (h : r = c :: r') : (u[i.toNat]? = some c ∧ ∀ hh : i.toNat < u.length, u[i.toNat]'hh = c) ∧ i < (u.length : Int) := by
 have e := P.e
 rw [h] at e
 have h2 : (u.drop i.toNat)[0]? = some c := by rw [e]; rfl
 rw [List.getElem?_drop] at h2
 have h3 : u[i.toNat]? = some c := by simpa using h2
 refine ⟨⟨h3, fun hh => ?_⟩, ?_⟩
 · rw [List.getElem?_eq_getElem hh] at h3; exact Option.some.inj h3
 have := P.l; rw [h, List.length_cons] at this; omega
theorem Pos.drop {u r : B8} {i : Int} (P : Pos u r i) {k : Nat} (hk : k ≤ r.length) : Pos u (r.drop k) (i + (k : Int)) := by
 have h1 := P.n; have h2 := P.l
 refine ⟨?_, by omega, by rw [List.length_drop]; omega⟩
 rw [← P.e, List.drop_drop]
 congr 1; omega
theorem Pos.next {u r r' : B8} {i : Int} {c : UInt8} (P : Pos u r i) (h : r = c :: r') : Pos u r' (i + 1) := by
 have := P.drop (k := 1) (by rw [h]; simp)
 rw [h] at this; exact this
theorem Pos.cut {u r : B8} {i : Int} (P : Pos u r i) {k : Nat} (hk : k ≤ r.length) : CI.cut i.toNat (i + (k : Int)).toNat u = r.take k := by
 have h1 := P.n
 unfold CI.cut
 rw [List.drop_take, P.e]
 congr 1; omega
theorem Pos.cutE {u r : B8} {i : Int} (P : Pos u r i) : CI.cut i.toNat u.length u = r := by
 unfold CI.cut
 rw [List.take_length, P.e]
theorem Pos.le {u r : B8} {i : Int} (P : Pos u r i) : i ≤ (u.length : Int) := by have := P.l; omega
theorem Pos.zero (u : B8) : Pos u u 0 := ⟨rfl, by omega, by omega⟩
end Go.Proofs.YtdanefpnfnippaaGreatDoor.IrJ
namespace Go.Proofs.YtdanefpnfnippaaGreatDoor.IrJ
open Go Go.CI
open Go.LexF hiding zC3 zD5
set_option maxRecDepth 100000
set_option maxHeartbeats 4000000
set_option linter.unusedVariables false
set_option linter.unusedSimpArgs false
attribute [local irreducible] W Wo Wc WoR
abbrev spLoop : CCode := (.loop true (.seq (.seq (.region [.v 0, .n 0, .f 1 0, .l 0, .v 0, .n 0, .f 0 0, .l 0, .g (.len true (.loc 0)), .h .lss 5 0, .m (.loc 0), .q (.mv (.var 0)) 0 true, .q (.nilck (.loc 0)) 1 true, .q (.fieldAddr 0 (.loc 0)) 2 true, .q (.load none (.loc 0)) 3 true, .q (.mv (.var 0)) 4 true, .q (.nilck (.loc 0)) 5 true, .q (.fieldAddr 1 (.loc 0)) 6 true, .q (.load none (.loc 0)) 7 true, .q (.idxStr (.loc 4) (.loc 0)) 8 true, .q (.bin .eql (.loc 0) (.u 9)) 9 true, .q (.mv (.loc 0)) 10 true, .q (.mv (.var 0)) 0 false, .q (.nilck (.loc 0)) 1 false, .q (.fieldAddr 0 (.loc 0)) 2 false, .q (.load none (.loc 0)) 3 false, .q (.mv (.var 0)) 4 false, .q (.nilck (.loc 0)) 5 false, .q (.fieldAddr 1 (.loc 0)) 6 false, .q (.load none (.loc 0)) 7 false, .q (.idxStr (.loc 4) (.loc 0)) 8 false, .q (.bin .eql (.loc 0) (.u 10)) 9 false, .q (.pick (.loc 10) (.b true) (.loc 0)) 21 true, .q (.mv (.loc 0)) 22 true, .q (.mv (.var 0)) 0 false, .q (.nilck (.loc 0)) 1 false, .q (.fieldAddr 0 (.loc 0)) 2 false, .q (.load none (.loc 0)) 3 false, .q (.mv (.var 0)) 4 false, .q (.nilck (.loc 0)) 5 false, .q (.fieldAddr 1 (.loc 0)) 6 false, .q (.load none (.loc 0)) 7 false, .q (.idxStr (.loc 4) (.loc 0)) 8 false, .q (.bin .eql (.loc 0) (.u 13)) 9 false, .q (.pick (.loc 10) (.b true) (.loc 0)) 33 true, .q (.mv (.loc 0)) 34 true, .q (.mv (.var 0)) 0 false, .q (.nilck (.loc 0)) 1 false, .q (.fieldAddr 0 (.loc 0)) 2 false, .q (.load none (.loc 0)) 3 false, .q (.mv (.var 0)) 4 false, .q (.nilck (.loc 0)) 5 false, .q (.fieldAddr 1 (.loc 0)) 6 false, .q (.load none (.loc 0)) 7 false, .q (.idxStr (.loc 4) (.loc 0)) 8 false, .q (.bin .eql (.loc 0) (.u 32)) 9 false, .q (.pick (.loc 10) (.b true) (.loc 0)) 45 true, .g (.pick (.loc 46) (.loc 0) (.b false))] [(1, 57)] [] []) (.cond (.var 1) .skip (.exit 0))) (.block 1 (.region [.v 0, .n 0, .f 1 0, .l 0, .x .add 0 (.k 1), .n 4, .f 1 0, .g (.store 1 (.loc 0) (.loc 2))] [] [] []))))
theorem sps_end {p d : Nat} {u r : B8} {i e : Int} (P : Pos u r i) (hr : r = []) (hul : u.length < 90000) (v : CVal) {Q : QT} {h : CHeap} (hk : ∀ v n' ty, h.next ≤ n' → zA9 ty n' → Q (.exit 0) ⟨[.ptr p d 0, v], ⟨h.ents, n', ty⟩, []⟩) (hf : Fit h) (hg : zA4 h.ents p = some (rq u i e)) (hp : p < h.next) : W tree.getF spLoop ⟨[.ptr p d 0, v], h, []⟩ Q := by
 obtain ⟨hu, hut, hX⟩ := fx4 hf
 have hZ := fx6 hf hg
 have hi0 := P.n
 have hil : (u.length : Int) ≤ i := by have := P.l; rw [hr, List.length_nil] at this; omega
 refine W.loop ?_
 repeat (first | refine st_ rfl ?_ | ((first | refine rg_ ?_ | refine go_ ?_); refine gw_ (by simp (maxSteps := 500000) (disch := omega) [hX, hZ, hi0, hil, hul]; rfl) ?_))
 all_goals (refine hk _ _ _ ?_ ?_; omega; exact ut_)
theorem sps_go {p d : Nat} {u r r' : B8} {c : UInt8} {i e : Int} (P : Pos u r i) (hr : r = c :: r') (hc : c = 9 ∨ c = 10 ∨ c = 13 ∨ c = 32) (hul : u.length < 90000) (v : CVal) {Q : QT} {h : CHeap} (hk : ∀ v n' ty, h.next ≤ n' → zA9 ty n' → W tree.getF spLoop ⟨[.ptr p d 0, v], ⟨zA5 h.ents p (rq u (i + 1) e), n', ty⟩, []⟩ Q) (hf : Fit h) (hg : zA4 h.ents p = some (rq u i e)) (hp : p < h.next) : W tree.getF spLoop ⟨[.ptr p d 0, v], h, []⟩ Q := by
 obtain ⟨hu, hut, hX⟩ := fx4 hf
 have hZ := fx6 hf hg
 have hi0 := P.n
 obtain ⟨hix, hil⟩ := P.get hr
 rcases hc with rfl | rfl | rfl | rfl
 · refine W.loop ?_
   repeat (first | refine st_ rfl ?_ | ((first | refine rg_ ?_ | refine go_ ?_); refine gw_ (by simp (maxSteps := 500000) (disch := omega) [hX, hZ, hi0, hil, hul, hix]; rfl) ?_))
   show W tree.getF spLoop (dropped true _ _) Q; generalize e : dropped .. = r; simp (maxSteps := 500000) (disch := omega) [hX, hZ] at e; subst e
   refine hk _ _ _ ?_ ?_; omega; exact ut_
 · refine W.loop ?_
   repeat (first | refine st_ rfl ?_ | ((first | refine rg_ ?_ | refine go_ ?_); refine gw_ (by simp (maxSteps := 500000) (disch := omega) [hX, hZ, hi0, hil, hul, hix]; rfl) ?_))
   show W tree.getF spLoop (dropped true _ _) Q; generalize e : dropped .. = r; simp (maxSteps := 500000) (disch := omega) [hX, hZ] at e; subst e
   refine hk _ _ _ ?_ ?_; omega; exact ut_
 · refine W.loop ?_
   repeat (first | refine st_ rfl ?_ | ((first | refine rg_ ?_ | refine go_ ?_); refine gw_ (by simp (maxSteps := 500000) (disch := omega) [hX, hZ, hi0, hil, hul, hix]; rfl) ?_))
   show W tree.getF spLoop (dropped true _ _) Q; generalize e : dropped .. = r; simp (maxSteps := 500000) (disch := omega) [hX, hZ] at e; subst e
   refine hk _ _ _ ?_ ?_; omega; exact ut_
 · refine W.loop ?_
   repeat (first | refine st_ rfl ?_ | ((first | refine rg_ ?_ | refine go_ ?_); refine gw_ (by simp (maxSteps := 500000) (disch := omega) [hX, hZ, hi0, hil, hul, hix]; rfl) ?_))
   show W tree.getF spLoop (dropped true _ _) Q; generalize e : dropped .. = r; simp (maxSteps := 500000) (disch := omega) [hX, hZ] at e; subst e
   refine hk _ _ _ ?_ ?_; omega; exact ut_
theorem sps_no {p d : Nat} {u r r' : B8} {c : UInt8} {i e : Int} (P : Pos u r i) (hr : r = c :: r') (hc : ¬ (c = 9 ∨ c = 10 ∨ c = 13 ∨ c = 32)) (hul : u.length < 90000) (v : CVal) {Q : QT} {h : CHeap} (hk : ∀ v n' ty, h.next ≤ n' → zA9 ty n' → Q (.exit 0) ⟨[.ptr p d 0, v], ⟨h.ents, n', ty⟩, []⟩) (hf : Fit h) (hg : zA4 h.ents p = some (rq u i e)) (hp : p < h.next) : W tree.getF spLoop ⟨[.ptr p d 0, v], h, []⟩ Q := by
 obtain ⟨hu, hut, hX⟩ := fx4 hf
 have hZ := fx6 hf hg
 have hi0 := P.n
 obtain ⟨hix, hil⟩ := P.get hr
 have h9 : c.toNat ≠ 9 := fun g => hc (.inl (UInt8.toNat_inj.1 g))
 have h10 : c.toNat ≠ 10 := fun g => hc (.inr (.inl (UInt8.toNat_inj.1 g)))
 have h13 : c.toNat ≠ 13 := fun g => hc (.inr (.inr (.inl (UInt8.toNat_inj.1 g))))
 have h32 : c.toNat ≠ 32 := fun g => hc (.inr (.inr (.inr (UInt8.toNat_inj.1 g))))
 refine W.loop ?_
 repeat (first | refine st_ rfl ?_ | ((first | refine rg_ ?_ | refine go_ ?_); refine gw_ (by simp (maxSteps := 500000) (disch := omega) [hX, hZ, hi0, hil, hul, hix]; rfl) ?_))
 all_goals (refine hk _ _ _ ?_ ?_; omega; exact ut_)
theorem sps_all {p d : Nat} {u r0 : B8} {e i0 : Int} (hul : u.length < 90000) {Q : QT} {h0 : CHeap} (hf0 : Fit h0) (hg0 : zA4 h0.ents p = some (rq u i0 e)) (hp0 : p < h0.next)
    (hk : ∀ v i' n' ty, Pos u (zA3 r0) i' → h0.next ≤ n' → zA9 ty n' → Q (.exit 0) ⟨[.ptr p d 0, v], ⟨zA5 h0.ents p (rq u i' e), n', ty⟩, []⟩) :
    ∀ (k : Nat) (r : B8) (i : Int) (v : CVal) (n : Nat) (ty : NN), r.length < k → zA3 r = zA3 r0 → Pos u r i → h0.next ≤ n → zA9 ty n → W tree.getF spLoop ⟨[.ptr p d 0, v], ⟨zA5 h0.ents p (rq u i e), n, ty⟩, []⟩ Q := by
 intro k
 induction k with
 | zero => intro r i v n ty hk; omega
 | succ k ih =>
  intro r i v n ty hlt hs P hn ht
  have hf : Fit ⟨zA5 h0.ents p (rq u i e), n, ty⟩ := ⟨hf0.1.set.le hn, ht⟩
  have hg : zA4 (zA5 h0.ents p (rq u i e)) p = some (rq u i e) := zA6 hg0
  have hp : p < n := by omega
  cases hr : r with
  | nil =>
   refine sps_end P hr hul v (fun v n' ty g1 g2 => hk v i n' ty ?_ (Nat.le_trans hn g1) g2) hf hg hp
   rw [← hs, hr]; rw [hr] at P; exact P
  | cons c r' =>
   by_cases hc : c = 9 ∨ c = 10 ∨ c = 13 ∨ c = 32
   · have hsk : zA3 r = zA3 r' := by rw [hr]; unfold zA3; rw [List.dropWhile_cons]; simp [isSp, hc]
     refine sps_go P hr hc hul v (fun v n' ty g1 g2 => ?_) hf hg hp
     have := ih r' (i + 1) v n' ty (by rw [hr, List.length_cons] at hlt; omega) (by rw [← hsk]; exact hs) (P.next hr) (Nat.le_trans hn g1) g2
     (try dsimp only)
     rwa [zAm]
   · have hsk : zA3 r = r := by rw [hr]; unfold zA3; rw [List.dropWhile_cons]; simp [isSp, hc]
     refine sps_no P hr hc hul v (fun v n' ty g1 g2 => hk v i n' ty ?_ (Nat.le_trans hn g1) g2) hf hg hp
     rw [← hs, hsk]; exact P
theorem zDx {p d : Nat} {u r : B8} {i e : Int} (P : Pos u r i) (hul : u.length < 90000) {h : CHeap} {K : KT} (hk : ∀ i' n' ty, Pos u (zA3 r) i' → h.next ≤ n' → zA9 ty n' → K (.tup []) ⟨zA5 h.ents p (rq u i' e), n', ty⟩) (hf : Fit h := by exact ft_) (hg : zA4 h.ents p = some (rq u i e) := by exact ge2_) (hp : p < h.next := by exact lt_) : Wc tree.getF 16 [.ptr p d 0] h K := by
 obtain ⟨hu, hut, hX⟩ := fx4 hf
 have hZ := fx6 hf hg
 refine Wc.mkG 16 c16 (by kernel_rfl) rfl ?_
 generalize e : zAa .. = r
 simp (disch := omega) [c16] at e
 subst e
 refine bl_ ?_
 have hs1 : (⟨h.ents, h.next, h.tys⟩ : CHeap) = ⟨zA5 h.ents p (rq u i e), h.next, h.tys⟩ := by rw [zBk hg]
 rw [show h = (⟨h.ents, h.next, h.tys⟩ : CHeap) from rfl, hs1]
 refine sps_all (i0 := i) hul hf hg hp (fun v i' n' ty P' g g2 => ?_) (r.length + 1) r i _ _ _ (by omega) rfl P (Nat.le_refl _) hf.2
 (try simp only [zAb, zA0, zAh, zA8, reduceIte])
 (first | (refine W.ret ?_; (try simp only [zAb, zA0, zA8]); refine endW.of (.inl rfl) rfl ?_) | refine endW.of (.inl rfl) rfl ?_ | refine endW.of (.inr rfl) rfl ?_); generalize e : zAc .. = r; simp (maxSteps := 500000) (disch := omega) [hX, hZ, c16] at e; subst e
 refine hk i' _ _ P' ?_ ?_; omega; exact g2
theorem dropW_len (f : UInt8 → Bool) (t : B8) : (t.dropWhile f).length ≤ t.length := by
 have := congrArg List.length (List.takeWhile_append_dropWhile (p := f) (l := t))
 rw [List.length_append] at this; omega
theorem numR_len (S : B8) : (numR S).length ≤ S.length := by
 have h1 := dropW_len isD (numT S)
 have h2 : (numT S).length ≤ S.length := by unfold numT; split; (rw [List.length_drop]; omega); exact Nat.le_refl _
 unfold numR; omega
theorem isF_c (x c : UInt8) (r : B8) : isF [x] (c :: r) = (c == x) := by rw [isF_1]
theorem tree_leaf (s S : B8) (m d : Nat) (hS : zA3 s = S) (h34 : isF [34] S = false) (h91 : isF [91] S = false) (h123 : isF [123] S = false) : zBy (m + 1) d s = zEu S := by
 unfold zBy
 rw [hS, h34, h91, h123]
 simp only [Bool.false_eq_true, if_false]
theorem tree_step (m d : Nat) (hd : d ≤ 20) (hl : d < 20 → PC 28 (zEi (zBy m (d + 1))) ((d : Int) + 1) 25000) (ht : d < 20 → PC 29 (tabR (zBy m (d + 1))) ((d : Int) + 1) 25000) : PC 12 (zBy (m + 1) d) (d : Int) 25000 := by
 intro s hs p dd h K hk hf hg hp
 obtain ⟨S, hS⟩ : ∃ S, zA3 s = S := ⟨_, rfl⟩
 have hSl : S.length ≤ s.length := by rw [← hS]; exact zAf s
 have hS2 : zA3 S = S := by rw [← hS]; exact zAy s
 cases hSc : S with
 | nil =>
  rw [hSc] at hS
  refine tr_nil s hS hs (fun v n' ty g1 g2 => hk _ _ _ _ _ ⟨.inr (.inl ⟨?_, by decide⟩), Node.nInt v, by simp⟩ g1 g2) hf hg hp
  rw [tree_leaf s [] m d hS rfl rfl rfl]; rfl
 | cons c r =>
  have hc : S[0]? = some c := by rw [hSc]; rfl
  by_cases c34 : c = 34
  · subst c34
    have hT : zBy (m + 1) d s = match unqV S with | none => PR.err 2 | some (t, k) => .ok (nStr t) (S.drop k) := by
     unfold zBy; rw [hS, hSc]; rfl
    cases hu : unqV S with
    | none => exact tr_bad s S hS (by omega) hs hc (by rw [hS2]; exact hu) (fun n' ty g1 g2 => hk _ _ _ _ _ ⟨.inr (.inl ⟨by rw [hT, hu], by decide⟩), Node.nStr [], hSl⟩ g1 g2) hf hg hp
    | some tk =>
     obtain ⟨t, k⟩ := tk
     have hkl := unqV_len hu
     exact tr_str s S hS (by omega) hs hc t k (by rw [hS2]; exact hu) (by rw [hS2]; exact hkl) (fun n' ty g1 g2 => hk _ _ _ _ _ ⟨.inl ⟨by rw [hT]; simp [hu, nStr], rfl⟩, Node.nStr t, by rw [List.length_drop]; omega⟩ g1 g2) hf hg hp
  by_cases c91 : c = 91
  · subst c91
    have hT : zBy (m + 1) d s = if 20 ≤ d then PR.err 3 else zEi (zBy m (d + 1)) (S.drop 1) := by
     unfold zBy; rw [hS, hSc]; rfl
    rcases Nat.lt_or_ge d 20 with g | g
    · exact tr_l s S hS (by omega) hs hc (by omega) (by omega) hs (hl g) (fun v s' e' n' ty hO g1 g2 => hk _ _ _ _ _ ⟨by rw [hT, if_neg (by omega)]; exact hO.1, hO.2.1, by have := hO.2.2; rw [List.length_drop] at this; omega⟩ g1 g2) hf hg hp
    · exact tr_deepl s S hS (by omega) hs hc (by omega) (fun n' ty g1 g2 => hk _ _ _ _ _ ⟨.inr (.inl ⟨by rw [hT, if_pos g], by decide⟩), Node.nZero, hSl⟩ g1 g2) hf hg hp
  by_cases c123 : c = 123
  · subst c123
    have hT : zBy (m + 1) d s = if 20 ≤ d then PR.err 3 else tabR (zBy m (d + 1)) (S.drop 1) := by
     unfold zBy; rw [hS, hSc]; rfl
    rcases Nat.lt_or_ge d 20 with g | g
    · exact tr_t s S hS (by omega) hs hc (by omega) (by omega) hs (ht g) (fun v s' e' n' ty hO g1 g2 => hk _ _ _ _ _ ⟨by rw [hT, if_neg (by omega)]; exact hO.1, hO.2.1, by have := hO.2.2; rw [List.length_drop] at this; omega⟩ g1 g2) hf hg hp
    · exact tr_deept s S hS (by omega) hs hc (by omega) (fun n' ty g1 g2 => hk _ _ _ _ _ ⟨.inr (.inl ⟨by rw [hT, if_pos g], by decide⟩), Node.nZero, hSl⟩ g1 g2) hf hg hp
  have n34 : c.toNat ≠ 34 := fun g => c34 (UInt8.toNat_inj.1 g)
  have n91 : c.toNat ≠ 91 := fun g => c91 (UInt8.toNat_inj.1 g)
  have n123 : c.toNat ≠ 123 := fun g => c123 (UInt8.toNat_inj.1 g)
  have hT : zBy (m + 1) d s = zEu S := tree_leaf s S m d hS (by rw [hSc, isF_c]; simpa using c34) (by rw [hSc, isF_c]; simpa using c91) (by rw [hSc, isF_c]; simpa using c123)
  cases hn : isF [110, 117, 108, 108] S with
  | true => exact tr_nul s S hS (by omega) hs c hc n34 n91 n123 hn (fun n' ty g1 g2 => hk _ _ _ _ _ ⟨.inl ⟨by rw [hT]; unfold zEu; rw [hn]; rfl, rfl⟩, Node.nNul, by rw [List.length_drop]; omega⟩ g1 g2) hf hg hp
  | false =>
  cases htr : isF [116, 114, 117, 101] S with
  | true => exact tr_tru s S hS (by omega) hs c hc n34 n91 n123 hn htr (fun n' ty g1 g2 => hk _ _ _ _ _ ⟨.inl ⟨by rw [hT]; unfold zEu; rw [hn, htr]; rfl, rfl⟩, Node.nBool 1, by rw [List.length_drop]; omega⟩ g1 g2) hf hg hp
  | false =>
  cases hfa : isF [102, 97, 108, 115, 101] S with
  | true => exact tr_fal s S hS (by omega) hs c hc n34 n91 n123 hn htr hfa (fun n' ty g1 g2 => hk _ _ _ _ _ ⟨.inl ⟨by rw [hT]; unfold zEu; rw [hn, htr, hfa]; rfl, rfl⟩, Node.nBool 0, by rw [List.length_drop]; omega⟩ g1 g2) hf hg hp
  | false =>
  have hnl := numR_len S
  cases hv : numV S with
  | none => exact tr_non s S hS (by omega) hs c hc n34 n91 n123 hn htr hfa hv (fun v n' ty g1 g2 => hk _ _ _ _ _ ⟨.inr (.inl ⟨by rw [hT]; unfold zEu; rw [hn, htr, hfa, hv]; rfl, by decide⟩), Node.nInt v, by omega⟩ g1 g2) hf hg hp
  | some v =>
   refine tr_num s S hS (by omega) hs c hc n34 n91 n123 hn htr hfa v hv (fun n' ty g1 g2 => hk _ _ _ _ _ ⟨?_, Node.nInt v, by omega⟩ g1 g2) hf hg hp
   cases hE : isE (numR S) with
   | true => exact .inr (.inr ⟨by rw [hT]; unfold zEu; rw [hn, htr, hfa, hv, hE]; rfl, rfl, rfl⟩)
   | false => exact .inl ⟨by rw [hT]; unfold zEu; rw [hn, htr, hfa, hv, hE]; rfl, rfl⟩
theorem tree_F : ∀ (m d : Nat), m + 1 + d = 21 → PC 12 (zBy (m + 1) d) (d : Int) 25000 := by
 intro m
 induction m with
 | zero =>
  intro d hd
  exact tree_step 0 d (by omega) (fun g => by omega) (fun g => by omega)
 | succ m ih =>
  intro d hd
  have h1 := ih (d + 1) (by omega)
  rw [show ((d + 1 : Nat) : Int) = (d : Int) + 1 by omega] at h1
  exact tree_step (m + 1) d (by omega) (fun _ => li_F (Nat.le_refl _) h1) (fun _ => ta_F (Nat.le_refl _) h1)
def parF (s : B8) : CVal := match zBy 21 0 s with
 | .err e => .tup [nZero, .int .i64 e]
 | .ok v r => if (zA3 r).isEmpty then .tup [v, .int .i64 0] else .tup [nZero, .int .i64 2]
theorem par_out {s s' : B8} {v : CVal} {e' : Int} (hO : Out (zBy 21 0 s) s v s' e') : (e' = 0 ∧ (zA3 s').isEmpty = true ∧ parF s = .tup [v, .int .i64 0]) ∨ (e' = 0 ∧ (zA3 s').isEmpty = false ∧ parF s = .tup [nZero, .int .i64 2]) ∨ (e' ≠ 0 ∧ parF s = .tup [nZero, .int .i64 e']) := by
 unfold parF
 rcases hO.1 with ⟨hx, h0⟩ | ⟨hx, he⟩ | ⟨hx, h0, hE⟩
 · rw [hx]
   cases hem : (zA3 s').isEmpty with
   | true => exact .inl ⟨h0, rfl, by simp [hem]⟩
   | false => exact .inr (.inl ⟨h0, rfl, by simp [hem]⟩)
 · rw [hx]; exact .inr (.inr ⟨he, rfl⟩)
 · rw [hx]
   refine .inr (.inl ⟨h0, ?_, rfl⟩)
   rw [isE_skip hE]
   cases s' with
   | nil => cases hE
   | cons a r => rfl
theorem emp0 {s : B8} {b : Bool} (h : s.isEmpty = b) : (s == ([] : B8)) = b ∧ (s = [] ↔ b = true) := by
 cases s with
 | nil => cases h; exact ⟨rfl, by simp⟩
 | cons a r => cases h; exact ⟨rfl, by simp⟩
theorem pa_F (s : B8) (hl : s.length ≤ 10000) : Pu tree.getF 5 [.str s] (parF s) := by
 intro h hf K hk
 have hT : PC 12 (zBy 21 0) (0 : Int) 25000 := tree_F 20 0 rfl
 have hLl := trivial
 have hP := trivial
 have hZ := trivial
 obtain ⟨hu, hut, hX⟩ := fx4 hf
 refine Wc.mkG 5 c5 (by kernel_rfl) rfl ?_
 generalize e : zAa .. = r
 simp (disch := omega) [c5] at e
 subst e
 repeat' (first
  | refine st_ rfl ?_
  | ((first | refine rg_ ?_ | refine go_ ?_); refine gw_ (by simp (disch := omega) [hX, hZ, hLl, hP, hl, -CVal.strip, st_i, st_s, st_n, st_o, st_0, st_p, c5]; rfl) ?_)
  | (refine hT s (by omega) _ _ _ _ (fun v s' e' n' ty hO g g2 => ⟨out_u hO, ?_⟩) ft_ ge2_ lt_; obtain ⟨k9, nn, t9, L9, N9, hv, hL1, hN1⟩ := hO.2.1; have hLl := And.intro hL1.z hN1.z; (try dsimp only at g); have hsl := hO.2.2; have hsl2 : s'.length < 90000 := (by omega); rcases par_out hO with ⟨rfl, hem, hpf⟩ | ⟨rfl, hem, hpf⟩ | ⟨he, hpf⟩ <;> (subst hv; (try have hP := And.intro hem (emp0 hem)); (try have hP := he)))
  | (refine sk_F s' 0 hsl2 fun _ _ g _ => ⟨rfl, ?_⟩; try dsimp only at g)
  | (refine sk_F s' e' hsl2 fun _ _ g _ => ⟨rfl, ?_⟩; try dsimp only at g)
  | (refine rf_ag (zA3 s') e' 2 _ he fun _ _ g _ => ⟨rfl, ?_⟩; try dsimp only at g)
  | (refine pu_ (rf_no 2) fun _ _ g _ => ⟨rfl, ?_⟩; try dsimp only at g)
  | (refine rf_yes (zA3 s') 2 fun _ _ g _ => ⟨rfl, ?_⟩; try dsimp only at g)
  | ((first | (refine W.ret ?_; (try simp only [zAb, zA0, zA8]); refine endW.of (.inl rfl) rfl ?_) | refine endW.of (.inr rfl) rfl ?_); generalize e : zAc .. = r; simp (disch := omega) [hX, hZ, hLl, hP, hl, -CVal.strip, st_i, st_s, st_n, st_o, st_0, st_p, c5] at e; subst e; (rw [hpf] at hk; refine hk _ _ ?_ ?_; omega; exact ut_)))
def isQ (e : Int) (w r : B8) : Bool := decide (e = 0) && isF w (zA3 r)
def aftQ (e : Int) (w r : B8) : B8 := if isQ e w r then (zA3 r).drop w.length else zA3 r
def ndQ (e : Int) (w r : B8) : Int := if isQ e w r then e else if e = 0 then 2 else e
theorem qf_0 {p d : Nat} {u : B8} {i : Int} (x : Int) {h : CHeap} {K : KT} (hk : ∀ n' ty, h.next ≤ n' → zA9 ty n' → K (.tup []) ⟨zA5 h.ents p (rq u i x), n', ty⟩) (hf : Fit h := by exact ft_) (hg : zA4 h.ents p = some (rq u i 0) := by exact ge2_) (hp : p < h.next := by exact lt_) : Wc tree.getF 17 [.ptr p d 0, .int .i64 x] h K := by
 obtain ⟨hu, hut, hX⟩ := fx4 hf
 have hZ := fx6 hf hg
 refine Wc.mkG 17 c17 (by kernel_rfl) rfl ?_
 generalize e : zAa .. = r
 simp (disch := omega) [c17] at e
 subst e
 repeat (first | refine st_ rfl ?_ | ((first | refine rg_ ?_ | refine go_ ?_); refine gw_ (by simp (disch := omega) [hX, hZ, c17]; rfl) ?_) | ((first | (refine W.ret ?_; (try simp only [zAb, zA0, zA8]); refine endW.of (.inl rfl) rfl ?_) | refine endW.of (.inr rfl) rfl ?_); generalize e : zAc .. = r; simp (disch := omega) [hX, hZ, c17] at e; subst e; (refine hk _ _ ?_ ?_; omega; exact ut_)))
theorem qf_1 {p d : Nat} {u : B8} {i : Int} (e x : Int) (he : e ≠ 0) {h : CHeap} {K : KT} (hk : ∀ n' ty, h.next ≤ n' → zA9 ty n' → K (.tup []) ⟨h.ents, n', ty⟩) (hf : Fit h := by exact ft_) (hg : zA4 h.ents p = some (rq u i e) := by exact ge2_) (hp : p < h.next := by exact lt_) : Wc tree.getF 17 [.ptr p d 0, .int .i64 x] h K := by
 obtain ⟨hu, hut, hX⟩ := fx4 hf
 have hZ := fx6 hf hg
 refine Wc.mkG 17 c17 (by kernel_rfl) rfl ?_
 generalize e : zAa .. = r
 simp (disch := omega) [c17] at e
 subst e
 repeat (first | refine st_ rfl ?_ | ((first | refine rg_ ?_ | refine go_ ?_); refine gw_ (by simp (disch := omega) [hX, hZ, he, c17]; rfl) ?_) | ((first | (refine W.ret ?_; (try simp only [zAb, zA0, zA8]); refine endW.of (.inl rfl) rfl ?_) | refine endW.of (.inr rfl) rfl ?_); generalize e : zAc .. = r; simp (disch := omega) [hX, hZ, he, c17] at e; subst e; (refine hk _ _ ?_ ?_; omega; exact ut_)))
theorem qi_e {p d : Nat} {u r : B8} {i e : Int} (P : Pos u r i) (hul : u.length < 50000) (w : B8) (he : e ≠ 0) {h : CHeap} {K : KT} (hk : ∀ i' n' ty, Pos u (zA3 r) i' → h.next ≤ n' → zA9 ty n' → K (.bool false) ⟨zA5 h.ents p (rq u i' (e)), n', ty⟩) (hf : Fit h := by exact ft_) (hg : zA4 h.ents p = some (rq u i e) := by exact ge2_) (hp : p < h.next := by exact lt_) : Wc tree.getF 37 [.ptr p d 0, .str w] h K := by
 obtain ⟨hu, hut, hX⟩ := fx4 hf
 have hZ := fx6 hf hg
 have hi0 := P.n
 have hPl := P.l
 have hcutE := trivial
 have hul9 : u.length < 90000 := by omega
 refine Wc.mkG 37 c37 (by kernel_rfl) rfl ?_
 generalize e : zAa .. = r
 simp (disch := omega) [c37] at e
 subst e
 repeat (first | refine st_ rfl ?_ | ((first | refine rg_ ?_ | refine go_ ?_); refine gw_ (by simp (disch := omega) [hX, hZ, hul, hi0, hPl, hcutE, -CI.cut, he, c37]; rfl) ?_) | (refine zDx P hul9 fun i' _ _ P' g _ => ⟨rfl, ?_⟩; have hi0 := P'.n; have hPl := P'.l; have hcutE := P'.cutE; (try dsimp only at g)) | ((first | (refine W.ret ?_; (try simp only [zAb, zA0, zA8]); refine endW.of (.inl rfl) rfl ?_) | refine endW.of (.inr rfl) rfl ?_); generalize e : zAc .. = r; simp (disch := omega) [hX, hZ, hul, hi0, hPl, hcutE, -CI.cut, he, c37] at e; subst e; (refine hk _ _ _ (P') ?_ ?_; omega; exact ut_)))
theorem qi_l {p d : Nat} {u r : B8} {i e : Int} (P : Pos u r i) (hul : u.length < 50000) (w : B8) (hw9 : w.length < 60000) (he : e = 0) (hwl : (zA3 r).length < w.length) {h : CHeap} {K : KT} (hk : ∀ i' n' ty, Pos u (zA3 r) i' → h.next ≤ n' → zA9 ty n' → K (.bool false) ⟨zA5 h.ents p (rq u i' (0)), n', ty⟩) (hf : Fit h := by exact ft_) (hg : zA4 h.ents p = some (rq u i e) := by exact ge2_) (hp : p < h.next := by exact lt_) : Wc tree.getF 37 [.ptr p d 0, .str w] h K := by
 obtain ⟨hu, hut, hX⟩ := fx4 hf
 have hZ := fx6 hf hg
 have hi0 := P.n
 have hPl := P.l
 have hcutE := trivial
 have hul9 : u.length < 90000 := by omega
 subst he
 refine Wc.mkG 37 c37 (by kernel_rfl) rfl ?_
 generalize e : zAa .. = r
 simp (disch := omega) [c37] at e
 subst e
 repeat (first | refine st_ rfl ?_ | ((first | refine rg_ ?_ | refine go_ ?_); refine gw_ (by simp (disch := omega) [hX, hZ, hul, hi0, hPl, hcutE, -CI.cut, c37]; rfl) ?_) | (refine zDx P hul9 fun i' _ _ P' g _ => ⟨rfl, ?_⟩; have hi0 := P'.n; have hPl := P'.l; have hcutE := P'.cutE; (try dsimp only at g)) | ((first | (refine W.ret ?_; (try simp only [zAb, zA0, zA8]); refine endW.of (.inl rfl) rfl ?_) | refine endW.of (.inr rfl) rfl ?_); generalize e : zAc .. = r; simp (disch := omega) [hX, hZ, hul, hi0, hPl, hcutE, -CI.cut, c37] at e; subst e; (refine hk _ _ _ (P') ?_ ?_; omega; exact ut_)))
theorem qi_n {p d : Nat} {u r : B8} {i e : Int} (P : Pos u r i) (hul : u.length < 50000) (w : B8) (he : e = 0) (hwl : w.length ≤ (zA3 r).length) (hwv : ((zA3 r).take w.length == w) = false) {h : CHeap} {K : KT} (hk : ∀ i' n' ty, Pos u (zA3 r) i' → h.next ≤ n' → zA9 ty n' → K (.bool false) ⟨zA5 h.ents p (rq u i' (0)), n', ty⟩) (hf : Fit h := by exact ft_) (hg : zA4 h.ents p = some (rq u i e) := by exact ge2_) (hp : p < h.next := by exact lt_) : Wc tree.getF 37 [.ptr p d 0, .str w] h K := by
 obtain ⟨hu, hut, hX⟩ := fx4 hf
 have hZ := fx6 hf hg
 have hi0 := P.n
 have hPl := P.l
 have hcutE := trivial
 have hul9 : u.length < 90000 := by omega
 subst he
 have hcut := trivial
 have hwv2 : (zA3 r).take w.length ≠ w := by simpa using hwv
 have hwv3 : ((zA3 r).take w.length != w) = true := by simpa using hwv
 refine Wc.mkG 37 c37 (by kernel_rfl) rfl ?_
 generalize e : zAa .. = r
 simp (disch := omega) [c37] at e
 subst e
 repeat (first | refine st_ rfl ?_ | ((first | refine rg_ ?_ | refine go_ ?_); refine gw_ (by simp (disch := omega) [hX, hZ, hul, hi0, hPl, hcutE, -CI.cut, hcut, hwv, hwv2, hwv3, c37]; rfl) ?_) | (refine zDx P hul9 fun i' _ _ P' g _ => ⟨rfl, ?_⟩; have hi0 := P'.n; have hPl := P'.l; have hcutE := P'.cutE; (try dsimp only at g); have hcut := P'.cut hwl) | ((first | (refine W.ret ?_; (try simp only [zAb, zA0, zA8]); refine endW.of (.inl rfl) rfl ?_) | refine endW.of (.inr rfl) rfl ?_); generalize e : zAc .. = r; simp (disch := omega) [hX, hZ, hul, hi0, hPl, hcutE, -CI.cut, hcut, hwv, hwv2, hwv3, c37] at e; subst e; (refine hk _ _ _ (P') ?_ ?_; omega; exact ut_)))
theorem qi_y {p d : Nat} {u r : B8} {i e : Int} (P : Pos u r i) (hul : u.length < 50000) (w : B8) (he : e = 0) (hwl : w.length ≤ (zA3 r).length) (hwv : ((zA3 r).take w.length == w) = true) {h : CHeap} {K : KT} (hk : ∀ i' n' ty, Pos u ((zA3 r).drop w.length) i' → h.next ≤ n' → zA9 ty n' → K (.bool true) ⟨zA5 h.ents p (rq u i' (0)), n', ty⟩) (hf : Fit h := by exact ft_) (hg : zA4 h.ents p = some (rq u i e) := by exact ge2_) (hp : p < h.next := by exact lt_) : Wc tree.getF 37 [.ptr p d 0, .str w] h K := by
 obtain ⟨hu, hut, hX⟩ := fx4 hf
 have hZ := fx6 hf hg
 have hi0 := P.n
 have hPl := P.l
 have hcutE := trivial
 have hul9 : u.length < 90000 := by omega
 subst he
 have hcut := trivial
 have hwv2 : (zA3 r).take w.length = w := by simpa using hwv
 have hwv3 : ((zA3 r).take w.length != w) = false := by simpa using hwv
 refine Wc.mkG 37 c37 (by kernel_rfl) rfl ?_
 generalize e : zAa .. = r
 simp (disch := omega) [c37] at e
 subst e
 repeat (first | refine st_ rfl ?_ | ((first | refine rg_ ?_ | refine go_ ?_); refine gw_ (by simp (disch := omega) [hX, hZ, hul, hi0, hPl, hcutE, -CI.cut, hcut, hwv, hwv2, hwv3, c37]; rfl) ?_) | (refine zDx P hul9 fun i' _ _ P' g _ => ⟨rfl, ?_⟩; have hi0 := P'.n; have hPl := P'.l; have hcutE := P'.cutE; (try dsimp only at g); have hcut := P'.cut hwl) | ((first | (refine W.ret ?_; (try simp only [zAb, zA0, zA8]); refine endW.of (.inl rfl) rfl ?_) | refine endW.of (.inr rfl) rfl ?_); generalize e : zAc .. = r; simp (disch := omega) [hX, hZ, hul, hi0, hPl, hcutE, -CI.cut, hcut, hwv, hwv2, hwv3, c37] at e; subst e; (refine hk _ _ _ (P'.drop hwl) ?_ ?_; omega; exact ut_)))
theorem is_F {p d : Nat} {u r : B8} {i e : Int} (P : Pos u r i) (hul : u.length < 50000) (w : B8) (hw9 : w.length < 60000) {v : Bool} (hv : isQ e w r = v) {h : CHeap} {K : KT} (hk : ∀ i' n' ty, Pos u (aftQ e w r) i' → h.next ≤ n' → zA9 ty n' → K (.bool v) ⟨zA5 h.ents p (rq u i' e), n', ty⟩) (hf : Fit h := by exact ft_) (hg : zA4 h.ents p = some (rq u i e) := by exact ge2_) (hp : p < h.next := by exact lt_) : Wc tree.getF 37 [.ptr p d 0, .str w] h K := by
 subst hv
 by_cases he : e = 0
 · subst he
   rcases Nat.lt_or_ge (zA3 r).length w.length with g | g
   · have hF : isF w (zA3 r) = false := by unfold isF; simp; omega
     have h1 : isQ 0 w r = false := by unfold isQ; rw [hF]; rfl
     have h2 : aftQ 0 w r = zA3 r := by unfold aftQ; rw [h1]; rfl
     rw [h1, h2] at hk
     exact qi_l P hul w hw9 rfl g hk hf hg hp
   · cases hw : ((zA3 r).take w.length == w) with
     | false =>
      have hF : isF w (zA3 r) = false := by unfold isF; rw [hw]; simp
      have h1 : isQ 0 w r = false := by unfold isQ; rw [hF]; rfl
      have h2 : aftQ 0 w r = zA3 r := by unfold aftQ; rw [h1]; rfl
      rw [h1, h2] at hk
      exact qi_n P hul w rfl g hw hk hf hg hp
     | true =>
      have hF : isF w (zA3 r) = true := by unfold isF; rw [hw]; simp [g]
      have h1 : isQ 0 w r = true := by unfold isQ; rw [hF]; rfl
      have h2 : aftQ 0 w r = (zA3 r).drop w.length := by unfold aftQ; rw [h1]; rfl
      rw [h1, h2] at hk
      exact qi_y P hul w rfl g hw hk hf hg hp
 · have h1 : isQ e w r = false := by unfold isQ; simp [he]
   have h2 : aftQ e w r = zA3 r := by unfold aftQ; rw [h1]; rfl
   rw [h1, h2] at hk
   exact qi_e P hul w he hk hf hg hp
theorem qn_y {p d : Nat} {u r : B8} {i e : Int} (P : Pos u r i) (hul : u.length < 50000) (w : B8) (hw9 : w.length < 60000) (hv : isQ e w r = true) {h : CHeap} {K : KT} (hk : ∀ i' n' ty, Pos u (aftQ e w r) i' → h.next ≤ n' → zA9 ty n' → K (.tup []) ⟨zA5 h.ents p (rq u i' (e)), n', ty⟩) (hf : Fit h := by exact ft_) (hg : zA4 h.ents p = some (rq u i e) := by exact ge2_) (hp : p < h.next := by exact lt_) : Wc tree.getF 60 [.ptr p d 0, .str w] h K := by
 obtain ⟨hu, hut, hX⟩ := fx4 hf
 have hZ := fx6 hf hg
 have hi0 := P.n
 have hPl := P.l
 have hcutE := trivial
 have hul9 : u.length < 90000 := by omega
 refine Wc.mkG 60 c60 (by kernel_rfl) rfl ?_
 generalize e : zAa .. = r
 simp (disch := omega) [c60] at e
 subst e
 repeat (first | refine st_ rfl ?_ | ((first | refine rg_ ?_ | refine go_ ?_); refine gw_ (by simp (disch := omega) [hX, hZ, hul, hi0, hPl, hcutE, -CI.cut, c60]; rfl) ?_) | (refine is_F P hul w hw9 hv fun i' _ _ P' g _ => ⟨rfl, ?_⟩; have hi0 := P'.n; have hPl := P'.l; have hcutE := P'.cutE; (try dsimp only at g)) | ((first | (refine W.ret ?_; (try simp only [zAb, zA0, zA8]); refine endW.of (.inl rfl) rfl ?_) | refine endW.of (.inr rfl) rfl ?_); generalize e : zAc .. = r; simp (disch := omega) [hX, hZ, hul, hi0, hPl, hcutE, -CI.cut, c60] at e; subst e; (refine hk _ _ _ (P') ?_ ?_; omega; exact ut_)))
theorem qn_n {p d : Nat} {u r : B8} {i e : Int} (P : Pos u r i) (hul : u.length < 50000) (w : B8) (hw9 : w.length < 60000) (he : e = 0) (hv : isQ 0 w r = false) {h : CHeap} {K : KT} (hk : ∀ i' n' ty, Pos u (aftQ 0 w r) i' → h.next ≤ n' → zA9 ty n' → K (.tup []) ⟨zA5 h.ents p (rq u i' (2)), n', ty⟩) (hf : Fit h := by exact ft_) (hg : zA4 h.ents p = some (rq u i e) := by exact ge2_) (hp : p < h.next := by exact lt_) : Wc tree.getF 60 [.ptr p d 0, .str w] h K := by
 obtain ⟨hu, hut, hX⟩ := fx4 hf
 have hZ := fx6 hf hg
 have hi0 := P.n
 have hPl := P.l
 have hcutE := trivial
 have hul9 : u.length < 90000 := by omega
 subst he
 refine Wc.mkG 60 c60 (by kernel_rfl) rfl ?_
 generalize e : zAa .. = r
 simp (disch := omega) [c60] at e
 subst e
 repeat (first | refine st_ rfl ?_ | ((first | refine rg_ ?_ | refine go_ ?_); refine gw_ (by simp (disch := omega) [hX, hZ, hul, hi0, hPl, hcutE, -CI.cut, c60]; rfl) ?_) | (refine is_F P hul w hw9 hv fun i' _ _ P' g _ => ⟨rfl, ?_⟩; have hi0 := P'.n; have hPl := P'.l; have hcutE := P'.cutE; (try dsimp only at g)) | (refine qf_0 2 fun _ _ g _ => ⟨rfl, ?_⟩; try dsimp only at g) | ((first | (refine W.ret ?_; (try simp only [zAb, zA0, zA8]); refine endW.of (.inl rfl) rfl ?_) | refine endW.of (.inr rfl) rfl ?_); generalize e : zAc .. = r; simp (disch := omega) [hX, hZ, hul, hi0, hPl, hcutE, -CI.cut, c60] at e; subst e; (refine hk _ _ _ (P') ?_ ?_; omega; exact ut_)))
theorem qn_a {p d : Nat} {u r : B8} {i e : Int} (P : Pos u r i) (hul : u.length < 50000) (w : B8) (hw9 : w.length < 60000) (he : e ≠ 0) (hv : isQ e w r = false) {h : CHeap} {K : KT} (hk : ∀ i' n' ty, Pos u (aftQ e w r) i' → h.next ≤ n' → zA9 ty n' → K (.tup []) ⟨zA5 h.ents p (rq u i' (e)), n', ty⟩) (hf : Fit h := by exact ft_) (hg : zA4 h.ents p = some (rq u i e) := by exact ge2_) (hp : p < h.next := by exact lt_) : Wc tree.getF 60 [.ptr p d 0, .str w] h K := by
 obtain ⟨hu, hut, hX⟩ := fx4 hf
 have hZ := fx6 hf hg
 have hi0 := P.n
 have hPl := P.l
 have hcutE := trivial
 have hul9 : u.length < 90000 := by omega
 refine Wc.mkG 60 c60 (by kernel_rfl) rfl ?_
 generalize e : zAa .. = r
 simp (disch := omega) [c60] at e
 subst e
 repeat (first | refine st_ rfl ?_ | ((first | refine rg_ ?_ | refine go_ ?_); refine gw_ (by simp (disch := omega) [hX, hZ, hul, hi0, hPl, hcutE, -CI.cut, c60]; rfl) ?_) | (refine is_F P hul w hw9 hv fun i' _ _ P' g _ => ⟨rfl, ?_⟩; have hi0 := P'.n; have hPl := P'.l; have hcutE := P'.cutE; (try dsimp only at g)) | (refine qf_1 e 2 he fun _ _ g _ => ⟨rfl, ?_⟩; try dsimp only at g) | ((first | (refine W.ret ?_; (try simp only [zAb, zA0, zA8]); refine endW.of (.inl rfl) rfl ?_) | refine endW.of (.inr rfl) rfl ?_); generalize e : zAc .. = r; simp (disch := omega) [hX, hZ, hul, hi0, hPl, hcutE, -CI.cut, c60] at e; subst e; (refine hk _ _ _ (P') ?_ ?_; omega; exact ut_)))
theorem nd_Q {p d : Nat} {u r : B8} {i e : Int} (P : Pos u r i) (hul : u.length < 50000) (w : B8) (hw9 : w.length < 60000) {h : CHeap} {K : KT} (hk : ∀ i' n' ty, Pos u (aftQ e w r) i' → h.next ≤ n' → zA9 ty n' → K (.tup []) ⟨zA5 h.ents p (rq u i' (ndQ e w r)), n', ty⟩) (hf : Fit h := by exact ft_) (hg : zA4 h.ents p = some (rq u i e) := by exact ge2_) (hp : p < h.next := by exact lt_) : Wc tree.getF 60 [.ptr p d 0, .str w] h K := by
 cases hv : isQ e w r with
 | true =>
  rw [show ndQ e w r = e by unfold ndQ; rw [hv]; rfl] at hk
  exact qn_y P hul w hw9 hv hk hf hg hp
 | false =>
  by_cases he : e = 0
  · subst he
    rw [show ndQ 0 w r = 2 by unfold ndQ; rw [hv]; rfl] at hk
    exact qn_n P hul w hw9 rfl hv hk hf hg hp
  · rw [show ndQ e w r = e by unfold ndQ; rw [hv]; simp [he]] at hk
    exact qn_a P hul w hw9 he hv hk hf hg hp
theorem qt_n {p d : Nat} {u r : B8} {i e : Int} (P : Pos u r i) (hul : u.length < 50000) (hr : r.length < 30000) (he : e = 0) (hu1 : unqV (zA3 r) = none) {h : CHeap} {K : KT} (hk : ∀ i' n' ty, Pos u (zA3 r) i' → h.next ≤ n' → zA9 ty n' → K (.str []) ⟨zA5 h.ents p (rq u i' (2)), n', ty⟩) (hf : Fit h := by exact ft_) (hg : zA4 h.ents p = some (rq u i e) := by exact ge2_) (hp : p < h.next := by exact lt_) : Wc tree.getF 33 [.ptr p d 0] h K := by
 obtain ⟨hu, hut, hX⟩ := fx4 hf
 have hZ := fx6 hf hg
 have hi0 := P.n
 have hPl := P.l
 have hcutE := trivial
 have hul9 : u.length < 90000 := by omega
 subst he
 have hsl := zAf r
 have hq := ruq_F (zA3 r) (by omega)
 rw [show unqR (zA3 r) = .tup [.str [], .int .i64 0, .int .i64 2] by unfold unqR; rw [hu1]] at hq
 refine Wc.mkG 33 c33 (by kernel_rfl) rfl ?_
 generalize e : zAa .. = r
 simp (disch := omega) [c33] at e
 subst e
 repeat (first | refine st_ rfl ?_ | ((first | refine rg_ ?_ | refine go_ ?_); refine gw_ (by simp (disch := omega) [hX, hZ, hul, hi0, hPl, hcutE, -CI.cut, c33]; rfl) ?_) | (refine zDx P hul9 fun i' _ _ P' g _ => ⟨rfl, ?_⟩; have hi0 := P'.n; have hPl := P'.l; have hcutE := P'.cutE; (try dsimp only at g)) | (refine pu_ hq fun _ _ g _ => ⟨rfl, ?_⟩; try dsimp only at g) | (refine qf_0 2 fun _ _ g _ => ⟨rfl, ?_⟩; try dsimp only at g) | ((first | (refine W.ret ?_; (try simp only [zAb, zA0, zA8]); refine endW.of (.inl rfl) rfl ?_) | refine endW.of (.inr rfl) rfl ?_); generalize e : zAc .. = r; simp (disch := omega) [hX, hZ, hul, hi0, hPl, hcutE, -CI.cut, c33] at e; subst e; (refine hk _ _ _ (P') ?_ ?_; omega; exact ut_)))
theorem qt_y {p d : Nat} {u r : B8} {i e : Int} (P : Pos u r i) (hul : u.length < 50000) (hr : r.length < 30000) (he : e = 0) {t : B8} {k : Nat} (hu1 : unqV (zA3 r) = some (t, k)) (hk1 : k ≤ (zA3 r).length) {h : CHeap} {K : KT} (hk : ∀ i' n' ty, Pos u ((zA3 r).drop k) i' → h.next ≤ n' → zA9 ty n' → K (.str t) ⟨zA5 h.ents p (rq u i' (0)), n', ty⟩) (hf : Fit h := by exact ft_) (hg : zA4 h.ents p = some (rq u i e) := by exact ge2_) (hp : p < h.next := by exact lt_) : Wc tree.getF 33 [.ptr p d 0] h K := by
 obtain ⟨hu, hut, hX⟩ := fx4 hf
 have hZ := fx6 hf hg
 have hi0 := P.n
 have hPl := P.l
 have hcutE := trivial
 have hul9 : u.length < 90000 := by omega
 subst he
 have hsl := zAf r
 have hq := ruq_F (zA3 r) (by omega)
 rw [show unqR (zA3 r) = .tup [.str t, .int .i64 (k : Int), .int .i64 0] by unfold unqR; rw [hu1]] at hq
 refine Wc.mkG 33 c33 (by kernel_rfl) rfl ?_
 generalize e : zAa .. = r
 simp (disch := omega) [c33] at e
 subst e
 repeat (first | refine st_ rfl ?_ | ((first | refine rg_ ?_ | refine go_ ?_); refine gw_ (by simp (disch := omega) [hX, hZ, hul, hi0, hPl, hcutE, -CI.cut, hsl, hk1, c33]; rfl) ?_) | (refine zDx P hul9 fun i' _ _ P' g _ => ⟨rfl, ?_⟩; have hi0 := P'.n; have hPl := P'.l; have hcutE := P'.cutE; (try dsimp only at g)) | (refine pu_ hq fun _ _ g _ => ⟨rfl, ?_⟩; try dsimp only at g) | ((first | (refine W.ret ?_; (try simp only [zAb, zA0, zA8]); refine endW.of (.inl rfl) rfl ?_) | refine endW.of (.inr rfl) rfl ?_); generalize e : zAc .. = r; simp (disch := omega) [hX, hZ, hul, hi0, hPl, hcutE, -CI.cut, hsl, hk1, c33] at e; subst e; (refine hk _ _ _ (P'.drop hk1) ?_ ?_; omega; exact ut_)))
abbrev moreReg : CCode := (.region [.v 0, .n 0, .f 1 0, .l 0, .v 0, .n 0, .f 0 0, .l 0, .g (.len true (.loc 0)), .h .lss 5 0, .m (.loc 0), .q (.mv (.var 0)) 0 true, .q (.nilck (.loc 0)) 1 true, .q (.fieldAddr 0 (.loc 0)) 2 true, .q (.load none (.loc 0)) 3 true, .q (.mv (.var 0)) 4 true, .q (.nilck (.loc 0)) 5 true, .q (.fieldAddr 1 (.loc 0)) 6 true, .q (.load none (.loc 0)) 7 true, .q (.idxStr (.loc 4) (.loc 0)) 8 true, .q (.bin .eql (.loc 0) (.u 46)) 9 true, .q (.mv (.loc 0)) 10 true, .q (.mv (.var 0)) 0 false, .q (.nilck (.loc 0)) 1 false, .q (.fieldAddr 0 (.loc 0)) 2 false, .q (.load none (.loc 0)) 3 false, .q (.mv (.var 0)) 4 false, .q (.nilck (.loc 0)) 5 false, .q (.fieldAddr 1 (.loc 0)) 6 false, .q (.load none (.loc 0)) 7 false, .q (.idxStr (.loc 4) (.loc 0)) 8 false, .q (.bin .eql (.loc 0) (.u 101)) 9 false, .q (.pick (.loc 10) (.b true) (.loc 0)) 21 true, .q (.mv (.loc 0)) 22 true, .q (.mv (.var 0)) 0 false, .q (.nilck (.loc 0)) 1 false, .q (.fieldAddr 0 (.loc 0)) 2 false, .q (.load none (.loc 0)) 3 false, .q (.mv (.var 0)) 4 false, .q (.nilck (.loc 0)) 5 false, .q (.fieldAddr 1 (.loc 0)) 6 false, .q (.load none (.loc 0)) 7 false, .q (.idxStr (.loc 4) (.loc 0)) 8 false, .q (.bin .eql (.loc 0) (.u 69)) 9 false, .q (.pick (.loc 10) (.b true) (.loc 0)) 33 true, .g (.pick (.loc 34) (.loc 0) (.b false)), .m (.loc 0)] [(10, 46)] [] [])
abbrev badReg : CCode := (.region [.v 0, .n 0, .f 1 0, .l 0, .v 9, .h .eql 1 0, .m (.loc 0), .q (.mv (.var 0)) 0 false, .q (.nilck (.loc 0)) 1 false, .q (.fieldAddr 0 (.loc 0)) 2 false, .q (.load none (.loc 0)) 3 false, .q (.mv (.var 9)) 4 false, .q (.idxStr (.loc 1) (.loc 0)) 5 false, .q (.bin .eql (.loc 0) (.u 48)) 6 false, .q (.mv (.loc 0)) 7 false, .q (.mv (.var 0)) 0 true, .q (.nilck (.loc 0)) 1 true, .q (.fieldAddr 1 (.loc 0)) 2 true, .q (.load none (.loc 0)) 3 true, .q (.mv (.var 9)) 4 true, .q (.bin .add (.loc 0) (.k 1)) 5 true, .q (.bin .gtr (.loc 2) (.loc 0)) 6 true, .q (.pick (.loc 7) (.loc 0) (.b false)) 15 false, .g (.pick (.loc 16) (.b true) (.loc 0)), .m (.loc 0), .q (.mv (.var 10)) 0 false, .g (.pick (.loc 1) (.b true) (.loc 0)), .m (.loc 0), .q (.mv (.var 2)) 0 false, .q (.not (.loc 0)) 1 false, .q (.mv (.loc 0)) 2 false, .q (.mv (.var 5)) 0 true, .q (.bin .gtr (.loc 0) (.const (.int .u64 9223372036854775807))) 1 true, .q (.pick (.loc 2) (.loc 0) (.b false)) 5 false, .g (.pick (.loc 6) (.b true) (.loc 0))] [(11, 34)] [] [])
abbrev nlLoop : CCode := (.loop true (.seq (.seq (.region [.v 0, .n 0, .f 1 0, .l 0, .v 0, .n 0, .f 0 0, .l 0, .g (.len true (.loc 0)), .h .lss 5 0, .m (.loc 0), .q (.mv (.var 0)) 0 true, .q (.nilck (.loc 0)) 1 true, .q (.fieldAddr 0 (.loc 0)) 2 true, .q (.load none (.loc 0)) 3 true, .q (.mv (.var 0)) 4 true, .q (.nilck (.loc 0)) 5 true, .q (.fieldAddr 1 (.loc 0)) 6 true, .q (.load none (.loc 0)) 7 true, .q (.idxStr (.loc 4) (.loc 0)) 8 true, .q (.bin .geq (.loc 0) (.u 48)) 9 true, .g (.pick (.loc 10) (.loc 0) (.b false)), .m (.loc 0), .q (.mv (.var 0)) 0 true, .q (.nilck (.loc 0)) 1 true, .q (.fieldAddr 0 (.loc 0)) 2 true, .q (.load none (.loc 0)) 3 true, .q (.mv (.var 0)) 4 true, .q (.nilck (.loc 0)) 5 true, .q (.fieldAddr 1 (.loc 0)) 6 true, .q (.load none (.loc 0)) 7 true, .q (.idxStr (.loc 4) (.loc 0)) 8 true, .q (.bin .leq (.loc 0) (.u 57)) 9 true, .g (.pick (.loc 10) (.loc 0) (.b false))] [(4, 33)] [] []) (.cond (.var 4) .skip (.exit 0))) (.block 1 (.seq (.region [.v 0, .n 0, .f 0 0, .l 0, .v 0, .n 0, .f 1 0, .l 0, .g (.idxStr (.loc 4) (.loc 0)), .x .sub 0 (.u 48), .g (.conv .u64 (.loc 0)), .m (.loc 0)] [(6, 11)] [] []) (.seq (.seq (.region [.v 5, .v 6, .g (.bin .sub (.const (.int .u64 9223372036854775808)) (.loc 0)), .g (.bin .quo (.loc 0) (.const (.int .u64 10))), .h .gtr 3 0] [(7, 4)] [] []) (.cond (.var 7) (.seq (.region [.v 0, .g (.call false 17 [(.loc 0), (.k 2)])] [] [] []) (.seq (.region [.g (.build [(.int .i64 0), (.int .i64 0), (.str []), .nils, .nils] []), .g (.store 5 (.var 8) (.loc 0))] [] [] []) .ret)) .skip)) (.seq (.region [.v 5, .g (.bin .mul (.loc 0) (.const (.int .u64 10))), .v 6, .h .add 1 0, .m (.loc 0)] [(5, 4)] [] []) (.region [.v 0, .n 0, .f 1 0, .l 0, .x .add 0 (.k 1), .n 4, .f 1 0, .g (.store 1 (.loc 0) (.loc 2))] [] [] [])))))))
theorem more_F {p d br : Nat} {u : B8} {i : Int} {H : CHeap} {T : B8} (P : Pos u T i) (hul : u.length < 50000) (v1 v2 v3 v4 v6 v7 v10 v11 v12 : CVal) (v f : Int) {Q : QT} (hk : ∀ n', H.next ≤ n' → Q .normal ⟨[.ptr p d 0, v1, v2, v3, v4, .int .u64 v, v6, v7, .ptr br 28311557 0, .int .i64 f, .bool (isE T), v11, v12], ⟨H.ents, n', H.tys⟩, []⟩) (hf : Fit H := by exact ft_) (hg : zA4 H.ents p = some (rq u i 0) := by exact ge2_) : W tree.getF moreReg ⟨[.ptr p d 0, v1, v2, v3, v4, .int .u64 v, v6, v7, .ptr br 28311557 0, .int .i64 f, v10, v11, v12], H, []⟩ Q := by
 have hi0 := P.n
 have hPl := P.l
 match T, P, hPl, hk with
 | [], P, hPl, hk =>
  have hil : (u.length : Int) ≤ i := by (simp at hPl; omega)
  (first | refine rg_ ?_ | refine go_ ?_); refine gw_ (by simp (disch := omega) [hg, hi0, hil, hul]; rfl) ?_
  (exact hk _ (by (try dsimp only); omega))
 | c :: t, P, hPl, hk =>
  obtain ⟨hix, hil⟩ := P.get rfl
  by_cases h46 : c = 46
  · subst h46
    (first | refine rg_ ?_ | refine go_ ?_); refine gw_ (by simp (disch := omega) [hg, hi0, hil, hul, hix]; rfl) ?_
    (exact hk _ (by (try dsimp only); omega))
  by_cases h101 : c = 101
  · subst h101
    (first | refine rg_ ?_ | refine go_ ?_); refine gw_ (by simp (disch := omega) [hg, hi0, hil, hul, hix]; rfl) ?_
    (exact hk _ (by (try dsimp only); omega))
  by_cases h69 : c = 69
  · subst h69
    (first | refine rg_ ?_ | refine go_ ?_); refine gw_ (by simp (disch := omega) [hg, hi0, hil, hul, hix]; rfl) ?_
    (exact hk _ (by (try dsimp only); omega))
  have n46 : c.toNat ≠ 46 := fun g => h46 (UInt8.toNat_inj.1 g)
  have n101 : c.toNat ≠ 101 := fun g => h101 (UInt8.toNat_inj.1 g)
  have n69 : c.toNat ≠ 69 := fun g => h69 (UInt8.toNat_inj.1 g)
  have hE : isE (c :: t) = false := by simp [isE, h46, h101, h69]
  rw [hE] at hk
  (first | refine rg_ ?_ | refine go_ ?_); refine gw_ (by simp (disch := omega) [hg, hi0, hil, hul, hix, n46, n101, n69]; rfl) ?_
  (exact hk _ (by (try dsimp only); omega))
theorem bad_F {p d br : Nat} {u : B8} {i : Int} {H : CHeap} (hi0 : 0 ≤ i) (hil : i ≤ (u.length : Int)) (hul : u.length < 50000) (v1 v3 v4 v6 v7 v11 v12 : CVal) (minus m : Bool) (v f : Int) (hfi : f ≤ i) (hf0 : 0 ≤ f) (hv : 0 ≤ v) (hv2 : v < 18446744073709551616) (b : Bool)
    (hb : (decide (i = f) || (decide (u[f.toNat]? = some 48) && decide (f + 1 < i)) || m || (!minus && decide (9223372036854775807 < v))) = b) {Q : QT} (hk : ∀ n', H.next ≤ n' → Q .normal ⟨[.ptr p d 0, v1, .bool minus, v3, v4, .int .u64 v, v6, v7, .ptr br 28311557 0, .int .i64 f, .bool m, .bool b, v12], ⟨H.ents, n', H.tys⟩, []⟩) (hf : Fit H := by exact ft_) (hg : zA4 H.ents p = some (rq u i 0) := by exact ge2_) : W tree.getF badReg ⟨[.ptr p d 0, v1, .bool minus, v3, v4, .int .u64 v, v6, v7, .ptr br 28311557 0, .int .i64 f, .bool m, v11, v12], H, []⟩ Q := by
 subst hb
 by_cases h1 : i = f
 · subst h1
   simp only [decide_true, Bool.true_or] at hk
   have hq := trivial
   (first | refine rg_ ?_ | refine go_ ?_); refine gw_ (by simp (disch := omega) [hg, hi0, hil, hul]; rfl) ?_
   (exact hk _ (by (try dsimp only); omega))
 have h1b : decide (i = f) = false := by simp [h1]
 have hfl : f < (u.length : Int) := by omega
 have hfl2 : f.toNat < u.length := by omega
 obtain ⟨c, hc⟩ : ∃ c, u[f.toNat]? = some c := ⟨_, List.getElem?_eq_getElem hfl2⟩
 have hc2 : ∀ hh : f.toNat < u.length, u[f.toNat]'hh = c := fun hh => by rw [List.getElem?_eq_getElem hh] at hc; exact Option.some.inj hc
 rw [h1b, hc] at hk
 simp only [Bool.false_or, Option.some.injEq] at hk
 by_cases h48 : c = 48
 · subst h48
   by_cases hg1 : f + 1 < i
   · simp only [hg1, decide_true, Bool.and_self, Bool.true_or] at hk
     (first | refine rg_ ?_ | refine go_ ?_); refine gw_ (by simp (disch := omega) [hg, hi0, hil, hul, hc, hc2, h1, hfl, hf0, hg1]; rfl) ?_
     (exact hk _ (by (try dsimp only); omega))
   · simp only [hg1, decide_true, decide_false, Bool.and_false, Bool.false_or] at hk
     have hg2 : i ≤ f + 1 := by omega
     cases m with
     | true =>
      simp only [Bool.true_or] at hk
      (first | refine rg_ ?_ | refine go_ ?_); refine gw_ (by simp (disch := omega) [hg, hi0, hil, hul, hc, hc2, h1, hfl, hf0, hg2]; rfl) ?_
      (exact hk _ (by (try dsimp only); omega))
     | false =>
      cases minus with
      | true =>
       simp only [Bool.not_true, Bool.false_and, Bool.or_false, Bool.false_or] at hk
       (first | refine rg_ ?_ | refine go_ ?_); refine gw_ (by simp (disch := omega) [hg, hi0, hil, hul, hc, hc2, h1, hfl, hf0, hg2]; rfl) ?_
       (exact hk _ (by (try dsimp only); omega))
      | false =>
       simp only [Bool.not_false, Bool.true_and, Bool.false_or] at hk
       by_cases hv3 : 9223372036854775807 < v
       · simp only [hv3, decide_true] at hk
         (first | refine rg_ ?_ | refine go_ ?_); refine gw_ (by simp (disch := omega) [hg, hi0, hil, hul, hc, hc2, h1, hfl, hf0, hg2]; rfl) ?_
         (exact hk _ (by (try dsimp only); omega))
       · simp only [hv3, decide_false] at hk
         have hv4 : v ≤ 9223372036854775807 := by omega
         (first | refine rg_ ?_ | refine go_ ?_); refine gw_ (by simp (disch := omega) [hg, hi0, hil, hul, hc, hc2, h1, hfl, hf0, hg2]; rfl) ?_
         (exact hk _ (by (try dsimp only); omega))
 · have n48 : c.toNat ≠ 48 := fun g => h48 (UInt8.toNat_inj.1 g)
   simp only [h48, decide_false, Bool.false_and, Bool.false_or] at hk
   cases m with
   | true =>
    simp only [Bool.true_or] at hk
    (first | refine rg_ ?_ | refine go_ ?_); refine gw_ (by simp (disch := omega) [hg, hi0, hil, hul, hc, hc2, h1, hfl, hf0, n48]; rfl) ?_
    (exact hk _ (by (try dsimp only); omega))
   | false =>
    cases minus with
    | true =>
     simp only [Bool.not_true, Bool.false_and, Bool.or_false, Bool.false_or] at hk
     (first | refine rg_ ?_ | refine go_ ?_); refine gw_ (by simp (disch := omega) [hg, hi0, hil, hul, hc, hc2, h1, hfl, hf0, n48]; rfl) ?_
     (exact hk _ (by (try dsimp only); omega))
    | false =>
     simp only [Bool.not_false, Bool.true_and, Bool.false_or] at hk
     by_cases hv3 : 9223372036854775807 < v
     · simp only [hv3, decide_true] at hk
       (first | refine rg_ ?_ | refine go_ ?_); refine gw_ (by simp (disch := omega) [hg, hi0, hil, hul, hc, hc2, h1, hfl, hf0, n48]; rfl) ?_
       (exact hk _ (by (try dsimp only); omega))
     · simp only [hv3, decide_false] at hk
       have hv4 : v ≤ 9223372036854775807 := by omega
       (first | refine rg_ ?_ | refine go_ ?_); refine gw_ (by simp (disch := omega) [hg, hi0, hil, hul, hc, hc2, h1, hfl, hf0, n48]; rfl) ?_
       (exact hk _ (by (try dsimp only); omega))
theorem nl_end {p d br : Nat} {u : B8} {h : CHeap} {i f : Int} {T : B8} (P : Pos u T i) (hul : u.length < 50000) (hf : Fit h) (hg : zA4 h.ents p = some (rq u i 0)) (hp : p < h.next) (hT : T = []) (v1 v2 v3 v4 v6 v7 v10 v11 v12 : CVal) (v : Int) {Q : QT} (hk : ∀ (v3 v4 v6 v7 v10 v11 v12 : CVal) n' ty, h.next ≤ n' → zA9 ty n' → Q (.exit 0) ⟨[.ptr p d 0, v1, v2, v3, v4, .int .u64 v, v6, v7, .ptr br 28311557 0, .int .i64 f, v10, v11, v12], ⟨h.ents, n', ty⟩, []⟩) : W tree.getF nlLoop ⟨[.ptr p d 0, v1, v2, v3, v4, .int .u64 v, v6, v7, .ptr br 28311557 0, .int .i64 f, v10, v11, v12], h, []⟩ Q := by
 obtain ⟨hu, hut, hX⟩ := fx4 hf
 have hZ := fx6 hf hg
 have hi0 := P.n
 have hPl := P.l
 have hil : (u.length : Int) ≤ i := by rw [hT, List.length_nil] at hPl; omega
 refine W.loop ?_
 repeat (first | refine st_ rfl ?_ | ((first | refine rg_ ?_ | refine go_ ?_); refine gw_ (by simp (maxSteps := 300000) (disch := omega) [hX, hZ, hi0, hil, hul]; rfl) ?_))
 all_goals (refine hk _ _ _ _ _ _ _ _ _ ?_ ?_; ((try dsimp only); omega); exact ut_)
theorem nl_nd {p d br : Nat} {u : B8} {h : CHeap} {i f : Int} {T : B8} {c : UInt8} {t : B8} (P : Pos u T i) (hul : u.length < 50000) (hf : Fit h) (hg : zA4 h.ents p = some (rq u i 0)) (hp : p < h.next) (hT : T = c :: t) (hc : c.toNat < 48 ∨ 57 < c.toNat) (v1 v2 v3 v4 v6 v7 v10 v11 v12 : CVal) (v : Int) {Q : QT} (hk : ∀ (v3 v4 v6 v7 v10 v11 v12 : CVal) n' ty, h.next ≤ n' → zA9 ty n' → Q (.exit 0) ⟨[.ptr p d 0, v1, v2, v3, v4, .int .u64 v, v6, v7, .ptr br 28311557 0, .int .i64 f, v10, v11, v12], ⟨h.ents, n', ty⟩, []⟩) : W tree.getF nlLoop ⟨[.ptr p d 0, v1, v2, v3, v4, .int .u64 v, v6, v7, .ptr br 28311557 0, .int .i64 f, v10, v11, v12], h, []⟩ Q := by
 obtain ⟨hu, hut, hX⟩ := fx4 hf
 have hZ := fx6 hf hg
 have hi0 := P.n
 have hPl := P.l
 obtain ⟨hix, hil⟩ := P.get hT
 rcases hc with hc | hc
 · refine W.loop ?_
   repeat (first | refine st_ rfl ?_ | ((first | refine rg_ ?_ | refine go_ ?_); refine gw_ (by simp (maxSteps := 300000) (disch := omega) [hX, hZ, hi0, hil, hul, hix, hc]; rfl) ?_))
   all_goals (refine hk _ _ _ _ _ _ _ _ _ ?_ ?_; ((try dsimp only); omega); exact ut_)
 · refine W.loop ?_
   repeat (first | refine st_ rfl ?_ | ((first | refine rg_ ?_ | refine go_ ?_); refine gw_ (by simp (maxSteps := 300000) (disch := omega) [hX, hZ, hi0, hil, hul, hix, hc]; rfl) ?_))
   all_goals (refine hk _ _ _ _ _ _ _ _ _ ?_ ?_; ((try dsimp only); omega); exact ut_)
theorem nl_dig {p d br : Nat} {u : B8} {h : CHeap} {i f : Int} {T : B8} {c : UInt8} {t : B8} (P : Pos u T i) (hul : u.length < 50000) (hf : Fit h) (hg : zA4 h.ents p = some (rq u i 0)) (hp : p < h.next) (hT : T = c :: t) {v : Int} (n48 : 48 ≤ c.toNat) (n57 : c.toNat ≤ 57) (hv0 : 0 ≤ v) (hv1 : v ≤ 9223372036854775808) (hv2 : v * 10 + ((c.toNat : Int) - 48) ≤ 9223372036854775808) (v1 v2 v3 v4 v6 v7 v10 v11 v12 : CVal) {Q : QT} (hk : ∀ (v3 v4 v6 v7 v10 v11 v12 : CVal) n' ty, h.next ≤ n' → zA9 ty n' → W tree.getF nlLoop ⟨[.ptr p d 0, v1, v2, v3, v4, .int .u64 (v * 10 + ((c.toNat : Int) - 48)), v6, v7, .ptr br 28311557 0, .int .i64 f, v10, v11, v12], ⟨zA5 h.ents p (rq u (i + 1) 0), n', ty⟩, []⟩ Q) : W tree.getF nlLoop ⟨[.ptr p d 0, v1, v2, v3, v4, .int .u64 v, v6, v7, .ptr br 28311557 0, .int .i64 f, v10, v11, v12], h, []⟩ Q := by
 obtain ⟨hu, hut, hX⟩ := fx4 hf
 have hZ := fx6 hf hg
 have hi0 := P.n
 have hPl := P.l
 obtain ⟨hix, hil⟩ := P.get hT
 have hq1 : (9223372036854775808 - ((c.toNat : Int) - 48)).tdiv 10 = (9223372036854775808 - ((c.toNat : Int) - 48)) / 10 := Int.tdiv_eq_ediv_of_nonneg (by omega)
 obtain ⟨q, hq⟩ : ∃ q, (9223372036854775808 - ((c.toNat : Int) - 48)) / 10 = q := ⟨_, rfl⟩
 rw [hq] at hq1
 have hq2 : 0 ≤ q ∧ q < 18446744073709551616 := by omega
 have hq3 : v ≤ q := by omega
 refine W.loop ?_
 repeat (first | refine st_ rfl ?_ | ((first | refine rg_ ?_ | refine go_ ?_); refine gw_ (by simp (maxSteps := 300000) (disch := omega) [hX, hZ, hi0, hil, hul, hix, n48, n57, hv0, hq3, hv2, zA2, zAg, hq1]; rfl) ?_))
 show W tree.getF nlLoop (dropped true _ _) Q
 generalize e : dropped .. = r
 simp (maxSteps := 300000) (disch := omega) [hX, hZ, hi0, hil, hul] at e
 subst e
 refine hk _ _ _ _ _ _ _ _ _ ?_ ?_; ((try dsimp only); omega); exact ut_
theorem nl_ovf {p d br : Nat} {u : B8} {h : CHeap} {i f : Int} {T : B8} {c : UInt8} {t : B8} (P : Pos u T i) (hul : u.length < 50000) (hf : Fit h) (hg : zA4 h.ents p = some (rq u i 0)) (hp : p < h.next) (hgb : zA4 h.ents br = some (.cells [.int .i64 0, .int .i64 0, .str [], .nils, .nils])) (hpb : p ≠ br) (hbn : br < h.next) (hT : T = c :: t) {v : Int} (n48 : 48 ≤ c.toNat) (n57 : c.toNat ≤ 57) (hv0 : 0 ≤ v) (hv1 : v ≤ 9223372036854775808) (hv2 : 9223372036854775808 < v * 10 + ((c.toNat : Int) - 48)) (v1 v2 v3 v4 v6 v7 v10 v11 v12 : CVal) {Q : QT} (hk : ∀ (v3 v4 v6 v7 v10 v11 v12 : CVal) n' ty, h.next ≤ n' → zA9 ty n' → Q .ret ⟨[.ptr p d 0, v1, v2, v3, v4, .int .u64 v, v6, v7, .ptr br 28311557 0, .int .i64 f, v10, v11, v12], ⟨zA5 (zA5 h.ents p (rq u i 2)) br (.cells [.int .i64 0, .int .i64 0, .str [], .nils, .nils]), n', ty⟩, []⟩) : W tree.getF nlLoop ⟨[.ptr p d 0, v1, v2, v3, v4, .int .u64 v, v6, v7, .ptr br 28311557 0, .int .i64 f, v10, v11, v12], h, []⟩ Q := by
 obtain ⟨hu, hut, hX⟩ := fx4 hf
 have hZ := fx6 hf hg
 have hi0 := P.n
 have hPl := P.l
 obtain ⟨hix, hil⟩ := P.get hT
 have hgc : ∀ x, zA4 (zA5 h.ents p x) br = some (.cells [.int .i64 0, .int .i64 0, .str [], .nils, .nils]) := fun x => (zA7 (by omega)).trans hgb
 have hgd := fun x y => zA6 (x := y) (hgc x)
 have hq1 : (9223372036854775808 - ((c.toNat : Int) - 48)).tdiv 10 = (9223372036854775808 - ((c.toNat : Int) - 48)) / 10 := Int.tdiv_eq_ediv_of_nonneg (by omega)
 obtain ⟨q, hq⟩ : ∃ q, (9223372036854775808 - ((c.toNat : Int) - 48)) / 10 = q := ⟨_, rfl⟩
 rw [hq] at hq1
 have hq2 : 0 ≤ q ∧ q < 18446744073709551616 := by omega
 have hq3 : q < v := by omega
 refine W.loop ?_
 repeat (first | refine st_ rfl ?_ | ((first | refine rg_ ?_ | refine go_ ?_); refine gw_ (by simp (maxSteps := 300000) (disch := omega) [hX, hZ, hi0, hil, hul, hix, n48, n57, hv0, hq3, hv2, hgb, hgc, hgd, zA2, zAg, hq1]; rfl) ?_) | (refine qf_0 2 fun _ _ g _ => ⟨rfl, ?_⟩; try dsimp only at g))
 all_goals ((try refine W.ret ?_); (try simp only [zAb, zA0, zAh, zA8, reduceIte]); refine hk _ _ _ _ _ _ _ _ _ ?_ ?_; ((try dsimp only); omega); exact ut_)
theorem wrapi {x : Int} (h : -9223372036854775808 ≤ x) (h2 : x < 9223372036854775808) : IntKind.i64.wrap x = x := by
 simp [IntKind.wrap, IntKind.bits, IntKind.signed, Int.bmod]
 omega
def numL : Nat → B8 → Option (Nat × B8)
 | v, [] => some (v, [])
 | v, c :: t => if isD c = true then (if v * 10 + (c.toNat - 48) ≤ 9223372036854775808 then numL (v * 10 + (c.toNat - 48)) t else none) else some (v, c :: t)
theorem zEp (c : UInt8) : isD c = true ↔ 48 ≤ c.toNat ∧ c.toNat ≤ 57 := by simp [isD]
theorem nl_loop {p d br : Nat} {u : B8} {h0 : CHeap} {i0 f : Int} (hul : u.length < 50000) (hf0 : Fit h0) (hg0 : zA4 h0.ents p = some (rq u i0 0)) (hp : p < h0.next) (hgb : zA4 h0.ents br = some (.cells [.int .i64 0, .int .i64 0, .str [], .nils, .nils])) (hpb : p ≠ br) (hbn : br < h0.next) {Q : QT} {R : Option (Nat × B8)} {l0 : Nat} (v1 v2 : CVal)
    (hok : ∀ (v : Nat) T' i, R = some (v, T') → v ≤ 9223372036854775808 → Pos u T' i → ∀ (v3 v4 v6 v7 v10 v11 v12 : CVal) n' ty, h0.next ≤ n' → zA9 ty n' → Q (.exit 0) ⟨[.ptr p d 0, v1, v2, v3, v4, .int .u64 (v : Int), v6, v7, .ptr br 28311557 0, .int .i64 f, v10, v11, v12], ⟨zA5 h0.ents p (rq u i 0), n', ty⟩, []⟩)
    (hno : R = none → ∀ T' i, Pos u T' i → T'.length ≤ l0 → ∀ (v3 v4 v6 v7 v10 v11 v12 : CVal) (v : Int) n' ty, h0.next ≤ n' → zA9 ty n' → Q .ret ⟨[.ptr p d 0, v1, v2, v3, v4, .int .u64 v, v6, v7, .ptr br 28311557 0, .int .i64 f, v10, v11, v12], ⟨zA5 h0.ents p (rq u i 2), n', ty⟩, []⟩) :
    ∀ (T : B8) (v : Nat) (i : Int) (n : Nat) (ty : NN) (v3 v4 v6 v7 v10 v11 v12 : CVal), Pos u T i → v ≤ 9223372036854775808 → numL v T = R → T.length ≤ l0 → h0.next ≤ n → zA9 ty n → W tree.getF nlLoop ⟨[.ptr p d 0, v1, v2, v3, v4, .int .u64 (v : Int), v6, v7, .ptr br 28311557 0, .int .i64 f, v10, v11, v12], ⟨zA5 h0.ents p (rq u i 0), n, ty⟩, []⟩ Q := by
 intro T
 induction T with
 | nil =>
  intro v i n ty v3 v4 v6 v7 v10 v11 v12 P hv hR hl hn ht
  exact nl_end P hul ⟨hf0.1.set.le hn, ht⟩ (zA6 hg0) (Nat.lt_of_lt_of_le hp hn) rfl v1 v2 v3 v4 v6 v7 v10 v11 v12 _ fun v3 v4 v6 v7 v10 v11 v12 n' ty g1 g2 => hok v [] i hR.symm hv P v3 v4 v6 v7 v10 v11 v12 n' ty (Nat.le_trans hn g1) g2
 | cons c t ih =>
  intro v i n ty v3 v4 v6 v7 v10 v11 v12 P hv hR hl hn ht
  have hf : Fit ⟨zA5 h0.ents p (rq u i 0), n, ty⟩ := ⟨hf0.1.set.le hn, ht⟩
  have hg : zA4 (zA5 h0.ents p (rq u i 0)) p = some (rq u i 0) := zA6 hg0
  have hpn : p < n := Nat.lt_of_lt_of_le hp hn
  unfold numL at hR
  by_cases hd : isD c = true
  · rw [if_pos hd] at hR
    obtain ⟨n48, n57⟩ := (zEp c).1 hd
    by_cases hv2 : v * 10 + (c.toNat - 48) ≤ 9223372036854775808
    · rw [if_pos hv2] at hR
      refine nl_dig P hul hf hg hpn rfl n48 n57 (by omega) (by omega) (by omega) v1 v2 v3 v4 v6 v7 v10 v11 v12 fun v3 v4 v6 v7 v10 v11 v12 n' ty g1 g2 => ?_
      have := ih (v * 10 + (c.toNat - 48)) (i + 1) n' ty v3 v4 v6 v7 v10 v11 v12 (P.next rfl) hv2 hR (by rw [List.length_cons] at hl; omega) (Nat.le_trans hn g1) g2
      rw [show ((v * 10 + (c.toNat - 48) : Nat) : Int) = (v : Int) * 10 + ((c.toNat : Int) - 48) by omega] at this
      (try dsimp only)
      rwa [zAm]
    · rw [if_neg hv2] at hR
      refine nl_ovf P hul hf hg hpn ((zA7 (by omega)).trans hgb) hpb (Nat.lt_of_lt_of_le hbn hn) rfl n48 n57 (by omega) (by omega) (by omega) v1 v2 v3 v4 v6 v7 v10 v11 v12 fun v3 v4 v6 v7 v10 v11 v12 n' ty g1 g2 => ?_
      have := hno hR.symm _ i P hl v3 v4 v6 v7 v10 v11 v12 v n' ty (Nat.le_trans hn g1) g2
      (try dsimp only)
      rw [zAm, zBk ((zA7 (by omega)).trans hgb)]
      exact this
  · rw [if_neg hd] at hR
    have hc : c.toNat < 48 ∨ 57 < c.toNat := by have := mt (zEp c).2 hd; omega
    exact nl_nd P hul hf hg hpn rfl hc v1 v2 v3 v4 v6 v7 v10 v11 v12 _ fun v3 v4 v6 v7 v10 v11 v12 n' ty g1 g2 => hok v _ i hR.symm hv P v3 v4 v6 v7 v10 v11 v12 n' ty (Nat.le_trans hn g1) g2
theorem valF_ge : ∀ (r : B8) (n : Nat), n ≤ valF 10 n r := valF_le 10 (by omega)
theorem numL_eq : ∀ (T : B8) (v : Nat), v ≤ 9223372036854775808 → numL v T = if valF 10 v (T.takeWhile isD) ≤ 9223372036854775808 then some (valF 10 v (T.takeWhile isD), T.dropWhile isD) else none
 | [], v, hv => by simp [numL, valF, hv]
 | c :: t, v, hv => by
  unfold numL
  by_cases hd : isD c = true
  · obtain ⟨n48, n57⟩ := (zEp c).1 hd
    rw [if_pos hd, List.takeWhile_cons, List.dropWhile_cons, if_pos hd, if_pos hd]
    have hdg : digF c = c.toNat - 48 := by unfold digF; rw [if_pos n57]
    have hvf : valF 10 v (c :: t.takeWhile isD) = valF 10 (v * 10 + (c.toNat - 48)) (t.takeWhile isD) := by rw [← hdg]; rfl
    rw [hvf]
    by_cases hv2 : v * 10 + (c.toNat - 48) ≤ 9223372036854775808
    · rw [if_pos hv2]; exact numL_eq t _ hv2
    · rw [if_neg hv2, if_neg (by have := valF_ge (t.takeWhile isD) (v * 10 + (c.toNat - 48)); omega)]
  · rw [if_neg hd, List.takeWhile_cons, List.dropWhile_cons, if_neg hd, if_neg hd]
    simp [valF, hv]
theorem numV_ovf {r : B8} (h : numL 0 (numT r) = none) : numV r = none := by
 rw [numL_eq _ 0 (by omega)] at h
 have h1 : ¬ valF 10 0 (numD r) ≤ 9223372036854775808 := by
  intro g
  have : valF 10 0 ((numT r).takeWhile isD) ≤ 9223372036854775808 := g
  rw [if_pos this] at h; cases h
 unfold numV
 repeat' (first | rfl | omega | split)
def badB (r : B8) (v : Nat) : Bool := (numD r).isEmpty || zCo (numD r) || isE (numR r) || (!isNeg r && decide (9223372036854775808 ≤ v))
theorem numV_got {r T' : B8} {v : Nat} (h : numL 0 (numT r) = some (v, T')) : valF 10 0 (numD r) = v ∧ T' = numR r ∧ v ≤ 9223372036854775808 := by
 rw [numL_eq _ 0 (by omega)] at h
 by_cases g : valF 10 0 ((numT r).takeWhile isD) ≤ 9223372036854775808
 · rw [if_pos g] at h
   have := Option.some.inj h
   obtain ⟨h1, h2⟩ := Prod.mk.inj this
   exact ⟨h1, h2.symm, h1 ▸ g⟩
 · rw [if_neg g] at h; cases h
theorem numV_bad {r T' : B8} {v : Nat} (h : numL 0 (numT r) = some (v, T')) (hb : badB r v = true) : numV r = none ∨ isE (numR r) = true := by
 obtain ⟨h1, _, h3⟩ := numV_got h
 cases hE : isE (numR r) with
 | true => exact .inr rfl
 | false =>
  refine .inl ?_
  unfold badB at hb
  rw [hE, Bool.or_false] at hb
  unfold numV
  by_cases g : ((numD r).isEmpty || zCo (numD r)) = true
  · rw [if_pos g]
  · rw [if_neg g]
    have g2 : ((numD r).isEmpty || zCo (numD r)) = false := by simpa using g
    rw [g2, Bool.false_or] at hb
    cases hn : isNeg r with
    | true => rw [hn] at hb; cases hb
    | false =>
     rw [hn] at hb
     have : 9223372036854775808 ≤ v := by simpa using hb
     rw [if_neg Bool.false_ne_true, if_neg (by omega)]
theorem numV_ok {r T' : B8} {v : Nat} (h : numL 0 (numT r) = some (v, T')) (hb : badB r v = false) : numV r = some (if isNeg r then -(v : Int) else (v : Int)) ∧ isE (numR r) = false := by
 obtain ⟨h1, _, h3⟩ := numV_got h
 unfold badB at hb
 simp only [Bool.or_eq_false_iff] at hb
 obtain ⟨⟨⟨hb1, hb2⟩, hb3⟩, hb4⟩ := hb
 refine ⟨?_, hb3⟩
 unfold numV
 rw [hb1, hb2]
 cases hn : isNeg r with
 | true => rw [h1]; simp [h3]
 | false =>
  rw [hn] at hb4
  have : v < 9223372036854775808 := by simpa using hb4
  rw [h1]; simp [this]
theorem bad_eq {u r : B8} {f i : Int} (P1 : Pos u (numT r) f) (P2 : Pos u (numR r) i) (v : Nat) : (decide (i = f) || (decide (u[f.toNat]? = some 48) && decide (f + 1 < i)) || isE (numR r) || (!isNeg r && decide (9223372036854775807 < (v : Int)))) = badB r v := by
 have hT : (numD r).length + (numR r).length = (numT r).length := by
  have := congrArg List.length (List.takeWhile_append_dropWhile (p := isD) (l := numT r))
  rw [List.length_append] at this
  exact this
 have l1 := P1.l
 have l2 := P2.l
 have hi : i = f + ((numD r).length : Int) := by omega
 have hlast : decide (9223372036854775807 < (v : Int)) = decide (9223372036854775808 ≤ v) := by
  by_cases g : 9223372036854775808 ≤ v
  · rw [decide_eq_true g, decide_eq_true (by omega)]
  · rw [decide_eq_false g, decide_eq_false (by omega)]
 unfold badB
 rw [hlast]
 match hd : numD r with
 | [] =>
  have : i = f := by rw [hi, hd]; simp
  simp [this]
 | c :: t =>
  have hne : ¬ i = f := by rw [hi, hd, List.length_cons]; omega
  have hh : u[f.toNat]? = some c := by
   have hap : numT r = (c :: t) ++ numR r := by
    have := (List.takeWhile_append_dropWhile (p := isD) (l := numT r)).symm
    rw [show (numT r).takeWhile isD = c :: t from hd] at this
    exact this
   exact (P1.get (r' := t ++ numR r) (by rw [hap]; rfl)).1.1
  rw [hh, decide_eq_false hne]
  simp only [Bool.false_or, List.isEmpty_cons, Option.some.injEq]
  cases t with
  | nil =>
   have : ¬ f + 1 < i := by rw [hi, hd]; simp
   rw [decide_eq_false this]
   simp [zCo]
  | cons c2 t =>
   have : f + 1 < i := by rw [hi, hd]; simp; omega
   rw [decide_eq_true this]
   have h48 : decide (c = 48) = decide (c.toNat = 48) := by
    by_cases g : c = 48
    · subst g; rfl
    · have g2 : ¬ c.toNat = 48 := fun e => g (UInt8.toNat_inj.1 e)
      rw [decide_eq_false g, decide_eq_false g2]
   simp [zCo, h48]
theorem wHG1 {P : Prop} (h : P := by repeat (first | refine sq_ ?_ | refine bl_ ?_ | (refine more_F P' hul _ _ _ _ _ _ _ _ _ _ _ (fun _ g => ?_) ft_ ge2_; try dsimp only at g) | (refine bad_F hi2 hil2 hul _ _ _ _ _ _ _ _ _ _ _ hfi hf0 hx0 hx2 _ hb (fun _ g => ?_) ft_ ge2_; try dsimp only at g) | ((first | refine rg_ ?_ | refine go_ ?_); refine gw_ (by simp (disch := omega) [hX, hZ, hi2, hil2, hul, hx0, hx1, hx2, hm0, hm1, zAg, wrapi, c36]; rfl) ?_) | refine ct_ rfl ?_ | refine cf_ rfl ?_ | refine sk_ ?_ | refine ex_ ?_ | (refine qf_0 (u := u) (i := i') 2 fun _ _ g _ => ⟨rfl, ?_⟩; try dsimp only at g) | ((first | (refine W.ret ?_; (try simp only [zAb, zA0, zA8]); refine endW.of (.inl rfl) rfl ?_) | refine endW.of (.inr rfl) rfl ?_); generalize e : zAc .. = r; simp (disch := omega) [hX, hZ, hi2, hil2, hul, hx0, hx1, hx2, hm0, hm1, zAg, wrapi, c36] at e; subst e; (refine hk0 hno _ _ _ _ P' hle ?_ ?_; omega; exact ut_)))) : P := h
theorem wHG2 {P : Prop} (h : P := by repeat (first | refine sq_ ?_ | refine bl_ ?_ | (refine more_F P' hul _ _ _ _ _ _ _ _ _ _ _ (fun _ g => ?_) ft_ ge2_; try dsimp only at g) | (refine bad_F hi2 hil2 hul _ _ _ _ _ _ _ _ _ _ _ hfi hf0 hx0 hx2 _ hb (fun _ g => ?_) ft_ ge2_; try dsimp only at g) | ((first | refine rg_ ?_ | refine go_ ?_); refine gw_ (by simp (disch := omega) [hX, hZ, hi2, hil2, hul, hx0, hx1, hx2, hm0, hm1, zAg, wrapi, c36]; rfl) ?_) | refine ct_ rfl ?_ | refine cf_ rfl ?_ | refine sk_ ?_ | refine ex_ ?_ | (refine qf_0 (u := u) (i := i') 2 fun _ _ g _ => ⟨rfl, ?_⟩; try dsimp only at g) | ((first | (refine W.ret ?_; (try simp only [zAb, zA0, zA8]); refine endW.of (.inl rfl) rfl ?_) | refine endW.of (.inr rfl) rfl ?_); generalize e : zAc .. = r; simp (disch := omega) [hX, hZ, hi2, hil2, hul, hx0, hx1, hx2, hm0, hm1, zAg, wrapi, c36] at e; subst e; (refine hk1 _ hnv hE _ _ _ P' ?_ ?_; omega; exact ut_)))) : P := h
theorem sc_set1 {l : EE} {b p : Nat} {c x : CObj} (h : b ≠ p) : zA5 ((b, c) :: l) p x = (b, c) :: zA5 l p x := by
 have : (b == p) = false := by simpa using h
 simp only [zA5, this]; rfl
theorem sc_set2 {l : EE} {b p : Nat} {c x y : CObj} (h : b ≠ p) : zA5 ((b, c) :: zA5 l p y) p x = (b, c) :: zA5 l p x := by
 rw [sc_set1 h, zAm]
theorem nl_loopS {p d br : Nat} {u : B8} {h0 : CHeap} {i0 f : Int} (hul : u.length < 50000) {Q : QT} {R : Option (Nat × B8)} (l0 : Nat) (v1 v2 : CVal)
    (hok : ∀ (v : Nat) T' i, R = some (v, T') → v ≤ 9223372036854775808 → Pos u T' i → ∀ (v3 v4 v6 v7 v10 v11 v12 : CVal) n' ty, h0.next ≤ n' → zA9 ty n' → Q (.exit 0) ⟨[.ptr p d 0, v1, v2, v3, v4, .int .u64 (v : Int), v6, v7, .ptr br 28311557 0, .int .i64 f, v10, v11, v12], ⟨zA5 h0.ents p (rq u i 0), n', ty⟩, []⟩)
    (hno : R = none → ∀ T' i, Pos u T' i → T'.length ≤ l0 → ∀ (v3 v4 v6 v7 v10 v11 v12 : CVal) (v : Int) n' ty, h0.next ≤ n' → zA9 ty n' → Q .ret ⟨[.ptr p d 0, v1, v2, v3, v4, .int .u64 v, v6, v7, .ptr br 28311557 0, .int .i64 f, v10, v11, v12], ⟨zA5 h0.ents p (rq u i 2), n', ty⟩, []⟩)
    (T : B8) (v3 v4 v6 v7 v10 v11 v12 : CVal) (P : Pos u T i0) (hR : numL 0 T = R) (hl : T.length ≤ l0) (hf0 : Fit h0 := by exact ft_) (hg0 : zA4 h0.ents p = some (rq u i0 0) := by exact ge2_) (hp : p < h0.next := by exact lt_) (hgb : zA4 h0.ents br = some (.cells [.int .i64 0, .int .i64 0, .str [], .nils, .nils]) := by simp [zA4]) (hpb : p ≠ br := by (try dsimp only); omega) (hbn : br < h0.next := by exact lt_) : W tree.getF nlLoop ⟨[.ptr p d 0, v1, v2, v3, v4, .int .u64 0, v6, v7, .ptr br 28311557 0, .int .i64 f, v10, v11, v12], h0, []⟩ Q := by
 have := nl_loop hul hf0 hg0 hp hgb hpb hbn (l0 := l0) v1 v2 hok hno T 0 i0 h0.next h0.tys v3 v4 v6 v7 v10 v11 v12 P (by omega) hR hl (Nat.le_refl _) hf0.2
 rw [zBk hg0] at this
 exact this
theorem qnu_neg {p d : Nat} {u r T : B8} {i : Int} (P : Pos u r i) (hul : u.length < 50000) (hc : r = 45 :: T) {h : CHeap} {K : KT}
    (hk1 : ∀ v, numV r = some v → isE (numR r) = false → ∀ i' n' ty, Pos u (numR r) i' → h.next ≤ n' → zA9 ty n' → K (.agg [.int .i64 3, .int .i64 v, .str [], .nils, .nils]) ⟨zA5 h.ents p (rq u i' 0), n', ty⟩)
    (hk0 : (numV r = none ∨ isE (numR r) = true) → ∀ r' i' n' ty, Pos u r' i' → r'.length ≤ r.length → h.next ≤ n' → zA9 ty n' → K (.agg [.int .i64 0, .int .i64 0, .str [], .nils, .nils]) ⟨zA5 h.ents p (rq u i' 2), n', ty⟩)
    (hf : Fit h) (hg : zA4 h.ents p = some (rq u i 0)) (hp : p < h.next) : Wc tree.getF 36 [.ptr p d 0] h K := by
 obtain ⟨hu, hut, hX⟩ := fx4 hf
 have hZ := fx6 hf hg
 have hi0 := P.n
 have hPl := P.l
 have hneg : isNeg r = true := by rw [hc]; rfl
 have hTT : numT r = T := by unfold numT; rw [hneg]; rw [hc]; rfl
 obtain ⟨hix, hil⟩ := P.get hc
 have P1 := P.next hc
 have hcc := trivial
 have hll : T.length ≤ r.length := by rw [hc, List.length_cons]; omega
 have hf0 := P1.n
 have hfl := P1.le
 refine Wc.mkG 36 c36 (by kernel_rfl) rfl ?_
 generalize e : zAa .. = r
 simp (disch := omega) [c36] at e
 subst e
 repeat (first | refine st_ rfl ?_ | ((first | refine rg_ ?_ | refine go_ ?_); refine gw_ (by simp (disch := omega) [hX, hZ, hi0, hil, hul, hix, hcc, c36]; rfl) ?_))
 refine nl_loopS hul r.length _ _ ?_ ?_ T _ _ _ _ _ _ _ P1 rfl hll
 · intro v T' i' hR hv P' v3 v4 v6 v7 v10 v11 v12 n' ty g1 g2
   have hR2 : numL 0 (numT r) = some (v, T') := by rw [hTT]; exact hR
   obtain ⟨hval, hT', hv63⟩ := numV_got hR2
   subst hT'
   have hbe := bad_eq (by rw [hTT]; exact P1) P' v
   rw [hneg] at hbe
   have hfi : (i + 1) ≤ i' := by
    have l1 := P1.l; have l2 := P'.l
    have := dropW_len isD (numT r)
    rw [hTT] at this
    have e : (numR r).length = (T.dropWhile isD).length := by unfold numR; rw [hTT]
    omega
   have hi2 := P'.n
   have hil2 := P'.le
   have hle := numR_len r
   (try dsimp only at g1)
   have hut := g2
   (try dsimp only)
   rw [sc_set2 (by omega)]
   cases hbd : badB r v with
   | true =>
    have hno := numV_bad hR2 hbd
    rw [hbd] at hbe
    obtain ⟨x, hx⟩ : ∃ x : Int, (v : Int) = x := ⟨_, rfl⟩
    rw [hx] at hbe
    rw [hx]
    have hx0 : 0 ≤ x := by omega
    have hx2 : x < 18446744073709551616 := by omega
    have hx1 := hx2
    have hm0 := hx2
    have hm1 := hx2
    have hb := hbe
    (try simp only [zAb, zAh, zA8, reduceIte])
    exact wHG1
   | false =>
    obtain ⟨hnv, hE⟩ := numV_ok hR2 hbd
    rw [hneg] at hnv
    rw [hbd] at hbe
    obtain ⟨x, hx⟩ : ∃ x : Int, (v : Int) = x := ⟨_, rfl⟩
    rw [hx] at hbe hnv
    rw [hx]
    have hx0 : 0 ≤ x := by omega
    have hx2 : x < 18446744073709551616 := by omega
    have hm0 : -(x - 1) - 1 = -x := by omega
    have hm1 : 1 - x - 1 = -x := by omega
    have hb := hbe
    (try simp only [zAb, zAh, zA8, reduceIte])
    rw [if_pos rfl] at hnv
    by_cases hz : x = 0
    · subst hz
      have hx1 := hx2
      exact wHG2
    · have hx1 : 0 < x := by omega
      exact wHG2
 · intro hR T' i' P' hle v3 v4 v6 v7 v10 v11 v12 v n' ty g1 g2
   have hno := numV_ovf (r := r) (by rw [hTT]; exact hR)
   (try dsimp only at g1)
   have hut := g2
   (try dsimp only)
   rw [sc_set2 (by omega)]
   (try simp only [zAb, zA0, zAh, zA8, reduceIte])
   (first | refine endW.of (.inl rfl) rfl ?_ | refine endW.of (.inr rfl) rfl ?_)
   generalize e : zAc .. = r; simp (disch := omega) [hX, hZ, hi0, hil, hul, hix, hcc, c36] at e; subst e
   refine hk0 (.inl hno) _ _ _ _ P' hle ?_ ?_; omega; exact ut_
theorem qnu_pos {p d : Nat} {u r T : B8} {i : Int} (P : Pos u r i) (hul : u.length < 50000) {c : UInt8} {t : B8} (hc : r = c :: t) (hcd : isD c = true) (hTr : T = r) {h : CHeap} {K : KT}
    (hk1 : ∀ v, numV r = some v → isE (numR r) = false → ∀ i' n' ty, Pos u (numR r) i' → h.next ≤ n' → zA9 ty n' → K (.agg [.int .i64 3, .int .i64 v, .str [], .nils, .nils]) ⟨zA5 h.ents p (rq u i' 0), n', ty⟩)
    (hk0 : (numV r = none ∨ isE (numR r) = true) → ∀ r' i' n' ty, Pos u r' i' → r'.length ≤ r.length → h.next ≤ n' → zA9 ty n' → K (.agg [.int .i64 0, .int .i64 0, .str [], .nils, .nils]) ⟨zA5 h.ents p (rq u i' 2), n', ty⟩)
    (hf : Fit h) (hg : zA4 h.ents p = some (rq u i 0)) (hp : p < h.next) : Wc tree.getF 36 [.ptr p d 0] h K := by
 obtain ⟨hu, hut, hX⟩ := fx4 hf
 have hZ := fx6 hf hg
 have hi0 := P.n
 have hPl := P.l
 have hn45 : c.toNat ≠ 45 := by have := (zEp c).1 hcd; omega
 have hneg : isNeg r = false := by rw [hc]; simp [isNeg]; intro e; exact hn45 (by rw [e]; rfl)
 have hTT : numT r = T := by unfold numT; rw [hneg, hTr]; rfl
 obtain ⟨hix, hil⟩ := P.get hc
 have P1 : Pos u T i := by rw [hTr]; exact P
 have hcc := hn45
 have hll : T.length ≤ r.length := by rw [hTr]; exact Nat.le_refl _
 have hf0 := P1.n
 have hfl := P1.le
 refine Wc.mkG 36 c36 (by kernel_rfl) rfl ?_
 generalize e : zAa .. = r
 simp (disch := omega) [c36] at e
 subst e
 repeat (first | refine st_ rfl ?_ | ((first | refine rg_ ?_ | refine go_ ?_); refine gw_ (by simp (disch := omega) [hX, hZ, hi0, hil, hul, hix, hcc, c36]; rfl) ?_))
 refine nl_loopS hul r.length _ _ ?_ ?_ T _ _ _ _ _ _ _ P1 rfl hll
 · intro v T' i' hR hv P' v3 v4 v6 v7 v10 v11 v12 n' ty g1 g2
   have hR2 : numL 0 (numT r) = some (v, T') := by rw [hTT]; exact hR
   obtain ⟨hval, hT', hv63⟩ := numV_got hR2
   subst hT'
   have hbe := bad_eq (by rw [hTT]; exact P1) P' v
   rw [hneg] at hbe
   have hfi : i ≤ i' := by
    have l1 := P1.l; have l2 := P'.l
    have := dropW_len isD (numT r)
    rw [hTT] at this
    have e : (numR r).length = (T.dropWhile isD).length := by unfold numR; rw [hTT]
    omega
   have hi2 := P'.n
   have hil2 := P'.le
   have hle := numR_len r
   (try dsimp only at g1)
   have hut := g2
   (try dsimp only)
   rw [sc_set1 (by omega)]
   cases hbd : badB r v with
   | true =>
    have hno := numV_bad hR2 hbd
    rw [hbd] at hbe
    obtain ⟨x, hx⟩ : ∃ x : Int, (v : Int) = x := ⟨_, rfl⟩
    rw [hx] at hbe
    rw [hx]
    have hx0 : 0 ≤ x := by omega
    have hx2 : x < 18446744073709551616 := by omega
    have hx1 := hx2
    have hm0 := hx2
    have hm1 := hx2
    have hb := hbe
    (try simp only [zAb, zAh, zA8, reduceIte])
    exact wHG1
   | false =>
    obtain ⟨hnv, hE⟩ := numV_ok hR2 hbd
    rw [hneg] at hnv
    rw [hbd] at hbe
    obtain ⟨x, hx⟩ : ∃ x : Int, (v : Int) = x := ⟨_, rfl⟩
    rw [hx] at hbe hnv
    rw [hx]
    have hx0 : 0 ≤ x := by omega
    have hx2 : x < 18446744073709551616 := by omega
    have hm0 : -(x - 1) - 1 = -x := by omega
    have hm1 : 1 - x - 1 = -x := by omega
    have hb := hbe
    (try simp only [zAb, zAh, zA8, reduceIte])
    rw [if_neg Bool.false_ne_true] at hnv
    have hx3 : x < 9223372036854775808 := by
     have h1 := hbe
     simp at h1
     omega
    have hx1 := hx3
    exact wHG2
 · intro hR T' i' P' hle v3 v4 v6 v7 v10 v11 v12 v n' ty g1 g2
   have hno := numV_ovf (r := r) (by rw [hTT]; exact hR)
   (try dsimp only at g1)
   have hut := g2
   (try dsimp only)
   rw [sc_set1 (by omega)]
   (try simp only [zAb, zA0, zAh, zA8, reduceIte])
   (first | refine endW.of (.inl rfl) rfl ?_ | refine endW.of (.inr rfl) rfl ?_)
   generalize e : zAc .. = r; simp (disch := omega) [hX, hZ, hi0, hil, hul, hix, hcc, c36] at e; subst e
   refine hk0 (.inl hno) _ _ _ _ P' hle ?_ ?_; omega; exact ut_
theorem qnu_F {p d : Nat} {u r : B8} {i : Int} (P : Pos u r i) (hul : u.length < 50000) {c : UInt8} {t : B8} (hc : r = c :: t) (hcd : c = 45 ∨ isD c = true) {h : CHeap} {K : KT}
    (hk1 : ∀ v, numV r = some v → isE (numR r) = false → ∀ i' n' ty, Pos u (numR r) i' → h.next ≤ n' → zA9 ty n' → K (.agg [.int .i64 3, .int .i64 v, .str [], .nils, .nils]) ⟨zA5 h.ents p (rq u i' 0), n', ty⟩)
    (hk0 : (numV r = none ∨ isE (numR r) = true) → ∀ r' i' n' ty, Pos u r' i' → r'.length ≤ r.length → h.next ≤ n' → zA9 ty n' → K (.agg [.int .i64 0, .int .i64 0, .str [], .nils, .nils]) ⟨zA5 h.ents p (rq u i' 2), n', ty⟩)
    (hf : Fit h := by exact ft_) (hg : zA4 h.ents p = some (rq u i 0) := by exact ge2_) (hp : p < h.next := by exact lt_) : Wc tree.getF 36 [.ptr p d 0] h K := by
 rcases hcd with rfl | hcd
 · exact qnu_neg P hul hc hk1 hk0 hf hg hp
 · exact qnu_pos P hul hc hcd rfl hk1 hk0 hf hg hp
abbrev geLoop : CCode := (.loop true (.seq (.seq (.region [.g (.fieldAddr 0 (.var 1)), .l 0, .x .eql 0 (.k 6), .m (.loc 0), .q (.mv (.var 2)) 0 true, .q (.fieldAddr 4 (.var 1)) 1 true, .q (.load none (.loc 0)) 2 true, .q (.len false (.loc 0)) 3 true, .q (.bin .lss (.loc 3) (.loc 0)) 4 true, .g (.pick (.loc 5) (.loc 0) (.b false)), .m (.loc 0), .q (.mv (.var 2)) 0 true, .q (.fieldAddr 3 (.var 1)) 1 true, .q (.load none (.loc 0)) 2 true, .q (.len false (.loc 0)) 3 true, .q (.bin .lss (.loc 3) (.loc 0)) 4 true, .g (.pick (.loc 5) (.loc 0) (.b false))] [(3, 16)] [] []) (.cond (.var 3) .skip (.exit 0))) (.seq (.block 1 (.seq (.region [.g (.fieldAddr 4 (.var 1)), .l 0, .v 2, .g (.idxAddr 1 (.loc 1) (.loc 0)), .l 0, .v 4, .h .eql 1 0] [(5, 6)] [] []) (.cond (.var 5) (.seq (.region [.g (.fieldAddr 3 (.var 1)), .l 0, .v 2, .g (.idxAddr 5 (.loc 1) (.loc 0)), .g (.load (some 5) (.loc 0)), .g (.store 5 (.var 6) (.loc 0)), .m (.b true)] [(7, 6)] [] []) .ret) .skip))) (.region [.v 2, .x .add 0 (.k 1), .m (.loc 0)] [(2, 2)] [] []))))
theorem ge_yes (ns : List (B8)) (vs : List CVal) (w : B8) (i : Nat) (hl : ns.length < 90000) (hlv : ns.length = vs.length) (hx : ns[i]? = some w) (hN : ∀ v ∈ vs, Node v) {bx br : Nat} {h : CHeap} {n : Nat} {ty : NN} (hf : Fit h) (hbx : h.next ≤ bx) (hbr : bx < br) (hbn : br < n) (hty : zA9 ty n) {Q : QT} (v0 v3 v5 : CVal)
    (hk : ∀ (v3 v5 : CVal) nd n' ty, Node (.agg nd) → n ≤ n' → zA9 ty n' → Q .ret ⟨[v0, .ptr bx 28311557 0, .int .i64 (i : Int), v3, .str w, v5, .ptr br 28311557 0, .bool true], ⟨(br, .cells nd) :: (bx, .cells [.int .i64 6, .int .i64 0, .str [], .imm .none 5 vs, .imm .none 1 (ns.map .str)]) :: h.ents, n', ty⟩, []⟩) : W tree.getF geLoop ⟨[v0, .ptr bx 28311557 0, .int .i64 (i : Int), v3, .str w, v5, .ptr br 28311557 0, .bool false], ⟨(br, .cells [.int .i64 0, .int .i64 0, .str [], .nils, .nils]) :: (bx, .cells [.int .i64 6, .int .i64 0, .str [], .imm .none 5 vs, .imm .none 1 (ns.map .str)]) :: h.ents, n, ty⟩, []⟩ Q := by
 obtain ⟨hu, hut⟩ := id hf
 have hn9 : h.next ≤ n := by omega
 obtain ⟨_, _, hX⟩ := fx4 (h := ⟨h.ents, n, ty⟩) ⟨hu.le hn9, hty⟩
 obtain ⟨hi, hx2⟩ := List.getElem?_eq_some_iff.1 hx
 have hx3 : nth (ns.map CVal.str) i = .str w := zDo CVal.str ns i _ hx
 have hdl : (i : Int) < (ns.length : Int) := by omega
 have hdl2 : (i : Int) < (vs.length : Int) := by omega
 have hi2 : (i : Int).toNat = i := by omega
 have hiv : i < vs.length := by omega
 obtain ⟨k9, nn, t9, L9, N9, hv, hL1, hN1⟩ := hN vs[i] (List.getElem_mem hiv)
 have hx4 : vs[i]? = some (.agg [.int .i64 k9, .int .i64 nn, .str t9, L9, N9]) := by rw [List.getElem?_eq_getElem hiv, hv]
 have hx5 : nth vs i = .agg [.int .i64 k9, .int .i64 nn, .str t9, L9, N9] := by have := zDo (fun x : CVal => x) vs i _ hx4; simpa using this
 have hLl := And.intro hL1.z hN1.z
 have hlv2 : vs.length < 90000 := by omega
 refine W.loop ?_
 repeat (first | refine st_ rfl ?_ | ((first | refine rg_ ?_ | refine go_ ?_); refine gw_ (by simp (disch := omega) [hX, hbx, hbr, hbn, hx, hx2, hx3, hx4, hx5, hv, hi2, hdl, hdl2, hi, hiv, hLl, hlv2]; rfl) ?_))
 all_goals ((try refine W.ret ?_); (try simp only [zAb, zA0, zAh, zA8, reduceIte]); refine hk _ _ _ _ _ ⟨k9, nn, t9, L9, N9, rfl, hL1, hN1⟩ ?_ ?_; omega; exact ut_)
theorem ge_no (ns : List (B8)) (vs : List CVal) (w x : B8) (i : Nat) (hl : ns.length < 90000) (hlv : ns.length = vs.length) (hx : ns[i]? = some x) (hne : w ≠ x) {bx br : Nat} {h : CHeap} {n : Nat} {ty : NN} (hf : Fit h) (hbx : h.next ≤ bx) (hbr : bx < br) (hbn : br < n) (hty : zA9 ty n) {Q : QT} (v0 v3 v5 : CVal)
    (hk : ∀ (v3 v5 : CVal) n' ty, n ≤ n' → zA9 ty n' → W tree.getF geLoop ⟨[v0, .ptr bx 28311557 0, .int .i64 ((i : Int) + 1), v3, .str w, v5, .ptr br 28311557 0, .bool false], ⟨(br, .cells [.int .i64 0, .int .i64 0, .str [], .nils, .nils]) :: (bx, .cells [.int .i64 6, .int .i64 0, .str [], .imm .none 5 vs, .imm .none 1 (ns.map .str)]) :: h.ents, n', ty⟩, []⟩ Q) : W tree.getF geLoop ⟨[v0, .ptr bx 28311557 0, .int .i64 (i : Int), v3, .str w, v5, .ptr br 28311557 0, .bool false], ⟨(br, .cells [.int .i64 0, .int .i64 0, .str [], .nils, .nils]) :: (bx, .cells [.int .i64 6, .int .i64 0, .str [], .imm .none 5 vs, .imm .none 1 (ns.map .str)]) :: h.ents, n, ty⟩, []⟩ Q := by
 obtain ⟨hu, hut⟩ := id hf
 have hn9 : h.next ≤ n := by omega
 obtain ⟨_, _, hX⟩ := fx4 (h := ⟨h.ents, n, ty⟩) ⟨hu.le hn9, hty⟩
 obtain ⟨hi, hx2⟩ := List.getElem?_eq_some_iff.1 hx
 have hne2 : (x == w) = false := by simp; exact fun e => hne e.symm
 have hx3 : nth (ns.map CVal.str) i = .str x := zDo CVal.str ns i _ hx
 have hdl : (i : Int) < (ns.length : Int) := by omega
 have hdl2 : (i : Int) < (vs.length : Int) := by omega
 have hi2 : (i : Int).toNat = i := by omega
 have hlv2 : vs.length < 90000 := by omega
 refine W.loop ?_
 repeat (first | refine st_ rfl ?_ | ((first | refine rg_ ?_ | refine go_ ?_); refine gw_ (by simp (disch := omega) [hX, hbx, hbr, hbn, hx, hx2, hx3, hi2, hdl, hdl2, hi, hne2, hlv2]; rfl) ?_))
 show W tree.getF geLoop (dropped true _ _) Q
 generalize e : dropped .. = r
 simp (disch := omega) [hX, hbx, hbr, hbn] at e
 subst e
 refine hk _ _ _ _ ?_ ?_; omega; exact ut_
theorem ge_end (ns : List (B8)) (vs : List CVal) (w : B8) (i : Nat) (hl : ns.length < 90000) (hx : ns.length ≤ i) {bx br : Nat} {h : CHeap} {n : Nat} {ty : NN} (hf : Fit h) (hbx : h.next ≤ bx) (hbr : bx < br) (hbn : br < n) (hty : zA9 ty n) {Q : QT} (v0 v3 v5 : CVal)
    (hk : ∀ (v3 v5 : CVal) n' ty, n ≤ n' → zA9 ty n' → Q (.exit 0) ⟨[v0, .ptr bx 28311557 0, .int .i64 (i : Int), v3, .str w, v5, .ptr br 28311557 0, .bool false], ⟨(br, .cells [.int .i64 0, .int .i64 0, .str [], .nils, .nils]) :: (bx, .cells [.int .i64 6, .int .i64 0, .str [], .imm .none 5 vs, .imm .none 1 (ns.map .str)]) :: h.ents, n', ty⟩, []⟩) : W tree.getF geLoop ⟨[v0, .ptr bx 28311557 0, .int .i64 (i : Int), v3, .str w, v5, .ptr br 28311557 0, .bool false], ⟨(br, .cells [.int .i64 0, .int .i64 0, .str [], .nils, .nils]) :: (bx, .cells [.int .i64 6, .int .i64 0, .str [], .imm .none 5 vs, .imm .none 1 (ns.map .str)]) :: h.ents, n, ty⟩, []⟩ Q := by
 obtain ⟨hu, hut⟩ := id hf
 have hn9 : h.next ≤ n := by omega
 obtain ⟨_, _, hX⟩ := fx4 (h := ⟨h.ents, n, ty⟩) ⟨hu.le hn9, hty⟩
 have hdl : (ns.length : Int) ≤ (i : Int) := by omega
 refine W.loop ?_
 repeat (first | refine st_ rfl ?_ | ((first | refine rg_ ?_ | refine go_ ?_); refine gw_ (by simp (disch := omega) [hX, hbx, hbr, hbn, hdl]; rfl) ?_))
 all_goals (refine hk _ _ _ _ ?_ ?_; omega; exact ut_)
theorem ge_loop (ns : List (B8)) (vs : List CVal) (w : B8) (hl : ns.length < 90000) (hlv : ns.length = vs.length) (hN : ∀ v ∈ vs, Node v) (b : Bool) {bx br : Nat} {h : CHeap} {n0 : Nat} (hf : Fit h) (hbx : h.next ≤ bx) (hbr : bx < br) {Q : QT} (v0 : CVal)
    (hy : b = true → ∀ (j : Nat) (v3 v5 : CVal) nd n' ty, Node (.agg nd) → n0 ≤ n' → zA9 ty n' → Q .ret ⟨[v0, .ptr bx 28311557 0, .int .i64 (j : Int), v3, .str w, v5, .ptr br 28311557 0, .bool true], ⟨(br, .cells nd) :: (bx, .cells [.int .i64 6, .int .i64 0, .str [], .imm .none 5 vs, .imm .none 1 (ns.map .str)]) :: h.ents, n', ty⟩, []⟩)
    (hn : b = false → ∀ (j : Nat) (v3 v5 : CVal) n' ty, n0 ≤ n' → zA9 ty n' → Q (.exit 0) ⟨[v0, .ptr bx 28311557 0, .int .i64 (j : Int), v3, .str w, v5, .ptr br 28311557 0, .bool false], ⟨(br, .cells [.int .i64 0, .int .i64 0, .str [], .nils, .nils]) :: (bx, .cells [.int .i64 6, .int .i64 0, .str [], .imm .none 5 vs, .imm .none 1 (ns.map .str)]) :: h.ents, n', ty⟩, []⟩) :
    ∀ (m i n : Nat) (ty : NN) (v3 v5 : CVal), ns.length ≤ i + m → (ns.drop i).contains w = b → br < n → zA9 ty n → n0 ≤ n → W tree.getF geLoop ⟨[v0, .ptr bx 28311557 0, .int .i64 (i : Int), v3, .str w, v5, .ptr br 28311557 0, .bool false], ⟨(br, .cells [.int .i64 0, .int .i64 0, .str [], .nils, .nils]) :: (bx, .cells [.int .i64 6, .int .i64 0, .str [], .imm .none 5 vs, .imm .none 1 (ns.map .str)]) :: h.ents, n, ty⟩, []⟩ Q := by
 intro m
 induction m with
 | zero =>
  intro i n ty v3 v5 hi hb hbn hty hn2
  have hr : b = false := by rw [← hb, List.drop_eq_nil_of_le (by omega)]; rfl
  exact ge_end ns vs w i hl (by omega) hf hbx hbr hbn hty v0 v3 v5 fun v3 v5 n' ty g1 g2 => hn hr i v3 v5 n' ty (by omega) g2
 | succ m ih =>
  intro i n ty v3 v5 hi hb hbn hty hn2
  rcases Nat.lt_or_ge i ns.length with g | g
  · have hx : ns[i]? = some ns[i] := List.getElem?_eq_getElem g
    rw [List.drop_eq_getElem_cons g] at hb
    by_cases he : w = ns[i]
    · have hr : b = true := by rw [← hb, ← he]; simp
      exact ge_yes ns vs w i hl hlv (by rw [hx, ← he]) hN hf hbx hbr hbn hty v0 v3 v5 fun v3 v5 nd n' ty g0 g1 g2 => hy hr i v3 v5 nd n' ty g0 (by omega) g2
    · have hr : (ns.drop (i + 1)).contains w = b := by rw [← hb, List.contains_cons]; simp [he]
      refine ge_no ns vs w ns[i] i hl hlv hx he hf hbx hbr hbn hty v0 v3 v5 fun v3 v5 n' ty g1 g2 => ?_
      have := ih (i + 1) n' ty v3 v5 (by omega) hr (by omega) g2 (by omega)
      rwa [show ((i + 1 : Nat) : Int) = (i : Int) + 1 by omega] at this
  · have hr : b = false := by rw [← hb, List.drop_eq_nil_of_le g]; rfl
    exact ge_end ns vs w i hl g hf hbx hbr hbn hty v0 v3 v5 fun v3 v5 n' ty g1 g2 => hn hr i v3 v5 n' ty (by omega) g2
theorem gt_yes (ns : List (B8)) (vs : List CVal) (w : B8) (hl : ns.length < 90000) (hlv : ns.length = vs.length) (hN : ∀ v ∈ vs, Node v) (hb : ns.contains w = true) {h : CHeap} {K : KT} (hk : ∀ v n' ty, Node v → h.next ≤ n' → zA9 ty n' → K (.tup [v, .bool true]) ⟨h.ents, n', ty⟩) (hf : Fit h := by exact ft_) : Wc tree.getF 61 [.agg [.int .i64 6, .int .i64 0, .str [], .imm .none 5 vs, .imm .none 1 (ns.map .str)], .str w] h K := by
 obtain ⟨hu, hut, hX⟩ := fx4 hf
 refine Wc.mkG 61 c61 (by kernel_rfl) rfl ?_
 generalize e : zAa .. = r
 simp (disch := omega) [c61] at e
 subst e
 repeat (first | refine st_ rfl ?_ | ((first | refine rg_ ?_ | refine go_ ?_); refine gw_ (by simp (disch := omega) [hX]; rfl) ?_))
 refine ge_loop ns vs w hl hlv hN true (n0 := h.next) hf ?_ ?_ _ (fun _ j v3 v5 nd n' ty g0 g1 g2 => ?_) (fun hb1 => by cases hb1) ns.length 0 _ _ _ _ (by omega) (by simpa using hb) (by (try dsimp only); omega) ut_ (by (try dsimp only); omega)
 · (try dsimp only); omega
 · (try dsimp only); omega
 · (try simp only [zAb, zA0, zAh, zA8, reduceIte])
   obtain ⟨k9, nn, t9, L9, N9, hv, hL1, hN1⟩ := id g0
   cases hv
   have hLl := And.intro hL1.z hN1.z
   (first | (refine W.ret ?_; (try simp only [zAb, zA0, zA8]); refine endW.of (.inl rfl) rfl ?_) | refine endW.of (.inl rfl) rfl ?_ | refine endW.of (.inr rfl) rfl ?_); generalize e : zAc .. = r; simp (disch := omega) [hX, -CVal.strip, st_i, st_s, st_n, st_o, st_0, st_p, hLl, c61] at e; subst e
   refine hk _ _ _ g0 ?_ ?_; omega; exact ut_
theorem gt_no (ns : List (B8)) (vs : List CVal) (w : B8) (hl : ns.length < 90000) (hlv : ns.length = vs.length) (hN : ∀ v ∈ vs, Node v) (hb : ns.contains w = false) {h : CHeap} {K : KT} (hk : ∀ v n' ty, Node v → h.next ≤ n' → zA9 ty n' → K (.tup [v, .bool false]) ⟨h.ents, n', ty⟩) (hf : Fit h := by exact ft_) : Wc tree.getF 61 [.agg [.int .i64 6, .int .i64 0, .str [], .imm .none 5 vs, .imm .none 1 (ns.map .str)], .str w] h K := by
 obtain ⟨hu, hut, hX⟩ := fx4 hf
 refine Wc.mkG 61 c61 (by kernel_rfl) rfl ?_
 generalize e : zAa .. = r
 simp (disch := omega) [c61] at e
 subst e
 repeat (first | refine st_ rfl ?_ | ((first | refine rg_ ?_ | refine go_ ?_); refine gw_ (by simp (disch := omega) [hX]; rfl) ?_))
 refine ge_loop ns vs w hl hlv hN false (n0 := h.next) hf ?_ ?_ _ (fun hb1 => by cases hb1) (fun _ j v3 v5 n' ty g1 g2 => ?_) ns.length 0 _ _ _ _ (by omega) (by simpa using hb) (by (try dsimp only); omega) ut_ (by (try dsimp only); omega)
 · (try dsimp only); omega
 · (try dsimp only); omega
 · (try simp only [zAb, zA0, zAh, zA8, reduceIte])
   repeat (first | refine st_ rfl ?_ | ((first | refine rg_ ?_ | refine go_ ?_); refine gw_ (by simp (disch := omega) [hX]; rfl) ?_))
   (first | (refine W.ret ?_; (try simp only [zAb, zA0, zA8]); refine endW.of (.inl rfl) rfl ?_) | refine endW.of (.inl rfl) rfl ?_ | refine endW.of (.inr rfl) rfl ?_); generalize e : zAc .. = r; simp (disch := omega) [hX, c61] at e; subst e
   refine hk _ _ _ Node.nZero ?_ ?_; omega; exact ut_
theorem gt_nil (w : B8) {h : CHeap} {K : KT} (hk : ∀ v n' ty, Node v → h.next ≤ n' → zA9 ty n' → K (.tup [v, .bool false]) ⟨h.ents, n', ty⟩) (hf : Fit h := by exact ft_) : Wc tree.getF 61 [.agg [.int .i64 6, .int .i64 0, .str [], .nils, .nils], .str w] h K := by
 obtain ⟨hu, hut, hX⟩ := fx4 hf
 refine Wc.mkG 61 c61 (by kernel_rfl) rfl ?_
 generalize e : zAa .. = r
 simp (disch := omega) [c61] at e
 subst e
 repeat (first | refine st_ rfl ?_ | ((first | refine rg_ ?_ | refine go_ ?_); refine gw_ (by simp (disch := omega) [hX, c61]; rfl) ?_) | (refine W.loop ?_; try (generalize e : dropped .. = r; simp (disch := omega) [hX, c61] at e; subst e; try dsimp only)) | ((first | (refine W.ret ?_; (try simp only [zAb, zA0, zA8]); refine endW.of (.inl rfl) rfl ?_) | refine endW.of (.inr rfl) rfl ?_); generalize e : zAc .. = r; simp (disch := omega) [hX, c61] at e; subst e; (refine hk _ _ _ Node.nZero ?_ ?_; omega; exact ut_)))
theorem gt_F (ns : List (B8)) (vs : List CVal) (w : B8) (hl : ns.length < 90000) (hlv : ns.length = vs.length) (hN : ∀ v ∈ vs, Node v) {h : CHeap} {K : KT} (hk : ∀ v n' ty, Node v → h.next ≤ n' → zA9 ty n' → K (.tup [v, .bool (ns.contains w)]) ⟨h.ents, n', ty⟩) (hf : Fit h := by exact ft_) : Wc tree.getF 61 [.agg [.int .i64 6, .int .i64 0, .str [], kidsV vs, zCw ns], .str w] h K := by
 cases ns with
 | nil =>
  cases vs with
  | nil => exact gt_nil w hk hf
  | cons a t => cases hlv
 | cons x ns =>
  cases vs with
  | nil => cases hlv
  | cons a t =>
   cases hb : (x :: ns).contains w with
   | true => rw [hb] at hk; exact gt_yes (x :: ns) (a :: t) w hl hlv hN hb hk hf
   | false => rw [hb] at hk; exact gt_no (x :: ns) (a :: t) w hl hlv hN hb hk hf
end Go.Proofs.YtdanefpnfnippaaGreatDoor.IrJ
