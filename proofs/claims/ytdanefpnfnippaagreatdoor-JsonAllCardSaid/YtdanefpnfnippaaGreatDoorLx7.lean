/- What the functions of the law 'JsonAll' do: part 7 of 8. -/
import Derived.Test.YtdanefpnfnippaaGreatDoorLx6
namespace Go.Proofs.YtdanefpnfnippaaGreatDoor.IrJ
open Go Go.CI
open Go.LexF hiding zC3 zD5
set_option maxRecDepth 100000
set_option maxHeartbeats 4000000
set_option linter.unusedVariables false
set_option linter.unusedSimpArgs false
attribute [local irreducible] W Wo Wc WoR
def QO (T : B8 → PR) (e : Int) (r : B8) (v : CVal) (r' : B8) (e' : Int) : Prop :=
 (e = 0 ∧ (T r = .ok v r' ∧ e' = 0 ∨ T r = .err e' ∧ e' ≠ 0) ∨ e ≠ 0 ∧ e' = e) ∧ Node v ∧ r'.length ≤ r.length
def QC (f : Nat) (T : B8 → PR) (d : Int) (M : Nat) : Prop :=
 ∀ (u r : B8) (i e : Int), u.length < 25000 → r.length < M → Pos u r i → ∀ (p dd : Nat) (h : CHeap) (K : KT), (∀ v r' i' e' n' ty, QO T e r v r' e' → Pos u r' i' → h.next ≤ n' → zA9 ty n' → K v ⟨zA5 h.ents p (rq u i' e'), n', ty⟩) →
  Fit h → zA4 h.ents p = some (rq u i e) → p < h.next → Wc tree.getF f [.ptr p dd 0, .int .i64 d] h K
theorem qo_u {T : B8 → PR} {r r' : B8} {v : CVal} {e e' : Int} (h : QO T e r v r' e') : v.isUndef = false := by
 obtain ⟨k, n, t, L, N, rfl, _⟩ := h.2.1; rfl
theorem Node.u {v : CVal} (h : Node v) : v.isUndef = false := by
 obtain ⟨k, n, t, L, N, rfl, _⟩ := h; rfl
theorem zCs (e : Int) (w r : B8) : (aftQ e w r).length ≤ r.length := by
 have := zAf r
 unfold aftQ; split
 · rw [List.length_drop]; omega
 · exact this
variable {zk : Option Nat} {n0 : Nat} {E0 : EE} {p b br : Nat} {cs : List CVal} {tk : NN} {m : Nat} {h : CHeap} {u r : B8} {i e : Int}
theorem m_is (S : RQ zk n0 E0 p b br (rq u i e) cs tk m h) (P : Pos u r i) (hul : u.length < 25000) (w : B8) {v : Bool} (hv : isQ e w r = v) (hw9 : w.length < 60000 := by decide) {d : Nat} {K : KT} {n : Nat} (hk : ∀ i' h', Pos u (aftQ e w r) i' → RQ zk n0 E0 p b br (rq u i' e) cs tk m h' → n ≤ h'.next → K (.bool v) h') (hn : h.next ≤ n := by (try dsimp only); omega) : Wc tree.getF 37 [.ptr p d 0, .str w] ⟨h.ents, n, h.tys⟩ K :=
 have S1 := S.up hn
 is_F P (by omega) w hw9 hv (fun i' n' ty P' g1 g2 => hk i' _ P' (S1.put _ g1 g2) g1) S1.f S.g S1.hpN
theorem m_is2 (S : RQ zk n0 E0 p b br (rq u i e) cs tk m h) (P : Pos u r i) (hul : u.length < 25000) (w : B8) {v : Bool} (hv : isQ e w r = v) (hw9 : w.length < 60000 := by decide) {d : Nat} {K : KT} (hk : ∀ i' h', Pos u (aftQ e w r) i' → RQ zk n0 E0 p b br (rq u i' e) cs tk m h' → h.next ≤ h'.next → K (.bool v) h') : Wc tree.getF 37 [.ptr p d 0, .str w] h K :=
 m_is S P hul w hv hw9 hk (Nat.le_refl _)
theorem m_nd (S : RQ zk n0 E0 p b br (rq u i e) cs tk m h) (P : Pos u r i) (hul : u.length < 25000) (w : B8) {e' : Int} (he : ndQ e w r = e') (hw9 : w.length < 60000 := by decide) {d : Nat} {K : KT} {n : Nat} (hk : ∀ i' h', Pos u (aftQ e w r) i' → RQ zk n0 E0 p b br (rq u i' e') cs tk m h' → n ≤ h'.next → K (.tup []) h') (hn : h.next ≤ n := by (try dsimp only); omega) : Wc tree.getF 60 [.ptr p d 0, .str w] ⟨h.ents, n, h.tys⟩ K := by
 subst he
 have S1 := S.up hn
 exact nd_Q P (by omega) w hw9 (fun i' n' ty P' g1 g2 => hk i' _ P' (S1.put _ g1 g2) g1) S1.f S.g S1.hpN
theorem m_rec (S : RQ zk n0 E0 p b br (rq u i e) cs tk m h) (P : Pos u r i) (hul : u.length < 25000) {f : Nat} {T : B8 → PR} {dv : Int} {M dd : Nat} (hT : QC f T dv M) (hr : r.length < M) {K : KT} {n : Nat} (hk : ∀ v r' i' e' h', QO T e r v r' e' → Pos u r' i' → RQ zk n0 E0 p b br (rq u i' e') cs tk m h' → n ≤ h'.next → K v h') (hn : h.next ≤ n := by (try dsimp only); omega) : Wc tree.getF f [.ptr p dd 0, .int .i64 dv] ⟨h.ents, n, h.tys⟩ K :=
 have S1 := S.up hn
 hT u r i e hul hr P p dd _ K (fun v r' i' e' n' ty hO P' g1 g2 => hk v r' i' e' _ hO P' (S1.put _ g1 g2) g1) S1.f S.g S1.hpN
theorem m_txn (S : RQ zk n0 E0 p b br (rq u i 0) cs tk m h) (P : Pos u r i) (hul : u.length < 25000) (hr : r.length < 25000) (hu1 : unqV (zA3 r) = none) {d : Nat} {K : KT} {n : Nat} (hk : ∀ i' h', Pos u (zA3 r) i' → RQ zk n0 E0 p b br (rq u i' 2) cs tk m h' → n ≤ h'.next → K (.str []) h') (hn : h.next ≤ n := by (try dsimp only); omega) : Wc tree.getF 33 [.ptr p d 0] ⟨h.ents, n, h.tys⟩ K :=
 have S1 := S.up hn
 qt_n P (by omega) (by omega) rfl hu1 (fun i' n' ty P' g1 g2 => hk i' _ P' (S1.put _ g1 g2) g1) S1.f S.g S1.hpN
theorem m_txy (S : RQ zk n0 E0 p b br (rq u i 0) cs tk m h) (P : Pos u r i) (hul : u.length < 25000) (hr : r.length < 25000) {t : B8} {k : Nat} (hu1 : unqV (zA3 r) = some (t, k)) {d : Nat} {K : KT} {n : Nat} (hk : ∀ i' h', Pos u ((zA3 r).drop k) i' → RQ zk n0 E0 p b br (rq u i' 0) cs tk m h' → n ≤ h'.next → K (.str t) h') (hn : h.next ≤ n := by (try dsimp only); omega) : Wc tree.getF 33 [.ptr p d 0] ⟨h.ents, n, h.tys⟩ K :=
 have S1 := S.up hn
 qt_y P (by omega) (by omega) rfl hu1 (unqV_len hu1) (fun i' n' ty P' g1 g2 => hk i' _ P' (S1.put _ g1 g2) g1) S1.f S.g S1.hpN
theorem m_f0 (S : RQ zk n0 E0 p b br (rq u i 0) cs tk m h) (x : Int) {d : Nat} {K : KT} {n : Nat} (hk : ∀ h', RQ zk n0 E0 p b br (rq u i x) cs tk m h' → n ≤ h'.next → K (.tup []) h') (hn : h.next ≤ n := by (try dsimp only); omega) : Wc tree.getF 17 [.ptr p d 0, .int .i64 x] ⟨h.ents, n, h.tys⟩ K :=
 have S1 := S.up hn
 qf_0 x (fun n' ty g1 g2 => hk _ (S1.put _ g1 g2) g1) S1.f S.g S1.hpN
theorem m_ge (S : RQ zk n0 E0 p b br (rq u i e) cs tk m h) (ns : List (B8)) (vs : List CVal) {w : B8} (hl : ns.length < 90000) (hlv : ns.length = vs.length) (hN : ∀ v ∈ vs, Node v) {c : Bool} (hc : ns.contains w = c) {K : KT} {n : Nat} (hk : ∀ v h', Node v → RQ zk n0 E0 p b br (rq u i e) cs tk m h' → n ≤ h'.next → K (.tup [v, .bool c]) h') (hn : h.next ≤ n := by (try dsimp only); omega) : Wc tree.getF 61 [.agg [.int .i64 6, .int .i64 0, .str [], kidsV vs, zCw ns], .str w] ⟨h.ents, n, h.tys⟩ K := by
 subst hc
 have S1 := S.up hn
 exact gt_F ns vs w hl hlv hN (fun v n' ty g0 g1 g2 => hk v _ g0 (S1.upT g1 g2) g1) S1.f
abbrev qlLoop : CCode := (.loop true (.seq (.seq (.region [.v 0, .n 0, .f 2 0, .l 0, .x .eql 0 (.k 0)] [(4, 4)] [] []) (.cond (.var 4) .skip (.exit 0))) (.block 1 (.seq (.region [.g (.fieldAddr 3 (.var 2)), .l 0, .v 0, .v 5, .x .add 0 (.k 1), .g (.call false 15 [(.loc 2), (.loc 0)]), .g (.lit .imm true [(.int .i64 0), (.int .i64 0), (.str []), .nils, .nils] 1 [(0, (.loc 0))]), .g (.append .imm 0 5 (.loc 5) (.loc 0)), .g (.fieldAddr 3 (.var 2)), .g (.store 1 (.loc 0) (.loc 1))] [] [(1, 0, 1)] []) (.seq (.seq (.region [.v 0, .g (.call false 37 [(.loc 0), (.const (.str [93]))])] [(6, 1)] [] []) (.cond (.var 6) (.seq (.region [.g (.load (some 5) (.var 2)), .g (.store 5 (.var 3) (.loc 0))] [] [] []) .ret) .skip)) (.region [.v 0, .g (.call false 60 [(.loc 0), (.const (.str [44]))])] [] [] []))))))
theorem ql_end (S : RQ zk n0 E0 p b br (rq u i e) cs tk m h) (he : (e == 0) = false) {dv : Int} {dd : Nat} {Q : QT} (v4 v6 : CVal) (hk : ∀ v4 n', h.next ≤ n' → Q (.exit 0) ⟨[.ptr p dd 0, .bool false, .ptr b 28311557 0, .ptr br 28311557 0, v4, .int .i64 dv, v6], ⟨h.ents, n', h.tys⟩, []⟩) {n : Nat} (hn : h.next ≤ n := by (try dsimp only); omega) : W tree.getF qlLoop ⟨[.ptr p dd 0, .bool false, .ptr b 28311557 0, .ptr br 28311557 0, v4, .int .i64 dv, v6], ⟨h.ents, n, h.tys⟩, []⟩ Q := by
 have hlb := S.lb
 have hmn := S.mn
 have hZ := S.zj
 refine W.loop ?_
 repeat (first | refine st_ rfl ?_ | ((first | refine rg_ ?_ | refine go_ ?_); refine gw_ (by simp (disch := omega) [hZ, hlb, he]; rfl) ?_))
 all_goals (refine hk _ _ ?_; ((try dsimp only); omega))
theorem ql_nil (vs : List CVal) (hvs : vs = []) (S : RQ none n0 E0 p b br (rq u i 0) ([.int .i64 5, .int .i64 0, .str [], .nils, .nils]) ([]) m h) (P : Pos u r i) (hul : u.length < 25000) {T : B8 → PR} {dv : Int} {M dd : Nat} (hT : QC 15 T (dv + 1) M) (hdv : 0 ≤ dv ∧ dv < 1000) (hr : r.length < M) (hvl : vs.length < 90000) {Q : QT} (v4 v6 : CVal)
    (hag : ∀ v r' i2 e' (j : Nat) (m' : Nat) (v4 v6 : CVal) h', QO T 0 r v r' e' → isQ e' [93] r' = false → Pos u (aftQ e' [44] (aftQ e' [93] r')) i2 → RQ none n0 E0 p b br (rq u i2 (ndQ e' [44] (aftQ e' [93] r'))) ([.int .i64 5, .int .i64 0, .str [], .imm (.own j 0) 5 (vs ++ [v]), .nils]) ([(j, 0)]) m' h' → h.next ≤ h'.next → W tree.getF qlLoop ⟨[.ptr p dd 0, .bool false, .ptr b 28311557 0, .ptr br 28311557 0, v4, .int .i64 dv, v6], h', []⟩ Q)
    (hen : ∀ v r' i2 e' (j : Nat) (m' : Nat) (v4 v6 : CVal) h' n' ty, QO T 0 r v r' e' → isQ e' [93] r' = true → Pos u (aftQ e' [93] r') i2 → RQ none n0 E0 p b br (rq u i2 e') ([.int .i64 5, .int .i64 0, .str [], .imm (.own j 0) 5 (vs ++ [v]), .nils]) ([(j, 0)]) m' h' → h.next ≤ h'.next → h'.next ≤ n' → zA9 ty n' → Q .ret ⟨[.ptr p dd 0, .bool false, .ptr b 28311557 0, .ptr br 28311557 0, v4, .int .i64 dv, v6], ⟨zA5 h'.ents br (.cells ([.int .i64 5, .int .i64 0, .str [], .imm (.own j 0) 5 (vs ++ [v]), .nils])), n', ty⟩, []⟩) : W tree.getF qlLoop ⟨[.ptr p dd 0, .bool false, .ptr b 28311557 0, .ptr br 28311557 0, v4, .int .i64 dv, v6], h, []⟩ Q := by
 have hlb := S.lb
 have hmn := S.mn
 have hY := S.z
 have hZ := S.z
 have hLl := trivial
 subst hvs
 refine W.loop ?_
 repeat' (first
  | refine st_ rfl ?_
  | ((first | refine rg_ ?_ | refine go_ ?_); refine gw_ (by simp (disch := omega) [hY, hZ, -CVal.strip, st_i, st_s, st_n, st_o, st_0, st_p, hlb, hvl, hLl]; rfl) ?_)
  | (refine m_rec S P hul hT hr fun v r' i' e' _ hO P S g => ⟨qo_u hO, ?_⟩; have hZ := S.z; have hlb := S.lb; have hmn := S.mn; (try dsimp only at g); obtain ⟨k, nn, t, L1, N1, hv, hL1, hN1⟩ := hO.2.1; have hLl := And.intro hL1.z hN1.z; have hr2 := hO.2.2; subst hv; cases h93 : isQ e' [93] r')
  | (refine m_is2 S.app0 P hul [93] h93 (hk := fun i2 _ P S g => ⟨rfl, ?_⟩); have hZ := S.z; have hlb := S.lb; have hmn := S.mn; (try dsimp only at g))
  | (refine m_nd S P hul [44] rfl (hk := fun i3 _ P S g => ⟨rfl, ?_⟩); have hZ := S.z; have hlb := S.lb; have hmn := S.mn; (try dsimp only at g)))
 · show W tree.getF qlLoop (dropped true _ _) Q; generalize e : dropped .. = r; simp (disch := omega) [hZ] at e; subst e
   refine hag _ r' i3 e' _ _ _ _ _ hO h93 P (S.up ?_) ?_ <;> ((try dsimp only); omega)
 · (try refine W.ret ?_)
   (try simp only [zAb, zA0, zAh, zA8, reduceIte])
   refine hen _ r' i2 e' _ _ _ _ _ _ _ hO h93 P S ?_ ?_ ?_; ((try dsimp only); omega); ((try dsimp only); omega); exact S.f.2.le (by (try dsimp only); omega)
theorem ql_own (vs : List CVal) {j w : Nat} (S : RQ none n0 E0 p b br (rq u i 0) ([.int .i64 5, .int .i64 0, .str [], .imm (.own j w) 5 vs, .nils]) ([(j, w)]) m h) (P : Pos u r i) (hul : u.length < 25000) {T : B8 → PR} {dv : Int} {M dd : Nat} (hT : QC 15 T (dv + 1) M) (hdv : 0 ≤ dv ∧ dv < 1000) (hr : r.length < M) (hvl : vs.length < 90000) {Q : QT} (v4 v6 : CVal)
    (hag : ∀ v r' i2 e' (m' : Nat) (v4 v6 : CVal) h', QO T 0 r v r' e' → isQ e' [93] r' = false → Pos u (aftQ e' [44] (aftQ e' [93] r')) i2 → RQ none n0 E0 p b br (rq u i2 (ndQ e' [44] (aftQ e' [93] r'))) ([.int .i64 5, .int .i64 0, .str [], .imm (.own j (w + 1)) 5 (vs ++ [v]), .nils]) ([(j, w + 1)]) m' h' → h.next ≤ h'.next → W tree.getF qlLoop ⟨[.ptr p dd 0, .bool false, .ptr b 28311557 0, .ptr br 28311557 0, v4, .int .i64 dv, v6], h', []⟩ Q)
    (hen : ∀ v r' i2 e' (m' : Nat) (v4 v6 : CVal) h' n' ty, QO T 0 r v r' e' → isQ e' [93] r' = true → Pos u (aftQ e' [93] r') i2 → RQ none n0 E0 p b br (rq u i2 e') ([.int .i64 5, .int .i64 0, .str [], .imm (.own j (w + 1)) 5 (vs ++ [v]), .nils]) ([(j, w + 1)]) m' h' → h.next ≤ h'.next → h'.next ≤ n' → zA9 ty n' → Q .ret ⟨[.ptr p dd 0, .bool false, .ptr b 28311557 0, .ptr br 28311557 0, v4, .int .i64 dv, v6], ⟨zA5 h'.ents br (.cells ([.int .i64 5, .int .i64 0, .str [], .imm (.own j (w + 1)) 5 (vs ++ [v]), .nils])), n', ty⟩, []⟩) : W tree.getF qlLoop ⟨[.ptr p dd 0, .bool false, .ptr b 28311557 0, .ptr br 28311557 0, v4, .int .i64 dv, v6], h, []⟩ Q := by
 have hlb := S.lb
 have hmn := S.mn
 have hY := S.z
 have hZ := S.z
 have hLl := trivial
 have htk := (S.gt (j, w) (by simp)).1
 dsimp only at htk
 have hbi := (S.gt (j, w) (by simp)).2
 dsimp only at hbi
 have hTk := htk
 refine W.loop ?_
 repeat' (first
  | refine st_ rfl ?_
  | ((first | refine rg_ ?_ | refine go_ ?_); refine gw_ (by simp (disch := omega) [hY, hZ, -CVal.strip, st_i, st_s, st_n, st_o, st_0, st_p, hlb, hvl, hLl, htk, hTk, zB6]; rfl) ?_)
  | (refine m_rec S P hul hT hr fun v r' i' e' _ hO P S g => ⟨qo_u hO, ?_⟩; have hZ := S.z; have hlb := S.lb; have hmn := S.mn; (try dsimp only at g); have htk := (S.gt (j, w) (by simp)).1; dsimp only at htk; have hTk := S.tb (i := j) (w := w) (by simp); obtain ⟨k, nn, t, L1, N1, hv, hL1, hN1⟩ := hO.2.1; have hLl := And.intro hL1.z hN1.z; have hr2 := hO.2.2; subst hv; cases h93 : isQ e' [93] r')
  | (refine m_is2 S.app1 P hul [93] h93 (hk := fun i2 _ P S g => ⟨rfl, ?_⟩); have hZ := S.z; have hlb := S.lb; have hmn := S.mn; (try dsimp only at g))
  | (refine m_nd S P hul [44] rfl (hk := fun i3 _ P S g => ⟨rfl, ?_⟩); have hZ := S.z; have hlb := S.lb; have hmn := S.mn; (try dsimp only at g)))
 · show W tree.getF qlLoop (dropped true _ _) Q; generalize e : dropped .. = r; simp (disch := omega) [hZ] at e; subst e
   refine hag _ r' i3 e' _ _ _ _ hO h93 P (S.up ?_) ?_ <;> ((try dsimp only); omega)
 · (try refine W.ret ?_)
   (try simp only [zAb, zA0, zAh, zA8, reduceIte])
   refine hen _ r' i2 e' _ _ _ _ _ _ hO h93 P S ?_ ?_ ?_; ((try dsimp only); omega); ((try dsimp only); omega); exact S.f.2.le (by (try dsimp only); omega)
theorem isQ_0 (w r : B8) : isQ 0 w r = isF w (zA3 r) := by simp [isQ]
theorem isQ_n {e : Int} (he : e ≠ 0) (w r : B8) : isQ e w r = false := by simp [isQ, he]
theorem aftQ_f {e : Int} {w r : B8} (h : isQ e w r = false) : aftQ e w r = zA3 r := by unfold aftQ; rw [h]; rfl
theorem zE2 {e : Int} {w r : B8} (h : isQ e w r = true) : aftQ e w r = (zA3 r).drop w.length := by unfold aftQ; rw [h]; rfl
theorem ndQ_n {e : Int} (he : e ≠ 0) (w r : B8) : ndQ e w r = e := by simp [ndQ, he]
theorem ndQ_t {w r : B8} (h : isF w (zA3 r) = true) : ndQ 0 w r = 0 := by simp [ndQ, isQ_0, h]
theorem ndQ_f {w r : B8} (h : isF w (zA3 r) = false) : ndQ 0 w r = 2 := by simp [ndQ, isQ_0, h]
theorem ql_round {L : CVal} {vs : List CVal} (hL : LOK L vs tk) (S : RQ none n0 E0 p b br (rq u i 0) ([.int .i64 5, .int .i64 0, .str [], L, .nils]) tk m h) (P : Pos u r i) (hul : u.length < 25000) {T : B8 → PR} {dv : Int} {M dd : Nat} (hT : QC 15 T (dv + 1) M) (hdv : 0 ≤ dv ∧ dv < 1000) (hr : r.length < M) (hvl : vs.length < 90000) {Q : QT} (v4 v6 : CVal)
    (hag : ∀ v r' i2 e' L' tk' (m' : Nat) (v4 v6 : CVal) h', QO T 0 r v r' e' → isQ e' [93] r' = false → Pos u (aftQ e' [44] (aftQ e' [93] r')) i2 → LOK L' (vs ++ [v]) tk' → RQ none n0 E0 p b br (rq u i2 (ndQ e' [44] (aftQ e' [93] r'))) ([.int .i64 5, .int .i64 0, .str [], L', .nils]) tk' m' h' → h.next ≤ h'.next → W tree.getF qlLoop ⟨[.ptr p dd 0, .bool false, .ptr b 28311557 0, .ptr br 28311557 0, v4, .int .i64 dv, v6], h', []⟩ Q)
    (hen : ∀ v r' i2 e' L' tk' (m' : Nat) (v4 v6 : CVal) h' n' ty, QO T 0 r v r' e' → isQ e' [93] r' = true → Pos u (aftQ e' [93] r') i2 → LOK L' (vs ++ [v]) tk' → RQ none n0 E0 p b br (rq u i2 e') ([.int .i64 5, .int .i64 0, .str [], L', .nils]) tk' m' h' → h.next ≤ h'.next → h'.next ≤ n' → zA9 ty n' → Q .ret ⟨[.ptr p dd 0, .bool false, .ptr b 28311557 0, .ptr br 28311557 0, v4, .int .i64 dv, v6], ⟨zA5 h'.ents br (.cells ([.int .i64 5, .int .i64 0, .str [], L', .nils])), n', ty⟩, []⟩) : W tree.getF qlLoop ⟨[.ptr p dd 0, .bool false, .ptr b 28311557 0, .ptr br 28311557 0, v4, .int .i64 dv, v6], h, []⟩ Q := by
 rcases hL with ⟨h1, rfl, rfl⟩ | ⟨j, w, rfl, rfl, hne⟩
 · exact ql_nil vs h1 S P hul hT hdv hr hvl v4 v6 (fun v r' i2 e' j m' v4 v6 h' a1 a2 a3 a4 a5 => hag v r' i2 e' _ _ m' v4 v6 h' a1 a2 a3 (.inr ⟨j, 0, rfl, rfl, by simp⟩) a4 a5)
    (fun v r' i2 e' j m' v4 v6 h' n' ty a1 a2 a3 a4 a5 a6 a7 => hen v r' i2 e' _ _ m' v4 v6 h' n' ty a1 a2 a3 (.inr ⟨j, 0, rfl, rfl, by simp⟩) a4 a5 a6 a7)
 · exact ql_own vs S P hul hT hdv hr hvl v4 v6 (fun v r' i2 e' m' v4 v6 h' a1 a2 a3 a4 a5 => hag v r' i2 e' _ _ m' v4 v6 h' a1 a2 a3 (.inr ⟨j, w + 1, rfl, rfl, by simp⟩) a4 a5)
    (fun v r' i2 e' m' v4 v6 h' n' ty a1 a2 a3 a4 a5 a6 a7 => hen v r' i2 e' _ _ m' v4 v6 h' n' ty a1 a2 a3 (.inr ⟨j, w + 1, rfl, rfl, by simp⟩) a4 a5 a6 a7)
theorem ql_loop (hul : u.length < 25000) {T : B8 → PR} {dv : Int} {M dd : Nat} (hT : QC 15 T (dv + 1) M) (hdv : 0 ≤ dv ∧ dv < 1000) {Q : QT} {n1 ls : Nat} {R : PR}
    (hx : ∀ v4 v6 L vs' r' i' e' tk' m' h', LOK L vs' tk' → R = .err e' → e' ≠ 0 → r'.length ≤ ls → Pos u r' i' → RQ none n0 E0 p b br (rq u i' e') ([.int .i64 5, .int .i64 0, .str [], L, .nils]) tk' m' h' → n1 ≤ h'.next → Q (.exit 0) ⟨[.ptr p dd 0, .bool false, .ptr b 28311557 0, .ptr br 28311557 0, v4, .int .i64 dv, v6], h', []⟩)
    (hy : ∀ v4 v6 L vs' r' i' tk' m' h' n' ty, LOK L vs' tk' → R = .ok (nList vs') r' → r'.length ≤ ls → Pos u r' i' → RQ none n0 E0 p b br (rq u i' 0) ([.int .i64 5, .int .i64 0, .str [], L, .nils]) tk' m' h' → n1 ≤ h'.next → h'.next ≤ n' → zA9 ty n' → Q .ret ⟨[.ptr p dd 0, .bool false, .ptr b 28311557 0, .ptr br 28311557 0, v4, .int .i64 dv, v6], ⟨zA5 h'.ents br (.cells ([.int .i64 5, .int .i64 0, .str [], L, .nils])), n', ty⟩, []⟩) :
    ∀ (k : Nat) (vs : List CVal) (r : B8) (L : CVal) (tk : NN) (m : Nat) (h : CHeap) (i : Int) (v4 v6 : CVal), r.length < k → r.length < M → r.length ≤ ls → vs.length + r.length < 30000 → Pos u r i → LOK L vs tk → RQ none n0 E0 p b br (rq u i 0) ([.int .i64 5, .int .i64 0, .str [], L, .nils]) tk m h → listF T k vs r = R → n1 ≤ h.next → W tree.getF qlLoop ⟨[.ptr p dd 0, .bool false, .ptr b 28311557 0, .ptr br 28311557 0, v4, .int .i64 dv, v6], h, []⟩ Q := by
 intro k
 induction k with
 | zero => intro vs r L tk m h i v4 v6 hk1; omega
 | succ k ih =>
  intro vs r L tk m h i v4 v6 hk1 hM hls hlen P hL S hR hn
  have hr := hR
  unfold listF at hr
  refine ql_round hL S P hul hT hdv hM (by omega) v4 v6 ?_ ?_
  · intro v r' i2 e' L' tk' m' v4 v6 h' hO h93 P' hL' S' hn'
    have hs2 := hO.2.2
    have hs3 := zAf r'
    have hs4 := zCs e' [44] (zA3 r')
    rcases hO.1 with ⟨_, ⟨hx1, rfl⟩ | ⟨hx1, he⟩⟩ | ⟨h0, _⟩
    · rw [hx1] at hr
      dsimp only at hr
      rw [aftQ_f h93] at P' S'
      have h93' := h93
      rw [isQ_0] at h93'
      cases h44 : isF [44] (zA3 r') with
      | true =>
       rw [if_pos h44] at hr
       have h44' : isF [44] (zA3 (zA3 r')) = true := by rw [zAy]; exact h44
       rw [ndQ_t h44'] at S'
       rw [zE2 (by rw [isQ_0]; exact h44'), zAy] at P'
       have h1 := zDg h44
       exact ih (vs ++ [v]) ((zA3 r').drop 1) L' tk' m' h' i2 v4 v6 (by omega) (by omega) (by omega) (by rw [List.length_append, List.length_singleton]; omega) P' hL' S' hr (by omega)
      | false =>
       rw [h44, if_neg Bool.false_ne_true, h93', if_neg Bool.false_ne_true] at hr
       have h44' : isF [44] (zA3 (zA3 r')) = false := by rw [zAy]; exact h44
       rw [ndQ_f h44'] at S'
       exact ql_end S' (by decide) v4 v6 (fun v4 n' g => hx v4 v6 L' (vs ++ [v]) _ i2 2 tk' m' _ hL' hr.symm (by decide) (by omega) P' (S'.up g) (by (try dsimp only); omega)) (Nat.le_refl _)
    · rw [hx1] at hr
      dsimp only at hr
      rw [aftQ_f h93] at P' S'
      rw [ndQ_n he] at S'
      exact ql_end S' (by simpa using he) v4 v6 (fun v4 n' g => hx v4 v6 L' (vs ++ [v]) _ i2 e' tk' m' _ hL' hr.symm he (by omega) P' (S'.up g) (by (try dsimp only); omega)) (Nat.le_refl _)
    · exact absurd rfl h0
  · intro v r' i2 e' L' tk' m' v4 v6 h' n' ty hO h93 P' hL' S' hn' g1 g2
    have hs2 := hO.2.2
    have hs4 := zCs e' [93] r'
    have he : e' = 0 := Classical.byContradiction fun he => by rw [isQ_n he] at h93; cases h93
    subst he
    rcases hO.1 with ⟨_, ⟨hx1, _⟩ | ⟨_, he⟩⟩ | ⟨h0, _⟩
    · rw [hx1] at hr
      dsimp only at hr
      have h93' := h93
      rw [isQ_0] at h93'
      rw [isF_two h93' (by decide), if_neg Bool.false_ne_true, if_pos h93'] at hr
      rw [zE2 h93] at P' hs4
      exact hy v4 v6 L' (vs ++ [v]) ((zA3 r').drop 1) i2 tk' m' h' n' ty hL' hr.symm (Nat.le_trans hs4 (by omega)) P' S' (by omega) g1 g2
    · exact absurd rfl he
    · exact absurd rfl h0
theorem m_nd2 (S : RQ zk n0 E0 p b br (rq u i e) cs tk m h) (P : Pos u r i) (hul : u.length < 25000) (w : B8) {e' : Int} (he : ndQ e w r = e') (hw9 : w.length < 60000 := by decide) {d : Nat} {K : KT} (hk : ∀ i' h', Pos u (aftQ e w r) i' → RQ zk n0 E0 p b br (rq u i' e') cs tk m h' → h.next ≤ h'.next → K (.tup []) h') : Wc tree.getF 60 [.ptr p d 0, .str w] h K :=
 m_nd S P hul w he hw9 hk (Nat.le_refl _)
theorem lq_true {T : B8 → PR} {dv : Int} {M : Nat} (hT : QC 15 T (dv + 1) M) (hdv : 0 ≤ dv ∧ dv < 1000) (hul : u.length < 25000) (hr : r.length ≤ M) (h91 : isF [91] r = true) (hS2 : zA3 r = r) (h93 : isF [93] (zA3 (r.drop 1)) = true) (P : Pos u r i) (p dd : Nat) (h : CHeap) (K : KT) (hk : ∀ v r' i' e' n' ty, QO (fun r => zEi T (r.drop 1)) 0 r v r' e' → Pos u r' i' → h.next ≤ n' → zA9 ty n' → K v ⟨zA5 h.ents p (rq u i' e'), n', ty⟩) (hf : Fit h) (hg : zA4 h.ents p = some (rq u i 0)) (hp : p < h.next) : Wc tree.getF 34 [.ptr p dd 0, .int .i64 dv] h K := by
 obtain ⟨hu, hut, hX⟩ := fx4 hf
 have hZ := hg
 have hLz := trivial
 have hLl := trivial
 have hdz := trivial
 have hPl := P.l
 have hrl : r.length < 25000 := by have := P.n; omega
 have h91' : isF [91] (zA3 r) = true := by rw [hS2]; exact h91
 have hnd := ndQ_t h91'
 have haf : aftQ 0 [91] r = r.drop 1 := by rw [zE2 (by rw [isQ_0]; exact h91'), hS2]; rfl
 have hdl := zDg h91
 have h93q : isQ 0 [93] (r.drop 1) = true := by rw [isQ_0]; exact h93
 refine Wc.mkG 34 c34 (by kernel_rfl) rfl ?_
 generalize e : zAa .. = r
 simp (disch := omega) [c34] at e
 subst e
 repeat (first | refine st_ rfl ?_ | ((first | refine rg_ ?_ | refine go_ ?_); refine gw_ (by simp (disch := omega) [hX, hZ, hLz, hdz, hLl, -CVal.strip, st_i, st_s, st_n, st_o, st_0, st_p]; rfl) ?_) | (refine m_nd2 (RQ.start hf hg hp) P hul [91] hnd (hk := fun i2 _ P S g => ⟨rfl, ?_⟩); rw [haf] at P; have hZ := S.z; have hlb := S.lb; have hmn := S.mn; (try dsimp only at g)) | (refine m_is S P hul [93] h93q (hk := fun i3 _ P S g => ⟨rfl, ?_⟩); have hZ := S.z; have hlb := S.lb; have hmn := S.mn; (try dsimp only at g); have hdz := S.dz; (try dsimp only at g)))
 all_goals (try refine W.ret ?_)
 (try simp only [zAb, zA0, zAh, zA8, reduceIte])
 (first | (refine W.ret ?_; (try simp only [zAb, zA0, zA8]); refine endW.of (.inl rfl) rfl ?_) | refine endW.of (.inl rfl) rfl ?_ | refine endW.of (.inr rfl) rfl ?_); generalize e : zAc .. = r; simp (disch := omega) [hX, hZ, hLz, hdz, hLl, -CVal.strip, st_i, st_s, st_n, st_o, st_0, st_p, c34] at e; subst e
 refine hk (nList []) _ i3 _ _ _ ⟨.inl ⟨rfl, .inl ⟨?_, rfl⟩⟩, Node.nList _, ?_⟩ P ?_ ?_
 · (try dsimp only); unfold zEi; rw [if_pos h93, zE2 h93q]; rfl
 · have := zCs 0 [93] (r.drop 1); omega
 · (try dsimp only); omega
 · exact S.f.2.le (by (try dsimp only); omega)
theorem lq_false {T : B8 → PR} {dv : Int} {M : Nat} (hT : QC 15 T (dv + 1) M) (hdv : 0 ≤ dv ∧ dv < 1000) (hul : u.length < 25000) (hr : r.length ≤ M) (h91 : isF [91] r = true) (hS2 : zA3 r = r) (h93 : isF [93] (zA3 (r.drop 1)) = false) (P : Pos u r i) (p dd : Nat) (h : CHeap) (K : KT) (hk : ∀ v r' i' e' n' ty, QO (fun r => zEi T (r.drop 1)) 0 r v r' e' → Pos u r' i' → h.next ≤ n' → zA9 ty n' → K v ⟨zA5 h.ents p (rq u i' e'), n', ty⟩) (hf : Fit h) (hg : zA4 h.ents p = some (rq u i 0)) (hp : p < h.next) : Wc tree.getF 34 [.ptr p dd 0, .int .i64 dv] h K := by
 obtain ⟨hu, hut, hX⟩ := fx4 hf
 have hZ := hg
 have hLz := trivial
 have hLl := trivial
 have hdz := trivial
 have hPl := P.l
 have hrl : r.length < 25000 := by have := P.n; omega
 have h91' : isF [91] (zA3 r) = true := by rw [hS2]; exact h91
 have hnd := ndQ_t h91'
 have haf : aftQ 0 [91] r = r.drop 1 := by rw [zE2 (by rw [isQ_0]; exact h91'), hS2]; rfl
 have hdl := zDg h91
 have h93q : isQ 0 [93] (r.drop 1) = false := by rw [isQ_0]; exact h93
 refine Wc.mkG 34 c34 (by kernel_rfl) rfl ?_
 generalize e : zAa .. = r
 simp (disch := omega) [c34] at e
 subst e
 repeat (first | refine st_ rfl ?_ | ((first | refine rg_ ?_ | refine go_ ?_); refine gw_ (by simp (disch := omega) [hX, hZ, hLz, hdz, hLl, -CVal.strip, st_i, st_s, st_n, st_o, st_0, st_p]; rfl) ?_) | (refine m_nd2 (RQ.start hf hg hp) P hul [91] hnd (hk := fun i2 _ P S g => ⟨rfl, ?_⟩); rw [haf] at P; have hZ := S.z; have hlb := S.lb; have hmn := S.mn; (try dsimp only at g)) | (refine m_is S P hul [93] h93q (hk := fun i3 _ P S g => ⟨rfl, ?_⟩); have hZ := S.z; have hlb := S.lb; have hmn := S.mn; (try dsimp only at g); have hdz := S.dz; (try dsimp only at g)))
 rw [aftQ_f h93q] at P
 have hsl := zAf (r.drop 1)
 have hR : zEi T (r.drop 1) = listF T ((r.drop 1).length + 1) [] (zA3 (r.drop 1)) := by unfold zEi; rw [h93, if_neg Bool.false_ne_true]
 refine ql_loop hul hT hdv (ls := r.length) (n1 := h.next) (R := zEi T (r.drop 1)) (fun v4 v6 L vs' r' i' e' tk' m' h' hL hR1 he1 hl2 P S g2 => ?_) (fun v4 v6 L vs' r' i' tk' m' h' n' ty hL hR1 hl2 P S g2 g3 g4 => ?_) ((r.drop 1).length + 1) [] (zA3 (r.drop 1)) .nils [] _ _ _ _ _ (by omega) (by omega) (by omega) (by (try dsimp only [List.length]); omega) P (.inl ⟨rfl, rfl, rfl⟩) (S.up (by (try dsimp only); omega)) hR.symm (by (try dsimp only); omega)
 · have hdz := S.dz
   have hZ := S.z
   have hLz := hL.z
   have hmn := S.mn
   (try simp only [zAb, zA0, zAh, zA8, reduceIte])
   repeat (first | refine st_ rfl ?_ | ((first | refine rg_ ?_ | refine go_ ?_); refine gw_ (by simp (disch := omega) [hX, hZ, hLz, hdz, hLl, -CVal.strip, st_i, st_s, st_n, st_o, st_0, st_p]; rfl) ?_))
   (first | (refine W.ret ?_; (try simp only [zAb, zA0, zA8]); refine endW.of (.inl rfl) rfl ?_) | refine endW.of (.inl rfl) rfl ?_ | refine endW.of (.inr rfl) rfl ?_); generalize e : zAc .. = r; simp (disch := omega) [hX, hZ, hLz, hdz, hLl, -CVal.strip, st_i, st_s, st_n, st_o, st_0, st_p, c34] at e; subst e
   refine hk (nList vs') _ i' _ _ _ ⟨.inl ⟨rfl, .inr ⟨hR1, he1⟩⟩, Node.nList _, hl2⟩ P ?_ ?_
   · (try dsimp only); omega
   · exact S.f.2.le (by (try dsimp only); omega)
 · have hdz := S.dz
   have hZ := S.z
   have hLz := hL.z
   have hmn := S.mn
   (try simp only [zAb, zA0, zAh, zA8, reduceIte])
   (first | (refine W.ret ?_; (try simp only [zAb, zA0, zA8]); refine endW.of (.inl rfl) rfl ?_) | refine endW.of (.inl rfl) rfl ?_ | refine endW.of (.inr rfl) rfl ?_); generalize e : zAc .. = r; simp (disch := omega) [hX, hZ, hLz, hdz, hLl, -CVal.strip, st_i, st_s, st_n, st_o, st_0, st_p, c34] at e; subst e
   refine hk (nList vs') _ i' _ _ _ ⟨.inl ⟨rfl, .inl ⟨hR1, rfl⟩⟩, Node.nList _, hl2⟩ P ?_ ?_
   · (try dsimp only); omega
   · exact g4.le (by (try dsimp only); omega)
theorem m_rec2 (S : RQ zk n0 E0 p b br (rq u i e) cs tk m h) (P : Pos u r i) (hul : u.length < 25000) {f : Nat} {T : B8 → PR} {dv : Int} {M dd : Nat} (hT : QC f T dv M) (hr : r.length < M) {K : KT} (hk : ∀ v r' i' e' h', QO T e r v r' e' → Pos u r' i' → RQ zk n0 E0 p b br (rq u i' e') cs tk m h' → h.next ≤ h'.next → K v h') : Wc tree.getF f [.ptr p dd 0, .int .i64 dv] h K :=
 m_rec S P hul hT hr hk (Nat.le_refl _)
theorem m_f02 (S : RQ zk n0 E0 p b br (rq u i 0) cs tk m h) (x : Int) {d : Nat} {K : KT} (hk : ∀ h', RQ zk n0 E0 p b br (rq u i x) cs tk m h' → h.next ≤ h'.next → K (.tup []) h') : Wc tree.getF 17 [.ptr p d 0, .int .i64 x] h K :=
 m_f0 S x hk (Nat.le_refl _)
abbrev qtLoop : CCode := (.loop true (.seq (.seq (.region [.v 0, .n 0, .f 2 0, .l 0, .x .eql 0 (.k 0)] [(4, 4)] [] []) (.cond (.var 4) .skip (.exit 0))) (.block 1 (.seq (.region [.v 0, .g (.call false 33 [(.loc 0)]), .m (.loc 0)] [(5, 2)] [] []) (.seq (.region [.g (.load (some 5) (.var 2)), .v 5, .g (.call false 61 [(.loc 1), (.loc 0)]), .m (.loc 0), .g (.extract 0 (.loc 0)), .g (.extract 1 (.loc 1)), .g (.lazy 28311557), .g (.init 5 (.loc 0) (.loc 2)), .m (.loc 2)] [(6, 8)] [] []) (.seq (.seq (.region [.v 6, .m (.loc 0), .q (.mv (.var 0)) 0 true, .q (.nilck (.loc 0)) 1 true, .q (.fieldAddr 2 (.loc 0)) 2 true, .q (.load none (.loc 0)) 3 true, .q (.bin .eql (.loc 0) (.k 0)) 4 true, .g (.pick (.loc 5) (.loc 0) (.b false))] [(7, 7)] [] []) (.cond (.var 7) (.region [.v 0, .g (.call false 17 [(.loc 0), (.k 5)])] [] [] []) .skip)) (.seq (.region [.v 0, .g (.call false 60 [(.loc 0), (.const (.str [58]))])] [] [] []) (.seq (.region [.g (.fieldAddr 4 (.var 2)), .l 0, .v 5, .g (.lit .imm false [(.str [])] 1 [(0, (.loc 0))]), .g (.append .imm 0 1 (.loc 2) (.loc 0)), .g (.fieldAddr 4 (.var 2)), .g (.store 1 (.loc 0) (.loc 1))] [] [] []) (.seq (.region [.g (.fieldAddr 3 (.var 2)), .l 0, .v 0, .v 8, .x .add 0 (.k 1), .g (.call false 15 [(.loc 2), (.loc 0)]), .g (.lit .imm true [(.int .i64 0), (.int .i64 0), (.str []), .nils, .nils] 1 [(0, (.loc 0))]), .g (.append .imm 0 5 (.loc 5) (.loc 0)), .g (.fieldAddr 3 (.var 2)), .g (.store 1 (.loc 0) (.loc 1))] [] [(1, 0, 1)] []) (.seq (.seq (.region [.v 0, .g (.call false 37 [(.loc 0), (.const (.str [125]))])] [(9, 1)] [] []) (.cond (.var 9) (.seq (.region [.g (.load (some 5) (.var 2)), .g (.store 5 (.var 3) (.loc 0))] [] [] []) .ret) .skip)) (.region [.v 0, .g (.call false 60 [(.loc 0), (.const (.str [44]))])] [] [] [])))))))))))
theorem qt_end (S : RQ zk n0 E0 p b br (rq u i e) cs tk m h) (he : (e == 0) = false) {dv : Int} {dd : Nat} {Q : QT} (v4 v5 v6 v7 v9 : CVal) (hk : ∀ v4 n', h.next ≤ n' → Q (.exit 0) ⟨[.ptr p dd 0, .bool false, .ptr b 28311557 0, .ptr br 28311557 0, v4, v5, v6, v7, .int .i64 dv, v9], ⟨h.ents, n', h.tys⟩, []⟩) {n : Nat} (hn : h.next ≤ n := by (try dsimp only); omega) : W tree.getF qtLoop ⟨[.ptr p dd 0, .bool false, .ptr b 28311557 0, .ptr br 28311557 0, v4, v5, v6, v7, .int .i64 dv, v9], ⟨h.ents, n, h.tys⟩, []⟩ Q := by
 have hlb := S.lb
 have hmn := S.mn
 have hZ := S.zj
 refine W.loop ?_
 repeat (first | refine st_ rfl ?_ | ((first | refine rg_ ?_ | refine go_ ?_); refine gw_ (by simp (disch := omega) [hZ, hlb, he]; rfl) ?_))
 all_goals (refine hk _ _ ?_; ((try dsimp only); omega))
theorem qt_nil (ns : List (B8)) (vs : List CVal) (hns : ns = []) (hvs : vs = []) (hlv : ns.length = vs.length) (hN : ∀ v ∈ vs, Node v) (S : RQ none n0 E0 p b br (rq u i 0) ([.int .i64 6, .int .i64 0, .str [], .nils, .nils]) ([]) m h) (P : Pos u r i) (hul : u.length < 25000) {t2 r2 : B8} {e2 : Int} (hcase : ((unqV (zA3 r) = none ∧ t2 = [] ∧ e2 = 2 ∧ r2 = zA3 r) ∨ ∃ k, unqV (zA3 r) = some (t2, k) ∧ r2 = (zA3 r).drop k ∧ e2 = if ns.contains t2 = true then 5 else 0)) {T : B8 → PR} {dv : Int} {M dd : Nat} (hT : QC 15 T (dv + 1) M) (hdv : 0 ≤ dv ∧ dv < 1000) (hr : r.length < M) (hvl : vs.length < 80000) {Q : QT} (v4 v5 v6 v7 v9 : CVal)
    (hag : ∀ v r' i2 e' (a j : Nat) (haj : a ≠ j) (m' : Nat) (v4 v5 v6 v7 v9 : CVal) h', QO T (ndQ e2 [58] r2) (aftQ e2 [58] r2) v r' e' → isQ e' [125] r' = false → Pos u (aftQ e' [44] (aftQ e' [125] r')) i2 → RQ none n0 E0 p b br (rq u i2 (ndQ e' [44] (aftQ e' [125] r'))) ([.int .i64 6, .int .i64 0, .str [], .imm (.own j 0) 5 (vs ++ [v]), .imm (.own a 0) 1 (ns.map .str ++ [.str t2])]) ([(j, 0), (a, 0)]) m' h' → h.next ≤ h'.next → W tree.getF qtLoop ⟨[.ptr p dd 0, .bool false, .ptr b 28311557 0, .ptr br 28311557 0, v4, v5, v6, v7, .int .i64 dv, v9], h', []⟩ Q)
    (hen : ∀ v r' i2 e' zk (a j : Nat) (haj : a ≠ j) (m' : Nat) (v4 v5 v6 v7 v9 : CVal) h' n' ty, QO T (ndQ e2 [58] r2) (aftQ e2 [58] r2) v r' e' → isQ e' [125] r' = true → Pos u (aftQ e' [125] r') i2 → RQ zk n0 E0 p b br (rq u i2 e') ([.int .i64 6, .int .i64 0, .str [], .imm (.own j 0) 5 (vs ++ [v]), .imm (.own a 0) 1 (ns.map .str ++ [.str t2])]) ([(j, 0), (a, 0)]) m' h' → h.next ≤ h'.next → h'.next ≤ n' → zA9 ty n' → Q .ret ⟨[.ptr p dd 0, .bool false, .ptr b 28311557 0, .ptr br 28311557 0, v4, v5, v6, v7, .int .i64 dv, v9], ⟨zA5 h'.ents br (.cells ([.int .i64 6, .int .i64 0, .str [], .imm (.own j 0) 5 (vs ++ [v]), .imm (.own a 0) 1 (ns.map .str ++ [.str t2])])), n', ty⟩, []⟩) : W tree.getF qtLoop ⟨[.ptr p dd 0, .bool false, .ptr b 28311557 0, .ptr br 28311557 0, v4, v5, v6, v7, .int .i64 dv, v9], h, []⟩ Q := by
 have hlb := S.lb
 have hmn := S.mn
 have hpo := S.hp
 have hro := S.hr
 have hbo := S.hb
 have hX := trivial
 have hW := hX
 have hWT := hX
 have hY := S.z
 have hZ := S.z
 have hLl := hX
 have hPl := P.l
 have hrl : r.length < 25000 := by have := P.n; omega
 have hvl2 : ns.length < 80000 := by omega
 have hr3 : (aftQ e2 [58] r2).length < M := by
  have h1 := zCs e2 [58] r2
  have h2 := zAf r
  have h3 : r2.length ≤ (zA3 r).length := by rcases hcase with ⟨_, _, _, rfl⟩ | ⟨k, _, rfl, _⟩; omega; (rw [List.length_drop]; omega)
  omega
 subst hns
 subst hvs
 have hAR : CVal.agg ([.int .i64 6, .int .i64 0, .str [], .nils, .nils]) = .agg ([.int .i64 6, .int .i64 0, .str [], kidsV [], zCw []]) := rfl
 rcases hcase with ⟨hu1, rfl, rfl, rfl⟩ | ⟨k, hu1, rfl, he2⟩ <;> (try (simp at he2; subst he2))
 all_goals refine W.loop ?_
 all_goals repeat' (first
  | refine st_ rfl ?_
  | ((first | refine rg_ ?_ | refine go_ ?_); refine gw_ (by simp (disch := omega) [hX, hY, hZ, hW, hWT, -CVal.strip, st_i, st_s, st_n, st_o, st_0, st_p, hlb, hvl, hvl2, hLl, zB6]; rfl) ?_)
  | (refine m_txn S P hul hrl hu1 (hk := fun i1 _ P S g => ⟨rfl, ?_⟩); have hZ := S.z; have hlb := S.lb; have hmn := S.mn; (try dsimp only at g))
  | (refine m_txy S P hul hrl hu1 (hk := fun i1 _ P S g => ⟨rfl, ?_⟩); have hZ := S.z; have hlb := S.lb; have hmn := S.mn; (try dsimp only at g))
  | (rw [hAR]; refine m_ge S [] [] (by simp) rfl (by simp) rfl (hk := fun v8 _ hv8 S g => ⟨rfl, ?_⟩); have hZ := S.z; have hlb := S.lb; have hmn := S.mn; (try dsimp only at g); obtain ⟨k8, n8, t8, L8, N8, he8, hL8, hN8⟩ := hv8; have hLl := And.intro hL8.z hN8.z; subst he8)
  | (refine m_nd2 (S.junk (k := h.next) (by omega)) P hul [58] rfl (hk := fun i2 _ P S g => ⟨rfl, ?_⟩); have hZ := S.zj; have hlb := S.lb; have hmn := S.mn; (try dsimp only at g))
  | (have hW := S.zj; refine m_rec2 S.app0 P hul hT hr3 (hk := fun v r' i' e' _ hO P S g => ⟨qo_u hO, ?_⟩); have hZ := S.zj; have hlb := S.lb; have hmn := S.mn; (try dsimp only at g); have haj2 := S.lt List.mem_cons_self; (try dsimp only at haj2); obtain ⟨k9, n9, t9, L9, N9, hv, hL1, hN1⟩ := hO.2.1; have hLl := And.intro hL1.z hN1.z; have hr2 := hO.2.2; subst hv; cases h93 : isQ e' [125] r')
  | (refine m_is2 (S.cell.t0) P hul [125] h93 (hk := fun i4 _ P S g => ⟨rfl, ?_⟩); have hZ := S.zj; have hlb := S.lb; have hmn := S.mn; (try dsimp only at g))
  | (refine m_nd S P hul [44] rfl (hk := fun i5 _ P S g => ⟨rfl, ?_⟩); have hZ := S.zj; have hlb := S.lb; have hmn := S.mn; (try dsimp only at g)))
 all_goals first
  | (show W tree.getF qtLoop (dropped true _ _) Q; generalize e : dropped .. = r; simp (disch := omega) [hZ] at e; subst e; refine hag _ r' i5 e' _ _ (by omega) _ _ _ _ _ _ _ hO h93 P (S.clean.up ?_) ?_ <;> ((try dsimp only); omega))
  | ((try refine W.ret ?_); (try simp only [zAb, zA0, zAh, zA8, reduceIte]); refine hen _ r' i4 e' _ _ _ (by omega) _ _ _ _ _ _ _ _ _ hO h93 P S ?_ ?_ ?_; ((try dsimp only); omega); ((try dsimp only); omega); exact S.f.2.le (by (try dsimp only); omega))
theorem qt_own (ns : List (B8)) (vs : List CVal) {a w j x : Nat} (haj : a ≠ j) (hnn : ns ≠ []) (hvn : vs ≠ []) (hlv : ns.length = vs.length) (hN : ∀ v ∈ vs, Node v) (S : RQ none n0 E0 p b br (rq u i 0) ([.int .i64 6, .int .i64 0, .str [], .imm (.own j x) 5 vs, .imm (.own a w) 1 (ns.map .str)]) ([(a, w), (j, x)]) m h) (P : Pos u r i) (hul : u.length < 25000) {t2 r2 : B8} {e2 : Int} (hcase : ((unqV (zA3 r) = none ∧ t2 = [] ∧ e2 = 2 ∧ r2 = zA3 r) ∨ ∃ k, unqV (zA3 r) = some (t2, k) ∧ r2 = (zA3 r).drop k ∧ e2 = if ns.contains t2 = true then 5 else 0)) {T : B8 → PR} {dv : Int} {M dd : Nat} (hT : QC 15 T (dv + 1) M) (hdv : 0 ≤ dv ∧ dv < 1000) (hr : r.length < M) (hvl : vs.length < 80000) {Q : QT} (v4 v5 v6 v7 v9 : CVal)
    (hag : ∀ v r' i2 e' (m' : Nat) (v4 v5 v6 v7 v9 : CVal) h', QO T (ndQ e2 [58] r2) (aftQ e2 [58] r2) v r' e' → isQ e' [125] r' = false → Pos u (aftQ e' [44] (aftQ e' [125] r')) i2 → RQ none n0 E0 p b br (rq u i2 (ndQ e' [44] (aftQ e' [125] r'))) ([.int .i64 6, .int .i64 0, .str [], .imm (.own j (x + 1)) 5 (vs ++ [v]), .imm (.own a (w + 1)) 1 (ns.map .str ++ [.str t2])]) ([(j, x + 1), (a, w + 1)]) m' h' → h.next ≤ h'.next → W tree.getF qtLoop ⟨[.ptr p dd 0, .bool false, .ptr b 28311557 0, .ptr br 28311557 0, v4, v5, v6, v7, .int .i64 dv, v9], h', []⟩ Q)
    (hen : ∀ v r' i2 e' zk (m' : Nat) (v4 v5 v6 v7 v9 : CVal) h' n' ty, QO T (ndQ e2 [58] r2) (aftQ e2 [58] r2) v r' e' → isQ e' [125] r' = true → Pos u (aftQ e' [125] r') i2 → RQ zk n0 E0 p b br (rq u i2 e') ([.int .i64 6, .int .i64 0, .str [], .imm (.own j (x + 1)) 5 (vs ++ [v]), .imm (.own a (w + 1)) 1 (ns.map .str ++ [.str t2])]) ([(j, x + 1), (a, w + 1)]) m' h' → h.next ≤ h'.next → h'.next ≤ n' → zA9 ty n' → Q .ret ⟨[.ptr p dd 0, .bool false, .ptr b 28311557 0, .ptr br 28311557 0, v4, v5, v6, v7, .int .i64 dv, v9], ⟨zA5 h'.ents br (.cells ([.int .i64 6, .int .i64 0, .str [], .imm (.own j (x + 1)) 5 (vs ++ [v]), .imm (.own a (w + 1)) 1 (ns.map .str ++ [.str t2])])), n', ty⟩, []⟩) : W tree.getF qtLoop ⟨[.ptr p dd 0, .bool false, .ptr b 28311557 0, .ptr br 28311557 0, v4, v5, v6, v7, .int .i64 dv, v9], h, []⟩ Q := by
 have hlb := S.lb
 have hmn := S.mn
 have hpo := S.hp
 have hro := S.hr
 have hbo := S.hb
 have hX := trivial
 have hW := hX
 have hWT := hX
 have hY := S.z
 have hZ := S.z
 have hLl := hX
 have hPl := P.l
 have hrl : r.length < 25000 := by have := P.n; omega
 have hvl2 : ns.length < 80000 := by omega
 have hr3 : (aftQ e2 [58] r2).length < M := by
  have h1 := zCs e2 [58] r2
  have h2 := zAf r
  have h3 : r2.length ≤ (zA3 r).length := by rcases hcase with ⟨_, _, _, rfl⟩ | ⟨k, _, rfl, _⟩; omega; (rw [List.length_drop]; omega)
  omega
 have hba := (S.gt (a, w) (by simp)).2
 have hbj := (S.gt (j, x) (by simp)).2
 dsimp only at hba hbj
 have hta := (S.gt (a, w) (by simp)).1; have htj := (S.gt (j, x) (by simp)).1; (try dsimp only at hta htj); have hTa := S.tb (i := a) (w := w) (by simp); have hTj := S.tb (i := j) (w := x) (by simp); have hTJ := fun y1 y2 => zA6 (x := y2) (hTj y1); have hTA := fun y1 y2 => zA6 (x := y2) (hTa y1)
 have hYa := hTa
 have hNV : zCw ns = .imm .none 1 (ns.map .str) := by unfold zCw; rw [if_neg (by simpa using hnn)]
 have hKV : kidsV vs = .imm .none 5 vs := by unfold kidsV; rw [if_neg (by simpa using hvn)]
 have hAR : CVal.agg ([.int .i64 6, .int .i64 0, .str [], .imm .none 5 vs, .imm .none 1 (ns.map .str)]) = .agg ([.int .i64 6, .int .i64 0, .str [], kidsV vs, zCw ns]) := by rw [hNV, hKV]
 cases hc : ns.contains t2 <;> rcases hcase with ⟨hu1, rfl, rfl, rfl⟩ | ⟨k, hu1, rfl, he2⟩ <;> (try (rw [hc] at he2; simp at he2; subst he2))
 all_goals refine W.loop ?_
 all_goals repeat' (first
  | refine st_ rfl ?_
  | ((first | refine rg_ ?_ | refine go_ ?_); refine gw_ (by simp (disch := omega) [hX, hY, hZ, hW, hWT, -CVal.strip, st_i, st_s, st_n, st_o, st_0, st_p, hlb, hvl, hvl2, hLl, zB6, hta, htj, hTj, hTa, hTJ, hTA, hYa]; rfl) ?_)
  | (refine m_txn S P hul hrl hu1 (hk := fun i1 _ P S g => ⟨rfl, ?_⟩); have hZ := S.z; have hlb := S.lb; have hmn := S.mn; (try dsimp only at g); have hta := (S.gt (a, w) (by simp)).1; have htj := (S.gt (j, x) (by simp)).1; (try dsimp only at hta htj); have hTa := S.tb (i := a) (w := w) (by simp); have hTj := S.tb (i := j) (w := x) (by simp); have hTJ := fun y1 y2 => zA6 (x := y2) (hTj y1); have hTA := fun y1 y2 => zA6 (x := y2) (hTa y1))
  | (refine m_txy S P hul hrl hu1 (hk := fun i1 _ P S g => ⟨rfl, ?_⟩); have hZ := S.z; have hlb := S.lb; have hmn := S.mn; (try dsimp only at g); have hta := (S.gt (a, w) (by simp)).1; have htj := (S.gt (j, x) (by simp)).1; (try dsimp only at hta htj); have hTa := S.tb (i := a) (w := w) (by simp); have hTj := S.tb (i := j) (w := x) (by simp); have hTJ := fun y1 y2 => zA6 (x := y2) (hTj y1); have hTA := fun y1 y2 => zA6 (x := y2) (hTa y1))
  | (rw [hAR]; refine m_ge S ns vs (by omega) hlv hN hc (hk := fun v8 _ hv8 S g => ⟨rfl, ?_⟩); have hZ := S.z; have hlb := S.lb; have hmn := S.mn; (try dsimp only at g); have hta := (S.gt (a, w) (by simp)).1; have htj := (S.gt (j, x) (by simp)).1; (try dsimp only at hta htj); have hTa := S.tb (i := a) (w := w) (by simp); have hTj := S.tb (i := j) (w := x) (by simp); have hTJ := fun y1 y2 => zA6 (x := y2) (hTj y1); have hTA := fun y1 y2 => zA6 (x := y2) (hTa y1); obtain ⟨k8, n8, t8, L8, N8, he8, hL8, hN8⟩ := hv8; have hLl := And.intro hL8.z hN8.z; subst he8)
  | (refine m_f02 (S.junk (k := h.next) (by omega)) 5 (hk := fun _ S g => ⟨rfl, ?_⟩); have hZ := S.zj; have hlb := S.lb; have hmn := S.mn; (try dsimp only at g); have hta := (S.gt (a, w) (by simp)).1; have htj := (S.gt (j, x) (by simp)).1; (try dsimp only at hta htj); have hTa := S.tb (i := a) (w := w) (by simp); have hTj := S.tb (i := j) (w := x) (by simp); have hTJ := fun y1 y2 => zA6 (x := y2) (hTj y1); have hTA := fun y1 y2 => zA6 (x := y2) (hTa y1))
  | (refine m_nd (zk := some _) S P hul [58] rfl (hk := fun i2 _ P S g => ⟨rfl, ?_⟩); have hZ := S.zj; have hlb := S.lb; have hmn := S.mn; (try dsimp only at g); have hta := (S.gt (a, w) (by simp)).1; have htj := (S.gt (j, x) (by simp)).1; (try dsimp only at hta htj); have hTa := S.tb (i := a) (w := w) (by simp); have hTj := S.tb (i := j) (w := x) (by simp); have hTJ := fun y1 y2 => zA6 (x := y2) (hTj y1); have hTA := fun y1 y2 => zA6 (x := y2) (hTa y1))
  | (refine m_nd2 (S.junk (k := h.next) (by omega)) P hul [58] rfl (hk := fun i2 _ P S g => ⟨rfl, ?_⟩); have hZ := S.zj; have hlb := S.lb; have hmn := S.mn; (try dsimp only at g); have hta := (S.gt (a, w) (by simp)).1; have htj := (S.gt (j, x) (by simp)).1; (try dsimp only at hta htj); have hTa := S.tb (i := a) (w := w) (by simp); have hTj := S.tb (i := j) (w := x) (by simp); have hTJ := fun y1 y2 => zA6 (x := y2) (hTj y1); have hTA := fun y1 y2 => zA6 (x := y2) (hTa y1))
  | (have hW := S.zj; have hWT := hTA; refine m_rec2 (RQ.cell (RQ.t1 S (by simp; omega))) P hul hT hr3 (hk := fun v r' i' e' _ hO P S g => ⟨qo_u hO, ?_⟩); have hZ := S.zj; have hlb := S.lb; have hmn := S.mn; (try dsimp only at g); have hta := (S.gt (a, w + 1) (by simp)).1; have htj := (S.gt (j, x) (by simp)).1; (try dsimp only at hta htj); have hTa := S.tb (i := a) (w := w + 1) (by simp); have hTj := S.tb (i := j) (w := x) (by simp); have hTJ := fun y1 y2 => zA6 (x := y2) (hTj y1); have hTA := fun y1 y2 => zA6 (x := y2) (hTa y1); obtain ⟨k9, n9, t9, L9, N9, hv, hL1, hN1⟩ := hO.2.1; have hLl := And.intro hL1.z hN1.z; have hr2 := hO.2.2; subst hv; cases h93 : isQ e' [125] r')
  | (refine m_is2 (RQ.cell (RQ.t1 (S.tks (tk' := [(j, x), (a, w + 1)]) (by simp)) (by simp; omega))) P hul [125] h93 (hk := fun i4 _ P S g => ⟨rfl, ?_⟩); have hZ := S.zj; have hlb := S.lb; have hmn := S.mn; (try dsimp only at g))
  | (refine m_nd S P hul [44] rfl (hk := fun i5 _ P S g => ⟨rfl, ?_⟩); have hZ := S.zj; have hlb := S.lb; have hmn := S.mn; (try dsimp only at g)))
 all_goals first
  | (show W tree.getF qtLoop (dropped true _ _) Q; generalize e : dropped .. = r; simp (disch := omega) [hZ] at e; subst e; refine hag _ r' i5 e' _ _ _ _ _ _ _ hO h93 P (S.clean.up ?_) ?_ <;> ((try dsimp only); omega))
  | ((try refine W.ret ?_); (try simp only [zAb, zA0, zAh, zA8, reduceIte]); refine hen _ r' i4 e' _ _ _ _ _ _ _ _ _ _ hO h93 P S ?_ ?_ ?_; ((try dsimp only); omega); ((try dsimp only); omega); exact S.f.2.le (by (try dsimp only); omega))
theorem qt_round {A L : CVal} {ns : List (B8)} {vs : List CVal} (hTk : TOK A L ns vs tk) (hlv : ns.length = vs.length) (hN : ∀ v ∈ vs, Node v) (S : RQ none n0 E0 p b br (rq u i 0) ([.int .i64 6, .int .i64 0, .str [], L, A]) tk m h) (P : Pos u r i) (hul : u.length < 25000) {t2 r2 : B8} {e2 : Int} (hcase : ((unqV (zA3 r) = none ∧ t2 = [] ∧ e2 = 2 ∧ r2 = zA3 r) ∨ ∃ k, unqV (zA3 r) = some (t2, k) ∧ r2 = (zA3 r).drop k ∧ e2 = if ns.contains t2 = true then 5 else 0)) {T : B8 → PR} {dv : Int} {M dd : Nat} (hT : QC 15 T (dv + 1) M) (hdv : 0 ≤ dv ∧ dv < 1000) (hr : r.length < M) (hvl : vs.length < 80000) {Q : QT} (v4 v5 v6 v7 v9 : CVal)
    (hag : ∀ v r' i2 e' A' L' tk' (m' : Nat) (v4 v5 v6 v7 v9 : CVal) h', QO T (ndQ e2 [58] r2) (aftQ e2 [58] r2) v r' e' → isQ e' [125] r' = false → Pos u (aftQ e' [44] (aftQ e' [125] r')) i2 → TOK A' L' (ns ++ [t2]) (vs ++ [v]) tk' → RQ none n0 E0 p b br (rq u i2 (ndQ e' [44] (aftQ e' [125] r'))) ([.int .i64 6, .int .i64 0, .str [], L', A']) tk' m' h' → h.next ≤ h'.next → W tree.getF qtLoop ⟨[.ptr p dd 0, .bool false, .ptr b 28311557 0, .ptr br 28311557 0, v4, v5, v6, v7, .int .i64 dv, v9], h', []⟩ Q)
    (hen : ∀ v r' i2 e' zk A' L' tk' (m' : Nat) (v4 v5 v6 v7 v9 : CVal) h' n' ty, QO T (ndQ e2 [58] r2) (aftQ e2 [58] r2) v r' e' → isQ e' [125] r' = true → Pos u (aftQ e' [125] r') i2 → TOK A' L' (ns ++ [t2]) (vs ++ [v]) tk' → RQ zk n0 E0 p b br (rq u i2 e') ([.int .i64 6, .int .i64 0, .str [], L', A']) tk' m' h' → h.next ≤ h'.next → h'.next ≤ n' → zA9 ty n' → Q .ret ⟨[.ptr p dd 0, .bool false, .ptr b 28311557 0, .ptr br 28311557 0, v4, v5, v6, v7, .int .i64 dv, v9], ⟨zA5 h'.ents br (.cells ([.int .i64 6, .int .i64 0, .str [], L', A'])), n', ty⟩, []⟩) : W tree.getF qtLoop ⟨[.ptr p dd 0, .bool false, .ptr b 28311557 0, .ptr br 28311557 0, v4, v5, v6, v7, .int .i64 dv, v9], h, []⟩ Q := by
 have hmap : ns.map CVal.str ++ [.str t2] = (ns ++ [t2]).map CVal.str := by simp
 rcases hTk with ⟨h1, h2, rfl, rfl, rfl⟩ | ⟨a, w, j, x, haj, rfl, rfl, rfl, hne, hne2⟩
 · have hsw : ∀ {a j : Nat} {y : Nat × Nat}, y ∈ [(a, 0), (j, 0)] → y ∈ [(j, 0), (a, 0)] := by intro a j y hy; simp only [List.mem_cons, List.not_mem_nil, or_false] at hy ⊢; exact hy.symm
   refine qt_nil ns vs h1 h2 hlv hN S P hul hcase hT hdv hr hvl v4 v5 v6 v7 v9 ?_ ?_
   · intro v r' i2 e' a j haj m' v4 v5 v6 v7 v9 h' a1 a2 a3 a4 a5
     (try rw [hmap] at a4)
     exact hag v r' i2 e' _ _ _ m' v4 v5 v6 v7 v9 h' a1 a2 a3 (.inr ⟨a, 0, j, 0, haj, rfl, rfl, rfl, by simp, by simp⟩) (a4.tks fun y hy => hsw hy) a5
   · intro v r' i2 e' zk a j haj m' v4 v5 v6 v7 v9 h' n' ty a1 a2 a3 a4 a5 a6 a7
     (try rw [hmap] at a4)
     have := hen v r' i2 e' zk _ _ _ m' v4 v5 v6 v7 v9 h' n' ty a1 a2 a3 (.inr ⟨a, 0, j, 0, haj, rfl, rfl, rfl, by simp, by simp⟩) (a4.tks fun y hy => hsw hy) a5 a6 a7
     (try rw [← hmap] at this)
     exact this
 · have hsw : ∀ {y : Nat × Nat}, y ∈ [(a, w + 1), (j, x + 1)] → y ∈ [(j, x + 1), (a, w + 1)] := by intro y hy; simp only [List.mem_cons, List.not_mem_nil, or_false] at hy ⊢; exact hy.symm
   refine qt_own ns vs haj hne hne2 hlv hN S P hul hcase hT hdv hr hvl v4 v5 v6 v7 v9 ?_ ?_
   · intro v r' i2 e' m' v4 v5 v6 v7 v9 h' a1 a2 a3 a4 a5
     (try rw [hmap] at a4)
     exact hag v r' i2 e' _ _ _ m' v4 v5 v6 v7 v9 h' a1 a2 a3 (.inr ⟨a, w + 1, j, x + 1, haj, rfl, rfl, rfl, by simp, by simp⟩) (a4.tks fun y hy => hsw hy) a5
   · intro v r' i2 e' zk m' v4 v5 v6 v7 v9 h' n' ty a1 a2 a3 a4 a5 a6 a7
     (try rw [hmap] at a4)
     have := hen v r' i2 e' zk _ _ _ m' v4 v5 v6 v7 v9 h' n' ty a1 a2 a3 (.inr ⟨a, w + 1, j, x + 1, haj, rfl, rfl, rfl, by simp, by simp⟩) (a4.tks fun y hy => hsw hy) a5 a6 a7
     (try rw [← hmap] at this)
     exact this
theorem qt_err {A L : CVal} {ns : List (B8)} {vs : List CVal} (hTk : TOK A L ns vs tk) (hlv : ns.length = vs.length) (hN : ∀ v ∈ vs, Node v) (S : RQ none n0 E0 p b br (rq u i 0) ([.int .i64 6, .int .i64 0, .str [], L, A]) tk m h) (P : Pos u r i) (hul : u.length < 25000) {t2 r2 : B8} {e2 ee : Int} (hcase : ((unqV (zA3 r) = none ∧ t2 = [] ∧ e2 = 2 ∧ r2 = zA3 r) ∨ ∃ k, unqV (zA3 r) = some (t2, k) ∧ r2 = (zA3 r).drop k ∧ e2 = if ns.contains t2 = true then 5 else 0)) (hr2 : r2.length ≤ r.length) (hE : ndQ e2 [58] r2 = ee) (hee : ee ≠ 0) {T : B8 → PR} {dv : Int} {M dd : Nat} (hT : QC 15 T (dv + 1) M) (hdv : 0 ≤ dv ∧ dv < 1000) (hr : r.length < M) (hvl : vs.length < 80000) {Q : QT} {n1 ls : Nat} {R : PR} (hR : R = .err ee) (hls : r.length ≤ ls) (hn1 : n1 ≤ h.next) (v4 v5 v6 v7 v9 : CVal)
    (hx : ∀ (v4 v5 v6 v7 v9 : CVal) A L ns' vs' r' i' e' tk' m' h', TOK A L ns' vs' tk' → R = .err e' → e' ≠ 0 → r'.length ≤ ls → Pos u r' i' → RQ none n0 E0 p b br (rq u i' e') ([.int .i64 6, .int .i64 0, .str [], L, A]) tk' m' h' → n1 ≤ h'.next → Q (.exit 0) ⟨[.ptr p dd 0, .bool false, .ptr b 28311557 0, .ptr br 28311557 0, v4, v5, v6, v7, .int .i64 dv, v9], h', []⟩) : W tree.getF qtLoop ⟨[.ptr p dd 0, .bool false, .ptr b 28311557 0, .ptr br 28311557 0, v4, v5, v6, v7, .int .i64 dv, v9], h, []⟩ Q := by
 subst hE
 refine qt_round hTk hlv hN S P hul hcase hT hdv hr hvl v4 v5 v6 v7 v9 ?_ ?_
 · intro v r' i2 e' A' L' tk' m' v4 v5 v6 v7 v9 h' hO h93 P' hT' S' hn'
   have hs2 := hO.2.2
   have hs3 := zCs e2 [58] r2
   have hs4 := zCs e' [44] (aftQ e' [125] r')
   have hs5 := zCs e' [125] r'
   rcases hO.1 with ⟨h0, _⟩ | ⟨_, rfl⟩
   · exact absurd h0 hee
   · rw [ndQ_n hee] at S'
     exact qt_end S' (by simpa using hee) v4 v5 v6 v7 v9 (fun v4 n' g => hx v4 v5 v6 v7 v9 A' L' (ns ++ [t2]) (vs ++ [v]) _ i2 _ tk' m' _ hT' hR hee (by omega) P' (S'.up g) (by (try dsimp only); omega)) (Nat.le_refl _)
 · intro v r' i2 e' zk A' L' tk' m' v4 v5 v6 v7 v9 h' n' ty hO h93 P' hT' S' hn' g1 g2
   rcases hO.1 with ⟨h0, _⟩ | ⟨_, rfl⟩
   · exact absurd h0 hee
   · rw [isQ_n hee] at h93; cases h93
theorem qt_loop (hul : u.length < 25000) {T : B8 → PR} {dv : Int} {M dd : Nat} (hT : QC 15 T (dv + 1) M) (hdv : 0 ≤ dv ∧ dv < 1000) {Q : QT} {n1 ls : Nat} {R : PR}
    (hx : ∀ (v4 v5 v6 v7 v9 : CVal) A L ns' vs' r' i' e' tk' m' h', TOK A L ns' vs' tk' → R = .err e' → e' ≠ 0 → r'.length ≤ ls → Pos u r' i' → RQ none n0 E0 p b br (rq u i' e') ([.int .i64 6, .int .i64 0, .str [], L, A]) tk' m' h' → n1 ≤ h'.next → Q (.exit 0) ⟨[.ptr p dd 0, .bool false, .ptr b 28311557 0, .ptr br 28311557 0, v4, v5, v6, v7, .int .i64 dv, v9], h', []⟩)
    (hy : ∀ (v4 v5 v6 v7 v9 : CVal) A L ns' vs' r' i' zk tk' m' h' n' ty, TOK A L ns' vs' tk' → R = .ok (nTab ns' vs') r' → r'.length ≤ ls → Pos u r' i' → RQ zk n0 E0 p b br (rq u i' 0) ([.int .i64 6, .int .i64 0, .str [], L, A]) tk' m' h' → n1 ≤ h'.next → h'.next ≤ n' → zA9 ty n' → Q .ret ⟨[.ptr p dd 0, .bool false, .ptr b 28311557 0, .ptr br 28311557 0, v4, v5, v6, v7, .int .i64 dv, v9], ⟨zA5 h'.ents br (.cells ([.int .i64 6, .int .i64 0, .str [], L, A])), n', ty⟩, []⟩) :
    ∀ (k : Nat) (ns : List (B8)) (vs : List CVal) (r : B8) (A L : CVal) (tk : NN) (m : Nat) (h : CHeap) (i : Int) (v4 v5 v6 v7 v9 : CVal), r.length < k → r.length < M → r.length ≤ ls → vs.length + r.length < 30000 → ns.length = vs.length → (∀ v ∈ vs, Node v) → Pos u r i → TOK A L ns vs tk → RQ none n0 E0 p b br (rq u i 0) ([.int .i64 6, .int .i64 0, .str [], L, A]) tk m h → tabF T k ns vs r = R → n1 ≤ h.next → W tree.getF qtLoop ⟨[.ptr p dd 0, .bool false, .ptr b 28311557 0, .ptr br 28311557 0, v4, v5, v6, v7, .int .i64 dv, v9], h, []⟩ Q := by
 intro k
 induction k with
 | zero => intro ns vs r A L tk m h i v4 v5 v6 v7 v9 hk1; omega
 | succ k ih =>
  intro ns vs r A L tk m h i v4 v5 v6 v7 v9 hk1 hM hls hlen hlv hN P hTk S hR hn
  have hr := hR
  unfold tabF at hr
  have hss := zAf r
  cases hu : unqV (zA3 r) with
  | none =>
   rw [hu] at hr
   dsimp only at hr
   exact qt_err hTk hlv hN S P hul (.inl ⟨hu, rfl, rfl, rfl⟩) (by omega) (ndQ_n (by decide) _ _) (by decide) hT hdv hM (by omega) hr.symm hls hn v4 v5 v6 v7 v9 hx
  | some tk2 =>
   obtain ⟨t, q⟩ := tk2
   have hq := unqV_len hu
   have hdl : ((zA3 r).drop q).length ≤ (zA3 r).length := by rw [List.length_drop]; omega
   rw [hu] at hr
   dsimp only at hr
   cases hc : ns.contains t with
   | true =>
    rw [if_pos hc] at hr
    exact qt_err hTk hlv hN S P hul (.inr ⟨q, hu, rfl, by rw [hc]; rfl⟩) (by omega) (ndQ_n (e := 5) (by decide) _ _) (by decide) hT hdv hM (by omega) hr.symm hls hn v4 v5 v6 v7 v9 hx
   | false =>
    rw [if_neg (by rw [hc]; exact Bool.false_ne_true)] at hr
    have hcs : (0 : Int) = if ns.contains t = true then 5 else 0 := by rw [hc]; rfl
    cases h58 : isF [58] (zA3 ((zA3 r).drop q)) with
    | false =>
     rw [if_neg (by rw [h58]; exact Bool.false_ne_true)] at hr
     exact qt_err hTk hlv hN S P hul (.inr ⟨q, hu, rfl, hcs⟩) (by omega) (ndQ_f h58) (by decide) hT hdv hM (by omega) hr.symm hls hn v4 v5 v6 v7 v9 hx
    | true =>
     rw [if_pos h58] at hr
     have h58q : isQ 0 [58] ((zA3 r).drop q) = true := by rw [isQ_0]; exact h58
     have hs7 := zAf ((zA3 r).drop q)
     have hs8 := zDg h58
     refine qt_round hTk hlv hN S P hul (.inr ⟨q, hu, rfl, hcs⟩) hT hdv hM (by omega) v4 v5 v6 v7 v9 ?_ ?_
     · intro v r' i2 e' A' L' tk' m' v4 v5 v6 v7 v9 h' hO h93 P' hT' S' hn'
       rw [ndQ_t h58, zE2 h58q] at hO
       have hs2 : r'.length ≤ ((zA3 ((zA3 r).drop q)).drop 1).length := hO.2.2
       have hs3 := zAf r'
       have hs4 := zCs e' [44] (zA3 r')
       have hN' : ∀ y ∈ vs ++ [v], Node y := fun y hy => by rcases List.mem_append.1 hy with hy | hy; exact hN y hy; rw [List.mem_singleton.1 hy]; exact hO.2.1
       rcases hO.1 with ⟨_, ⟨hx1, rfl⟩ | ⟨hx1, he⟩⟩ | ⟨h0, _⟩
       · replace hx1 : T ((zA3 ((zA3 r).drop q)).drop 1) = .ok v r' := hx1
         rw [hx1] at hr
         dsimp only at hr
         rw [aftQ_f h93] at P' S'
         have h93' := h93
         rw [isQ_0] at h93'
         cases h44 : isF [44] (zA3 r') with
         | true =>
          rw [if_pos h44] at hr
          have h44' : isF [44] (zA3 (zA3 r')) = true := by rw [zAy]; exact h44
          rw [ndQ_t h44'] at S'
          rw [zE2 (by rw [isQ_0]; exact h44'), zAy] at P'
          have h1 := zDg h44
          exact ih (ns ++ [t]) (vs ++ [v]) ((zA3 r').drop 1) A' L' tk' m' h' i2 v4 v5 v6 v7 v9 (by omega) (by omega) (by omega) (by rw [List.length_append, List.length_singleton]; omega) (by rw [List.length_append, List.length_append, hlv]; rfl) hN' P' hT' S' hr (by omega)
         | false =>
          rw [h44, if_neg Bool.false_ne_true, h93', if_neg Bool.false_ne_true] at hr
          have h44' : isF [44] (zA3 (zA3 r')) = false := by rw [zAy]; exact h44
          rw [ndQ_f h44'] at S'
          exact qt_end S' (by decide) v4 v5 v6 v7 v9 (fun v4 n' g => hx v4 v5 v6 v7 v9 A' L' (ns ++ [t]) (vs ++ [v]) _ i2 2 tk' m' _ hT' hr.symm (by decide) (by omega) P' (S'.up g) (by (try dsimp only); omega)) (Nat.le_refl _)
       · replace hx1 : T ((zA3 ((zA3 r).drop q)).drop 1) = .err e' := hx1
         rw [hx1] at hr
         dsimp only at hr
         rw [aftQ_f h93] at P' S'
         rw [ndQ_n he] at S'
         exact qt_end S' (by simpa using he) v4 v5 v6 v7 v9 (fun v4 n' g => hx v4 v5 v6 v7 v9 A' L' (ns ++ [t]) (vs ++ [v]) _ i2 e' tk' m' _ hT' hr.symm he (by omega) P' (S'.up g) (by (try dsimp only); omega)) (Nat.le_refl _)
       · exact absurd rfl h0
     · intro v r' i2 e' zk A' L' tk' m' v4 v5 v6 v7 v9 h' n' ty hO h93 P' hT' S' hn' g1 g2
       rw [ndQ_t h58, zE2 h58q] at hO
       have hs2 : r'.length ≤ ((zA3 ((zA3 r).drop q)).drop 1).length := hO.2.2
       have hs4 := zCs e' [125] r'
       have he : e' = 0 := Classical.byContradiction fun he => by rw [isQ_n he] at h93; cases h93
       subst he
       rcases hO.1 with ⟨_, ⟨hx1, _⟩ | ⟨_, he⟩⟩ | ⟨h0, _⟩
       · replace hx1 : T ((zA3 ((zA3 r).drop q)).drop 1) = .ok v r' := hx1
         rw [hx1] at hr
         dsimp only at hr
         have h93' := h93
         rw [isQ_0] at h93'
         rw [isF_two h93' (by decide), if_neg Bool.false_ne_true, if_pos h93'] at hr
         rw [zE2 h93] at P' hs4
         exact hy v4 v5 v6 v7 v9 A' L' (ns ++ [t]) (vs ++ [v]) ((zA3 r').drop 1) i2 zk tk' m' h' n' ty hT' hr.symm (Nat.le_trans hs4 (by omega)) P' S' (by omega) g1 g2
       · exact absurd rfl he
       · exact absurd rfl h0
theorem tq_true {T : B8 → PR} {dv : Int} {M : Nat} (hT : QC 15 T (dv + 1) M) (hdv : 0 ≤ dv ∧ dv < 1000) (hul : u.length < 25000) (hr : r.length ≤ M) (h91 : isF [123] r = true) (hS2 : zA3 r = r) (h93 : isF [125] (zA3 (r.drop 1)) = true) (P : Pos u r i) (p dd : Nat) (h : CHeap) (K : KT) (hk : ∀ v r' i' e' n' ty, QO (fun r => tabR T (r.drop 1)) 0 r v r' e' → Pos u r' i' → h.next ≤ n' → zA9 ty n' → K v ⟨zA5 h.ents p (rq u i' e'), n', ty⟩) (hf : Fit h) (hg : zA4 h.ents p = some (rq u i 0)) (hp : p < h.next) : Wc tree.getF 35 [.ptr p dd 0, .int .i64 dv] h K := by
 obtain ⟨hu, hut, hX⟩ := fx4 hf
 have hZ := hg
 have hLz := trivial
 have hLl := trivial
 have hdz := trivial
 have hPl := P.l
 have hrl : r.length < 25000 := by have := P.n; omega
 have h91' : isF [123] (zA3 r) = true := by rw [hS2]; exact h91
 have hnd := ndQ_t h91'
 have haf : aftQ 0 [123] r = r.drop 1 := by rw [zE2 (by rw [isQ_0]; exact h91'), hS2]; rfl
 have hdl := zDg h91
 have h93q : isQ 0 [125] (r.drop 1) = true := by rw [isQ_0]; exact h93
 refine Wc.mkG 35 c35 (by kernel_rfl) rfl ?_
 generalize e : zAa .. = r
 simp (disch := omega) [c35] at e
 subst e
 repeat (first | refine st_ rfl ?_ | ((first | refine rg_ ?_ | refine go_ ?_); refine gw_ (by simp (disch := omega) [hX, hZ, hLz, hdz, hLl, -CVal.strip, st_i, st_s, st_n, st_o, st_0, st_p]; rfl) ?_) | (refine m_nd2 (RQ.start hf hg hp) P hul [123] hnd (hk := fun i2 _ P S g => ⟨rfl, ?_⟩); rw [haf] at P; have hZ := S.z; have hlb := S.lb; have hmn := S.mn; (try dsimp only at g)) | (refine m_is S P hul [125] h93q (hk := fun i3 _ P S g => ⟨rfl, ?_⟩); have hZ := S.z; have hlb := S.lb; have hmn := S.mn; (try dsimp only at g); have hdz := S.dz; (try dsimp only at g)))
 all_goals (try refine W.ret ?_)
 (try simp only [zAb, zA0, zAh, zA8, reduceIte])
 (first | (refine W.ret ?_; (try simp only [zAb, zA0, zA8]); refine endW.of (.inl rfl) rfl ?_) | refine endW.of (.inl rfl) rfl ?_ | refine endW.of (.inr rfl) rfl ?_); generalize e : zAc .. = r; simp (disch := omega) [hX, hZ, hLz, hdz, hLl, -CVal.strip, st_i, st_s, st_n, st_o, st_0, st_p, c35] at e; subst e
 refine hk (nTab [] []) _ i3 _ _ _ ⟨.inl ⟨rfl, .inl ⟨?_, rfl⟩⟩, Node.nTab _ _, ?_⟩ P ?_ ?_
 · (try dsimp only); unfold tabR; rw [if_pos h93, zE2 h93q]; rfl
 · have := zCs 0 [125] (r.drop 1); omega
 · (try dsimp only); omega
 · exact S.f.2.le (by (try dsimp only); omega)
theorem tq_false {T : B8 → PR} {dv : Int} {M : Nat} (hT : QC 15 T (dv + 1) M) (hdv : 0 ≤ dv ∧ dv < 1000) (hul : u.length < 25000) (hr : r.length ≤ M) (h91 : isF [123] r = true) (hS2 : zA3 r = r) (h93 : isF [125] (zA3 (r.drop 1)) = false) (P : Pos u r i) (p dd : Nat) (h : CHeap) (K : KT) (hk : ∀ v r' i' e' n' ty, QO (fun r => tabR T (r.drop 1)) 0 r v r' e' → Pos u r' i' → h.next ≤ n' → zA9 ty n' → K v ⟨zA5 h.ents p (rq u i' e'), n', ty⟩) (hf : Fit h) (hg : zA4 h.ents p = some (rq u i 0)) (hp : p < h.next) : Wc tree.getF 35 [.ptr p dd 0, .int .i64 dv] h K := by
 obtain ⟨hu, hut, hX⟩ := fx4 hf
 have hZ := hg
 have hLz := trivial
 have hLl := trivial
 have hdz := trivial
 have hPl := P.l
 have hrl : r.length < 25000 := by have := P.n; omega
 have h91' : isF [123] (zA3 r) = true := by rw [hS2]; exact h91
 have hnd := ndQ_t h91'
 have haf : aftQ 0 [123] r = r.drop 1 := by rw [zE2 (by rw [isQ_0]; exact h91'), hS2]; rfl
 have hdl := zDg h91
 have h93q : isQ 0 [125] (r.drop 1) = false := by rw [isQ_0]; exact h93
 refine Wc.mkG 35 c35 (by kernel_rfl) rfl ?_
 generalize e : zAa .. = r
 simp (disch := omega) [c35] at e
 subst e
 repeat (first | refine st_ rfl ?_ | ((first | refine rg_ ?_ | refine go_ ?_); refine gw_ (by simp (disch := omega) [hX, hZ, hLz, hdz, hLl, -CVal.strip, st_i, st_s, st_n, st_o, st_0, st_p]; rfl) ?_) | (refine m_nd2 (RQ.start hf hg hp) P hul [123] hnd (hk := fun i2 _ P S g => ⟨rfl, ?_⟩); rw [haf] at P; have hZ := S.z; have hlb := S.lb; have hmn := S.mn; (try dsimp only at g)) | (refine m_is S P hul [125] h93q (hk := fun i3 _ P S g => ⟨rfl, ?_⟩); have hZ := S.z; have hlb := S.lb; have hmn := S.mn; (try dsimp only at g); have hdz := S.dz; (try dsimp only at g)))
 rw [aftQ_f h93q] at P
 have hsl := zAf (r.drop 1)
 have hR : tabR T (r.drop 1) = tabF T ((r.drop 1).length + 1) [] [] (zA3 (r.drop 1)) := by unfold tabR; rw [h93, if_neg Bool.false_ne_true]
 refine qt_loop hul hT hdv (ls := r.length) (n1 := h.next) (R := tabR T (r.drop 1)) (fun v4 v5 v6 v7 v9 A L ns' vs' r' i' e' tk' m' h' hL hR1 he1 hl2 P S g2 => ?_) (fun v4 v5 v6 v7 v9 A L ns' vs' r' i' zk tk' m' h' n' ty hL hR1 hl2 P S g2 g3 g4 => ?_) ((r.drop 1).length + 1) [] [] (zA3 (r.drop 1)) .nils .nils [] _ _ _ _ _ _ _ _ (by omega) (by omega) (by omega) (by (try dsimp only [List.length]); omega) rfl (fun v hv => by cases hv) P (.inl ⟨rfl, rfl, rfl, rfl, rfl⟩) (S.up (by (try dsimp only); omega)) hR.symm (by (try dsimp only); omega)
 · have hdz := S.dz
   have hZ := S.z
   have hLz := hL.z
   have hmn := S.mn
   (try simp only [zAb, zA0, zAh, zA8, reduceIte])
   repeat (first | refine st_ rfl ?_ | ((first | refine rg_ ?_ | refine go_ ?_); refine gw_ (by simp (disch := omega) [hX, hZ, hLz, hdz, hLl, -CVal.strip, st_i, st_s, st_n, st_o, st_0, st_p]; rfl) ?_))
   (first | (refine W.ret ?_; (try simp only [zAb, zA0, zA8]); refine endW.of (.inl rfl) rfl ?_) | refine endW.of (.inl rfl) rfl ?_ | refine endW.of (.inr rfl) rfl ?_); generalize e : zAc .. = r; simp (disch := omega) [hX, hZ, hLz, hdz, hLl, -CVal.strip, st_i, st_s, st_n, st_o, st_0, st_p, c35] at e; subst e
   refine hk (nTab ns' vs') _ i' _ _ _ ⟨.inl ⟨rfl, .inr ⟨hR1, he1⟩⟩, Node.nTab _ _, hl2⟩ P ?_ ?_
   · (try dsimp only); omega
   · exact S.f.2.le (by (try dsimp only); omega)
 · have hdz := S.dz
   have hZ := S.zj
   have hLz := hL.z
   have hmn := S.mn
   (try simp only [zAb, zA0, zAh, zA8, reduceIte])
   (first | (refine W.ret ?_; (try simp only [zAb, zA0, zA8]); refine endW.of (.inl rfl) rfl ?_) | refine endW.of (.inl rfl) rfl ?_ | refine endW.of (.inr rfl) rfl ?_); generalize e : zAc .. = r; simp (disch := omega) [hX, hZ, hLz, hdz, hLl, -CVal.strip, st_i, st_s, st_n, st_o, st_0, st_p, c35] at e; subst e
   refine hk (nTab ns' vs') _ i' _ _ _ ⟨.inl ⟨rfl, .inl ⟨hR1, rfl⟩⟩, Node.nTab _ _, hl2⟩ P ?_ ?_
   · (try dsimp only); omega
   · exact g4.le (by (try dsimp only); omega)
end Go.Proofs.YtdanefpnfnippaaGreatDoor.IrJ
namespace Go.Proofs.YtdanefpnfnippaaGreatDoor.IrJ
open Go Go.CI
open Go.LexF hiding zC3 zD5
set_option maxRecDepth 100000
set_option maxHeartbeats 4000000
set_option linter.unusedVariables false
set_option linter.unusedSimpArgs false
attribute [local irreducible] W Wo Wc WoR
theorem wHM1 {P : Prop} (h : P := by refine Wc.mkG 15 c15 (by kernel_rfl) rfl ?_; generalize e : zAa .. = r; simp (disch := omega) [c15] at e; subst e; repeat (first | refine st_ rfl ?_ | ((first | refine rg_ ?_ | refine go_ ?_); refine gw_ (by simp (disch := omega) [hX, hZ, hul, hi0, hPl, hix, hil, hdd, hLl, -CVal.strip, st_i, st_s, st_n, st_o, st_0, st_p, nZero, nStr, nNul, nBool, nInt, hin, hdv, c15]; rfl) ?_) | (refine zDx (e := 0) P hul9 fun i' _ _ P' g _ => ⟨rfl, ?_⟩; rw [hS] at P'; have hi0 := P'.n; have hPl := P'.l; obtain ⟨hix, hil⟩ := P'.get hSc; have hin : i' ≠ (u.length : Int) := (by omega); have hil2 : i' < (u.length : Int) := hil; (try dsimp only at g)) | (refine qf_0 (u := u) (i := i') 3 fun _ _ g _ => ⟨rfl, ?_⟩; try dsimp only at g) | ((first | (refine W.ret ?_; (try simp only [zAb, zA0, zA8]); refine endW.of (.inl rfl) rfl ?_) | refine endW.of (.inr rfl) rfl ?_); generalize e : zAc .. = r; simp (disch := omega) [hX, hZ, hul, hi0, hPl, hix, hil, hdd, hLl, -CVal.strip, st_i, st_s, st_n, st_o, st_0, st_p, nZero, nStr, nNul, nBool, nInt, hin, hdv, c15] at e; subst e; (refine hk _ _ _ (P') ?_ ?_; omega; exact ut_)))) : P := h
variable {zk : Option Nat} {n0 : Nat} {E0 : EE} {p b br : Nat} {cs : List CVal} {tk : NN} {m : Nat} {h : CHeap} {u r : B8} {i e : Int}
theorem lq_F {T : B8 → PR} {dv : Int} {M : Nat} (hT : QC 15 T (dv + 1) M) (hdv : 0 ≤ dv ∧ dv < 1000) (hul : u.length < 25000) (hr : r.length ≤ M) (h91 : isF [91] r = true) (hS2 : zA3 r = r) (P : Pos u r i) (p dd : Nat) (h : CHeap) (K : KT) (hk : ∀ v r' i' e' n' ty, QO (fun r => zEi T (r.drop 1)) 0 r v r' e' → Pos u r' i' → h.next ≤ n' → zA9 ty n' → K v ⟨zA5 h.ents p (rq u i' e'), n', ty⟩) (hf : Fit h) (hg : zA4 h.ents p = some (rq u i 0)) (hp : p < h.next) : Wc tree.getF 34 [.ptr p dd 0, .int .i64 dv] h K := by
 cases h93 : isF [93] (zA3 (r.drop 1)) with
 | true => exact lq_true hT hdv hul hr h91 hS2 h93 P p dd h K hk hf hg hp
 | false => exact lq_false hT hdv hul hr h91 hS2 h93 P p dd h K hk hf hg hp
theorem tq_F {T : B8 → PR} {dv : Int} {M : Nat} (hT : QC 15 T (dv + 1) M) (hdv : 0 ≤ dv ∧ dv < 1000) (hul : u.length < 25000) (hr : r.length ≤ M) (h91 : isF [123] r = true) (hS2 : zA3 r = r) (P : Pos u r i) (p dd : Nat) (h : CHeap) (K : KT) (hk : ∀ v r' i' e' n' ty, QO (fun r => tabR T (r.drop 1)) 0 r v r' e' → Pos u r' i' → h.next ≤ n' → zA9 ty n' → K v ⟨zA5 h.ents p (rq u i' e'), n', ty⟩) (hf : Fit h) (hg : zA4 h.ents p = some (rq u i 0)) (hp : p < h.next) : Wc tree.getF 35 [.ptr p dd 0, .int .i64 dv] h K := by
 cases h93 : isF [125] (zA3 (r.drop 1)) with
 | true => exact tq_true hT hdv hul hr h91 hS2 h93 P p dd h K hk hf hg hp
 | false => exact tq_false hT hdv hul hr h91 hS2 h93 P p dd h K hk hf hg hp
theorem qnu_Y {p d : Nat} {u r : B8} {i : Int} (P : Pos u r i) (hul : u.length < 50000) {c : UInt8} {t : B8} (hc : r = c :: t) (hcd : c = 45 ∨ isD c = true) {v : Int} (hv : numV r = some v) (hE : isE (numR r) = false) {h : CHeap} {K : KT} (hk : ∀ i' n' ty, Pos u (numR r) i' → h.next ≤ n' → zA9 ty n' → K (nInt v) ⟨zA5 h.ents p (rq u i' 0), n', ty⟩) (hf : Fit h := by exact ft_) (hg : zA4 h.ents p = some (rq u i 0) := by exact ge2_) (hp : p < h.next := by exact lt_) : Wc tree.getF 36 [.ptr p d 0] h K := by
 refine qnu_F P hul hc hcd (fun v' hv' _ i' n' ty P' g1 g2 => ?_) (fun hno => ?_) hf hg hp
 · rw [hv] at hv'; cases hv'; exact hk i' n' ty P' g1 g2
 · rcases hno with hno | hno
   · rw [hv] at hno; cases hno
   · rw [hE] at hno; cases hno
theorem qnu_N {p d : Nat} {u r : B8} {i : Int} (P : Pos u r i) (hul : u.length < 50000) {c : UInt8} {t : B8} (hc : r = c :: t) (hcd : c = 45 ∨ isD c = true) (hno : numV r = none ∨ isE (numR r) = true) {h : CHeap} {K : KT} (hk : ∀ r' i' n' ty, Pos u r' i' → r'.length ≤ r.length → h.next ≤ n' → zA9 ty n' → K nZero ⟨zA5 h.ents p (rq u i' 2), n', ty⟩) (hf : Fit h := by exact ft_) (hg : zA4 h.ents p = some (rq u i 0) := by exact ge2_) (hp : p < h.next := by exact lt_) : Wc tree.getF 36 [.ptr p d 0] h K := by
 refine qnu_F P hul hc hcd (fun v' hv' hE i' n' ty P' g1 g2 => ?_) (fun _ => hk) hf hg hp
 · rcases hno with hno | hno
   · rw [hv'] at hno; cases hno
   · rw [hE] at hno; cases hno
theorem xf_ {u r S : B8} {i : Int} (P : Pos u r i) (hul : u.length < 25000) (hS : zA3 r = S) : u.length < 90000 ∧ u.length < 50000 ∧ r.length < 25000 ∧ S.length < 25000 := by
 have h1 := P.l
 have h2 := P.n
 have h3 := zAf r
 rw [hS] at h3
 exact ⟨by omega, by omega, by omega, by omega⟩
theorem xq_e {p d : Nat} {u r : B8} {i : Int} {dv : Int} (P : Pos u r i) (hul : u.length < 25000) (S : B8) (hS : zA3 r = S) (hS2 : zA3 S = S) {e : Int} (he : e ≠ 0) {h : CHeap} {K : KT} (hk : ∀ i' n' ty, Pos u (S) i' → h.next ≤ n' → zA9 ty n' → K (nZero) ⟨zA5 h.ents p (rq u i' (e)), n', ty⟩) (hf : Fit h) (hg : zA4 h.ents p = some (rq u i e)) (hp : p < h.next) : Wc tree.getF 15 [.ptr p d 0, .int .i64 dv] h K := by
 obtain ⟨hu, hut, hX⟩ := fx4 hf
 have hZ := fx6 hf hg
 have hi0 := P.n
 have hPl := P.l
 have hix := trivial
 have hil := hix; have hdd := hix; have hLl := hix
 obtain ⟨hul9, hul5, hrl, hSl⟩ := xf_ P hul hS
 refine Wc.mkG 15 c15 (by kernel_rfl) rfl ?_
 generalize e : zAa .. = r
 simp (disch := omega) [c15] at e
 subst e
 repeat (first | refine st_ rfl ?_ | ((first | refine rg_ ?_ | refine go_ ?_); refine gw_ (by simp (disch := omega) [hX, hZ, hul, hi0, hPl, hix, hil, hdd, hLl, -CVal.strip, st_i, st_s, st_n, st_o, st_0, st_p, he, nZero, c15]; rfl) ?_) | (refine zDx (e := e) P hul9 fun i' _ _ P' g _ => ⟨rfl, ?_⟩; rw [hS] at P'; have hi0 := P'.n; have hPl := P'.l; (try dsimp only at g)) | (refine qf_1 (u := u) (i := i') e 2 he fun _ _ g _ => ⟨rfl, ?_⟩; try dsimp only at g) | ((first | (refine W.ret ?_; (try simp only [zAb, zA0, zA8]); refine endW.of (.inl rfl) rfl ?_) | refine endW.of (.inr rfl) rfl ?_); generalize e : zAc .. = r; simp (disch := omega) [hX, hZ, hul, hi0, hPl, hix, hil, hdd, hLl, -CVal.strip, st_i, st_s, st_n, st_o, st_0, st_p, he, nZero, c15] at e; subst e; (refine hk _ _ _ (P') ?_ ?_; omega; exact ut_)))
theorem xq_nil {p d : Nat} {u r : B8} {i : Int} {dv : Int} (P : Pos u r i) (hul : u.length < 25000) (S : B8) (hS : zA3 r = S) (hS2 : zA3 S = S) (hSc : S = []) {h : CHeap} {K : KT} (hk : ∀ i' n' ty, Pos u (S) i' → h.next ≤ n' → zA9 ty n' → K (nZero) ⟨zA5 h.ents p (rq u i' (2)), n', ty⟩) (hf : Fit h) (hg : zA4 h.ents p = some (rq u i 0)) (hp : p < h.next) : Wc tree.getF 15 [.ptr p d 0, .int .i64 dv] h K := by
 obtain ⟨hu, hut, hX⟩ := fx4 hf
 have hZ := fx6 hf hg
 have hi0 := P.n
 have hPl := P.l
 have hix := trivial
 have hil := hix; have hdd := hix; have hLl := hix
 obtain ⟨hul9, hul5, hrl, hSl⟩ := xf_ P hul hS
 refine Wc.mkG 15 c15 (by kernel_rfl) rfl ?_
 generalize e : zAa .. = r
 simp (disch := omega) [c15] at e
 subst e
 repeat (first | refine st_ rfl ?_ | ((first | refine rg_ ?_ | refine go_ ?_); refine gw_ (by simp (disch := omega) [hX, hZ, hul, hi0, hPl, hix, hil, hdd, hLl, -CVal.strip, st_i, st_s, st_n, st_o, st_0, st_p, nZero, c15]; rfl) ?_) | (refine zDx (e := 0) P hul9 fun i' _ _ P' g _ => ⟨rfl, ?_⟩; rw [hS] at P'; have hi0 := P'.n; have hPl := P'.l; have hil : (u.length : Int) ≤ i' := (by (rw [hSc] at hPl; simp at hPl; omega)); have hix : i' = (u.length : Int) := (by (have := P'.le; omega)); (try dsimp only at g)) | (refine qf_0 (u := u) (i := (u.length : Int)) 2 fun _ _ g _ => ⟨rfl, ?_⟩; try dsimp only at g) | (refine qf_0 (u := u) (i := i') 2 fun _ _ g _ => ⟨rfl, ?_⟩; try dsimp only at g) | ((first | (refine W.ret ?_; (try simp only [zAb, zA0, zA8]); refine endW.of (.inl rfl) rfl ?_) | refine endW.of (.inr rfl) rfl ?_); generalize e : zAc .. = r; simp (disch := omega) [hX, hZ, hul, hi0, hPl, hix, hil, hdd, hLl, -CVal.strip, st_i, st_s, st_n, st_o, st_0, st_p, nZero, c15] at e; subst e; (refine hk _ _ _ ((by first | exact P' | (rw [hix] at P'; exact P'))) ?_ ?_; omega; exact ut_)))
theorem xq_str {p d : Nat} {u r : B8} {i : Int} {dv : Int} (P : Pos u r i) (hul : u.length < 25000) (S : B8) (hS : zA3 r = S) (hS2 : zA3 S = S) {t : B8} (hSc : S = 34 :: t) {t2 : B8} {k : Nat} (hu1 : unqV S = some (t2, k)) {h : CHeap} {K : KT} (hk : ∀ i' n' ty, Pos u (S.drop k) i' → h.next ≤ n' → zA9 ty n' → K (nStr t2) ⟨zA5 h.ents p (rq u i' (0)), n', ty⟩) (hf : Fit h) (hg : zA4 h.ents p = some (rq u i 0)) (hp : p < h.next) : Wc tree.getF 15 [.ptr p d 0, .int .i64 dv] h K := by
 obtain ⟨hu, hut, hX⟩ := fx4 hf
 have hZ := fx6 hf hg
 have hi0 := P.n
 have hPl := P.l
 have hix := trivial
 have hil := hix; have hdd := hix; have hLl := hix
 obtain ⟨hul9, hul5, hrl, hSl⟩ := xf_ P hul hS
 have hin := hix
 refine Wc.mkG 15 c15 (by kernel_rfl) rfl ?_
 generalize e : zAa .. = r
 simp (disch := omega) [c15] at e
 subst e
 repeat (first | refine st_ rfl ?_ | ((first | refine rg_ ?_ | refine go_ ?_); refine gw_ (by simp (disch := omega) [hX, hZ, hul, hi0, hPl, hix, hil, hdd, hLl, -CVal.strip, st_i, st_s, st_n, st_o, st_0, st_p, nZero, nStr, nNul, nBool, nInt, hin, c15]; rfl) ?_) | (refine zDx (e := 0) P hul9 fun i' _ _ P' g _ => ⟨rfl, ?_⟩; rw [hS] at P'; have hi0 := P'.n; have hPl := P'.l; obtain ⟨hix, hil⟩ := P'.get hSc; have hin : i' ≠ (u.length : Int) := (by omega); have hil2 : i' < (u.length : Int) := hil; (try dsimp only at g)) | (refine qt_y P' hul5 (by omega) rfl (by rw [hS2]; exact hu1) (by rw [hS2]; exact unqV_len hu1) fun i' _ _ P' g _ => ⟨rfl, ?_⟩; (try dsimp only at g); rw [hS2] at P') | ((first | (refine W.ret ?_; (try simp only [zAb, zA0, zA8]); refine endW.of (.inl rfl) rfl ?_) | refine endW.of (.inr rfl) rfl ?_); generalize e : zAc .. = r; simp (disch := omega) [hX, hZ, hul, hi0, hPl, hix, hil, hdd, hLl, -CVal.strip, st_i, st_s, st_n, st_o, st_0, st_p, nZero, nStr, nNul, nBool, nInt, hin, c15] at e; subst e; (refine hk _ _ _ (P') ?_ ?_; omega; exact ut_)))
theorem xq_bad {p d : Nat} {u r : B8} {i : Int} {dv : Int} (P : Pos u r i) (hul : u.length < 25000) (S : B8) (hS : zA3 r = S) (hS2 : zA3 S = S) {t : B8} (hSc : S = 34 :: t) (hu1 : unqV S = none) {h : CHeap} {K : KT} (hk : ∀ i' n' ty, Pos u (S) i' → h.next ≤ n' → zA9 ty n' → K (nStr []) ⟨zA5 h.ents p (rq u i' (2)), n', ty⟩) (hf : Fit h) (hg : zA4 h.ents p = some (rq u i 0)) (hp : p < h.next) : Wc tree.getF 15 [.ptr p d 0, .int .i64 dv] h K := by
 obtain ⟨hu, hut, hX⟩ := fx4 hf
 have hZ := fx6 hf hg
 have hi0 := P.n
 have hPl := P.l
 have hix := trivial
 have hil := hix; have hdd := hix; have hLl := hix
 obtain ⟨hul9, hul5, hrl, hSl⟩ := xf_ P hul hS
 have hin := hix
 refine Wc.mkG 15 c15 (by kernel_rfl) rfl ?_
 generalize e : zAa .. = r
 simp (disch := omega) [c15] at e
 subst e
 repeat (first | refine st_ rfl ?_ | ((first | refine rg_ ?_ | refine go_ ?_); refine gw_ (by simp (disch := omega) [hX, hZ, hul, hi0, hPl, hix, hil, hdd, hLl, -CVal.strip, st_i, st_s, st_n, st_o, st_0, st_p, nZero, nStr, nNul, nBool, nInt, hin, c15]; rfl) ?_) | (refine zDx (e := 0) P hul9 fun i' _ _ P' g _ => ⟨rfl, ?_⟩; rw [hS] at P'; have hi0 := P'.n; have hPl := P'.l; obtain ⟨hix, hil⟩ := P'.get hSc; have hin : i' ≠ (u.length : Int) := (by omega); have hil2 : i' < (u.length : Int) := hil; (try dsimp only at g)) | (refine qt_n P' hul5 (by omega) rfl (by rw [hS2]; exact hu1) fun i' _ _ P' g _ => ⟨rfl, ?_⟩; (try dsimp only at g); rw [hS2] at P') | ((first | (refine W.ret ?_; (try simp only [zAb, zA0, zA8]); refine endW.of (.inl rfl) rfl ?_) | refine endW.of (.inr rfl) rfl ?_); generalize e : zAc .. = r; simp (disch := omega) [hX, hZ, hul, hi0, hPl, hix, hil, hdd, hLl, -CVal.strip, st_i, st_s, st_n, st_o, st_0, st_p, nZero, nStr, nNul, nBool, nInt, hin, c15] at e; subst e; (refine hk _ _ _ (P') ?_ ?_; omega; exact ut_)))
theorem xq_deepl {p d : Nat} {u r : B8} {i : Int} {dv : Int} (P : Pos u r i) (hul : u.length < 25000) (S : B8) (hS : zA3 r = S) (hS2 : zA3 S = S) {t : B8} (hSc : S = 91 :: t) (hdv : dv = 21) {h : CHeap} {K : KT} (hk : ∀ i' n' ty, Pos u (S) i' → h.next ≤ n' → zA9 ty n' → K (nZero) ⟨zA5 h.ents p (rq u i' (3)), n', ty⟩) (hf : Fit h) (hg : zA4 h.ents p = some (rq u i 0)) (hp : p < h.next) : Wc tree.getF 15 [.ptr p d 0, .int .i64 dv] h K := by
 obtain ⟨hu, hut, hX⟩ := fx4 hf
 have hZ := fx6 hf hg
 have hi0 := P.n
 have hPl := P.l
 have hix := trivial
 have hil := hix; have hdd := hix; have hLl := hix
 obtain ⟨hul9, hul5, hrl, hSl⟩ := xf_ P hul hS
 have hin := hix
 exact wHM1
theorem xq_l {p d : Nat} {u r : B8} {i : Int} {dv : Int} (P : Pos u r i) (hul : u.length < 25000) (S : B8) (hS : zA3 r = S) (hS2 : zA3 S = S) {t : B8} (hSc : S = 91 :: t) {T : B8 → PR} (hT : QC 15 T (dv + 1) 25000) (hdv : dv ≤ 20) (hd0 : 0 ≤ dv) {h : CHeap} {K : KT} (hk : ∀ v r' i' e' n' ty, QO (fun r => zEi T (r.drop 1)) 0 S v r' e' → Pos u r' i' → h.next ≤ n' → zA9 ty n' → K v ⟨zA5 h.ents p (rq u i' e'), n', ty⟩) (hf : Fit h) (hg : zA4 h.ents p = some (rq u i 0)) (hp : p < h.next) : Wc tree.getF 15 [.ptr p d 0, .int .i64 dv] h K := by
 obtain ⟨hu, hut, hX⟩ := fx4 hf
 have hZ := fx6 hf hg
 have hi0 := P.n
 have hPl := P.l
 have hix := trivial
 have hil := hix; have hdd := hix; have hLl := hix
 obtain ⟨hul9, hul5, hrl, hSl⟩ := xf_ P hul hS
 have hin := hix
 refine Wc.mkG 15 c15 (by kernel_rfl) rfl ?_
 generalize e : zAa .. = r
 simp (disch := omega) [c15] at e
 subst e
 repeat (first | refine st_ rfl ?_ | ((first | refine rg_ ?_ | refine go_ ?_); refine gw_ (by simp (disch := omega) [hX, hZ, hul, hi0, hPl, hix, hil, hdd, hLl, -CVal.strip, st_i, st_s, st_n, st_o, st_0, st_p, nZero, nStr, nNul, nBool, nInt, hin, hdv, c15]; rfl) ?_) | (refine zDx (e := 0) P hul9 fun i' _ _ P' g _ => ⟨rfl, ?_⟩; rw [hS] at P'; have hi0 := P'.n; have hPl := P'.l; obtain ⟨hix, hil⟩ := P'.get hSc; have hin : i' ≠ (u.length : Int) := (by omega); have hil2 : i' < (u.length : Int) := hil; (try dsimp only at g)) | (refine lq_F hT ⟨hd0, by omega⟩ hul (by omega) (by rw [hSc, isF_c]; rfl) hS2 P' _ _ _ _ (fun v r' i' e' _ _ hO P' g _ => ⟨qo_u hO, ?_⟩) ft_ ge2_ lt_; (try dsimp only at g); obtain ⟨k9, n9, t9, L9, N9, hv, hL1, hN1⟩ := hO.2.1; have hLl := And.intro hL1.z hN1.z; subst hv) | ((first | (refine W.ret ?_; (try simp only [zAb, zA0, zA8]); refine endW.of (.inl rfl) rfl ?_) | refine endW.of (.inr rfl) rfl ?_); generalize e : zAc .. = r; simp (disch := omega) [hX, hZ, hul, hi0, hPl, hix, hil, hdd, hLl, -CVal.strip, st_i, st_s, st_n, st_o, st_0, st_p, nZero, nStr, nNul, nBool, nInt, hin, hdv, c15] at e; subst e; (refine hk _ _ _ _ _ _ hO P' ?_ ?_; omega; exact ut_)))
theorem xq_deept {p d : Nat} {u r : B8} {i : Int} {dv : Int} (P : Pos u r i) (hul : u.length < 25000) (S : B8) (hS : zA3 r = S) (hS2 : zA3 S = S) {t : B8} (hSc : S = 123 :: t) (hdv : dv = 21) {h : CHeap} {K : KT} (hk : ∀ i' n' ty, Pos u (S) i' → h.next ≤ n' → zA9 ty n' → K (nZero) ⟨zA5 h.ents p (rq u i' (3)), n', ty⟩) (hf : Fit h) (hg : zA4 h.ents p = some (rq u i 0)) (hp : p < h.next) : Wc tree.getF 15 [.ptr p d 0, .int .i64 dv] h K := by
 obtain ⟨hu, hut, hX⟩ := fx4 hf
 have hZ := fx6 hf hg
 have hi0 := P.n
 have hPl := P.l
 have hix := trivial
 have hil := hix; have hdd := hix; have hLl := hix
 obtain ⟨hul9, hul5, hrl, hSl⟩ := xf_ P hul hS
 have hin := hix
 exact wHM1
theorem xq_t {p d : Nat} {u r : B8} {i : Int} {dv : Int} (P : Pos u r i) (hul : u.length < 25000) (S : B8) (hS : zA3 r = S) (hS2 : zA3 S = S) {t : B8} (hSc : S = 123 :: t) {T : B8 → PR} (hT : QC 15 T (dv + 1) 25000) (hdv : dv ≤ 20) (hd0 : 0 ≤ dv) {h : CHeap} {K : KT} (hk : ∀ v r' i' e' n' ty, QO (fun r => tabR T (r.drop 1)) 0 S v r' e' → Pos u r' i' → h.next ≤ n' → zA9 ty n' → K v ⟨zA5 h.ents p (rq u i' e'), n', ty⟩) (hf : Fit h) (hg : zA4 h.ents p = some (rq u i 0)) (hp : p < h.next) : Wc tree.getF 15 [.ptr p d 0, .int .i64 dv] h K := by
 obtain ⟨hu, hut, hX⟩ := fx4 hf
 have hZ := fx6 hf hg
 have hi0 := P.n
 have hPl := P.l
 have hix := trivial
 have hil := hix; have hdd := hix; have hLl := hix
 obtain ⟨hul9, hul5, hrl, hSl⟩ := xf_ P hul hS
 have hin := hix
 refine Wc.mkG 15 c15 (by kernel_rfl) rfl ?_
 generalize e : zAa .. = r
 simp (disch := omega) [c15] at e
 subst e
 repeat (first | refine st_ rfl ?_ | ((first | refine rg_ ?_ | refine go_ ?_); refine gw_ (by simp (disch := omega) [hX, hZ, hul, hi0, hPl, hix, hil, hdd, hLl, -CVal.strip, st_i, st_s, st_n, st_o, st_0, st_p, nZero, nStr, nNul, nBool, nInt, hin, hdv, c15]; rfl) ?_) | (refine zDx (e := 0) P hul9 fun i' _ _ P' g _ => ⟨rfl, ?_⟩; rw [hS] at P'; have hi0 := P'.n; have hPl := P'.l; obtain ⟨hix, hil⟩ := P'.get hSc; have hin : i' ≠ (u.length : Int) := (by omega); have hil2 : i' < (u.length : Int) := hil; (try dsimp only at g)) | (refine tq_F hT ⟨hd0, by omega⟩ hul (by omega) (by rw [hSc, isF_c]; rfl) hS2 P' _ _ _ _ (fun v r' i' e' _ _ hO P' g _ => ⟨qo_u hO, ?_⟩) ft_ ge2_ lt_; (try dsimp only at g); obtain ⟨k9, n9, t9, L9, N9, hv, hL1, hN1⟩ := hO.2.1; have hLl := And.intro hL1.z hN1.z; subst hv) | ((first | (refine W.ret ?_; (try simp only [zAb, zA0, zA8]); refine endW.of (.inl rfl) rfl ?_) | refine endW.of (.inr rfl) rfl ?_); generalize e : zAc .. = r; simp (disch := omega) [hX, hZ, hul, hi0, hPl, hix, hil, hdd, hLl, -CVal.strip, st_i, st_s, st_n, st_o, st_0, st_p, nZero, nStr, nNul, nBool, nInt, hin, hdv, c15] at e; subst e; (refine hk _ _ _ _ _ _ hO P' ?_ ?_; omega; exact ut_)))
theorem xq_numm {p d : Nat} {u r : B8} {i : Int} {dv : Int} (P : Pos u r i) (hul : u.length < 25000) (S : B8) (hS : zA3 r = S) (hS2 : zA3 S = S) {t : B8} (hSc : S = 45 :: t)  {v : Int} (hv : numV S = some v) (hE : isE (numR S) = false) {h : CHeap} {K : KT} (hk : ∀ i' n' ty, Pos u (numR S) i' → h.next ≤ n' → zA9 ty n' → K (nInt v) ⟨zA5 h.ents p (rq u i' (0)), n', ty⟩) (hf : Fit h) (hg : zA4 h.ents p = some (rq u i 0)) (hp : p < h.next) : Wc tree.getF 15 [.ptr p d 0, .int .i64 dv] h K := by
 obtain ⟨hu, hut, hX⟩ := fx4 hf
 have hZ := fx6 hf hg
 have hi0 := P.n
 have hPl := P.l
 have hix := trivial
 have hil := hix; have hdd := hix; have hLl := hix
 obtain ⟨hul9, hul5, hrl, hSl⟩ := xf_ P hul hS
 have hin := hix
 refine Wc.mkG 15 c15 (by kernel_rfl) rfl ?_
 generalize e : zAa .. = r
 simp (disch := omega) [c15] at e
 subst e
 repeat (first | refine st_ rfl ?_ | ((first | refine rg_ ?_ | refine go_ ?_); refine gw_ (by simp (disch := omega) [hX, hZ, hul, hi0, hPl, hix, hil, hdd, hLl, -CVal.strip, st_i, st_s, st_n, st_o, st_0, st_p, nZero, nStr, nNul, nBool, nInt, hin, c15]; rfl) ?_) | (refine zDx (e := 0) P hul9 fun i' _ _ P' g _ => ⟨rfl, ?_⟩; rw [hS] at P'; have hi0 := P'.n; have hPl := P'.l; obtain ⟨hix, hil⟩ := P'.get hSc; have hin : i' ≠ (u.length : Int) := (by omega); have hil2 : i' < (u.length : Int) := hil; (try dsimp only at g)) | (refine qnu_Y P' hul5 hSc (.inl rfl) hv hE fun i' _ _ P' g _ => ⟨rfl, ?_⟩; (try dsimp only at g)) | ((first | (refine W.ret ?_; (try simp only [zAb, zA0, zA8]); refine endW.of (.inl rfl) rfl ?_) | refine endW.of (.inr rfl) rfl ?_); generalize e : zAc .. = r; simp (disch := omega) [hX, hZ, hul, hi0, hPl, hix, hil, hdd, hLl, -CVal.strip, st_i, st_s, st_n, st_o, st_0, st_p, nZero, nStr, nNul, nBool, nInt, hin, c15] at e; subst e; (refine hk _ _ _ (P') ?_ ?_; omega; exact ut_)))
theorem xq_nonm {p d : Nat} {u r : B8} {i : Int} {dv : Int} (P : Pos u r i) (hul : u.length < 25000) (S : B8) (hS : zA3 r = S) (hS2 : zA3 S = S) {t : B8} (hSc : S = 45 :: t)  (hno : numV S = none ∨ isE (numR S) = true) {h : CHeap} {K : KT} (hk : ∀ r' i' n' ty, Pos u r' i' → r'.length ≤ S.length → h.next ≤ n' → zA9 ty n' → K nZero ⟨zA5 h.ents p (rq u i' 2), n', ty⟩) (hf : Fit h) (hg : zA4 h.ents p = some (rq u i 0)) (hp : p < h.next) : Wc tree.getF 15 [.ptr p d 0, .int .i64 dv] h K := by
 obtain ⟨hu, hut, hX⟩ := fx4 hf
 have hZ := fx6 hf hg
 have hi0 := P.n
 have hPl := P.l
 have hix := trivial
 have hil := hix; have hdd := hix; have hLl := hix
 obtain ⟨hul9, hul5, hrl, hSl⟩ := xf_ P hul hS
 have hin := hix
 refine Wc.mkG 15 c15 (by kernel_rfl) rfl ?_
 generalize e : zAa .. = r
 simp (disch := omega) [c15] at e
 subst e
 repeat (first | refine st_ rfl ?_ | ((first | refine rg_ ?_ | refine go_ ?_); refine gw_ (by simp (disch := omega) [hX, hZ, hul, hi0, hPl, hix, hil, hdd, hLl, -CVal.strip, st_i, st_s, st_n, st_o, st_0, st_p, nZero, nStr, nNul, nBool, nInt, hin, c15]; rfl) ?_) | (refine zDx (e := 0) P hul9 fun i' _ _ P' g _ => ⟨rfl, ?_⟩; rw [hS] at P'; have hi0 := P'.n; have hPl := P'.l; obtain ⟨hix, hil⟩ := P'.get hSc; have hin : i' ≠ (u.length : Int) := (by omega); have hil2 : i' < (u.length : Int) := hil; (try dsimp only at g)) | (refine qnu_N P' hul5 hSc (.inl rfl) hno fun r' i' _ _ P' hle g _ => ⟨rfl, ?_⟩; (try dsimp only at g)) | ((first | (refine W.ret ?_; (try simp only [zAb, zA0, zA8]); refine endW.of (.inl rfl) rfl ?_) | refine endW.of (.inr rfl) rfl ?_); generalize e : zAc .. = r; simp (disch := omega) [hX, hZ, hul, hi0, hPl, hix, hil, hdd, hLl, -CVal.strip, st_i, st_s, st_n, st_o, st_0, st_p, nZero, nStr, nNul, nBool, nInt, hin, c15] at e; subst e; (refine hk _ _ _ _ P' hle ?_ ?_; omega; exact ut_)))
theorem xq_numd {p d : Nat} {u r : B8} {i : Int} {dv : Int} (P : Pos u r i) (hul : u.length < 25000) (S : B8) (hS : zA3 r = S) (hS2 : zA3 S = S) {c : UInt8} {t : B8} (hSc : S = c :: t) (hcd1 : 48 ≤ c.toNat) (hcd2 : c.toNat ≤ 57) {v : Int} (hv : numV S = some v) (hE : isE (numR S) = false) {h : CHeap} {K : KT} (hk : ∀ i' n' ty, Pos u (numR S) i' → h.next ≤ n' → zA9 ty n' → K (nInt v) ⟨zA5 h.ents p (rq u i' (0)), n', ty⟩) (hf : Fit h) (hg : zA4 h.ents p = some (rq u i 0)) (hp : p < h.next) : Wc tree.getF 15 [.ptr p d 0, .int .i64 dv] h K := by
 obtain ⟨hu, hut, hX⟩ := fx4 hf
 have hZ := fx6 hf hg
 have hi0 := P.n
 have hPl := P.l
 have hix := trivial
 have hil := hix; have hdd := hix; have hLl := hix
 obtain ⟨hul9, hul5, hrl, hSl⟩ := xf_ P hul hS
 have hin := hix
 refine Wc.mkG 15 c15 (by kernel_rfl) rfl ?_
 generalize e : zAa .. = r
 simp (disch := omega) [c15] at e
 subst e
 repeat (first | refine st_ rfl ?_ | ((first | refine rg_ ?_ | refine go_ ?_); refine gw_ (by simp (disch := omega) [hX, hZ, hul, hi0, hPl, hix, hil, hdd, hLl, -CVal.strip, st_i, st_s, st_n, st_o, st_0, st_p, nZero, nStr, nNul, nBool, nInt, hin, hcd1, hcd2, c15]; rfl) ?_) | (refine zDx (e := 0) P hul9 fun i' _ _ P' g _ => ⟨rfl, ?_⟩; rw [hS] at P'; have hi0 := P'.n; have hPl := P'.l; obtain ⟨hix, hil⟩ := P'.get hSc; have hin : i' ≠ (u.length : Int) := (by omega); have hil2 : i' < (u.length : Int) := hil; (try dsimp only at g)) | (refine qnu_Y P' hul5 hSc (.inr ((zEp c).2 ⟨hcd1, hcd2⟩)) hv hE fun i' _ _ P' g _ => ⟨rfl, ?_⟩; (try dsimp only at g)) | ((first | (refine W.ret ?_; (try simp only [zAb, zA0, zA8]); refine endW.of (.inl rfl) rfl ?_) | refine endW.of (.inr rfl) rfl ?_); generalize e : zAc .. = r; simp (disch := omega) [hX, hZ, hul, hi0, hPl, hix, hil, hdd, hLl, -CVal.strip, st_i, st_s, st_n, st_o, st_0, st_p, nZero, nStr, nNul, nBool, nInt, hin, hcd1, hcd2, c15] at e; subst e; (refine hk _ _ _ (P') ?_ ?_; omega; exact ut_)))
theorem xq_nond {p d : Nat} {u r : B8} {i : Int} {dv : Int} (P : Pos u r i) (hul : u.length < 25000) (S : B8) (hS : zA3 r = S) (hS2 : zA3 S = S) {c : UInt8} {t : B8} (hSc : S = c :: t) (hcd1 : 48 ≤ c.toNat) (hcd2 : c.toNat ≤ 57) (hno : numV S = none ∨ isE (numR S) = true) {h : CHeap} {K : KT} (hk : ∀ r' i' n' ty, Pos u r' i' → r'.length ≤ S.length → h.next ≤ n' → zA9 ty n' → K nZero ⟨zA5 h.ents p (rq u i' 2), n', ty⟩) (hf : Fit h) (hg : zA4 h.ents p = some (rq u i 0)) (hp : p < h.next) : Wc tree.getF 15 [.ptr p d 0, .int .i64 dv] h K := by
 obtain ⟨hu, hut, hX⟩ := fx4 hf
 have hZ := fx6 hf hg
 have hi0 := P.n
 have hPl := P.l
 have hix := trivial
 have hil := hix; have hdd := hix; have hLl := hix
 obtain ⟨hul9, hul5, hrl, hSl⟩ := xf_ P hul hS
 have hin := hix
 refine Wc.mkG 15 c15 (by kernel_rfl) rfl ?_
 generalize e : zAa .. = r
 simp (disch := omega) [c15] at e
 subst e
 repeat (first | refine st_ rfl ?_ | ((first | refine rg_ ?_ | refine go_ ?_); refine gw_ (by simp (disch := omega) [hX, hZ, hul, hi0, hPl, hix, hil, hdd, hLl, -CVal.strip, st_i, st_s, st_n, st_o, st_0, st_p, nZero, nStr, nNul, nBool, nInt, hin, hcd1, hcd2, c15]; rfl) ?_) | (refine zDx (e := 0) P hul9 fun i' _ _ P' g _ => ⟨rfl, ?_⟩; rw [hS] at P'; have hi0 := P'.n; have hPl := P'.l; obtain ⟨hix, hil⟩ := P'.get hSc; have hin : i' ≠ (u.length : Int) := (by omega); have hil2 : i' < (u.length : Int) := hil; (try dsimp only at g)) | (refine qnu_N P' hul5 hSc (.inr ((zEp c).2 ⟨hcd1, hcd2⟩)) hno fun r' i' _ _ P' hle g _ => ⟨rfl, ?_⟩; (try dsimp only at g)) | ((first | (refine W.ret ?_; (try simp only [zAb, zA0, zA8]); refine endW.of (.inl rfl) rfl ?_) | refine endW.of (.inr rfl) rfl ?_); generalize e : zAc .. = r; simp (disch := omega) [hX, hZ, hul, hi0, hPl, hix, hil, hdd, hLl, -CVal.strip, st_i, st_s, st_n, st_o, st_0, st_p, nZero, nStr, nNul, nBool, nInt, hin, hcd1, hcd2, c15] at e; subst e; (refine hk _ _ _ _ P' hle ?_ ?_; omega; exact ut_)))
theorem xq_nul {p d : Nat} {u r : B8} {i : Int} {dv : Int} (P : Pos u r i) (hul : u.length < 25000) (S : B8) (hS : zA3 r = S) (hS2 : zA3 S = S) {c : UInt8} {t : B8} (hSc : S = c :: t) (n34 : c.toNat ≠ 34) (n91 : c.toNat ≠ 91) (n123 : c.toNat ≠ 123) (n45 : c.toNat ≠ 45) (nd : c.toNat < 48 ∨ 57 < c.toNat) (h1 : isQ 0 [110, 117, 108, 108] S = true) {h : CHeap} {K : KT} (hk : ∀ i' n' ty, Pos u (S.drop 4) i' → h.next ≤ n' → zA9 ty n' → K (nNul) ⟨zA5 h.ents p (rq u i' (0)), n', ty⟩) (hf : Fit h) (hg : zA4 h.ents p = some (rq u i 0)) (hp : p < h.next) : Wc tree.getF 15 [.ptr p d 0, .int .i64 dv] h K := by
 obtain ⟨hu, hut, hX⟩ := fx4 hf
 have hZ := fx6 hf hg
 have hi0 := P.n
 have hPl := P.l
 have hix := trivial
 have hil := hix; have hdd := hix; have hLl := hix
 obtain ⟨hul9, hul5, hrl, hSl⟩ := xf_ P hul hS
 have hin := hix
 have hc8 : c.toNat < 256 := UInt8.toNat_lt c
 rcases nd with nd | nd
 all_goals
  refine Wc.mkG 15 c15 (by kernel_rfl) rfl ?_
  generalize e : zAa .. = r
  simp (disch := omega) [c15] at e
  subst e
  repeat (first | refine st_ rfl ?_ | ((first | refine rg_ ?_ | refine go_ ?_); refine gw_ (by simp (disch := omega) [hX, hZ, hul, hi0, hPl, hix, hil, hdd, hLl, -CVal.strip, st_i, st_s, st_n, st_o, st_0, st_p, nZero, nStr, nNul, nBool, nInt, hin, n34, n91, n123, n45, nd, hc8, c15]; rfl) ?_) | (refine zDx (e := 0) P hul9 fun i' _ _ P' g _ => ⟨rfl, ?_⟩; rw [hS] at P'; have hi0 := P'.n; have hPl := P'.l; obtain ⟨hix, hil⟩ := P'.get hSc; have hin : i' ≠ (u.length : Int) := (by omega); have hil2 : i' < (u.length : Int) := hil; (try dsimp only at g)) | (refine is_F P' hul5 [110, 117, 108, 108] (by decide) h1 fun i' _ _ P' g _ => ⟨rfl, ?_⟩; (try dsimp only at g); rw [zE2 h1, hS2] at P') | ((first | (refine W.ret ?_; (try simp only [zAb, zA0, zA8]); refine endW.of (.inl rfl) rfl ?_) | refine endW.of (.inr rfl) rfl ?_); generalize e : zAc .. = r; simp (disch := omega) [hX, hZ, hul, hi0, hPl, hix, hil, hdd, hLl, -CVal.strip, st_i, st_s, st_n, st_o, st_0, st_p, nZero, nStr, nNul, nBool, nInt, hin, n34, n91, n123, n45, nd, hc8, c15] at e; subst e; (refine hk _ _ _ (P') ?_ ?_; omega; exact ut_)))
theorem xq_tru {p d : Nat} {u r : B8} {i : Int} {dv : Int} (P : Pos u r i) (hul : u.length < 25000) (S : B8) (hS : zA3 r = S) (hS2 : zA3 S = S) {c : UInt8} {t : B8} (hSc : S = c :: t) (n34 : c.toNat ≠ 34) (n91 : c.toNat ≠ 91) (n123 : c.toNat ≠ 123) (n45 : c.toNat ≠ 45) (nd : c.toNat < 48 ∨ 57 < c.toNat) (h1 : isQ 0 [110, 117, 108, 108] S = false) (h2 : isQ 0 [116, 114, 117, 101] S = true) {h : CHeap} {K : KT} (hk : ∀ i' n' ty, Pos u (S.drop 4) i' → h.next ≤ n' → zA9 ty n' → K (nBool 1) ⟨zA5 h.ents p (rq u i' (0)), n', ty⟩) (hf : Fit h) (hg : zA4 h.ents p = some (rq u i 0)) (hp : p < h.next) : Wc tree.getF 15 [.ptr p d 0, .int .i64 dv] h K := by
 obtain ⟨hu, hut, hX⟩ := fx4 hf
 have hZ := fx6 hf hg
 have hi0 := P.n
 have hPl := P.l
 have hix := trivial
 have hil := hix; have hdd := hix; have hLl := hix
 obtain ⟨hul9, hul5, hrl, hSl⟩ := xf_ P hul hS
 have hin := hix
 have hc8 : c.toNat < 256 := UInt8.toNat_lt c
 rcases nd with nd | nd
 all_goals
  refine Wc.mkG 15 c15 (by kernel_rfl) rfl ?_
  generalize e : zAa .. = r
  simp (disch := omega) [c15] at e
  subst e
  repeat (first | refine st_ rfl ?_ | ((first | refine rg_ ?_ | refine go_ ?_); refine gw_ (by simp (disch := omega) [hX, hZ, hul, hi0, hPl, hix, hil, hdd, hLl, -CVal.strip, st_i, st_s, st_n, st_o, st_0, st_p, nZero, nStr, nNul, nBool, nInt, hin, n34, n91, n123, n45, nd, hc8, c15]; rfl) ?_) | (refine zDx (e := 0) P hul9 fun i' _ _ P' g _ => ⟨rfl, ?_⟩; rw [hS] at P'; have hi0 := P'.n; have hPl := P'.l; obtain ⟨hix, hil⟩ := P'.get hSc; have hin : i' ≠ (u.length : Int) := (by omega); have hil2 : i' < (u.length : Int) := hil; (try dsimp only at g)) | (refine is_F P' hul5 [110, 117, 108, 108] (by decide) h1 fun i' _ _ P' g _ => ⟨rfl, ?_⟩; (try dsimp only at g); rw [aftQ_f h1, hS2] at P') | (refine is_F P' hul5 [116, 114, 117, 101] (by decide) h2 fun i' _ _ P' g _ => ⟨rfl, ?_⟩; (try dsimp only at g); rw [zE2 h2, hS2] at P') | ((first | (refine W.ret ?_; (try simp only [zAb, zA0, zA8]); refine endW.of (.inl rfl) rfl ?_) | refine endW.of (.inr rfl) rfl ?_); generalize e : zAc .. = r; simp (disch := omega) [hX, hZ, hul, hi0, hPl, hix, hil, hdd, hLl, -CVal.strip, st_i, st_s, st_n, st_o, st_0, st_p, nZero, nStr, nNul, nBool, nInt, hin, n34, n91, n123, n45, nd, hc8, c15] at e; subst e; (refine hk _ _ _ (P') ?_ ?_; omega; exact ut_)))
theorem xq_fal {p d : Nat} {u r : B8} {i : Int} {dv : Int} (P : Pos u r i) (hul : u.length < 25000) (S : B8) (hS : zA3 r = S) (hS2 : zA3 S = S) {c : UInt8} {t : B8} (hSc : S = c :: t) (n34 : c.toNat ≠ 34) (n91 : c.toNat ≠ 91) (n123 : c.toNat ≠ 123) (n45 : c.toNat ≠ 45) (nd : c.toNat < 48 ∨ 57 < c.toNat) (h1 : isQ 0 [110, 117, 108, 108] S = false) (h2 : isQ 0 [116, 114, 117, 101] S = false) (h3 : isQ 0 [102, 97, 108, 115, 101] S = true) {h : CHeap} {K : KT} (hk : ∀ i' n' ty, Pos u (S.drop 5) i' → h.next ≤ n' → zA9 ty n' → K (nBool 0) ⟨zA5 h.ents p (rq u i' (0)), n', ty⟩) (hf : Fit h) (hg : zA4 h.ents p = some (rq u i 0)) (hp : p < h.next) : Wc tree.getF 15 [.ptr p d 0, .int .i64 dv] h K := by
 obtain ⟨hu, hut, hX⟩ := fx4 hf
 have hZ := fx6 hf hg
 have hi0 := P.n
 have hPl := P.l
 have hix := trivial
 have hil := hix; have hdd := hix; have hLl := hix
 obtain ⟨hul9, hul5, hrl, hSl⟩ := xf_ P hul hS
 have hin := hix
 have hc8 : c.toNat < 256 := UInt8.toNat_lt c
 rcases nd with nd | nd
 all_goals
  refine Wc.mkG 15 c15 (by kernel_rfl) rfl ?_
  generalize e : zAa .. = r
  simp (disch := omega) [c15] at e
  subst e
  repeat (first | refine st_ rfl ?_ | ((first | refine rg_ ?_ | refine go_ ?_); refine gw_ (by simp (disch := omega) [hX, hZ, hul, hi0, hPl, hix, hil, hdd, hLl, -CVal.strip, st_i, st_s, st_n, st_o, st_0, st_p, nZero, nStr, nNul, nBool, nInt, hin, n34, n91, n123, n45, nd, hc8, c15]; rfl) ?_) | (refine zDx (e := 0) P hul9 fun i' _ _ P' g _ => ⟨rfl, ?_⟩; rw [hS] at P'; have hi0 := P'.n; have hPl := P'.l; obtain ⟨hix, hil⟩ := P'.get hSc; have hin : i' ≠ (u.length : Int) := (by omega); have hil2 : i' < (u.length : Int) := hil; (try dsimp only at g)) | (refine is_F P' hul5 [110, 117, 108, 108] (by decide) h1 fun i' _ _ P' g _ => ⟨rfl, ?_⟩; (try dsimp only at g); rw [aftQ_f h1, hS2] at P') | (refine is_F P' hul5 [116, 114, 117, 101] (by decide) h2 fun i' _ _ P' g _ => ⟨rfl, ?_⟩; (try dsimp only at g); rw [aftQ_f h2, hS2] at P') | (refine is_F P' hul5 [102, 97, 108, 115, 101] (by decide) h3 fun i' _ _ P' g _ => ⟨rfl, ?_⟩; (try dsimp only at g); rw [zE2 h3, hS2] at P') | ((first | (refine W.ret ?_; (try simp only [zAb, zA0, zA8]); refine endW.of (.inl rfl) rfl ?_) | refine endW.of (.inr rfl) rfl ?_); generalize e : zAc .. = r; simp (disch := omega) [hX, hZ, hul, hi0, hPl, hix, hil, hdd, hLl, -CVal.strip, st_i, st_s, st_n, st_o, st_0, st_p, nZero, nStr, nNul, nBool, nInt, hin, n34, n91, n123, n45, nd, hc8, c15] at e; subst e; (refine hk _ _ _ (P') ?_ ?_; omega; exact ut_)))
theorem xq_bad2 {p d : Nat} {u r : B8} {i : Int} {dv : Int} (P : Pos u r i) (hul : u.length < 25000) (S : B8) (hS : zA3 r = S) (hS2 : zA3 S = S) {c : UInt8} {t : B8} (hSc : S = c :: t) (n34 : c.toNat ≠ 34) (n91 : c.toNat ≠ 91) (n123 : c.toNat ≠ 123) (n45 : c.toNat ≠ 45) (nd : c.toNat < 48 ∨ 57 < c.toNat) (h1 : isQ 0 [110, 117, 108, 108] S = false) (h2 : isQ 0 [116, 114, 117, 101] S = false) (h3 : isQ 0 [102, 97, 108, 115, 101] S = false) {h : CHeap} {K : KT} (hk : ∀ i' n' ty, Pos u (S) i' → h.next ≤ n' → zA9 ty n' → K (nZero) ⟨zA5 h.ents p (rq u i' (2)), n', ty⟩) (hf : Fit h) (hg : zA4 h.ents p = some (rq u i 0)) (hp : p < h.next) : Wc tree.getF 15 [.ptr p d 0, .int .i64 dv] h K := by
 obtain ⟨hu, hut, hX⟩ := fx4 hf
 have hZ := fx6 hf hg
 have hi0 := P.n
 have hPl := P.l
 have hix := trivial
 have hil := hix; have hdd := hix; have hLl := hix
 obtain ⟨hul9, hul5, hrl, hSl⟩ := xf_ P hul hS
 have hin := hix
 have hc8 : c.toNat < 256 := UInt8.toNat_lt c
 rcases nd with nd | nd
 all_goals
  refine Wc.mkG 15 c15 (by kernel_rfl) rfl ?_
  generalize e : zAa .. = r
  simp (disch := omega) [c15] at e
  subst e
  repeat (first | refine st_ rfl ?_ | ((first | refine rg_ ?_ | refine go_ ?_); refine gw_ (by simp (disch := omega) [hX, hZ, hul, hi0, hPl, hix, hil, hdd, hLl, -CVal.strip, st_i, st_s, st_n, st_o, st_0, st_p, nZero, nStr, nNul, nBool, nInt, hin, n34, n91, n123, n45, nd, hc8, c15]; rfl) ?_) | (refine zDx (e := 0) P hul9 fun i' _ _ P' g _ => ⟨rfl, ?_⟩; rw [hS] at P'; have hi0 := P'.n; have hPl := P'.l; obtain ⟨hix, hil⟩ := P'.get hSc; have hin : i' ≠ (u.length : Int) := (by omega); have hil2 : i' < (u.length : Int) := hil; (try dsimp only at g)) | (refine is_F P' hul5 [110, 117, 108, 108] (by decide) h1 fun i' _ _ P' g _ => ⟨rfl, ?_⟩; (try dsimp only at g); rw [aftQ_f h1, hS2] at P') | (refine is_F P' hul5 [116, 114, 117, 101] (by decide) h2 fun i' _ _ P' g _ => ⟨rfl, ?_⟩; (try dsimp only at g); rw [aftQ_f h2, hS2] at P') | (refine is_F P' hul5 [102, 97, 108, 115, 101] (by decide) h3 fun i' _ _ P' g _ => ⟨rfl, ?_⟩; (try dsimp only at g); rw [aftQ_f h3, hS2] at P') | (refine qf_0 (u := u) (i := i') 2 fun _ _ g _ => ⟨rfl, ?_⟩; try dsimp only at g) | ((first | (refine W.ret ?_; (try simp only [zAb, zA0, zA8]); refine endW.of (.inl rfl) rfl ?_) | refine endW.of (.inr rfl) rfl ?_); generalize e : zAc .. = r; simp (disch := omega) [hX, hZ, hul, hi0, hPl, hix, hil, hdd, hLl, -CVal.strip, st_i, st_s, st_n, st_o, st_0, st_p, nZero, nStr, nNul, nBool, nInt, hin, n34, n91, n123, n45, nd, hc8, c15] at e; subst e; (refine hk _ _ _ (P') ?_ ?_; omega; exact ut_)))
end Go.Proofs.YtdanefpnfnippaaGreatDoor.IrJ
namespace Go.Proofs.YtdanefpnfnippaaGreatDoor.IrJ
open Go Go.CI
open Go.LexF hiding zC3 zD5
set_option maxRecDepth 100000
set_option maxHeartbeats 4000000
set_option linter.unusedVariables false
set_option linter.unusedSimpArgs false
attribute [local irreducible] W Wo Wc WoR
theorem isF_hd {a c : UInt8} {w t : B8} (h : c ≠ a) : isF (a :: w) (c :: t) = false := by
 unfold isF; simp [h]
theorem numV_no {c : UInt8} {t : B8} (h45 : c ≠ 45) (hd : isD c = false) : numV (c :: t) = none := by
 have h1 : isNeg (c :: t) = false := by simp [isNeg, h45]
 have h2 : numD (c :: t) = [] := by unfold numD numT; rw [h1]; simp [hd]
 unfold numV; rw [h2]; rfl
theorem qtree_step (m d : Nat) (hd : d ≤ 20) (ht : d < 20 → QC 15 (zBy m (d + 1)) ((d : Int) + 1 + 1) 25000) : QC 15 (zBy (m + 1) d) ((d : Int) + 1) 25000 := by
 intro u r i e hul hr P p dd h K hk hf hg hp
 obtain ⟨S, hS⟩ : ∃ S, zA3 r = S := ⟨_, rfl⟩
 have hSl : S.length ≤ r.length := by rw [← hS]; exact zAf r
 have hS2 : zA3 S = S := by rw [← hS]; exact zAy r
 by_cases he : e = 0
 · subst he
   cases hSc : S with
   | nil =>
    refine xq_nil P hul S hS hS2 hSc (fun i' n' ty P' g1 g2 => hk _ _ _ _ _ _ ⟨.inl ⟨rfl, .inr ⟨?_, by decide⟩⟩, Node.nZero, by omega⟩ P' g1 g2) hf hg hp
    rw [tree_leaf r [] m d (by rw [hS, hSc]) rfl rfl rfl]; rfl
   | cons c t =>
    by_cases c34 : c = 34
    · subst c34
      have hTr : zBy (m + 1) d r = match unqV S with | none => PR.err 2 | some (t, k) => .ok (nStr t) (S.drop k) := by
       unfold zBy; rw [hS, hSc]; rfl
      cases hu : unqV S with
      | none => exact xq_bad P hul S hS hS2 hSc hu (fun i' n' ty P' g1 g2 => hk _ _ _ _ _ _ ⟨.inl ⟨rfl, .inr ⟨by rw [hTr, hu], by decide⟩⟩, Node.nStr [], hSl⟩ P' g1 g2) hf hg hp
      | some tk =>
       obtain ⟨t2, k⟩ := tk
       have hkl := unqV_len hu
       exact xq_str P hul S hS hS2 hSc hu (fun i' n' ty P' g1 g2 => hk _ _ _ _ _ _ ⟨.inl ⟨rfl, .inl ⟨by rw [hTr]; simp [hu, nStr], rfl⟩⟩, Node.nStr t2, by rw [List.length_drop]; omega⟩ P' g1 g2) hf hg hp
    by_cases c91 : c = 91
    · subst c91
      have hTr : zBy (m + 1) d r = if 20 ≤ d then PR.err 3 else zEi (zBy m (d + 1)) (S.drop 1) := by
       unfold zBy; rw [hS, hSc]; rfl
      rcases Nat.lt_or_ge d 20 with g | g
      · refine xq_l P hul S hS hS2 hSc (ht g) (by omega) (by omega) (fun v r' i' e' n' ty hO P' g1 g2 => hk _ _ _ _ _ _ ⟨.inl ⟨rfl, ?_⟩, hO.2.1, Nat.le_trans hO.2.2 hSl⟩ P' g1 g2) hf hg hp
        rw [hTr, if_neg (by omega)]
        rcases hO.1 with ⟨_, h9⟩ | ⟨h9, _⟩
        · exact h9
        · exact absurd rfl h9
      · exact xq_deepl P hul S hS hS2 hSc (by omega) (fun i' n' ty P' g1 g2 => hk _ _ _ _ _ _ ⟨.inl ⟨rfl, .inr ⟨by rw [hTr, if_pos g], by decide⟩⟩, Node.nZero, hSl⟩ P' g1 g2) hf hg hp
    by_cases c123 : c = 123
    · subst c123
      have hTr : zBy (m + 1) d r = if 20 ≤ d then PR.err 3 else tabR (zBy m (d + 1)) (S.drop 1) := by
       unfold zBy; rw [hS, hSc]; rfl
      rcases Nat.lt_or_ge d 20 with g | g
      · refine xq_t P hul S hS hS2 hSc (ht g) (by omega) (by omega) (fun v r' i' e' n' ty hO P' g1 g2 => hk _ _ _ _ _ _ ⟨.inl ⟨rfl, ?_⟩, hO.2.1, Nat.le_trans hO.2.2 hSl⟩ P' g1 g2) hf hg hp
        rw [hTr, if_neg (by omega)]
        rcases hO.1 with ⟨_, h9⟩ | ⟨h9, _⟩
        · exact h9
        · exact absurd rfl h9
      · exact xq_deept P hul S hS hS2 hSc (by omega) (fun i' n' ty P' g1 g2 => hk _ _ _ _ _ _ ⟨.inl ⟨rfl, .inr ⟨by rw [hTr, if_pos g], by decide⟩⟩, Node.nZero, hSl⟩ P' g1 g2) hf hg hp
    have n34 : c.toNat ≠ 34 := fun g => c34 (UInt8.toNat_inj.1 g)
    have n91 : c.toNat ≠ 91 := fun g => c91 (UInt8.toNat_inj.1 g)
    have n123 : c.toNat ≠ 123 := fun g => c123 (UInt8.toNat_inj.1 g)
    have hTr : zBy (m + 1) d r = zEu S := tree_leaf r S m d hS (by rw [hSc, isF_c]; simpa using c34) (by rw [hSc, isF_c]; simpa using c91) (by rw [hSc, isF_c]; simpa using c123)
    have hLF : isF [110, 117, 108, 108] S = false → isF [116, 114, 117, 101] S = false → isF [102, 97, 108, 115, 101] S = false → zEu S = match numV S with | none => .err 2 | some v => if isE (numR S) = true then .err 2 else .ok (nInt v) (numR S) := by
     intro a1 a2 a3; unfold zEu; rw [a1, a2, a3]; rfl
    have hnl := numR_len S
    by_cases hcd : c = 45 ∨ isD c = true
    · have hw : ∀ (a : UInt8) (w : B8), a ≠ 45 → (a.toNat < 48 ∨ 57 < a.toNat) → isF (a :: w) S = false := by
       intro a w h1 h2
       rw [hSc]
       refine isF_hd (fun e => ?_)
       subst e
       rcases hcd with e | e
       · exact h1 e
       · have := (zEp c).1 e; omega
      have hLf := hLF (hw 110 _ (by decide) (by decide)) (hw 116 _ (by decide) (by decide)) (hw 102 _ (by decide) (by decide))
      have hnon : (numV S = none ∨ isE (numR S) = true) → zEu S = .err 2 := by
       intro hno
       rw [hLf]
       cases hv : numV S with
       | none => rfl
       | some v =>
        rcases hno with hno | hno
        · rw [hv] at hno; cases hno
        · dsimp only; rw [if_pos hno]
      have hok : ∀ v, numV S = some v → isE (numR S) = false → zEu S = .ok (nInt v) (numR S) := by
       intro v hv hE; rw [hLf, hv]; dsimp only; rw [hE, if_neg Bool.false_ne_true]
      have hnk : ∀ (r' : B8) (i' : Int) (n' : Nat) (ty : NN), (numV S = none ∨ isE (numR S) = true) → Pos u r' i' → r'.length ≤ S.length → h.next ≤ n' → zA9 ty n' → K nZero ⟨zA5 h.ents p (rq u i' 2), n', ty⟩ :=
       fun r' i' n' ty hno P' hle g1 g2 => hk _ _ _ _ _ _ ⟨.inl ⟨rfl, .inr ⟨by rw [hTr]; exact hnon hno, by decide⟩⟩, Node.nZero, by omega⟩ P' g1 g2
      have hyk : ∀ (v : Int) (i' : Int) (n' : Nat) (ty : NN), numV S = some v → isE (numR S) = false → Pos u (numR S) i' → h.next ≤ n' → zA9 ty n' → K (nInt v) ⟨zA5 h.ents p (rq u i' 0), n', ty⟩ :=
       fun v i' n' ty hv hE P' g1 g2 => hk _ _ _ _ _ _ ⟨.inl ⟨rfl, .inl ⟨by rw [hTr]; exact hok v hv hE, rfl⟩⟩, Node.nInt v, by omega⟩ P' g1 g2
      have hall : (numV S = none ∨ isE (numR S) = true) ∨ ∃ v, numV S = some v ∧ isE (numR S) = false := by
       cases hv : numV S with
       | none => exact .inl (.inl rfl)
       | some v =>
        cases hE : isE (numR S) with
        | true => exact .inl (.inr rfl)
        | false => exact .inr ⟨v, rfl, rfl⟩
      rcases hcd with c45 | hcd
      · subst c45
        rcases hall with hno | ⟨v, hv, hE⟩
        · exact xq_nonm P hul S hS hS2 hSc hno (fun r' i' n' ty P' hle g1 g2 => hnk r' i' n' ty hno P' hle g1 g2) hf hg hp
        · exact xq_numm P hul S hS hS2 hSc hv hE (fun i' n' ty P' g1 g2 => hyk v i' n' ty hv hE P' g1 g2) hf hg hp
      · have hcd2 := (zEp c).1 hcd
        rcases hall with hno | ⟨v, hv, hE⟩
        · exact xq_nond P hul S hS hS2 hSc hcd2.1 hcd2.2 hno (fun r' i' n' ty P' hle g1 g2 => hnk r' i' n' ty hno P' hle g1 g2) hf hg hp
        · exact xq_numd P hul S hS hS2 hSc hcd2.1 hcd2.2 hv hE (fun i' n' ty P' g1 g2 => hyk v i' n' ty hv hE P' g1 g2) hf hg hp
    · have n45' : c ≠ 45 := fun g => hcd (.inl g)
      have n45 : c.toNat ≠ 45 := fun g => n45' (UInt8.toNat_inj.1 g)
      have hnd : isD c = false := by cases hh : isD c with | false => rfl | true => exact absurd (.inr hh) hcd
      have nd : c.toNat < 48 ∨ 57 < c.toNat := by
       rcases Nat.lt_or_ge c.toNat 48 with g | g
       · exact .inl g
       · rcases Nat.lt_or_ge 57 c.toNat with g2 | g2
         · exact .inr g2
         · rw [(zEp c).2 ⟨g, g2⟩] at hnd; cases hnd
      have hq : ∀ w, isQ 0 w S = isF w S := fun w => by rw [isQ_0, hS2]
      cases h1 : isF [110, 117, 108, 108] S with
      | true =>
       have hh := fun i' n' ty (P' : Pos u (S.drop 4) i') (g1 : h.next ≤ n') (g2 : zA9 ty n') => hk _ _ _ _ _ _ ⟨.inl ⟨rfl, .inl ⟨by rw [hTr]; unfold zEu; rw [h1]; rfl, rfl⟩⟩, Node.nNul, by rw [List.length_drop]; omega⟩ P' g1 g2
       exact xq_nul P hul S hS hS2 hSc n34 n91 n123 n45 nd (by rw [hq]; exact h1) hh hf hg hp
      | false =>
      cases h2 : isF [116, 114, 117, 101] S with
      | true =>
       have hh := fun i' n' ty (P' : Pos u (S.drop 4) i') (g1 : h.next ≤ n') (g2 : zA9 ty n') => hk _ _ _ _ _ _ ⟨.inl ⟨rfl, .inl ⟨by rw [hTr]; unfold zEu; rw [h1, h2]; rfl, rfl⟩⟩, Node.nBool 1, by rw [List.length_drop]; omega⟩ P' g1 g2
       exact xq_tru P hul S hS hS2 hSc n34 n91 n123 n45 nd (by rw [hq]; exact h1) (by rw [hq]; exact h2) hh hf hg hp
      | false =>
      cases h3 : isF [102, 97, 108, 115, 101] S with
      | true =>
       have hh := fun i' n' ty (P' : Pos u (S.drop 5) i') (g1 : h.next ≤ n') (g2 : zA9 ty n') => hk _ _ _ _ _ _ ⟨.inl ⟨rfl, .inl ⟨by rw [hTr]; unfold zEu; rw [h1, h2, h3]; rfl, rfl⟩⟩, Node.nBool 0, by rw [List.length_drop]; omega⟩ P' g1 g2
       exact xq_fal P hul S hS hS2 hSc n34 n91 n123 n45 nd (by rw [hq]; exact h1) (by rw [hq]; exact h2) (by rw [hq]; exact h3) hh hf hg hp
      | false =>
       have hL2 : zEu S = .err 2 := by rw [hLF h1 h2 h3, hSc, numV_no n45' hnd]
       have hh := fun i' n' ty (P' : Pos u S i') (g1 : h.next ≤ n') (g2 : zA9 ty n') => hk _ _ _ _ _ _ ⟨.inl ⟨rfl, .inr ⟨by rw [hTr]; exact hL2, by decide⟩⟩, Node.nZero, hSl⟩ P' g1 g2
       exact xq_bad2 P hul S hS hS2 hSc n34 n91 n123 n45 nd (by rw [hq]; exact h1) (by rw [hq]; exact h2) (by rw [hq]; exact h3) hh hf hg hp
 · exact xq_e P hul S hS hS2 he (fun i' n' ty P' g1 g2 => hk _ _ _ _ _ _ ⟨.inr ⟨he, rfl⟩, Node.nZero, hSl⟩ P' g1 g2) hf hg hp
theorem qtree_F : ∀ (m d : Nat), m + 1 + d = 21 → QC 15 (zBy (m + 1) d) ((d : Int) + 1) 25000 := by
 intro m
 induction m with
 | zero => intro d hd; exact qtree_step 0 d (by omega) (fun g => by omega)
 | succ m ih =>
  intro d hd
  have h1 := ih (d + 1) (by omega)
  rw [show ((d + 1 : Nat) : Int) = (d : Int) + 1 by omega] at h1
  exact qtree_step (m + 1) d (by omega) (fun _ => h1)
theorem par_outQ {s r' : B8} {v : CVal} {e' : Int} (hO : QO (zBy 21 0) 0 s v r' e') : (e' = 0 ∧ (zA3 r').isEmpty = true ∧ parF s = .tup [v, .int .i64 0]) ∨ (e' = 0 ∧ (zA3 r').isEmpty = false ∧ parF s = .tup [nZero, .int .i64 2]) ∨ (e' ≠ 0 ∧ parF s = .tup [nZero, .int .i64 e']) := by
 unfold parF
 rcases hO.1 with ⟨_, ⟨hx, h0⟩ | ⟨hx, he⟩⟩ | ⟨h9, _⟩
 · rw [hx]
   cases hem : (zA3 r').isEmpty with
   | true => exact .inl ⟨h0, rfl, by simp [hem]⟩
   | false => exact .inr (.inl ⟨h0, rfl, by simp [hem]⟩)
 · rw [hx]; exact .inr (.inr ⟨he, rfl⟩)
 · exact absurd rfl h9
theorem emp_l {s : B8} {b : Bool} (h : s.isEmpty = b) : (b = true → s.length = 0) ∧ (b = false → 0 < s.length) := by
 cases s with
 | nil => cases h; exact ⟨fun _ => rfl, fun h => absurd h (by decide)⟩
 | cons a r => cases h; exact ⟨fun h => Bool.noConfusion h, fun _ => Nat.succ_pos _⟩
theorem paq_F (s : B8) (hl : s.length ≤ 10000) : Pu tree.getF 6 [.str s] (parF s) := by
 intro h hf K hk
 have hT : QC 15 (zBy 21 0) (1 : Int) 25000 := qtree_F 20 0 rfl
 have hLl := trivial
 have hP := trivial
 have hZ := trivial
 have hil := trivial
 have hE0 := trivial
 obtain ⟨hu, hut, hX⟩ := fx4 hf
 refine Wc.mkG 6 c6 (by kernel_rfl) rfl ?_
 generalize e : zAa .. = r
 simp (disch := omega) [c6] at e
 subst e
 repeat' (first
  | refine st_ rfl ?_
  | ((first | refine rg_ ?_ | refine go_ ?_); refine gw_ (by simp (disch := omega) [hX, hZ, hLl, hP, hl, hil, hE0, -CVal.strip, st_i, st_s, st_n, st_o, st_0, st_p, c6]; rfl) ?_)
  | (refine hT s s 0 0 (by omega) (by omega) (Pos.zero s) _ _ _ _ (fun v r' i' e' n' ty hO P' g g2 => ⟨qo_u hO, ?_⟩) ft_ ge2_ lt_; obtain ⟨k9, nn, t9, L9, N9, hv, hL1, hN1⟩ := hO.2.1; have hLl := And.intro hL1.z hN1.z; (try dsimp only at g); have hsl := hO.2.2; have hsk := zAf r'; cases hem : (zA3 r').isEmpty <;> rcases par_outQ hO with ⟨rfl, hem2, hpf⟩ | ⟨rfl, hem2, hpf⟩ | ⟨he, hpf⟩ <;> (try (rw [hem] at hem2; cases hem2)) <;> subst hv <;> (have hel := emp_l hem; simp only [Bool.false_eq_true, false_implies, true_implies, forall_const, true_and, and_true, reduceCtorEq] at hel))
  | (have hE0 := he; refine zDx (e := e') P' (by omega) fun i' _ _ P' g _ => ⟨rfl, ?_⟩; have hPl := P'.l; have hPn := P'.n; (try dsimp only at g); skip)
  | (refine zDx (e := 0) P' (by omega) fun i' _ _ P' g _ => ⟨rfl, ?_⟩; have hPl := P'.l; have hPn := P'.n; (try dsimp only at g); skip)
  | (refine qf_1 (u := s) (i := i') e' 2 he fun _ _ g _ => ⟨rfl, ?_⟩; (try dsimp only at g))
  | (refine qf_0 (u := s) (i := i') 2 fun _ _ g _ => ⟨rfl, ?_⟩; (try dsimp only at g))
  | ((first | (refine W.ret ?_; (try simp only [zAb, zA0, zA8]); refine endW.of (.inl rfl) rfl ?_) | refine endW.of (.inr rfl) rfl ?_); generalize e : zAc .. = r; simp (disch := omega) [hX, hZ, hLl, hP, hl, hil, hE0, -CVal.strip, st_i, st_s, st_n, st_o, st_0, st_p, c6] at e; subst e; (rw [hpf] at hk; refine hk _ _ ?_ ?_; omega; exact ut_)))
end Go.Proofs.YtdanefpnfnippaaGreatDoor.IrJ
