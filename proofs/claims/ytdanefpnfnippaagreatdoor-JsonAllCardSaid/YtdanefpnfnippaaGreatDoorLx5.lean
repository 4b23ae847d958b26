/- What the functions of the law 'JsonAll' do: part 5 of 8. -/
import Derived.Test.YtdanefpnfnippaaGreatDoorLx4
namespace Go.Proofs.YtdanefpnfnippaaGreatDoor.IrJ
open Go Go.CI
open Go.LexF hiding zC3 zD5
set_option maxRecDepth 100000
set_option maxHeartbeats 4000000
set_option linter.unusedVariables false
set_option linter.unusedSimpArgs false
attribute [local irreducible] W Wo Wc WoR
structure RS (n0 : Nat) (E0 : EE) (p b br : Nat) (s : B8) (e : Int) (cs : List CVal) (tk : NN) (m : Nat) (h : CHeap) : Prop where
 g : zA4 h.ents p = some (rdr s e)
 gb : zA4 h.ents b = some (.cells cs)
 gr : zA4 h.ents br = some (.cells [.int .i64 0, .int .i64 0, .str [], .nils, .nils])
 gt : ∀ x ∈ tk, zA4 h.ents x.1 = some (.tok x.2) ∧ b < x.1
 d : Over n0 (zA5 E0 p (rdr s e)) h.ents
 nc : NC b h.ents
 u : Under h.ents m
 mn : m ≤ h.next
 hp : p < n0
 hr : n0 ≤ br
 hb : br < b
 lb : b < m
 f : Fit h
variable {n0 : Nat} {E0 : EE} {p b br : Nat} {s : B8} {e : Int} {cs : List CVal} {tk : NN} {m : Nat} {h : CHeap}
theorem NC.setB {b r : Nat} {x : CObj} {l : EE} (h : NC b l) (hr : r ≤ b) : NC b (zA5 l r x) := by
 intro y hy hb
 rcases zDt hy with hy | rfl
 · exact h y hy hb
 · exact absurd hb (by (try dsimp only); omega)
theorem NC.tok {b r v : Nat} {l : EE} (h : NC b l) : NC b ((r, .tok v) :: l) := by
 intro y hy hb
 rcases List.mem_cons.1 hy with rfl | hy
 · exact ⟨fun cs e => (by cases e), fun ck kvs e => (by cases e)⟩
 · exact h y hy hb
theorem NC.setT {b r v : Nat} {l : EE} (h : NC b l) : NC b (zA5 l r (.tok v)) := by
 intro y hy hb
 rcases zDt hy with hy | rfl
 · exact h y hy hb
 · exact ⟨fun cs e => (by cases e), fun ck kvs e => (by cases e)⟩
theorem RS.up (S : RS n0 E0 p b br s e cs tk m h) {n : Nat} (hn : h.next ≤ n) : RS n0 E0 p b br s e cs tk m ⟨h.ents, n, h.tys⟩ :=
 ⟨S.g, S.gb, S.gr, S.gt, S.d, S.nc, S.u, Nat.le_trans S.mn hn, S.hp, S.hr, S.hb, S.lb, ⟨S.f.1.le hn, S.f.2.le hn⟩⟩
theorem RS.put (S : RS n0 E0 p b br s e cs tk m h) (s' : B8) (e' : Int) {n : Nat} {ty : NN} (hn : h.next ≤ n) (ht : zA9 ty n) : RS n0 E0 p b br s' e' cs tk m ⟨zA5 h.ents p (rdr s' e'), n, ty⟩ := by
 have h1 := S.hp; have h2 := S.hr; have h3 := S.hb; have h4 := S.lb; have h5 := S.mn
 refine ⟨zA6 S.g, ?_, ?_, ?_, S.d.setP h1, S.nc.setB (by omega), S.u.set, Nat.le_trans h5 hn, h1, h2, h3, h4, ⟨S.f.1.set.le hn, ht⟩⟩
 · exact (zA7 (by omega)).trans S.gb
 · exact (zA7 (by omega)).trans S.gr
 · intro x hx
   have := S.gt x hx
   exact ⟨(zA7 (by omega)).trans this.1, this.2⟩
theorem RS.app0 (S : RS n0 E0 p b br s e cs tk m h) {i : Nat} {cs' : List CVal} {n : Nat} (hi : m ≤ i := by (try dsimp only); omega) (hn : i < n := by (try dsimp only); omega) (hn2 : h.next ≤ n := by (try dsimp only); omega) : RS n0 E0 p b br s e cs' [(i, 0)] (i + 1) ⟨(i, .tok 0) :: zA5 h.ents b (.cells cs'), n, h.tys⟩ := by
 have h1 := S.hp; have h2 := S.hr; have h3 := S.hb; have h4 := S.lb; have h5 := S.mn
 have hq : ∀ q o, q < m → zA4 (zA5 h.ents b (.cells cs')) q = o → zA4 ((i, CObj.tok 0) :: zA5 h.ents b (.cells cs')) q = o := by
  intro q o hq e
  have : (i == q) = false := by simp; omega
  simp only [zA4, this]; exact e
 refine ⟨?_, ?_, ?_, ?_, ?_, ?_, ?_, hn, h1, h2, h3, by omega, ⟨?_, S.f.2.le (by (try dsimp only); omega)⟩⟩
 · exact hq _ _ (by omega) ((zA7 (by omega)).trans S.g)
 · exact hq _ _ (by omega) (zA6 S.gb)
 · exact hq _ _ (by omega) ((zA7 (by omega)).trans S.gr)
 · intro x hx
   have : x = (i, 0) := by simpa using hx
   subst this
   exact ⟨by simp [zA4], by (try dsimp only); omega⟩
 · exact (S.d.set (by omega)).cons (by omega)
 · exact NC.tok (S.nc.setB (Nat.le_refl _))
 · exact Under.cons (by omega) (S.u.set.le (by omega))
 · exact Under.cons (by (try dsimp only); omega) (S.u.set.le (by (try dsimp only); omega))
theorem RS.app1 {i v : Nat} (S : RS n0 E0 p b br s e cs [(i, v)] m h) {cs' : List CVal} {n : Nat} (hn : h.next ≤ n := by (try dsimp only); omega) : RS n0 E0 p b br s e cs' [(i, v + 1)] m ⟨zA5 (zA5 h.ents i (.tok (v + 1))) b (.cells cs'), n, h.tys⟩ := by
 have h1 := S.hp; have h2 := S.hr; have h3 := S.hb; have h4 := S.lb; have h5 := S.mn
 obtain ⟨ht, hbi⟩ := S.gt (i, v) (by simp)
 dsimp only at ht hbi
 refine ⟨?_, ?_, ?_, ?_, ?_, ?_, S.u.set.set, Nat.le_trans h5 hn, h1, h2, h3, h4, ⟨S.f.1.set.set.le hn, S.f.2.le hn⟩⟩
 · exact (zA7 (by omega)).trans ((zA7 (by omega)).trans S.g)
 · exact zA6 ((zA7 (by omega)).trans S.gb)
 · exact (zA7 (by omega)).trans ((zA7 (by omega)).trans S.gr)
 · intro x hx
   have : x = (i, v + 1) := by simpa using hx
   subst this
   exact ⟨(zA7 (by (try dsimp only); omega)).trans (zA6 ht), hbi⟩
 · exact (S.d.set (by omega)).set (by omega)
 · exact NC.setB (NC.setT S.nc) (Nat.le_refl _)
theorem RS.z (S : RS n0 E0 p b br s e cs tk m h) : zA4 h.ents p = some (rdr s e) ∧ zA4 h.ents b = some (.cells cs) ∧ zA4 h.ents br = some (.cells [.int .i64 0, .int .i64 0, .str [], .nils, .nils]) ∧ (∀ m, b < m → zAe h.ents m = h.ents) ∧ (∀ q, m ≤ q → zA4 h.ents q = none) ∧ (∀ q, h.next ≤ q → zBs h.tys q = none) ∧ (∀ x, zA4 (zA5 h.ents b x) b = some x) ∧ (∀ x, zA4 (zA5 h.ents br x) br = some x) ∧ (∀ x q, m ≤ q → zA4 (zA5 h.ents b x) q = none) :=
 ⟨S.g, S.gb, S.gr, fun m hm => S.nc.drop hm, fun q hq => zAx S.u hq, fun q hq => zC4 S.f.2 hq, fun x => zA6 S.gb, fun x => zA6 S.gr, fun x q hq => zAx S.u.set hq⟩
theorem st_i {k : IntKind} {n : Int} : (CVal.int k n).strip = .int k n := rfl
theorem st_s {s : B8} : (CVal.str s).strip = .str s := rfl
theorem st_p {q d o : Nat} : (CVal.ptr q d o).strip = .ptr q d o := rfl
theorem st_n : CVal.nils.strip = .nils := rfl
theorem st_o {i v k : Nat} {es : List CVal} : (CVal.imm (.own i v) k es).strip = .imm .none k es := rfl
theorem st_0 {k : Nat} {es : List CVal} : (CVal.imm .none k es).strip = .imm .none k es := rfl
theorem RS.tb {i w : Nat} (S : RS n0 E0 p b br s e cs tk m h) (hi : (i, w) ∈ tk) (x : CObj) : zA4 (zA5 h.ents i x) b = some (.cells cs) := (zA7 (by have := (S.gt _ hi).2; (try dsimp only at this); omega)).trans S.gb
def needE (b : Bool) (e : Int) : Int := if b then e else if e = 0 then 2 else e
theorem nd_F {p d : Nat} (s w : B8) (e : Int) (hl : s.length < 90000) {h : CHeap} {K : KT} (hk : ∀ n' ty, h.next ≤ n' → zA9 ty n' → K (.tup []) ⟨zA5 h.ents p (rdr (zAi w (zA3 s)) (needE (isF w (zA3 s)) e)), n', ty⟩) (hf : Fit h) (hg : zA4 h.ents p = some (rdr s e)) (hp : p < h.next) : Wc tree.getF 50 [.ptr p d 0, .str w] h K := by
 cases hw : isF w (zA3 s) with
 | true => exact nd_no s w e hl hw (by rw [hw] at hk; exact hk) hf hg hp
 | false =>
  have ha : zAi w (zA3 s) = zA3 s := by unfold zAi; rw [hw]; rfl
  rw [hw, ha] at hk
  by_cases he : e = 0
  · exact nd_yes s w e hl hw he (by simpa [needE, he] using hk) hf hg hp
  · exact nd_ag s w e hl hw he (by simpa [needE, he] using hk) hf hg hp
theorem n_take (S : RS n0 E0 p b br s e cs tk m h) {d : Nat} {w : B8} (hl : s.length < 90000) (v : Bool) (hv : isF w (zA3 s) = v) {K : KT} {n : Nat} (hk : ∀ h', RS n0 E0 p b br (zAi w (zA3 s)) e cs tk m h' → n ≤ h'.next → K (.bool v) h') (hn : h.next ≤ n := by (try dsimp only); omega) : Wc tree.getF 30 [.ptr p d 0, .str w] ⟨h.ents, n, h.tys⟩ K :=
 have S1 := S.up hn
 tk_F s w e hl (fun n' ty g1 g2 => by rw [hv]; exact hk _ (S1.put _ e g1 g2) g1) S1.f S.g (Nat.lt_trans (Nat.lt_of_lt_of_le (Nat.lt_of_lt_of_le S.hp S.hr) (Nat.le_of_lt S.hb)) (Nat.lt_of_lt_of_le S1.lb S1.mn))
theorem n_tk2 (S : RS n0 E0 p b br s e cs tk m h) {d : Nat} {w : B8} (hl : s.length < 90000) (v : Bool) (hv : isF w (zA3 s) = v) {K : KT} (hk : ∀ h', RS n0 E0 p b br (zAi w (zA3 s)) e cs tk m h' → h.next ≤ h'.next → K (.bool v) h') : Wc tree.getF 30 [.ptr p d 0, .str w] h K :=
 n_take S hl v hv hk (Nat.le_refl _)
theorem n_need (S : RS n0 E0 p b br s e cs tk m h) {d : Nat} {w : B8} (hl : s.length < 90000) {K : KT} {n : Nat} (hk : ∀ h', RS n0 E0 p b br (zAi w (zA3 s)) (needE (isF w (zA3 s)) e) cs tk m h' → n ≤ h'.next → K (.tup []) h') (hn : h.next ≤ n := by (try dsimp only); omega) : Wc tree.getF 50 [.ptr p d 0, .str w] ⟨h.ents, n, h.tys⟩ K :=
 have S1 := S.up hn
 nd_F s w e hl (fun n' ty g1 g2 => hk _ (S1.put _ _ g1 g2) g1) S1.f S.g (Nat.lt_trans (Nat.lt_of_lt_of_le (Nat.lt_of_lt_of_le S.hp S.hr) (Nat.le_of_lt S.hb)) (Nat.lt_of_lt_of_le S1.lb S1.mn))
theorem n_rec (S : RS n0 E0 p b br s 0 cs tk m h) {f : Nat} {F : B8 → PR} {dv : Int} {M dd : Nat} (hF : PC f F dv M) (hs : s.length < M) {K : KT} {n : Nat} (hk : ∀ v s' e' h', Out (F s) s v s' e' → RS n0 E0 p b br s' e' cs tk m h' → n ≤ h'.next → K v h') (hn : h.next ≤ n := by (try dsimp only); omega) : Wc tree.getF f [.ptr p dd 0, .int .i64 dv] ⟨h.ents, n, h.tys⟩ K :=
 have S1 := S.up hn
 hF s hs p dd _ K (fun v s' e' n' ty ho g1 g2 => hk _ _ _ _ ho (S1.put _ _ g1 g2) g1) S1.f S.g (Nat.lt_trans (Nat.lt_of_lt_of_le (Nat.lt_of_lt_of_le S.hp S.hr) (Nat.le_of_lt S.hb)) (Nat.lt_of_lt_of_le S1.lb S1.mn))
theorem out_u {x : PR} {s s' : B8} {v : CVal} {e' : Int} (h : Out x s v s' e') : v.isUndef = false := by
 obtain ⟨k, n, t, L, N, rfl, _⟩ := h.2.1; rfl
abbrev zDl : CCode := (.loop true (.seq (.seq (.region [.v 1, .m (.loc 0), .q (.mv (.var 0)) 0 true, .q (.nilck (.loc 0)) 1 true, .q (.fieldAddr 1 (.loc 0)) 2 true, .q (.load none (.loc 0)) 3 true, .q (.bin .eql (.loc 0) (.k 0)) 4 true, .g (.pick (.loc 5) (.loc 0) (.b false))] [(2, 7)] [] []) (.cond (.var 2) .skip (.exit 0))) (.block 1 (.seq (.region [.g (.fieldAddr 3 (.var 3)), .l 0, .v 0, .v 4, .g (.call false 12 [(.loc 1), (.loc 0)]), .g (.lit .imm true [(.int .i64 0), (.int .i64 0), (.str []), .nils, .nils] 1 [(0, (.loc 0))]), .g (.append .imm 0 5 (.loc 4) (.loc 0)), .g (.fieldAddr 3 (.var 3)), .g (.store 1 (.loc 0) (.loc 1))] [] [(1, 0, 1)] []) (.seq (.region [.v 0, .g (.call false 30 [(.loc 0), (.const (.str [44]))]), .m (.loc 0)] [(1, 2)] [] []) (.seq (.region [.v 1, .g (.not (.loc 0))] [(5, 1)] [] []) (.cond (.var 5) (.region [.v 0, .g (.call false 50 [(.loc 0), (.const (.str [93]))])] [] [] []) .skip)))))))
theorem li_endf (S : RS n0 E0 p b br s e cs tk m h) {dv : Int} {dd : Nat} {Q : QT} (v2 v5 : CVal) (hk : ∀ v2 n', h.next ≤ n' → Q (.exit 0) ⟨[.ptr p dd 0, .bool false, v2, .ptr b 28311557 0, .int .i64 dv, v5, .ptr br 28311557 0], ⟨h.ents, n', h.tys⟩, []⟩) {n : Nat} (hn : h.next ≤ n := by (try dsimp only); omega) : W tree.getF zDl ⟨[.ptr p dd 0, .bool false, v2, .ptr b 28311557 0, .int .i64 dv, v5, .ptr br 28311557 0], ⟨h.ents, n, h.tys⟩, []⟩ Q := by
 have hlb := S.lb
 have hmn := S.mn
 have hZ := S.z
 refine W.loop ?_
 repeat (first | refine st_ rfl ?_ | ((first | refine rg_ ?_ | refine go_ ?_); refine gw_ (by simp (disch := omega) [hZ, hlb]; rfl) ?_))
 all_goals (refine hk _ _ ?_; ((try dsimp only); omega))
theorem li_ende (S : RS n0 E0 p b br s e cs tk m h) {dv : Int} {dd : Nat} (he : (e == 0) = false) {Q : QT} (v2 v5 : CVal) (hk : ∀ v2 n', h.next ≤ n' → Q (.exit 0) ⟨[.ptr p dd 0, .bool true, v2, .ptr b 28311557 0, .int .i64 dv, v5, .ptr br 28311557 0], ⟨h.ents, n', h.tys⟩, []⟩) {n : Nat} (hn : h.next ≤ n := by (try dsimp only); omega) : W tree.getF zDl ⟨[.ptr p dd 0, .bool true, v2, .ptr b 28311557 0, .int .i64 dv, v5, .ptr br 28311557 0], ⟨h.ents, n, h.tys⟩, []⟩ Q := by
 have hlb := S.lb
 have hmn := S.mn
 have hZ := S.z
 refine W.loop ?_
 repeat (first | refine st_ rfl ?_ | ((first | refine rg_ ?_ | refine go_ ?_); refine gw_ (by simp (disch := omega) [hZ, hlb, he]; rfl) ?_))
 all_goals (refine hk _ _ ?_; ((try dsimp only); omega))
theorem li_nil (vs : List CVal) (hvs : vs = []) (S : RS n0 E0 p b br s 0 ([.int .i64 5, .int .i64 0, .str [], .nils, .nils]) ([]) m h) {F : B8 → PR} {dv : Int} {M dd : Nat} (hF : PC 12 F dv M) (hs : s.length < M) (hl : s.length < 30000) (hvl : vs.length < 90000) {Q : QT} (v2 v5 : CVal)
    (hag : ∀ v s' e' (i : Nat) (m' : Nat) (v2 v5 : CVal) h', Out (F s) s v s' e' → isF [44] (zA3 s') = true → RS n0 E0 p b br (zAi [44] (zA3 s')) e' ([.int .i64 5, .int .i64 0, .str [], .imm (.own i 0) 5 (vs ++ [v]), .nils]) ([(i, 0)]) m' h' → h.next ≤ h'.next → W tree.getF zDl ⟨[.ptr p dd 0, .bool true, v2, .ptr b 28311557 0, .int .i64 dv, v5, .ptr br 28311557 0], h', []⟩ Q)
    (hen : ∀ v s' e' (i : Nat) (m' : Nat) (v2 v5 : CVal) h', Out (F s) s v s' e' → isF [44] (zA3 s') = false → RS n0 E0 p b br (zAi [93] (zA3 (zAi [44] (zA3 s')))) (needE (isF [93] (zA3 (zAi [44] (zA3 s')))) e') ([.int .i64 5, .int .i64 0, .str [], .imm (.own i 0) 5 (vs ++ [v]), .nils]) ([(i, 0)]) m' h' → h.next ≤ h'.next → W tree.getF zDl ⟨[.ptr p dd 0, .bool false, v2, .ptr b 28311557 0, .int .i64 dv, v5, .ptr br 28311557 0], h', []⟩ Q) : W tree.getF zDl ⟨[.ptr p dd 0, .bool true, v2, .ptr b 28311557 0, .int .i64 dv, v5, .ptr br 28311557 0], h, []⟩ Q := by
 have hlb := S.lb
 have hmn := S.mn
 have hY := S.z
 have hZ := S.z
 have hLl := trivial
 subst hvs
 refine W.loop ?_
 repeat' (first
  | refine st_ rfl ?_
  | ((first | refine rg_ ?_ | refine go_ ?_); refine gw_ (by simp (disch := omega) [hY, hZ, -CVal.strip, st_i, st_s, st_n, st_o, st_0, st_p, hlb, hvl, hLl]; rfl) ?_)
  | (refine n_rec S hF hs fun v s' e' _ hO S g => ⟨out_u hO, ?_⟩; have hZ := S.z; have hlb := S.lb; have hmn := S.mn; obtain ⟨k, nn, t, L1, N1, hv, hL1, hN1⟩ := hO.2.1; have hLl := And.intro hL1.z hN1.z; (try dsimp only at g); have hs2 := hO.2.2; have hs3 := zAf s'; have hs4 := zBm [44] (zA3 s'); have hs5 := zAf (zAi [44] (zA3 s')); subst hv; cases h44 : isF [44] (zA3 s'))
  | (refine n_tk2 S.app0 (by omega) _ h44 fun _ S g => ⟨rfl, ?_⟩; have hZ := S.z; have hlb := S.lb; have hmn := S.mn; try dsimp only at g)
  | (refine n_need S (by omega) fun _ S g => ⟨rfl, ?_⟩; have hZ := S.z; have hlb := S.lb; have hmn := S.mn; try dsimp only at g))
 · show W tree.getF zDl (dropped true _ _) Q; generalize e : dropped .. = r; simp (disch := omega) [hZ] at e; subst e
   refine hen _ s' e' _ _ _ _ _ hO h44 (S.up ?_) ?_ <;> ((try dsimp only); omega)
 · show W tree.getF zDl (dropped true _ _) Q; generalize e : dropped .. = r; simp (disch := omega) [hZ] at e; subst e
   refine hag _ s' e' _ _ _ _ _ hO h44 (S.up ?_) ?_ <;> ((try dsimp only); omega)
theorem li_own (vs : List CVal) {i w : Nat} (S : RS n0 E0 p b br s 0 ([.int .i64 5, .int .i64 0, .str [], .imm (.own i w) 5 vs, .nils]) ([(i, w)]) m h) {F : B8 → PR} {dv : Int} {M dd : Nat} (hF : PC 12 F dv M) (hs : s.length < M) (hl : s.length < 30000) (hvl : vs.length < 90000) {Q : QT} (v2 v5 : CVal)
    (hag : ∀ v s' e' (m' : Nat) (v2 v5 : CVal) h', Out (F s) s v s' e' → isF [44] (zA3 s') = true → RS n0 E0 p b br (zAi [44] (zA3 s')) e' ([.int .i64 5, .int .i64 0, .str [], .imm (.own i (w + 1)) 5 (vs ++ [v]), .nils]) ([(i, w + 1)]) m' h' → h.next ≤ h'.next → W tree.getF zDl ⟨[.ptr p dd 0, .bool true, v2, .ptr b 28311557 0, .int .i64 dv, v5, .ptr br 28311557 0], h', []⟩ Q)
    (hen : ∀ v s' e' (m' : Nat) (v2 v5 : CVal) h', Out (F s) s v s' e' → isF [44] (zA3 s') = false → RS n0 E0 p b br (zAi [93] (zA3 (zAi [44] (zA3 s')))) (needE (isF [93] (zA3 (zAi [44] (zA3 s')))) e') ([.int .i64 5, .int .i64 0, .str [], .imm (.own i (w + 1)) 5 (vs ++ [v]), .nils]) ([(i, w + 1)]) m' h' → h.next ≤ h'.next → W tree.getF zDl ⟨[.ptr p dd 0, .bool false, v2, .ptr b 28311557 0, .int .i64 dv, v5, .ptr br 28311557 0], h', []⟩ Q) : W tree.getF zDl ⟨[.ptr p dd 0, .bool true, v2, .ptr b 28311557 0, .int .i64 dv, v5, .ptr br 28311557 0], h, []⟩ Q := by
 have hlb := S.lb
 have hmn := S.mn
 have hY := S.z
 have hZ := S.z
 have hLl := trivial
 have htk := (S.gt (i, w) (by simp)).1
 dsimp only at htk
 have hbi := (S.gt (i, w) (by simp)).2
 dsimp only at hbi
 have hTk := htk
 refine W.loop ?_
 repeat' (first
  | refine st_ rfl ?_
  | ((first | refine rg_ ?_ | refine go_ ?_); refine gw_ (by simp (disch := omega) [hY, hZ, -CVal.strip, st_i, st_s, st_n, st_o, st_0, st_p, hlb, hvl, hLl, htk, hTk, zB6]; rfl) ?_)
  | (refine n_rec S hF hs fun v s' e' _ hO S g => ⟨out_u hO, ?_⟩; have hZ := S.z; have hlb := S.lb; have hmn := S.mn; have htk := (S.gt (i, w) (by simp)).1; dsimp only at htk; have hTk := S.tb (i := i) (w := w) (by simp); obtain ⟨k, nn, t, L1, N1, hv, hL1, hN1⟩ := hO.2.1; have hLl := And.intro hL1.z hN1.z; (try dsimp only at g); have hs2 := hO.2.2; have hs3 := zAf s'; have hs4 := zBm [44] (zA3 s'); have hs5 := zAf (zAi [44] (zA3 s')); subst hv; cases h44 : isF [44] (zA3 s'))
  | (refine n_tk2 S.app1 (by omega) _ h44 fun _ S g => ⟨rfl, ?_⟩; have hZ := S.z; have hlb := S.lb; have hmn := S.mn; try dsimp only at g)
  | (refine n_need S (by omega) fun _ S g => ⟨rfl, ?_⟩; have hZ := S.z; have hlb := S.lb; have hmn := S.mn; try dsimp only at g))
 · show W tree.getF zDl (dropped true _ _) Q; generalize e : dropped .. = r; simp (disch := omega) [hZ] at e; subst e
   refine hen _ s' e' _ _ _ _ hO h44 (S.up ?_) ?_ <;> ((try dsimp only); omega)
 · show W tree.getF zDl (dropped true _ _) Q; generalize e : dropped .. = r; simp (disch := omega) [hZ] at e; subst e
   refine hag _ s' e' _ _ _ _ hO h44 (S.up ?_) ?_ <;> ((try dsimp only); omega)
def LOK (L : CVal) (vs : List CVal) (tk : NN) : Prop := (vs = [] ∧ L = .nils ∧ tk = []) ∨ ∃ i v, L = .imm (.own i v) 5 vs ∧ tk = [(i, v)] ∧ vs ≠ []
theorem LOK.z {L : CVal} {vs : List CVal} {tk : NN} (h : LOK L vs tk) : L.strip = kidsV vs ∧ L.whole = true ∧ L.isUndef = false ∧ L.cells.length = 1 := by
 rcases h with ⟨rfl, rfl, _⟩ | ⟨i, v, rfl, _, hne⟩
 · exact ⟨rfl, rfl, rfl, rfl⟩
 · refine ⟨?_, rfl, rfl, rfl⟩
   unfold kidsV
   cases vs with
   | nil => exact absurd rfl hne
   | cons a r => rfl
theorem li_round {L : CVal} {vs : List CVal} (hL : LOK L vs tk) (S : RS n0 E0 p b br s 0 ([.int .i64 5, .int .i64 0, .str [], L, .nils]) tk m h) {F : B8 → PR} {dv : Int} {M dd : Nat} (hF : PC 12 F dv M) (hs : s.length < M) (hl : s.length < 30000) (hvl : vs.length < 90000) {Q : QT} (v2 v5 : CVal)
    (hag : ∀ v s' e' L' tk' (m' : Nat) (v2 v5 : CVal) h', Out (F s) s v s' e' → isF [44] (zA3 s') = true → LOK L' (vs ++ [v]) tk' → RS n0 E0 p b br (zAi [44] (zA3 s')) e' ([.int .i64 5, .int .i64 0, .str [], L', .nils]) tk' m' h' → h.next ≤ h'.next → W tree.getF zDl ⟨[.ptr p dd 0, .bool true, v2, .ptr b 28311557 0, .int .i64 dv, v5, .ptr br 28311557 0], h', []⟩ Q)
    (hen : ∀ v s' e' L' tk' (m' : Nat) (v2 v5 : CVal) h', Out (F s) s v s' e' → isF [44] (zA3 s') = false → LOK L' (vs ++ [v]) tk' → RS n0 E0 p b br (zAi [93] (zA3 (zAi [44] (zA3 s')))) (needE (isF [93] (zA3 (zAi [44] (zA3 s')))) e') ([.int .i64 5, .int .i64 0, .str [], L', .nils]) tk' m' h' → h.next ≤ h'.next → W tree.getF zDl ⟨[.ptr p dd 0, .bool false, v2, .ptr b 28311557 0, .int .i64 dv, v5, .ptr br 28311557 0], h', []⟩ Q) : W tree.getF zDl ⟨[.ptr p dd 0, .bool true, v2, .ptr b 28311557 0, .int .i64 dv, v5, .ptr br 28311557 0], h, []⟩ Q := by
 rcases hL with ⟨h1, rfl, rfl⟩ | ⟨i, w, rfl, rfl, hne⟩
 · exact li_nil vs h1 S hF hs hl hvl v2 v5 (fun v s' e' i m' v2 v5 h' a1 a2 a3 a4 => hag v s' e' _ _ m' v2 v5 h' a1 a2 (.inr ⟨i, 0, rfl, rfl, by simp⟩) a3 a4)
    (fun v s' e' i m' v2 v5 h' a1 a2 a3 a4 => hen v s' e' _ _ m' v2 v5 h' a1 a2 (.inr ⟨i, 0, rfl, rfl, by simp⟩) a3 a4)
 · exact li_own vs S hF hs hl hvl v2 v5 (fun v s' e' m' v2 v5 h' a1 a2 a3 a4 => hag v s' e' _ _ m' v2 v5 h' a1 a2 (.inr ⟨i, w + 1, rfl, rfl, by simp⟩) a3 a4)
    (fun v s' e' m' v2 v5 h' a1 a2 a3 a4 => hen v s' e' _ _ m' v2 v5 h' a1 a2 (.inr ⟨i, w + 1, rfl, rfl, by simp⟩) a3 a4)
theorem after_yes {w s : B8} (h : isF w s = true) : zAi w s = s.drop w.length := by unfold zAi; rw [if_pos h]
theorem after_no {w s : B8} (h : isF w s = false) : zAi w s = s := by unfold zAi; rw [h]; rfl
theorem after1 {c : UInt8} {s : B8} (h : isF [c] s = true) : zAi [c] s = s.drop 1 := after_yes h
theorem need_ne {b : Bool} {e : Int} (he : e ≠ 0) : needE b e = e := by
 unfold needE; cases b <;> simp [he]
theorem zDg {c : UInt8} {s : B8} (h : isF [c] s = true) : (s.drop 1).length < s.length := by
 rw [isF_head h]; simp
theorem li_loop {F : B8 → PR} {dv : Int} {M dd : Nat} (hF : PC 12 F dv M) {Q : QT} {n1 ls : Nat} {R : PR}
    (hk : ∀ more v2 v5 L vs' s' e' tk' m' h', LOK L vs' tk' → (R = .ok (nList vs') s' ∧ e' = 0 ∨ R = .err e' ∧ e' ≠ 0) → s'.length ≤ ls → RS n0 E0 p b br s' e' ([.int .i64 5, .int .i64 0, .str [], L, .nils]) tk' m' h' → n1 ≤ h'.next → Q (.exit 0) ⟨[.ptr p dd 0, more, v2, .ptr b 28311557 0, .int .i64 dv, v5, .ptr br 28311557 0], h', []⟩) :
    ∀ (k : Nat) (vs : List CVal) (s : B8) (L : CVal) (tk : NN) (m : Nat) (h : CHeap) (v2 v5 : CVal), s.length < k → s.length < M → s.length ≤ ls → vs.length + s.length < 30000 → LOK L vs tk → RS n0 E0 p b br s 0 ([.int .i64 5, .int .i64 0, .str [], L, .nils]) tk m h → listF F k vs s = R → n1 ≤ h.next → W tree.getF zDl ⟨[.ptr p dd 0, .bool true, v2, .ptr b 28311557 0, .int .i64 dv, v5, .ptr br 28311557 0], h, []⟩ Q := by
 intro k
 induction k with
 | zero => intro vs s L tk m h v2 v5 hk1; omega
 | succ k ih =>
  intro vs s L tk m h v2 v5 hk1 hM hls hlen hL S hR hn
  have hr := hR
  unfold listF at hr
  refine li_round hL S hF hM (by omega) (by omega) v2 v5 ?_ ?_
  · intro v s' e' L' tk' m' v2 v5 h' hO h44 hL' S' hn'
    have hsl := zAf s'
    have hs2 := hO.2.2
    have h1 := zDg h44
    have ha := after1 h44
    rw [ha] at S'
    rcases hO.1 with ⟨hx, rfl⟩ | ⟨hx, he⟩ | ⟨_, _, hE⟩
    · rw [hx] at hr
      dsimp only at hr
      rw [if_pos h44] at hr
      exact ih (vs ++ [v]) _ L' tk' m' h' v2 v5 (by omega) (by (try dsimp only [List.length]); omega) (by omega) (by rw [List.length_append, List.length_singleton]; omega) hL' S' hr (by omega)
    · rw [hx] at hr
      dsimp only at hr
      exact li_ende S' (by simpa using he) v2 v5 (fun v2 n' g => hk _ v2 v5 L' (vs ++ [v]) _ e' tk' m' _ hL' (.inr ⟨hr.symm, he⟩) (by (try dsimp only [List.length]); omega) (S'.up g) (by (try dsimp only); omega)) (Nat.le_refl _)
    · rw [isE_skip hE, isE_no hE (by decide)] at h44; cases h44
  · intro v s' e' L' tk' m' v2 v5 h' hO h44 hL' S' hn'
    have hsl := zAf s'
    have hs2 := hO.2.2
    rw [after_no h44, zAy] at S'
    have hal := zBm [93] (zA3 s')
    refine li_endf S' v2 v5 (fun v2 n' g => hk _ v2 v5 L' (vs ++ [v]) _ _ tk' m' _ hL' ?_ (by omega) (S'.up g) (by (try dsimp only); omega)) (Nat.le_refl _)
    rcases hO.1 with ⟨hx, rfl⟩ | ⟨hx, he⟩ | ⟨hx, rfl, hE⟩
    · rw [hx] at hr
      dsimp only at hr
      rw [h44, if_neg Bool.false_ne_true] at hr
      cases h93 : isF [93] (zA3 s') with
      | true =>
       rw [h93, if_pos rfl] at hr
       rw [after1 h93]
       exact .inl ⟨hr.symm, rfl⟩
      | false =>
       rw [h93, if_neg Bool.false_ne_true] at hr
       exact .inr ⟨hr.symm, by decide⟩
    · rw [hx] at hr
      dsimp only at hr
      refine .inr ⟨?_, ?_⟩
      · rw [← hr, need_ne he]
      · rw [need_ne he]; exact he
    · rw [hx] at hr
      dsimp only at hr
      have : isF [93] (zA3 s') = false := by rw [isE_skip hE]; exact isE_no hE (by decide)
      rw [this]
      exact .inr ⟨hr.symm, by decide⟩
theorem RS.dz (S : RS n0 E0 p b br s e cs tk m h) (x : CObj) : zB7 (zA5 h.ents br x) n0 = zA5 E0 p (rdr s e) := (S.d.set S.hr).drop
theorem RS.start {h : CHeap} {p b : Nat} {s : B8} {e : Int} {cs : List CVal} (hf : Fit h) (hg : zA4 h.ents p = some (rdr s e)) (hp : p < h.next) {n br : Nat} (hbr : h.next ≤ br := by (try dsimp only); omega) (hb : br < b := by (try dsimp only); omega) (hn : b < n := by (try dsimp only); omega) : RS h.next h.ents p b br s e cs [] (b + 1) ⟨(b, .cells cs) :: (br, .cells [.int .i64 0, .int .i64 0, .str [], .nils, .nils]) :: h.ents, n, h.tys⟩ := by
 have hu := hf.1
 have hq : ∀ q o, q < h.next → zA4 h.ents q = o → zA4 ((b, CObj.cells cs) :: (br, .cells [.int .i64 0, .int .i64 0, .str [], .nils, .nils]) :: h.ents) q = o := by
  intro q o hq e
  have h1 : (b == q) = false := by simp; omega
  have h2 : (br == q) = false := by simp; omega
  simp only [zA4, h1, h2]; exact e
 refine ⟨hq _ _ hp hg, by simp [zA4], ?_, fun x hx => (by cases hx), ?_, ?_, ?_, hn, hp, hbr, hb, by omega, ⟨?_, hf.2.le (by (try dsimp only); omega)⟩⟩
 · have : (b == br) = false := by simp; omega
   simp [zA4, this]
 · rw [zBk hg]
   exact Over.cons (Over.cons (over_refl hu) hbr) (by omega)
 · intro y hy hb2
   rcases List.mem_cons.1 hy with rfl | hy
   · exact absurd hb2 (by (try dsimp only); omega)
   rcases List.mem_cons.1 hy with rfl | hy
   · exact absurd hb2 (by (try dsimp only); omega)
   · exact absurd (hu _ hy) (by omega)
 · exact Under.cons (by omega) (Under.cons (by omega) (hu.le (by omega)))
 · exact Under.cons (by (try dsimp only); omega) (Under.cons (by (try dsimp only); omega) (hu.le (by (try dsimp only); omega)))
theorem n_tks (S : RS n0 E0 p b br s e cs tk m h) {d : Nat} {w : B8} (hl : s.length < 90000) {v : Bool} (hv : isF w (zA3 s) = v) {K : KT} (hk : ∀ h', RS n0 E0 p b br (zAi w (zA3 s)) e cs tk m h' → h.next ≤ h'.next → K (.bool v) h') : Wc tree.getF 30 [.ptr p d 0, .str w] h K :=
 n_take S hl v hv hk (Nat.le_refl _)
theorem lf_true {F : B8 → PR} {dv : Int} {M : Nat} (hF : PC 12 F dv M) (s : B8) (hs : s.length < M) (hl : s.length < 25000) (h93 : isF [93] (zA3 s) = true) (p dd : Nat) (h : CHeap) (K : KT) (hk : ∀ v s' e' n' ty, Out (zEi F s) s v s' e' → h.next ≤ n' → zA9 ty n' → K v ⟨zA5 h.ents p (rdr s' e'), n', ty⟩) (hf : Fit h) (hg : zA4 h.ents p = some (rdr s 0)) (hp : p < h.next) : Wc tree.getF 28 [.ptr p dd 0, .int .i64 dv] h K := by
 obtain ⟨hu, hut, hX⟩ := fx4 hf
 have hZ := hg
 have hLz := trivial
 have hdz := trivial
 refine Wc.mkG 28 c28 (by kernel_rfl) rfl ?_
 generalize e : zAa .. = r
 simp (disch := omega) [c28] at e
 subst e
 repeat (first | refine st_ rfl ?_ | ((first | refine rg_ ?_ | refine go_ ?_); refine gw_ (by simp (disch := omega) [hX, hZ, hLz, hdz, -CVal.strip, st_i, st_s, st_n, st_o, st_0, st_p]; rfl) ?_) | (refine n_tks (RS.start hf hg hp) (by omega) h93 fun _ S g => ⟨rfl, ?_⟩; have hZ := S.z; have hlb := S.lb; have hmn := S.mn; try dsimp only at g))
 refine li_endf S _ _ (fun v2 n' g2 => ?_)
 have hdz := S.dz
 (try dsimp only at g2)
 (try simp only [zAb, zA0, zAh, zA8, reduceIte])
 repeat (first | refine st_ rfl ?_ | ((first | refine rg_ ?_ | refine go_ ?_); refine gw_ (by simp (disch := omega) [hX, hZ, hLz, hdz, -CVal.strip, st_i, st_s, st_n, st_o, st_0, st_p]; rfl) ?_))
 (first | (refine W.ret ?_; (try simp only [zAb, zA0, zA8]); refine endW.of (.inl rfl) rfl ?_) | refine endW.of (.inl rfl) rfl ?_ | refine endW.of (.inr rfl) rfl ?_); generalize e : zAc .. = r; simp (disch := omega) [hX, hZ, hLz, hdz, -CVal.strip, st_i, st_s, st_n, st_o, st_0, st_p, c28] at e; subst e
 refine hk (nList []) _ _ _ _ ⟨.inl ⟨?_, rfl⟩, Node.nList _, ?_⟩ ?_ ?_
 · unfold zEi; rw [if_pos h93, after1 h93]
 · have := zBm [93] (zA3 s); have := zAf s; omega
 · (try dsimp only); omega
 · exact S.f.2.le (by (try dsimp only); omega)
theorem lf_false {F : B8 → PR} {dv : Int} {M : Nat} (hF : PC 12 F dv M) (s : B8) (hs : s.length < M) (hl : s.length < 25000) (h93 : isF [93] (zA3 s) = false) (p dd : Nat) (h : CHeap) (K : KT) (hk : ∀ v s' e' n' ty, Out (zEi F s) s v s' e' → h.next ≤ n' → zA9 ty n' → K v ⟨zA5 h.ents p (rdr s' e'), n', ty⟩) (hf : Fit h) (hg : zA4 h.ents p = some (rdr s 0)) (hp : p < h.next) : Wc tree.getF 28 [.ptr p dd 0, .int .i64 dv] h K := by
 obtain ⟨hu, hut, hX⟩ := fx4 hf
 have hZ := hg
 have hLz := trivial
 have hdz := trivial
 refine Wc.mkG 28 c28 (by kernel_rfl) rfl ?_
 generalize e : zAa .. = r
 simp (disch := omega) [c28] at e
 subst e
 repeat (first | refine st_ rfl ?_ | ((first | refine rg_ ?_ | refine go_ ?_); refine gw_ (by simp (disch := omega) [hX, hZ, hLz, hdz, -CVal.strip, st_i, st_s, st_n, st_o, st_0, st_p]; rfl) ?_) | (refine n_tks (RS.start hf hg hp) (by omega) h93 fun _ S g => ⟨rfl, ?_⟩; have hZ := S.z; have hlb := S.lb; have hmn := S.mn; try dsimp only at g))
 have hal := zBm [93] (zA3 s)
 have hsl := zAf s
 rw [after_no h93] at S
 rw [after_no h93] at hal
 refine li_loop (ls := s.length) (n1 := h.next) hF (R := zEi F s) (fun more v2 v5 L vs' s' e' tk' m' h' hL hR hsl2 S g2 => ?_) (s.length + 1) [] (zA3 s) .nils [] _ _ _ _ (by omega) (by omega) (by omega) (by (try dsimp only [List.length]); omega) (.inl ⟨rfl, rfl, rfl⟩) (S.up (by (try dsimp only); omega)) ?_ (by (try dsimp only); omega)
 · have hdz := S.dz
   have hZ := S.z
   have hLz := hL.z
   have hmn := S.mn
   (try simp only [zAb, zA0, zAh, zA8, reduceIte])
   repeat (first | refine st_ rfl ?_ | ((first | refine rg_ ?_ | refine go_ ?_); refine gw_ (by simp (disch := omega) [hX, hZ, hLz, hdz, -CVal.strip, st_i, st_s, st_n, st_o, st_0, st_p]; rfl) ?_))
   (first | (refine W.ret ?_; (try simp only [zAb, zA0, zA8]); refine endW.of (.inl rfl) rfl ?_) | refine endW.of (.inl rfl) rfl ?_ | refine endW.of (.inr rfl) rfl ?_); generalize e : zAc .. = r; simp (disch := omega) [hX, hZ, hLz, hdz, -CVal.strip, st_i, st_s, st_n, st_o, st_0, st_p, c28] at e; subst e
   refine hk (nList vs') _ _ _ _ ⟨?_, Node.nList _, hsl2⟩ ?_ ?_
   · rcases hR with hR | hR
     · exact .inl hR
     · exact .inr (.inl hR)
   · (try dsimp only); omega
   · exact S.f.2.le (by (try dsimp only); omega)
 · unfold zEi; rw [h93, if_neg Bool.false_ne_true]
theorem li_F {F : B8 → PR} {dv : Int} {M : Nat} (hM : M ≤ 25000) (hF : PC 12 F dv M) : PC 28 (zEi F) dv M := by
 intro s hs p dd h K hk hf hg hp
 cases h93 : isF [93] (zA3 s) with
 | true => exact lf_true hF s hs (by omega) h93 p dd h K hk hf hg hp
 | false => exact lf_false hF s hs (by omega) h93 p dd h K hk hf hg hp
theorem RS.upT (S : RS n0 E0 p b br s e cs tk m h) {n : Nat} {ty : NN} (hn : h.next ≤ n) (ht : zA9 ty n) : RS n0 E0 p b br s e cs tk m ⟨h.ents, n, ty⟩ :=
 ⟨S.g, S.gb, S.gr, S.gt, S.d, S.nc, S.u, Nat.le_trans S.mn hn, S.hp, S.hr, S.hb, S.lb, ⟨S.f.1.le hn, ht⟩⟩
theorem RS.tks (S : RS n0 E0 p b br s e cs tk m h) {tk' : NN} (ht : ∀ x ∈ tk', x ∈ tk) : RS n0 E0 p b br s e cs tk' m h :=
 ⟨S.g, S.gb, S.gr, fun x hx => S.gt x (ht x hx), S.d, S.nc, S.u, S.mn, S.hp, S.hr, S.hb, S.lb, S.f⟩
theorem RS.lt (S : RS n0 E0 p b br s e cs tk m h) {x : Nat × Nat} (hx : x ∈ tk) : x.1 < m := by
 rcases Nat.lt_or_ge x.1 m with g | g
 · exact g
 · have := (S.gt x hx).1
   rw [zAx S.u g] at this; cases this
theorem RS.hpN (S : RS n0 E0 p b br s e cs tk m h) : p < h.next :=
 Nat.lt_trans (Nat.lt_of_lt_of_le (Nat.lt_of_lt_of_le S.hp S.hr) (Nat.le_of_lt S.hb)) (Nat.lt_of_lt_of_le S.lb S.mn)
theorem RS.cell (S : RS n0 E0 p b br s e cs tk m h) {cs' : List CVal} : RS n0 E0 p b br s e cs' tk m ⟨zA5 h.ents b (.cells cs'), h.next, h.tys⟩ := by
 have h1 := S.hp; have h2 := S.hr; have h3 := S.hb; have h4 := S.lb; have h5 := S.mn
 refine ⟨?_, zA6 S.gb, ?_, ?_, S.d.set (by omega), S.nc.setB (Nat.le_refl _), S.u.set, h5, h1, h2, h3, h4, ⟨S.f.1.set, S.f.2⟩⟩
 · exact (zA7 (by omega)).trans S.g
 · exact (zA7 (by omega)).trans S.gr
 · intro x hx
   have := S.gt x hx
   exact ⟨(zA7 (by omega)).trans this.1, this.2⟩
theorem RS.t0 (S : RS n0 E0 p b br s e cs tk m h) {i n : Nat} (hi : m ≤ i := by (try dsimp only); omega) (hn : i < n := by (try dsimp only); omega) (hn2 : h.next ≤ n := by (try dsimp only); omega) : RS n0 E0 p b br s e cs ((i, 0) :: tk) (i + 1) ⟨(i, .tok 0) :: h.ents, n, h.tys⟩ := by
 have h1 := S.hp; have h2 := S.hr; have h3 := S.hb; have h4 := S.lb; have h5 := S.mn
 have hq : ∀ q o, q < m → zA4 h.ents q = o → zA4 ((i, CObj.tok 0) :: h.ents) q = o := by
  intro q o hq e
  have : (i == q) = false := by simp; omega
  simp only [zA4, this]; exact e
 refine ⟨hq _ _ (by omega) S.g, hq _ _ (by omega) S.gb, hq _ _ (by omega) S.gr, ?_, S.d.cons (by omega), NC.tok S.nc, Under.cons (by omega) (S.u.le (by omega)), hn, h1, h2, h3, by omega, ⟨Under.cons (by (try dsimp only); omega) (S.u.le (by (try dsimp only); omega)), S.f.2.le (by (try dsimp only); omega)⟩⟩
 intro x hx
 rcases List.mem_cons.1 hx with rfl | hx
 · exact ⟨by simp [zA4], by (try dsimp only); omega⟩
 · exact ⟨hq _ _ (S.lt hx) (S.gt x hx).1, (S.gt x hx).2⟩
theorem RS.t1 {i v : Nat} (S : RS n0 E0 p b br s e cs ((i, v) :: tk) m h) (hd : ∀ x ∈ tk, x.1 ≠ i) {n : Nat} (hn : h.next ≤ n := by (try dsimp only); omega) : RS n0 E0 p b br s e cs ((i, v + 1) :: tk) m ⟨zA5 h.ents i (.tok (v + 1)), n, h.tys⟩ := by
 have h1 := S.hp; have h2 := S.hr; have h3 := S.hb; have h4 := S.lb; have h5 := S.mn
 obtain ⟨ht, hbi⟩ := S.gt (i, v) (by simp)
 dsimp only at ht hbi
 refine ⟨?_, ?_, ?_, ?_, S.d.set (by omega), NC.setT S.nc, S.u.set, Nat.le_trans h5 hn, h1, h2, h3, h4, ⟨S.f.1.set.le hn, S.f.2.le hn⟩⟩
 · exact (zA7 (by omega)).trans S.g
 · exact (zA7 (by omega)).trans S.gb
 · exact (zA7 (by omega)).trans S.gr
 · intro x hx
   rcases List.mem_cons.1 hx with rfl | hx
   · exact ⟨zA6 ht, hbi⟩
   · have := S.gt x (List.mem_cons_of_mem _ hx)
     exact ⟨(zA7 (by have := hd x hx; omega)).trans this.1, this.2⟩
theorem n_rec2 (S : RS n0 E0 p b br s 0 cs tk m h) {f : Nat} {F : B8 → PR} {dv : Int} {M dd : Nat} (hF : PC f F dv M) (hs : s.length < M) {K : KT} (hk : ∀ v s' e' h', Out (F s) s v s' e' → RS n0 E0 p b br s' e' cs tk m h' → h.next ≤ h'.next → K v h') : Wc tree.getF f [.ptr p dd 0, .int .i64 dv] h K :=
 n_rec S hF hs hk (Nat.le_refl _)
theorem n_txo (S : RS n0 E0 p b br s e cs tk m h) {d : Nat} {t : B8} {k : Nat} (hl : s.length < 30000) (hu : unqV (zA3 s) = some (t, k)) (hk1 : k ≤ (zA3 s).length) {K : KT} {n : Nat} (hk : ∀ h', RS n0 E0 p b br ((zA3 s).drop k) e cs tk m h' → n ≤ h'.next → K (.str t) h') (hn : h.next ≤ n := by (try dsimp only); omega) : Wc tree.getF 27 [.ptr p d 0] ⟨h.ents, n, h.tys⟩ K :=
 have S1 := S.up hn
 tx_ok s t k e hl hu hk1 (fun n' ty g1 g2 => hk _ (S1.put _ e g1 g2) g1) S1.f S.g S1.hpN
theorem n_txn (S : RS n0 E0 p b br s 0 cs tk m h) {d : Nat} (hl : s.length < 30000) (hu : unqV (zA3 s) = none) {K : KT} {n : Nat} (hk : ∀ h', RS n0 E0 p b br (zA3 s) 2 cs tk m h' → n ≤ h'.next → K (.str []) h') (hn : h.next ≤ n := by (try dsimp only); omega) : Wc tree.getF 27 [.ptr p d 0] ⟨h.ents, n, h.tys⟩ K :=
 have S1 := S.up hn
 tx_no s 0 hl hu rfl (fun n' ty g1 g2 => hk _ (S1.put _ 2 g1 g2) g1) S1.f S.g S1.hpN
theorem n_f0 (S : RS n0 E0 p b br s e cs tk m h) {d : Nat} {x : Int} {K : KT} {n : Nat} (hk : ∀ h', RS n0 E0 p b br s e cs tk m h' → n ≤ h'.next → K (.tup []) h') (hn : h.next ≤ n := by (try dsimp only); omega) : Wc tree.getF 14 [.ptr p d 0, .bool false, .int .i64 x] ⟨h.ents, n, h.tys⟩ K :=
 rf_no x _ (S.up hn).f _ fun n' ty g1 g2 => hk _ ((S.up hn).upT g1 g2) g1
theorem n_f1 (S : RS n0 E0 p b br s 0 cs tk m h) {d : Nat} {x : Int} {K : KT} {n : Nat} (hk : ∀ h', RS n0 E0 p b br s x cs tk m h' → n ≤ h'.next → K (.tup []) h') (hn : h.next ≤ n := by (try dsimp only); omega) : Wc tree.getF 14 [.ptr p d 0, .bool true, .int .i64 x] ⟨h.ents, n, h.tys⟩ K :=
 have S1 := S.up hn
 rf_yes s x (fun n' ty g1 g2 => hk _ (S1.put _ x g1 g2) g1) S1.f S.g S1.hpN
theorem n_f2 (S : RS n0 E0 p b br s e cs tk m h) (he : e ≠ 0) {d : Nat} {x : Int} {w : Bool} {K : KT} {n : Nat} (hk : ∀ h', RS n0 E0 p b br s e cs tk m h' → n ≤ h'.next → K (.tup []) h') (hn : h.next ≤ n := by (try dsimp only); omega) : Wc tree.getF 14 [.ptr p d 0, .bool w, .int .i64 x] ⟨h.ents, n, h.tys⟩ K :=
 have S1 := S.up hn
 rf_ag s e x w he (fun n' ty g1 g2 => hk _ (S1.upT g1 g2) g1) S1.f S.g S1.hpN
theorem n_cn (S : RS n0 E0 p b br s e cs tk m h) (ns : List (B8)) {w : B8} (hl : ns.length < 90000) (v : Bool) (hv : ns.contains w = v) {K : KT} {n : Nat} (hk : ∀ h', RS n0 E0 p b br s e cs tk m h' → n ≤ h'.next → K (.bool v) h') (hn : h.next ≤ n := by (try dsimp only); omega) : Wc tree.getF 51 [zCw ns, .str w] ⟨h.ents, n, h.tys⟩ K := by
 subst hv
 exact cn_F ns w hl _ (S.up hn).f _ fun n' ty g1 g2 => hk _ ((S.up hn).upT g1 g2) g1
theorem iu_i {k : IntKind} {n : Int} : (CVal.int k n).isUndef = false := rfl
theorem iu_s {s : B8} : (CVal.str s).isUndef = false := rfl
theorem iu_b {b : Bool} : (CVal.bool b).isUndef = false := rfl
theorem iu_p {q d o : Nat} : (CVal.ptr q d o).isUndef = false := rfl
theorem iu_n : CVal.nils.isUndef = false := rfl
theorem iu_m {t : Tag} {k : Nat} {es : List CVal} : (CVal.imm t k es).isUndef = false := rfl
theorem ba_i {k : IntKind} {n : Int} : (CVal.int k n).bare = .int k n := rfl
theorem ba_s {s : B8} : (CVal.str s).bare = .str s := rfl
theorem ba_b {b : Bool} : (CVal.bool b).bare = .bool b := rfl
theorem ba_p {q d o : Nat} : (CVal.ptr q d o).bare = .ptr q d o := rfl
theorem iu_a {es : List CVal} : (CVal.agg es).isUndef = false := rfl
def TOK (A L : CVal) (ns : List (B8)) (vs : List CVal) (tk : NN) : Prop :=
 (ns = [] ∧ vs = [] ∧ A = .nils ∧ L = .nils ∧ tk = []) ∨ ∃ i v j w, i ≠ j ∧ A = .imm (.own i v) 1 (ns.map .str) ∧ L = .imm (.own j w) 5 vs ∧ tk = [(i, v), (j, w)] ∧ ns ≠ [] ∧ vs ≠ []
theorem TOK.z {A L : CVal} {ns : List (B8)} {vs : List CVal} (h : TOK A L ns vs tk) : (A.bare = zCw ns ∧ A.strip = zCw ns ∧ A.whole = true ∧ A.isUndef = false ∧ A.cells.length = 1) ∧ L.strip = kidsV vs ∧ L.whole = true ∧ L.isUndef = false ∧ L.cells.length = 1 := by
 rcases h with ⟨rfl, rfl, rfl, rfl, _⟩ | ⟨i, v, j, w, _, rfl, rfl, _, hn, hv⟩
 · exact ⟨⟨rfl, rfl, rfl, rfl, rfl⟩, rfl, rfl, rfl, rfl⟩
 · have hq : CVal.imm .none 1 (ns.map .str) = zCw ns := by
    unfold zCw
    cases ns with
    | nil => exact absurd rfl hn
    | cons a r => rfl
   refine ⟨⟨hq, hq, rfl, rfl, rfl⟩, ?_, rfl, rfl, rfl⟩
   · unfold kidsV
     cases vs with
     | nil => exact absurd rfl hv
     | cons a r => rfl
abbrev zCu : CCode := (.loop true (.seq (.seq (.region [.v 1, .m (.loc 0), .q (.mv (.var 0)) 0 true, .q (.nilck (.loc 0)) 1 true, .q (.fieldAddr 1 (.loc 0)) 2 true, .q (.load none (.loc 0)) 3 true, .q (.bin .eql (.loc 0) (.k 0)) 4 true, .g (.pick (.loc 5) (.loc 0) (.b false))] [(2, 7)] [] []) (.cond (.var 2) .skip (.exit 0))) (.block 1 (.seq (.region [.v 0, .g (.call false 27 [(.loc 0)]), .m (.loc 0)] [(4, 2)] [] []) (.seq (.region [.v 0, .g (.fieldAddr 4 (.var 3)), .l 0, .v 4, .g (.call false 51 [(.loc 1), (.loc 0)]), .g (.call false 14 [(.loc 4), (.loc 0), (.k 5)])] [] [] []) (.seq (.region [.v 0, .g (.call false 50 [(.loc 0), (.const (.str [58]))])] [] [] []) (.seq (.seq (.region [.v 0, .n 0, .f 1 0, .l 0, .x .neq 0 (.k 0)] [(5, 4)] [] []) (.cond (.var 5) (.exit 0) .skip)) (.seq (.region [.g (.fieldAddr 4 (.var 3)), .l 0, .v 4, .g (.lit .imm false [(.str [])] 1 [(0, (.loc 0))]), .g (.append .imm 0 1 (.loc 2) (.loc 0)), .g (.fieldAddr 3 (.var 3)), .l 0, .v 0, .v 6, .g (.call false 12 [(.loc 1), (.loc 0)]), .g (.lit .imm true [(.int .i64 0), (.int .i64 0), (.str []), .nils, .nils] 1 [(0, (.loc 0))]), .g (.append .imm 0 5 (.loc 4) (.loc 0)), .g (.fieldAddr 4 (.var 3)), .g (.store 1 (.loc 0) (.loc 8)), .g (.fieldAddr 3 (.var 3)), .g (.store 1 (.loc 0) (.loc 3))] [] [(6, 0, 2)] []) (.seq (.region [.v 0, .g (.call false 30 [(.loc 0), (.const (.str [44]))]), .m (.loc 0)] [(1, 2)] [] []) (.seq (.region [.v 1, .g (.not (.loc 0))] [(7, 1)] [] []) (.cond (.var 7) (.region [.v 0, .g (.call false 50 [(.loc 0), (.const (.str [125]))])] [] [] []) .skip)))))))))))
theorem ta_endf (S : RS n0 E0 p b br s e cs tk m h) {dv : Int} {dd : Nat} {Q : QT} (v2 v4 v5 v7 : CVal) (hk : ∀ v2 n', h.next ≤ n' → Q (.exit 0) ⟨[.ptr p dd 0, .bool false, v2, .ptr b 28311557 0, v4, v5, .int .i64 dv, v7, .ptr br 28311557 0], ⟨h.ents, n', h.tys⟩, []⟩) {n : Nat} (hn : h.next ≤ n := by (try dsimp only); omega) : W tree.getF zCu ⟨[.ptr p dd 0, .bool false, v2, .ptr b 28311557 0, v4, v5, .int .i64 dv, v7, .ptr br 28311557 0], ⟨h.ents, n, h.tys⟩, []⟩ Q := by
 have hlb := S.lb
 have hmn := S.mn
 have hZ := S.z
 refine W.loop ?_
 repeat (first | refine st_ rfl ?_ | ((first | refine rg_ ?_ | refine go_ ?_); refine gw_ (by simp (disch := omega) [hZ, hlb]; rfl) ?_))
 all_goals (refine hk _ _ ?_; ((try dsimp only); omega))
theorem ta_ende (S : RS n0 E0 p b br s e cs tk m h) {dv : Int} {dd : Nat} (he : (e == 0) = false) {Q : QT} (v2 v4 v5 v7 : CVal) (hk : ∀ v2 n', h.next ≤ n' → Q (.exit 0) ⟨[.ptr p dd 0, .bool true, v2, .ptr b 28311557 0, v4, v5, .int .i64 dv, v7, .ptr br 28311557 0], ⟨h.ents, n', h.tys⟩, []⟩) {n : Nat} (hn : h.next ≤ n := by (try dsimp only); omega) : W tree.getF zCu ⟨[.ptr p dd 0, .bool true, v2, .ptr b 28311557 0, v4, v5, .int .i64 dv, v7, .ptr br 28311557 0], ⟨h.ents, n, h.tys⟩, []⟩ Q := by
 have hlb := S.lb
 have hmn := S.mn
 have hZ := S.z
 refine W.loop ?_
 repeat (first | refine st_ rfl ?_ | ((first | refine rg_ ?_ | refine go_ ?_); refine gw_ (by simp (disch := omega) [hZ, hlb, he]; rfl) ?_))
 all_goals (refine hk _ _ ?_; ((try dsimp only); omega))
theorem ta_A {A L : CVal} {ns : List (B8)} {vs : List CVal} (hT : TOK A L ns vs tk) (S : RS n0 E0 p b br s 0 ([.int .i64 6, .int .i64 0, .str [], L, A]) tk m h) {dv : Int} {dd : Nat} (hl : s.length < 30000) (hvl : ns.length < 90000) (hu : unqV (zA3 s) = none) {Q : QT} (v2 v4 v5 v7 : CVal)
    (hk : ∀ (v2 v4 v5 v7 : CVal) s' h', s'.length ≤ s.length → RS n0 E0 p b br s' 2 ([.int .i64 6, .int .i64 0, .str [], L, A]) tk m h' → h.next ≤ h'.next → Q (.exit 0) ⟨[.ptr p dd 0, .bool true, v2, .ptr b 28311557 0, v4, v5, .int .i64 dv, v7, .ptr br 28311557 0], h', []⟩) : W tree.getF zCu ⟨[.ptr p dd 0, .bool true, v2, .ptr b 28311557 0, v4, v5, .int .i64 dv, v7, .ptr br 28311557 0], h, []⟩ Q := by
 have hlb := S.lb
 have hmn := S.mn
 have hZ := S.z
 have hLz := hT.z
 have hs0 := zAf s
 have hs1 := zBm [58] (zA3 (zA3 s))
 have hs2 := zAf (zA3 s)
 refine W.loop ?_
 repeat (first | refine st_ rfl ?_ | ((first | refine rg_ ?_ | refine go_ ?_); refine gw_ (by simp (disch := omega) [hZ, hLz, -CVal.bare, ba_i, ba_s, ba_b, ba_p, -CVal.isUndef, iu_i, iu_s, iu_b, iu_p, iu_n, iu_m, iu_a, -CVal.strip, st_i, st_s, st_n, st_o, st_0, st_p, hlb, zB6]; rfl) ?_) | (refine n_txn S (by omega) hu fun _ S g => ⟨rfl, ?_⟩; have hZ := S.z; have hlb := S.lb; have hmn := S.mn; try dsimp only at g) | (refine n_cn S ns (by omega) _ rfl fun _ S g => ⟨rfl, ?_⟩; have hZ := S.z; have hlb := S.lb; have hmn := S.mn; try dsimp only at g) | (refine n_f2 S (by decide) fun _ S g => ⟨rfl, ?_⟩; have hZ := S.z; have hlb := S.lb; have hmn := S.mn; try dsimp only at g) | (refine n_need S (by omega) fun _ S g => ⟨rfl, ?_⟩; rw [need_ne (by decide)] at S; have hZ := S.z; have hlb := S.lb; have hmn := S.mn; try dsimp only at g))
 all_goals (refine hk _ _ _ _ _ _ ?_ (S.up ?_) ?_ <;> ((try dsimp only); omega))
theorem ta_B {A L : CVal} {ns : List (B8)} {vs : List CVal} (hT : TOK A L ns vs tk) (S : RS n0 E0 p b br s 0 ([.int .i64 6, .int .i64 0, .str [], L, A]) tk m h) {dv : Int} {dd : Nat} (hl : s.length < 30000) (hvl : ns.length < 90000) {t : B8} {k : Nat} (hu : unqV (zA3 s) = some (t, k)) (hk1 : k ≤ (zA3 s).length) (hc : ns.contains t = true) {Q : QT} (v2 v4 v5 v7 : CVal)
    (hk : ∀ (v2 v4 v5 v7 : CVal) s' h', s'.length ≤ s.length → RS n0 E0 p b br s' 5 ([.int .i64 6, .int .i64 0, .str [], L, A]) tk m h' → h.next ≤ h'.next → Q (.exit 0) ⟨[.ptr p dd 0, .bool true, v2, .ptr b 28311557 0, v4, v5, .int .i64 dv, v7, .ptr br 28311557 0], h', []⟩) : W tree.getF zCu ⟨[.ptr p dd 0, .bool true, v2, .ptr b 28311557 0, v4, v5, .int .i64 dv, v7, .ptr br 28311557 0], h, []⟩ Q := by
 have hlb := S.lb
 have hmn := S.mn
 have hZ := S.z
 have hLz := hT.z
 have hs0 := zAf s
 have hs1 := zBm [58] (zA3 ((zA3 s).drop k))
 have hs2 := zAf ((zA3 s).drop k)
 rw [List.length_drop] at hs2
 refine W.loop ?_
 repeat (first | refine st_ rfl ?_ | ((first | refine rg_ ?_ | refine go_ ?_); refine gw_ (by simp (disch := omega) [hZ, hLz, -CVal.bare, ba_i, ba_s, ba_b, ba_p, -CVal.isUndef, iu_i, iu_s, iu_b, iu_p, iu_n, iu_m, iu_a, -CVal.strip, st_i, st_s, st_n, st_o, st_0, st_p, hlb, zB6]; rfl) ?_) | (refine n_txo S (by omega) hu hk1 fun _ S g => ⟨rfl, ?_⟩; have hZ := S.z; have hlb := S.lb; have hmn := S.mn; try dsimp only at g) | (refine n_cn S ns (by omega) _ hc fun _ S g => ⟨rfl, ?_⟩; have hZ := S.z; have hlb := S.lb; have hmn := S.mn; try dsimp only at g) | (refine n_f1 S fun _ S g => ⟨rfl, ?_⟩; have hZ := S.z; have hlb := S.lb; have hmn := S.mn; try dsimp only at g) | (refine n_need S (by rw [List.length_drop]; omega) fun _ S g => ⟨rfl, ?_⟩; rw [need_ne (by decide)] at S; have hZ := S.z; have hlb := S.lb; have hmn := S.mn; try dsimp only at g))
 all_goals (refine hk _ _ _ _ _ _ ?_ (S.up ?_) ?_ <;> ((try dsimp only); omega))
theorem ta_C {A L : CVal} {ns : List (B8)} {vs : List CVal} (hT : TOK A L ns vs tk) (S : RS n0 E0 p b br s 0 ([.int .i64 6, .int .i64 0, .str [], L, A]) tk m h) {dv : Int} {dd : Nat} (hl : s.length < 30000) (hvl : ns.length < 90000) {t : B8} {k : Nat} (hu : unqV (zA3 s) = some (t, k)) (hk1 : k ≤ (zA3 s).length) (hc : ns.contains t = false) (h58 : isF [58] (zA3 ((zA3 s).drop k)) = false) {Q : QT} (v2 v4 v5 v7 : CVal)
    (hk : ∀ (v2 v4 v5 v7 : CVal) s' h', s'.length ≤ s.length → RS n0 E0 p b br s' 2 ([.int .i64 6, .int .i64 0, .str [], L, A]) tk m h' → h.next ≤ h'.next → Q (.exit 0) ⟨[.ptr p dd 0, .bool true, v2, .ptr b 28311557 0, v4, v5, .int .i64 dv, v7, .ptr br 28311557 0], h', []⟩) : W tree.getF zCu ⟨[.ptr p dd 0, .bool true, v2, .ptr b 28311557 0, v4, v5, .int .i64 dv, v7, .ptr br 28311557 0], h, []⟩ Q := by
 have hlb := S.lb
 have hmn := S.mn
 have hZ := S.z
 have hLz := hT.z
 have hs0 := zAf s
 have hs1 := zBm [58] (zA3 ((zA3 s).drop k))
 have hs2 := zAf ((zA3 s).drop k)
 rw [List.length_drop] at hs2
 refine W.loop ?_
 repeat (first | refine st_ rfl ?_ | ((first | refine rg_ ?_ | refine go_ ?_); refine gw_ (by simp (disch := omega) [hZ, hLz, -CVal.bare, ba_i, ba_s, ba_b, ba_p, -CVal.isUndef, iu_i, iu_s, iu_b, iu_p, iu_n, iu_m, iu_a, -CVal.strip, st_i, st_s, st_n, st_o, st_0, st_p, hlb, zB6]; rfl) ?_) | (refine n_txo S (by omega) hu hk1 fun _ S g => ⟨rfl, ?_⟩; have hZ := S.z; have hlb := S.lb; have hmn := S.mn; try dsimp only at g) | (refine n_cn S ns (by omega) _ hc fun _ S g => ⟨rfl, ?_⟩; have hZ := S.z; have hlb := S.lb; have hmn := S.mn; try dsimp only at g) | (refine n_f0 S fun _ S g => ⟨rfl, ?_⟩; have hZ := S.z; have hlb := S.lb; have hmn := S.mn; try dsimp only at g) | (refine n_need S (by rw [List.length_drop]; omega) fun _ S g => ⟨rfl, ?_⟩; rw [h58, show needE false 0 = 2 from rfl] at S; have hZ := S.z; have hlb := S.lb; have hmn := S.mn; try dsimp only at g))
 all_goals (refine hk _ _ _ _ _ _ ?_ (S.up ?_) ?_ <;> ((try dsimp only); omega))
theorem ta_nil (ns : List (B8)) (vs : List CVal) (hns : ns = []) (hvs : vs = []) (S : RS n0 E0 p b br s 0 ([.int .i64 6, .int .i64 0, .str [], .nils, .nils]) ([]) m h) {t : B8} {k : Nat} (hu : unqV (zA3 s) = some (t, k)) (hk1 : k ≤ (zA3 s).length) (hc : ns.contains t = false) (h58 : isF [58] (zA3 ((zA3 s).drop k)) = true) {F : B8 → PR} {dv : Int} {M dd : Nat} (hF : PC 12 F dv M) (hs : s.length < M) (hl : s.length < 30000) (hvl : vs.length < 90000) (hvl2 : ns.length < 90000) {Q : QT} (v2 v4 v5 v7 : CVal)
    (hag : ∀ v s' e' (i j : Nat) (hij : i ≠ j) (m' : Nat) (v2 v4 v5 v7 : CVal) h', Out (F ((zA3 ((zA3 s).drop k)).drop 1)) ((zA3 ((zA3 s).drop k)).drop 1) v s' e' → isF [44] (zA3 s') = true → RS n0 E0 p b br (zAi [44] (zA3 s')) e' ([.int .i64 6, .int .i64 0, .str [], .imm (.own j 0) 5 (vs ++ [v]), .imm (.own i 0) 1 (ns.map .str ++ [.str t])]) ([(j, 0), (i, 0)]) m' h' → h.next ≤ h'.next → W tree.getF zCu ⟨[.ptr p dd 0, .bool true, v2, .ptr b 28311557 0, v4, v5, .int .i64 dv, v7, .ptr br 28311557 0], h', []⟩ Q)
    (hen : ∀ v s' e' (i j : Nat) (hij : i ≠ j) (m' : Nat) (v2 v4 v5 v7 : CVal) h', Out (F ((zA3 ((zA3 s).drop k)).drop 1)) ((zA3 ((zA3 s).drop k)).drop 1) v s' e' → isF [44] (zA3 s') = false → RS n0 E0 p b br (zAi [125] (zA3 (zAi [44] (zA3 s')))) (needE (isF [125] (zA3 (zAi [44] (zA3 s')))) e') ([.int .i64 6, .int .i64 0, .str [], .imm (.own j 0) 5 (vs ++ [v]), .imm (.own i 0) 1 (ns.map .str ++ [.str t])]) ([(j, 0), (i, 0)]) m' h' → h.next ≤ h'.next → W tree.getF zCu ⟨[.ptr p dd 0, .bool false, v2, .ptr b 28311557 0, v4, v5, .int .i64 dv, v7, .ptr br 28311557 0], h', []⟩ Q) : W tree.getF zCu ⟨[.ptr p dd 0, .bool true, v2, .ptr b 28311557 0, v4, v5, .int .i64 dv, v7, .ptr br 28311557 0], h, []⟩ Q := by
 have hlb := S.lb
 have hmn := S.mn
 have hY := S.z
 have hZ := S.z
 have hLl := trivial
 have hs0 := zAf s
 have hs7 := zAf ((zA3 s).drop k)
 rw [List.length_drop] at hs7
 have hs8 := zDg h58
 have hs3 : ((zA3 ((zA3 s).drop k)).drop 1).length < M := by omega
 subst hns
 subst hvs
 have hTOK : TOK .nils .nils [] [] [] := .inl ⟨rfl, rfl, rfl, rfl, rfl⟩
 refine W.loop ?_
 repeat' (first
  | refine st_ rfl ?_
  | ((first | refine rg_ ?_ | refine go_ ?_); refine gw_ (by simp (disch := omega) [hY, hZ, -CVal.strip, st_i, st_s, st_n, st_o, st_0, st_p, hlb, hvl, hvl2, hLl, zB6]; rfl) ?_)
  | (refine n_txo S (by omega) hu hk1 fun _ S g => ⟨rfl, ?_⟩; have hZ := S.z; have hlb := S.lb; have hmn := S.mn; try dsimp only at g)
  | (refine n_cn S [] (by simp) _ hc fun _ S g => ⟨rfl, ?_⟩; have hZ := S.z; have hlb := S.lb; have hmn := S.mn; try dsimp only at g)
  | (refine n_f0 S fun _ S g => ⟨rfl, ?_⟩; have hZ := S.z; have hlb := S.lb; have hmn := S.mn; try dsimp only at g)
  | (refine n_need (w := [58]) S (by rw [List.length_drop]; omega) fun _ S g => ⟨rfl, ?_⟩; rw [h58, show needE true 0 = 0 from rfl, after1 h58] at S; have hZ := S.z; have hlb := S.lb; have hmn := S.mn; try dsimp only at g)
  | (have hY := S.z; refine n_rec2 S.t0 hF hs3 fun v s' e' _ hO S g => ⟨out_u hO, ?_⟩; have hZ := S.z; have hlb := S.lb; have hmn := S.mn; have hij2 := S.lt List.mem_cons_self; (try dsimp only at hij2); obtain ⟨k9, nn, t9, L9, N9, hv, hL1, hN1⟩ := hO.2.1; have hLl := And.intro hL1.z hN1.z; (try dsimp only at g); have hs2 := hO.2.2; have hs4 := zAf s'; have hs5 := zBm [44] (zA3 s'); have hs6 := zAf (zAi [44] (zA3 s')); subst hv; cases h44 : isF [44] (zA3 s'))
  | (refine n_tk2 (S.cell.t0) (by omega) _ h44 fun _ S g => ⟨rfl, ?_⟩; have hZ := S.z; have hlb := S.lb; have hmn := S.mn; try dsimp only at g)
  | (refine n_need S (by omega) fun _ S g => ⟨rfl, ?_⟩; have hZ := S.z; have hlb := S.lb; have hmn := S.mn; try dsimp only at g))
 · show W tree.getF zCu (dropped true _ _) Q; generalize e : dropped .. = r; simp (disch := omega) [hZ] at e; subst e
   refine hen _ s' e' _ _ (by omega) _ _ _ _ _ _ hO h44 (S.up ?_) ?_ <;> ((try dsimp only); omega)
 · show W tree.getF zCu (dropped true _ _) Q; generalize e : dropped .. = r; simp (disch := omega) [hZ] at e; subst e
   refine hag _ s' e' _ _ (by omega) _ _ _ _ _ _ hO h44 (S.up ?_) ?_ <;> ((try dsimp only); omega)
theorem ta_own (ns : List (B8)) (vs : List CVal) {i w j u : Nat} (hij : i ≠ j) (hnn : ns ≠ []) (S : RS n0 E0 p b br s 0 ([.int .i64 6, .int .i64 0, .str [], .imm (.own j u) 5 vs, .imm (.own i w) 1 (ns.map .str)]) ([(i, w), (j, u)]) m h) {t : B8} {k : Nat} (hu : unqV (zA3 s) = some (t, k)) (hk1 : k ≤ (zA3 s).length) (hc : ns.contains t = false) (h58 : isF [58] (zA3 ((zA3 s).drop k)) = true) {F : B8 → PR} {dv : Int} {M dd : Nat} (hF : PC 12 F dv M) (hs : s.length < M) (hl : s.length < 30000) (hvl : vs.length < 90000) (hvl2 : ns.length < 90000) {Q : QT} (v2 v4 v5 v7 : CVal)
    (hag : ∀ v s' e' (m' : Nat) (v2 v4 v5 v7 : CVal) h', Out (F ((zA3 ((zA3 s).drop k)).drop 1)) ((zA3 ((zA3 s).drop k)).drop 1) v s' e' → isF [44] (zA3 s') = true → RS n0 E0 p b br (zAi [44] (zA3 s')) e' ([.int .i64 6, .int .i64 0, .str [], .imm (.own j (u + 1)) 5 (vs ++ [v]), .imm (.own i (w + 1)) 1 (ns.map .str ++ [.str t])]) ([(j, u + 1), (i, w + 1)]) m' h' → h.next ≤ h'.next → W tree.getF zCu ⟨[.ptr p dd 0, .bool true, v2, .ptr b 28311557 0, v4, v5, .int .i64 dv, v7, .ptr br 28311557 0], h', []⟩ Q)
    (hen : ∀ v s' e' (m' : Nat) (v2 v4 v5 v7 : CVal) h', Out (F ((zA3 ((zA3 s).drop k)).drop 1)) ((zA3 ((zA3 s).drop k)).drop 1) v s' e' → isF [44] (zA3 s') = false → RS n0 E0 p b br (zAi [125] (zA3 (zAi [44] (zA3 s')))) (needE (isF [125] (zA3 (zAi [44] (zA3 s')))) e') ([.int .i64 6, .int .i64 0, .str [], .imm (.own j (u + 1)) 5 (vs ++ [v]), .imm (.own i (w + 1)) 1 (ns.map .str ++ [.str t])]) ([(j, u + 1), (i, w + 1)]) m' h' → h.next ≤ h'.next → W tree.getF zCu ⟨[.ptr p dd 0, .bool false, v2, .ptr b 28311557 0, v4, v5, .int .i64 dv, v7, .ptr br 28311557 0], h', []⟩ Q) : W tree.getF zCu ⟨[.ptr p dd 0, .bool true, v2, .ptr b 28311557 0, v4, v5, .int .i64 dv, v7, .ptr br 28311557 0], h, []⟩ Q := by
 have hlb := S.lb
 have hmn := S.mn
 have hY := S.z
 have hZ := S.z
 have hLl := trivial
 have hs0 := zAf s
 have hs7 := zAf ((zA3 s).drop k)
 rw [List.length_drop] at hs7
 have hs8 := zDg h58
 have hs3 : ((zA3 ((zA3 s).drop k)).drop 1).length < M := by omega
 have hti := (S.gt (i, w) (by simp)).1
 have htj := (S.gt (j, u) (by simp)).1
 dsimp only at hti htj
 have hbi := (S.gt (i, w) (by simp)).2
 have hbj := (S.gt (j, u) (by simp)).2
 dsimp only at hbi hbj
 have hTi := S.tb (i := i) (w := w) (by simp)
 have hTj := S.tb (i := j) (w := u) (by simp)
 have hTJ := fun x y => zA6 (x := y) (hTj x)
 have hYi := hTi
 have hNV : zCw ns = .imm .none 1 (ns.map .str) := by unfold zCw; rw [if_neg (by simpa using hnn)]
 refine W.loop ?_
 repeat' (first
  | refine st_ rfl ?_
  | ((first | refine rg_ ?_ | refine go_ ?_); refine gw_ (by simp (disch := omega) [hY, hZ, -CVal.strip, st_i, st_s, st_n, st_o, st_0, st_p, hlb, hvl, hvl2, hLl, zB6, hti, htj, hTj, hTi, hTJ, hYi]; rfl) ?_)
  | (refine n_txo S (by omega) hu hk1 fun _ S g => ⟨rfl, ?_⟩; have hZ := S.z; have hlb := S.lb; have hmn := S.mn; have hti := (S.gt (i, w) (by simp)).1; have htj := (S.gt (j, u) (by simp)).1; (try dsimp only at hti htj); have hTi := S.tb (i := i) (w := w) (by simp); have hTj := S.tb (i := j) (w := u) (by simp); have hTJ := fun x y => zA6 (x := y) (hTj x); try dsimp only at g)
  | (rw [← hNV]; refine n_cn S ns (by omega) _ hc fun _ S g => ⟨rfl, ?_⟩; have hZ := S.z; have hlb := S.lb; have hmn := S.mn; have hti := (S.gt (i, w) (by simp)).1; have htj := (S.gt (j, u) (by simp)).1; (try dsimp only at hti htj); have hTi := S.tb (i := i) (w := w) (by simp); have hTj := S.tb (i := j) (w := u) (by simp); have hTJ := fun x y => zA6 (x := y) (hTj x); try dsimp only at g)
  | (refine n_f0 S fun _ S g => ⟨rfl, ?_⟩; have hZ := S.z; have hlb := S.lb; have hmn := S.mn; have hti := (S.gt (i, w) (by simp)).1; have htj := (S.gt (j, u) (by simp)).1; (try dsimp only at hti htj); have hTi := S.tb (i := i) (w := w) (by simp); have hTj := S.tb (i := j) (w := u) (by simp); have hTJ := fun x y => zA6 (x := y) (hTj x); try dsimp only at g)
  | (refine n_need (w := [58]) S (by rw [List.length_drop]; omega) fun _ S g => ⟨rfl, ?_⟩; rw [h58, show needE true 0 = 0 from rfl, after1 h58] at S; have hZ := S.z; have hlb := S.lb; have hmn := S.mn; have hti := (S.gt (i, w) (by simp)).1; have htj := (S.gt (j, u) (by simp)).1; (try dsimp only at hti htj); have hTi := S.tb (i := i) (w := w) (by simp); have hTj := S.tb (i := j) (w := u) (by simp); have hTJ := fun x y => zA6 (x := y) (hTj x); try dsimp only at g)
  | (have hY := S.z; have hYi := hTi; refine n_rec2 (S.t1 (by simp; omega)) hF hs3 fun v s' e' _ hO S g => ⟨out_u hO, ?_⟩; have hZ := S.z; have hlb := S.lb; have hmn := S.mn; have hti := (S.gt (i, w + 1) (by simp)).1; have htj := (S.gt (j, u) (by simp)).1; (try dsimp only at hti htj); have hTi := S.tb (i := i) (w := w + 1) (by simp); have hTj := S.tb (i := j) (w := u) (by simp); have hTJ := fun x y => zA6 (x := y) (hTj x); obtain ⟨k9, nn, t9, L9, N9, hv, hL1, hN1⟩ := hO.2.1; have hLl := And.intro hL1.z hN1.z; (try dsimp only at g); have hs2 := hO.2.2; have hs4 := zAf s'; have hs5 := zBm [44] (zA3 s'); have hs6 := zAf (zAi [44] (zA3 s')); subst hv; cases h44 : isF [44] (zA3 s'))
  | (refine n_tk2 (RS.cell (RS.t1 (S.tks (tk' := [(j, u), (i, w + 1)]) (by simp)) (by simp; omega))) (by omega) _ h44 fun _ S g => ⟨rfl, ?_⟩; have hZ := S.z; have hlb := S.lb; have hmn := S.mn; try dsimp only at g)
  | (refine n_need S (by omega) fun _ S g => ⟨rfl, ?_⟩; have hZ := S.z; have hlb := S.lb; have hmn := S.mn; try dsimp only at g))
 · show W tree.getF zCu (dropped true _ _) Q; generalize e : dropped .. = r; simp (disch := omega) [hZ] at e; subst e
   refine hen _ s' e' _ _ _ _ _ _ hO h44 (S.up ?_) ?_ <;> ((try dsimp only); omega)
 · show W tree.getF zCu (dropped true _ _) Q; generalize e : dropped .. = r; simp (disch := omega) [hZ] at e; subst e
   refine hag _ s' e' _ _ _ _ _ _ hO h44 (S.up ?_) ?_ <;> ((try dsimp only); omega)
theorem unqF_len : ∀ (m : Nat) (acc r : B8) (n : Nat) (t : B8) (k : Nat), unqF m acc r n = some (t, k) → k ≤ n + r.length := by
 intro m
 induction m with
 | zero => intro acc r n t k h; cases h
 | succ m ih =>
  intro acc r n t k h
  cases r with
  | nil => cases h
  | cons c r =>
   unfold unqF at h
   rw [List.length_cons]
   split at h
   · split at h
     · have := Option.some.inj h; have := congrArg Prod.snd this; (try dsimp only at this); omega
     · cases h
   · split at h
     · cases h
     · split at h
       · split at h
         · cases h
         · rename_i t2 k2 he
           have h1 := escV_len he
           have h2 := ih _ _ _ _ _ h
           rw [List.length_drop] at h2
           omega
       · have h2 := ih _ _ _ _ _ h
         omega
theorem unqV_len {s t : B8} {k : Nat} (h : unqV s = some (t, k)) : k ≤ s.length := by
 cases s with
 | nil => cases h
 | cons c r =>
  have h : (if c = 34 then unqF (r.length + 1) [] r 1 else none) = some (t, k) := h
  by_cases hc : c = 34
  · rw [if_pos hc] at h
    have := unqF_len _ _ _ _ _ _ h; rw [List.length_cons]; omega
  · rw [if_neg hc] at h; cases h
theorem ta_yes {A L : CVal} {ns : List (B8)} {vs : List CVal} (hT : TOK A L ns vs tk) (S : RS n0 E0 p b br s 0 ([.int .i64 6, .int .i64 0, .str [], L, A]) tk m h) {t : B8} {k : Nat} (hu : unqV (zA3 s) = some (t, k)) (hk1 : k ≤ (zA3 s).length) (hc : ns.contains t = false) (h58 : isF [58] (zA3 ((zA3 s).drop k)) = true) {F : B8 → PR} {dv : Int} {M dd : Nat} (hF : PC 12 F dv M) (hs : s.length < M) (hl : s.length < 30000) (hvl : vs.length < 90000) (hvl2 : ns.length < 90000) {Q : QT} (v2 v4 v5 v7 : CVal)
    (hag : ∀ v s' e' A' L' tk' (m' : Nat) (v2 v4 v5 v7 : CVal) h', Out (F ((zA3 ((zA3 s).drop k)).drop 1)) ((zA3 ((zA3 s).drop k)).drop 1) v s' e' → isF [44] (zA3 s') = true → TOK A' L' (ns ++ [t]) (vs ++ [v]) tk' → RS n0 E0 p b br (zAi [44] (zA3 s')) e' ([.int .i64 6, .int .i64 0, .str [], L', A']) tk' m' h' → h.next ≤ h'.next → W tree.getF zCu ⟨[.ptr p dd 0, .bool true, v2, .ptr b 28311557 0, v4, v5, .int .i64 dv, v7, .ptr br 28311557 0], h', []⟩ Q)
    (hen : ∀ v s' e' A' L' tk' (m' : Nat) (v2 v4 v5 v7 : CVal) h', Out (F ((zA3 ((zA3 s).drop k)).drop 1)) ((zA3 ((zA3 s).drop k)).drop 1) v s' e' → isF [44] (zA3 s') = false → TOK A' L' (ns ++ [t]) (vs ++ [v]) tk' → RS n0 E0 p b br (zAi [125] (zA3 (zAi [44] (zA3 s')))) (needE (isF [125] (zA3 (zAi [44] (zA3 s')))) e') ([.int .i64 6, .int .i64 0, .str [], L', A']) tk' m' h' → h.next ≤ h'.next → W tree.getF zCu ⟨[.ptr p dd 0, .bool false, v2, .ptr b 28311557 0, v4, v5, .int .i64 dv, v7, .ptr br 28311557 0], h', []⟩ Q) : W tree.getF zCu ⟨[.ptr p dd 0, .bool true, v2, .ptr b 28311557 0, v4, v5, .int .i64 dv, v7, .ptr br 28311557 0], h, []⟩ Q := by
 have hmap : ns.map CVal.str ++ [.str t] = (ns ++ [t]).map CVal.str := by simp
 rcases hT with ⟨h1, h2, rfl, rfl, rfl⟩ | ⟨i, w, j, u, hij, rfl, rfl, rfl, hne, hne2⟩
 · refine ta_nil ns vs h1 h2 S hu hk1 hc h58 hF hs hl hvl hvl2 v2 v4 v5 v7 ?_ ?_
   · intro v s' e' i j hij m' v2 v4 v5 v7 h' a1 a2 a3 a4
     rw [hmap] at a3
     exact hag v s' e' _ _ _ m' v2 v4 v5 v7 h' a1 a2 (.inr ⟨i, 0, j, 0, hij, rfl, rfl, rfl, by simp, by simp⟩) (a3.tks (by intro x hx; simp only [List.mem_cons, List.not_mem_nil, or_false] at hx ⊢; exact hx.symm)) a4
   · intro v s' e' i j hij m' v2 v4 v5 v7 h' a1 a2 a3 a4
     rw [hmap] at a3
     exact hen v s' e' _ _ _ m' v2 v4 v5 v7 h' a1 a2 (.inr ⟨i, 0, j, 0, hij, rfl, rfl, rfl, by simp, by simp⟩) (a3.tks (by intro x hx; simp only [List.mem_cons, List.not_mem_nil, or_false] at hx ⊢; exact hx.symm)) a4
 · refine ta_own ns vs hij hne S hu hk1 hc h58 hF hs hl hvl hvl2 v2 v4 v5 v7 ?_ ?_
   · intro v s' e' m' v2 v4 v5 v7 h' a1 a2 a3 a4
     rw [hmap] at a3
     exact hag v s' e' _ _ _ m' v2 v4 v5 v7 h' a1 a2 (.inr ⟨i, w + 1, j, u + 1, hij, rfl, rfl, rfl, by simp, by simp⟩) (a3.tks (by intro x hx; simp only [List.mem_cons, List.not_mem_nil, or_false] at hx ⊢; exact hx.symm)) a4
   · intro v s' e' m' v2 v4 v5 v7 h' a1 a2 a3 a4
     rw [hmap] at a3
     exact hen v s' e' _ _ _ m' v2 v4 v5 v7 h' a1 a2 (.inr ⟨i, w + 1, j, u + 1, hij, rfl, rfl, rfl, by simp, by simp⟩) (a3.tks (by intro x hx; simp only [List.mem_cons, List.not_mem_nil, or_false] at hx ⊢; exact hx.symm)) a4
theorem ta_loop {F : B8 → PR} {dv : Int} {M dd : Nat} (hF : PC 12 F dv M) {Q : QT} {n1 ls : Nat} {R : PR}
    (hk : ∀ more (v2 v4 v5 v7 : CVal) A L ns' vs' s' e' tk' m' h', TOK A L ns' vs' tk' → (R = .ok (nTab ns' vs') s' ∧ e' = 0 ∨ R = .err e' ∧ e' ≠ 0) → s'.length ≤ ls → RS n0 E0 p b br s' e' ([.int .i64 6, .int .i64 0, .str [], L, A]) tk' m' h' → n1 ≤ h'.next → Q (.exit 0) ⟨[.ptr p dd 0, more, v2, .ptr b 28311557 0, v4, v5, .int .i64 dv, v7, .ptr br 28311557 0], h', []⟩) :
    ∀ (k : Nat) (ns : List (B8)) (vs : List CVal) (s : B8) (A L : CVal) (tk : NN) (m : Nat) (h : CHeap) (v2 v4 v5 v7 : CVal), s.length < k → s.length < M → s.length ≤ ls → vs.length + s.length < 30000 → ns.length + s.length < 30000 → TOK A L ns vs tk → RS n0 E0 p b br s 0 ([.int .i64 6, .int .i64 0, .str [], L, A]) tk m h → tabF F k ns vs s = R → n1 ≤ h.next → W tree.getF zCu ⟨[.ptr p dd 0, .bool true, v2, .ptr b 28311557 0, v4, v5, .int .i64 dv, v7, .ptr br 28311557 0], h, []⟩ Q := by
 intro k
 induction k with
 | zero => intro ns vs s A L tk m h v2 v4 v5 v7 hk1; omega
 | succ k ih =>
  intro ns vs s A L tk m h v2 v4 v5 v7 hk1 hM hls hlen hlen2 hT S hR hn
  have hr := hR
  unfold tabF at hr
  have hss := zAf s
  cases hu : unqV (zA3 s) with
  | none =>
   rw [hu] at hr
   dsimp only at hr
   exact ta_A hT S (by omega) (by omega) hu v2 v4 v5 v7 fun v2 v4 v5 v7 s' h' g1 S' g2 => hk _ v2 v4 v5 v7 A L ns vs s' 2 _ _ _ hT (.inr ⟨hr.symm, by decide⟩) (by omega) S' (by omega)
  | some tk2 =>
   obtain ⟨t, q⟩ := tk2
   have hq := unqV_len hu
   rw [hu] at hr
   dsimp only at hr
   cases hc : ns.contains t with
   | true =>
    rw [if_pos hc] at hr
    exact ta_B hT S (by omega) (by omega) hu hq hc v2 v4 v5 v7 fun v2 v4 v5 v7 s' h' g1 S' g2 => hk _ v2 v4 v5 v7 A L ns vs s' 5 _ _ _ hT (.inr ⟨hr.symm, by decide⟩) (by omega) S' (by omega)
   | false =>
    rw [if_neg (by rw [hc]; exact Bool.false_ne_true)] at hr
    cases h58 : isF [58] (zA3 ((zA3 s).drop q)) with
    | false =>
     rw [if_neg (by rw [h58]; exact Bool.false_ne_true)] at hr
     exact ta_C hT S (by omega) (by omega) hu hq hc h58 v2 v4 v5 v7 fun v2 v4 v5 v7 s' h' g1 S' g2 => hk _ v2 v4 v5 v7 A L ns vs s' 2 _ _ _ hT (.inr ⟨hr.symm, by decide⟩) (by omega) S' (by omega)
    | true =>
     rw [if_pos h58] at hr
     have hs7 := zAf ((zA3 s).drop q)
     rw [List.length_drop] at hs7
     have hs8 := zDg h58
     refine ta_yes hT S hu hq hc h58 hF hM (by omega) (by omega) (by omega) v2 v4 v5 v7 ?_ ?_
     · intro v s' e' A' L' tk' m' v2 v4 v5 v7 h' hO h44 hT' S' hn'
       have hsl := zAf s'
       have hs2 := hO.2.2
       have h1 := zDg h44
       have ha := after1 h44
       rw [ha] at S'
       rcases hO.1 with ⟨hx, rfl⟩ | ⟨hx, he⟩ | ⟨_, _, hE⟩
       · rw [hx] at hr
         dsimp only at hr
         rw [if_pos h44] at hr
         exact ih (ns ++ [t]) (vs ++ [v]) _ A' L' tk' m' h' v2 v4 v5 v7 (by omega) (by omega) (by omega) (by rw [List.length_append, List.length_singleton]; omega) (by rw [List.length_append, List.length_singleton]; omega) hT' S' hr (by omega)
       · rw [hx] at hr
         dsimp only at hr
         exact ta_ende S' (by simpa using he) v2 v4 v5 v7 (fun v2 n' g => hk _ v2 v4 v5 v7 A' L' (ns ++ [t]) (vs ++ [v]) _ e' tk' m' _ hT' (.inr ⟨hr.symm, he⟩) (by omega) (S'.up g) (by (try dsimp only); omega)) (Nat.le_refl _)
       · rw [isE_skip hE, isE_no hE (by decide)] at h44; cases h44
     · intro v s' e' A' L' tk' m' v2 v4 v5 v7 h' hO h44 hT' S' hn'
       have hsl := zAf s'
       have hs2 := hO.2.2
       rw [after_no h44, zAy] at S'
       have hal := zBm [125] (zA3 s')
       refine ta_endf S' v2 v4 v5 v7 (fun v2 n' g => hk _ v2 v4 v5 v7 A' L' (ns ++ [t]) (vs ++ [v]) _ _ tk' m' _ hT' ?_ (by omega) (S'.up g) (by (try dsimp only); omega)) (Nat.le_refl _)
       rcases hO.1 with ⟨hx, rfl⟩ | ⟨hx, he⟩ | ⟨hx, rfl, hE⟩
       · rw [hx] at hr
         dsimp only at hr
         rw [h44, if_neg Bool.false_ne_true] at hr
         cases h93 : isF [125] (zA3 s') with
         | true =>
          rw [h93, if_pos rfl] at hr
          rw [after1 h93]
          exact .inl ⟨hr.symm, rfl⟩
         | false =>
          rw [h93, if_neg Bool.false_ne_true] at hr
          exact .inr ⟨hr.symm, by decide⟩
       · rw [hx] at hr
         dsimp only at hr
         refine .inr ⟨?_, ?_⟩
         · rw [← hr, need_ne he]
         · rw [need_ne he]; exact he
       · rw [hx] at hr
         dsimp only at hr
         have : isF [125] (zA3 s') = false := by rw [isE_skip hE]; exact isE_no hE (by decide)
         rw [this]
         exact .inr ⟨hr.symm, by decide⟩
theorem tf_true {F : B8 → PR} {dv : Int} {M : Nat} (hF : PC 12 F dv M) (s : B8) (hs : s.length < M) (hl : s.length < 25000) (h93 : isF [125] (zA3 s) = true) (p dd : Nat) (h : CHeap) (K : KT) (hk : ∀ v s' e' n' ty, Out (tabR F s) s v s' e' → h.next ≤ n' → zA9 ty n' → K v ⟨zA5 h.ents p (rdr s' e'), n', ty⟩) (hf : Fit h) (hg : zA4 h.ents p = some (rdr s 0)) (hp : p < h.next) : Wc tree.getF 29 [.ptr p dd 0, .int .i64 dv] h K := by
 obtain ⟨hu, hut, hX⟩ := fx4 hf
 have hZ := hg
 have hLz := trivial
 have hdz := trivial
 refine Wc.mkG 29 c29 (by kernel_rfl) rfl ?_
 generalize e : zAa .. = r
 simp (disch := omega) [c29] at e
 subst e
 repeat (first | refine st_ rfl ?_ | ((first | refine rg_ ?_ | refine go_ ?_); refine gw_ (by simp (disch := omega) [hX, hZ, hLz, hdz, -CVal.strip, st_i, st_s, st_n, st_o, st_0, st_p]; rfl) ?_) | (refine n_tks (RS.start hf hg hp) (by omega) h93 fun _ S g => ⟨rfl, ?_⟩; have hZ := S.z; have hlb := S.lb; have hmn := S.mn; try dsimp only at g))
 refine ta_endf S _ _ _ _ (fun v2 n' g2 => ?_)
 have hdz := S.dz
 (try dsimp only at g2)
 (try simp only [zAb, zA0, zAh, zA8, reduceIte])
 repeat (first | refine st_ rfl ?_ | ((first | refine rg_ ?_ | refine go_ ?_); refine gw_ (by simp (disch := omega) [hX, hZ, hLz, hdz, -CVal.strip, st_i, st_s, st_n, st_o, st_0, st_p]; rfl) ?_))
 (first | (refine W.ret ?_; (try simp only [zAb, zA0, zA8]); refine endW.of (.inl rfl) rfl ?_) | refine endW.of (.inl rfl) rfl ?_ | refine endW.of (.inr rfl) rfl ?_); generalize e : zAc .. = r; simp (disch := omega) [hX, hZ, hLz, hdz, -CVal.strip, st_i, st_s, st_n, st_o, st_0, st_p, c29] at e; subst e
 refine hk (nTab [] []) _ _ _ _ ⟨.inl ⟨?_, rfl⟩, Node.nTab _ _, ?_⟩ ?_ ?_
 · unfold tabR; rw [if_pos h93, after1 h93]
 · have := zBm [125] (zA3 s); have := zAf s; omega
 · (try dsimp only); omega
 · exact S.f.2.le (by (try dsimp only); omega)
theorem tf_false {F : B8 → PR} {dv : Int} {M : Nat} (hF : PC 12 F dv M) (s : B8) (hs : s.length < M) (hl : s.length < 25000) (h93 : isF [125] (zA3 s) = false) (p dd : Nat) (h : CHeap) (K : KT) (hk : ∀ v s' e' n' ty, Out (tabR F s) s v s' e' → h.next ≤ n' → zA9 ty n' → K v ⟨zA5 h.ents p (rdr s' e'), n', ty⟩) (hf : Fit h) (hg : zA4 h.ents p = some (rdr s 0)) (hp : p < h.next) : Wc tree.getF 29 [.ptr p dd 0, .int .i64 dv] h K := by
 obtain ⟨hu, hut, hX⟩ := fx4 hf
 have hZ := hg
 have hLz := trivial
 have hdz := trivial
 refine Wc.mkG 29 c29 (by kernel_rfl) rfl ?_
 generalize e : zAa .. = r
 simp (disch := omega) [c29] at e
 subst e
 repeat (first | refine st_ rfl ?_ | ((first | refine rg_ ?_ | refine go_ ?_); refine gw_ (by simp (disch := omega) [hX, hZ, hLz, hdz, -CVal.strip, st_i, st_s, st_n, st_o, st_0, st_p]; rfl) ?_) | (refine n_tks (RS.start hf hg hp) (by omega) h93 fun _ S g => ⟨rfl, ?_⟩; have hZ := S.z; have hlb := S.lb; have hmn := S.mn; try dsimp only at g))
 have hal := zBm [125] (zA3 s)
 have hsl := zAf s
 rw [after_no h93] at S
 rw [after_no h93] at hal
 refine ta_loop (ls := s.length) (n1 := h.next) hF (R := tabR F s) (fun more v2 v4 v5 v7 A L ns' vs' s' e' tk' m' h' hL hR hsl2 S g2 => ?_) (s.length + 1) [] [] (zA3 s) .nils .nils [] _ _ _ _ _ _ (by omega) (by omega) (by omega) (by (try dsimp only [List.length]); omega) (by (try dsimp only [List.length]); omega) (.inl ⟨rfl, rfl, rfl, rfl, rfl⟩) (S.up (by (try dsimp only); omega)) ?_ (by (try dsimp only); omega)
 · have hdz := S.dz
   have hZ := S.z
   have hLz := hL.z
   have hmn := S.mn
   (try simp only [zAb, zA0, zAh, zA8, reduceIte])
   repeat (first | refine st_ rfl ?_ | ((first | refine rg_ ?_ | refine go_ ?_); refine gw_ (by simp (disch := omega) [hX, hZ, hLz, hdz, -CVal.strip, st_i, st_s, st_n, st_o, st_0, st_p]; rfl) ?_))
   (first | (refine W.ret ?_; (try simp only [zAb, zA0, zA8]); refine endW.of (.inl rfl) rfl ?_) | refine endW.of (.inl rfl) rfl ?_ | refine endW.of (.inr rfl) rfl ?_); generalize e : zAc .. = r; simp (disch := omega) [hX, hZ, hLz, hdz, -CVal.strip, st_i, st_s, st_n, st_o, st_0, st_p, c29] at e; subst e
   refine hk (nTab ns' vs') _ _ _ _ ⟨?_, Node.nTab _ _, hsl2⟩ ?_ ?_
   · rcases hR with hR | hR
     · exact .inl hR
     · exact .inr (.inl hR)
   · (try dsimp only); omega
   · exact S.f.2.le (by (try dsimp only); omega)
 · unfold tabR; rw [h93, if_neg Bool.false_ne_true]
theorem ta_F {F : B8 → PR} {dv : Int} {M : Nat} (hM : M ≤ 25000) (hF : PC 12 F dv M) : PC 29 (tabR F) dv M := by
 intro s hs p dd h K hk hf hg hp
 cases h93 : isF [125] (zA3 s) with
 | true => exact tf_true hF s hs (by omega) h93 p dd h K hk hf hg hp
 | false => exact tf_false hF s hs (by omega) h93 p dd h K hk hf hg hp
end Go.Proofs.YtdanefpnfnippaaGreatDoor.IrJ
namespace Go.Proofs.YtdanefpnfnippaaGreatDoor.IrJ
open Go Go.CI
open Go.LexF hiding zC3 zD5
set_option maxRecDepth 100000
set_option maxHeartbeats 4000000
set_option linter.unusedVariables false
set_option linter.unusedSimpArgs false
attribute [local irreducible] W Wo Wc WoR
theorem wGX1 {P : Prop} (h : P := by refine Wc.mkG 12 c12 (by kernel_rfl) rfl ?_; generalize e : zAa .. = r; simp (disch := omega) [c12] at e; subst e; repeat (first | refine st_ rfl ?_ | ((first | refine rg_ ?_ | refine go_ ?_); refine gw_ (by simp (disch := omega) [hX, hZ, hS, hS2, h0, h0b, h0c, hne, hne0, hne1, hpos, zAi, -List.drop_one, hdd, c12]; rfl) ?_) | (refine sk_F s 0 hl1 fun _ _ g _ => ⟨rfl, ?_⟩; try dsimp only at g) | (refine rf_yes S 3 fun _ _ g _ => ⟨rfl, ?_⟩; try dsimp only at g) | ((first | (refine W.ret ?_; (try simp only [zAb, zA0, zA8]); refine endW.of (.inl rfl) rfl ?_) | refine endW.of (.inr rfl) rfl ?_); generalize e : zAc .. = r; simp (disch := omega) [hX, hZ, hS, hS2, h0, h0b, h0c, hne, hne0, hne1, hpos, zAi, -List.drop_one, hdd, c12] at e; subst e; (refine hk _ _ ?_ ?_; omega; exact ut_)))) : P := h
theorem wGX2 {P : Prop} (h : P := by refine Wc.mkG 12 c12 (by kernel_rfl) rfl ?_; generalize e : zAa .. = r; simp (disch := omega) [c12] at e; subst e; repeat (first | refine st_ rfl ?_ | ((first | refine rg_ ?_ | refine go_ ?_); refine gw_ (by simp (disch := omega) [hX, hZ, hS, hS2, h0, h0b, h0c, hne, hne0, hne1, hpos, zAi, -List.drop_one, hdd, hLl, -CVal.strip, st_i, st_s, st_n, st_o, st_0, st_p, c12]; rfl) ?_) | (refine sk_F s 0 hl1 fun _ _ g _ => ⟨rfl, ?_⟩; try dsimp only at g) | (refine pu_ (rf_no 3) fun _ _ g _ => ⟨rfl, ?_⟩; try dsimp only at g) | (refine hG _ hlS _ _ _ _ (fun v s' e' n' ty hO g g2 => ⟨out_u hO, ?_⟩) ft_ ge2_ lt_; obtain ⟨k9, nn, t9, L9, N9, hv, hL1, hN1⟩ := hO.2.1; have hLl := And.intro hL1.z hN1.z; (try dsimp only at g); subst hv) | ((first | (refine W.ret ?_; (try simp only [zAb, zA0, zA8]); refine endW.of (.inl rfl) rfl ?_) | refine endW.of (.inr rfl) rfl ?_); generalize e : zAc .. = r; simp (disch := omega) [hX, hZ, hS, hS2, h0, h0b, h0c, hne, hne0, hne1, hpos, zAi, -List.drop_one, hdd, hLl, -CVal.strip, st_i, st_s, st_n, st_o, st_0, st_p, c12] at e; subst e; (refine hk _ _ _ _ _ hO ?_ ?_; omega; exact ut_)))) : P := h
theorem num_S {p d : Nat} (S : B8) (v : Int) (hv : numV S = some v) (hl : S.length < 30000) {h : CHeap} {K : KT} (hk : ∀ n' ty, h.next ≤ n' → zA9 ty n' → K (.agg [.int .i64 3, .int .i64 v, .str [], .nils, .nils]) ⟨zA5 h.ents p (rdr (numR S) 0), n', ty⟩) (hf : Fit h := by exact ft_) (hg : zA4 h.ents p = some (rdr S 0) := by exact ge2_) (hp : p < h.next := by exact lt_) : Wc tree.getF 31 [.ptr p d 0] h K :=
 num_F S hl (fun v' hv' => by rw [hv] at hv'; cases hv'; exact hk) (fun h0 => by rw [hv] at h0; cases h0) hf hg hp
theorem num_N {p d : Nat} (S : B8) (hv : numV S = none) (hl : S.length < 30000) {h : CHeap} {K : KT} (hk : ∀ v n' ty, h.next ≤ n' → zA9 ty n' → K (.agg [.int .i64 3, .int .i64 v, .str [], .nils, .nils]) ⟨zA5 h.ents p (rdr (numR S) 2), n', ty⟩) (hf : Fit h := by exact ft_) (hg : zA4 h.ents p = some (rdr S 0) := by exact ge2_) (hp : p < h.next := by exact lt_) : Wc tree.getF 31 [.ptr p d 0] h K :=
 num_F S hl (fun v' hv' => by rw [hv] at hv'; cases hv') (fun _ => hk) hf hg hp
theorem tr_str {p d : Nat} (s S : B8) (hS : zA3 s = S) (hl : S.length < 25000) (hl0 : s.length < 25000) (hc : S[0]? = some 34) (t : B8) (k : Nat) (hu1 : unqV (zA3 S) = some (t, k)) (hk1 : k ≤ (zA3 S).length) {dv : Int} {h : CHeap} {K : KT} (hk : ∀ n' ty, h.next ≤ n' → zA9 ty n' → K (.agg [.int .i64 4, .int .i64 0, .str t, .nils, .nils]) ⟨zA5 h.ents p (rdr (S.drop k) (0)), n', ty⟩) (hf : Fit h) (hg : zA4 h.ents p = some (rdr s 0)) (hp : p < h.next) : Wc tree.getF 12 [.ptr p d 0, .int .i64 dv] h K := by
 obtain ⟨hu, hut, hX⟩ := fx4 hf
 have hZ := fx6 hf hg
 have hS2 : zA3 S = S := by rw [← hS]; exact zAy s
 have hl1 : s.length < 90000 := by omega
 have hl2 : S.length < 90000 := by omega
 have hl3 : S.length < 30000 := by omega
 have h0 : S[0]? = some (34) := hc
 have hpos : 0 < S.length := by cases S with | nil => cases hc | cons a r => simp
 have h0b : ∀ hh : 0 < S.length, S[0]'hh = 34 := fun hh => by rw [List.getElem?_eq_getElem hh] at hc; exact Option.some.inj hc
 have h0c : S.head? = some (34) := by cases S with | nil => cases hc | cons a r => simpa using hc
 have hne : S ≠ [] := by intro e; rw [e] at hc; cases hc
 have hne0 : (S == ([] : B8)) = false := by simpa using hne
 have hne1 : S.isEmpty = false := by simpa using hne
 refine Wc.mkG 12 c12 (by kernel_rfl) rfl ?_
 generalize e : zAa .. = r
 simp (disch := omega) [c12] at e
 subst e
 repeat (first | refine st_ rfl ?_ | ((first | refine rg_ ?_ | refine go_ ?_); refine gw_ (by simp (disch := omega) [hX, hZ, hS, hS2, h0, h0b, h0c, hne, hne0, hne1, hpos, zAi, -List.drop_one, c12]; rfl) ?_) | (refine sk_F s 0 hl1 fun _ _ g _ => ⟨rfl, ?_⟩; try dsimp only at g) | (refine tx_ok S t k 0 hl3 hu1 hk1 fun _ _ g _ => ⟨rfl, ?_⟩; try dsimp only at g) | ((first | (refine W.ret ?_; (try simp only [zAb, zA0, zA8]); refine endW.of (.inl rfl) rfl ?_) | refine endW.of (.inr rfl) rfl ?_); generalize e : zAc .. = r; simp (disch := omega) [hX, hZ, hS, hS2, h0, h0b, h0c, hne, hne0, hne1, hpos, zAi, -List.drop_one, c12] at e; subst e; (refine hk _ _ ?_ ?_; omega; exact ut_)))
theorem tr_bad {p d : Nat} (s S : B8) (hS : zA3 s = S) (hl : S.length < 25000) (hl0 : s.length < 25000) (hc : S[0]? = some 34) (hu1 : unqV (zA3 S) = none) {dv : Int} {h : CHeap} {K : KT} (hk : ∀ n' ty, h.next ≤ n' → zA9 ty n' → K (.agg [.int .i64 4, .int .i64 0, .str [], .nils, .nils]) ⟨zA5 h.ents p (rdr (S) (2)), n', ty⟩) (hf : Fit h) (hg : zA4 h.ents p = some (rdr s 0)) (hp : p < h.next) : Wc tree.getF 12 [.ptr p d 0, .int .i64 dv] h K := by
 obtain ⟨hu, hut, hX⟩ := fx4 hf
 have hZ := fx6 hf hg
 have hS2 : zA3 S = S := by rw [← hS]; exact zAy s
 have hl1 : s.length < 90000 := by omega
 have hl2 : S.length < 90000 := by omega
 have hl3 : S.length < 30000 := by omega
 have h0 : S[0]? = some (34) := hc
 have hpos : 0 < S.length := by cases S with | nil => cases hc | cons a r => simp
 have h0b : ∀ hh : 0 < S.length, S[0]'hh = 34 := fun hh => by rw [List.getElem?_eq_getElem hh] at hc; exact Option.some.inj hc
 have h0c : S.head? = some (34) := by cases S with | nil => cases hc | cons a r => simpa using hc
 have hne : S ≠ [] := by intro e; rw [e] at hc; cases hc
 have hne0 : (S == ([] : B8)) = false := by simpa using hne
 have hne1 : S.isEmpty = false := by simpa using hne
 refine Wc.mkG 12 c12 (by kernel_rfl) rfl ?_
 generalize e : zAa .. = r
 simp (disch := omega) [c12] at e
 subst e
 repeat (first | refine st_ rfl ?_ | ((first | refine rg_ ?_ | refine go_ ?_); refine gw_ (by simp (disch := omega) [hX, hZ, hS, hS2, h0, h0b, h0c, hne, hne0, hne1, hpos, zAi, -List.drop_one, c12]; rfl) ?_) | (refine sk_F s 0 hl1 fun _ _ g _ => ⟨rfl, ?_⟩; try dsimp only at g) | (refine tx_no S 0 hl3 hu1 rfl fun _ _ g _ => ⟨rfl, ?_⟩; try dsimp only at g) | ((first | (refine W.ret ?_; (try simp only [zAb, zA0, zA8]); refine endW.of (.inl rfl) rfl ?_) | refine endW.of (.inr rfl) rfl ?_); generalize e : zAc .. = r; simp (disch := omega) [hX, hZ, hS, hS2, h0, h0b, h0c, hne, hne0, hne1, hpos, zAi, -List.drop_one, c12] at e; subst e; (refine hk _ _ ?_ ?_; omega; exact ut_)))
theorem tr_deepl {p d : Nat} (s S : B8) (hS : zA3 s = S) (hl : S.length < 25000) (hl0 : s.length < 25000) (hc : S[0]? = some 91) {dv : Int} (hdd : dv = 20) {h : CHeap} {K : KT} (hk : ∀ n' ty, h.next ≤ n' → zA9 ty n' → K (.agg [.int .i64 0, .int .i64 0, .str [], .nils, .nils]) ⟨zA5 h.ents p (rdr (S) (3)), n', ty⟩) (hf : Fit h) (hg : zA4 h.ents p = some (rdr s 0)) (hp : p < h.next) : Wc tree.getF 12 [.ptr p d 0, .int .i64 dv] h K := by
 obtain ⟨hu, hut, hX⟩ := fx4 hf
 have hZ := fx6 hf hg
 have hS2 : zA3 S = S := by rw [← hS]; exact zAy s
 have hl1 : s.length < 90000 := by omega
 have hl2 : S.length < 90000 := by omega
 have hl3 : S.length < 30000 := by omega
 have h0 : S[0]? = some (91) := hc
 have hpos : 0 < S.length := by cases S with | nil => cases hc | cons a r => simp
 have h0b : ∀ hh : 0 < S.length, S[0]'hh = 91 := fun hh => by rw [List.getElem?_eq_getElem hh] at hc; exact Option.some.inj hc
 have h0c : S.head? = some (91) := by cases S with | nil => cases hc | cons a r => simpa using hc
 have hne : S ≠ [] := by intro e; rw [e] at hc; cases hc
 have hne0 : (S == ([] : B8)) = false := by simpa using hne
 have hne1 : S.isEmpty = false := by simpa using hne
 exact wGX1
theorem tr_l {p d : Nat} (s S : B8) (hS : zA3 s = S) (hl : S.length < 25000) (hl0 : s.length < 25000) (hc : S[0]? = some 91) {F : B8 → PR} {dv : Int} (hdd : dv < 20) (hd0 : 0 ≤ dv) {M : Nat} (hM : s.length < M) (hG : PC 28 (zEi F) (dv + 1) M) {h : CHeap} {K : KT} (hk : ∀ v s' e' n' ty, Out ((zEi F) (S.drop 1)) (S.drop 1) v s' e' → h.next ≤ n' → zA9 ty n' → K v ⟨zA5 h.ents p (rdr s' e'), n', ty⟩) (hf : Fit h) (hg : zA4 h.ents p = some (rdr s 0)) (hp : p < h.next) : Wc tree.getF 12 [.ptr p d 0, .int .i64 dv] h K := by
 obtain ⟨hu, hut, hX⟩ := fx4 hf
 have hZ := fx6 hf hg
 have hS2 : zA3 S = S := by rw [← hS]; exact zAy s
 have hl1 : s.length < 90000 := by omega
 have hl2 : S.length < 90000 := by omega
 have hl3 : S.length < 30000 := by omega
 have h0 : S[0]? = some (91) := hc
 have hpos : 0 < S.length := by cases S with | nil => cases hc | cons a r => simp
 have h0b : ∀ hh : 0 < S.length, S[0]'hh = 91 := fun hh => by rw [List.getElem?_eq_getElem hh] at hc; exact Option.some.inj hc
 have h0c : S.head? = some (91) := by cases S with | nil => cases hc | cons a r => simpa using hc
 have hne : S ≠ [] := by intro e; rw [e] at hc; cases hc
 have hne0 : (S == ([] : B8)) = false := by simpa using hne
 have hne1 : S.isEmpty = false := by simpa using hne
 have hLl := trivial
 have hlS : (S.drop 1).length < M := by have := zAf s; rw [hS] at this; rw [List.length_drop]; omega
 exact wGX2
theorem tr_deept {p d : Nat} (s S : B8) (hS : zA3 s = S) (hl : S.length < 25000) (hl0 : s.length < 25000) (hc : S[0]? = some 123) {dv : Int} (hdd : dv = 20) {h : CHeap} {K : KT} (hk : ∀ n' ty, h.next ≤ n' → zA9 ty n' → K (.agg [.int .i64 0, .int .i64 0, .str [], .nils, .nils]) ⟨zA5 h.ents p (rdr (S) (3)), n', ty⟩) (hf : Fit h) (hg : zA4 h.ents p = some (rdr s 0)) (hp : p < h.next) : Wc tree.getF 12 [.ptr p d 0, .int .i64 dv] h K := by
 obtain ⟨hu, hut, hX⟩ := fx4 hf
 have hZ := fx6 hf hg
 have hS2 : zA3 S = S := by rw [← hS]; exact zAy s
 have hl1 : s.length < 90000 := by omega
 have hl2 : S.length < 90000 := by omega
 have hl3 : S.length < 30000 := by omega
 have h0 : S[0]? = some (123) := hc
 have hpos : 0 < S.length := by cases S with | nil => cases hc | cons a r => simp
 have h0b : ∀ hh : 0 < S.length, S[0]'hh = 123 := fun hh => by rw [List.getElem?_eq_getElem hh] at hc; exact Option.some.inj hc
 have h0c : S.head? = some (123) := by cases S with | nil => cases hc | cons a r => simpa using hc
 have hne : S ≠ [] := by intro e; rw [e] at hc; cases hc
 have hne0 : (S == ([] : B8)) = false := by simpa using hne
 have hne1 : S.isEmpty = false := by simpa using hne
 exact wGX1
theorem tr_t {p d : Nat} (s S : B8) (hS : zA3 s = S) (hl : S.length < 25000) (hl0 : s.length < 25000) (hc : S[0]? = some 123) {F : B8 → PR} {dv : Int} (hdd : dv < 20) (hd0 : 0 ≤ dv) {M : Nat} (hM : s.length < M) (hG : PC 29 (tabR F) (dv + 1) M) {h : CHeap} {K : KT} (hk : ∀ v s' e' n' ty, Out ((tabR F) (S.drop 1)) (S.drop 1) v s' e' → h.next ≤ n' → zA9 ty n' → K v ⟨zA5 h.ents p (rdr s' e'), n', ty⟩) (hf : Fit h) (hg : zA4 h.ents p = some (rdr s 0)) (hp : p < h.next) : Wc tree.getF 12 [.ptr p d 0, .int .i64 dv] h K := by
 obtain ⟨hu, hut, hX⟩ := fx4 hf
 have hZ := fx6 hf hg
 have hS2 : zA3 S = S := by rw [← hS]; exact zAy s
 have hl1 : s.length < 90000 := by omega
 have hl2 : S.length < 90000 := by omega
 have hl3 : S.length < 30000 := by omega
 have h0 : S[0]? = some (123) := hc
 have hpos : 0 < S.length := by cases S with | nil => cases hc | cons a r => simp
 have h0b : ∀ hh : 0 < S.length, S[0]'hh = 123 := fun hh => by rw [List.getElem?_eq_getElem hh] at hc; exact Option.some.inj hc
 have h0c : S.head? = some (123) := by cases S with | nil => cases hc | cons a r => simpa using hc
 have hne : S ≠ [] := by intro e; rw [e] at hc; cases hc
 have hne0 : (S == ([] : B8)) = false := by simpa using hne
 have hne1 : S.isEmpty = false := by simpa using hne
 have hLl := trivial
 have hlS : (S.drop 1).length < M := by have := zAf s; rw [hS] at this; rw [List.length_drop]; omega
 exact wGX2
theorem tr_nul {p d : Nat} (s S : B8) (hS : zA3 s = S) (hl : S.length < 25000) (hl0 : s.length < 25000) (c : UInt8) (hc : S[0]? = some c) (h34 : c.toNat ≠ 34) (h91 : c.toNat ≠ 91) (h123 : c.toNat ≠ 123) (hn : isF [110, 117, 108, 108] S = true) {dv : Int} {h : CHeap} {K : KT} (hk : ∀ n' ty, h.next ≤ n' → zA9 ty n' → K (.agg [.int .i64 1, .int .i64 0, .str [], .nils, .nils]) ⟨zA5 h.ents p (rdr (S.drop 4) (0)), n', ty⟩) (hf : Fit h) (hg : zA4 h.ents p = some (rdr s 0)) (hp : p < h.next) : Wc tree.getF 12 [.ptr p d 0, .int .i64 dv] h K := by
 obtain ⟨hu, hut, hX⟩ := fx4 hf
 have hZ := fx6 hf hg
 have hS2 : zA3 S = S := by rw [← hS]; exact zAy s
 have hl1 : s.length < 90000 := by omega
 have hl2 : S.length < 90000 := by omega
 have hl3 : S.length < 30000 := by omega
 have h0 : S[0]? = some (c) := hc
 have hpos : 0 < S.length := by cases S with | nil => cases hc | cons a r => simp
 have h0b : ∀ hh : 0 < S.length, S[0]'hh = c := fun hh => by rw [List.getElem?_eq_getElem hh] at hc; exact Option.some.inj hc
 have h0c : S.head? = some (c) := by cases S with | nil => cases hc | cons a r => simpa using hc
 have hne : S ≠ [] := by intro e; rw [e] at hc; cases hc
 have hne0 : (S == ([] : B8)) = false := by simpa using hne
 have hne1 : S.isEmpty = false := by simpa using hne
 refine Wc.mkG 12 c12 (by kernel_rfl) rfl ?_
 generalize e : zAa .. = r
 simp (disch := omega) [c12] at e
 subst e
 repeat (first | refine st_ rfl ?_ | ((first | refine rg_ ?_ | refine go_ ?_); refine gw_ (by simp (disch := omega) [hX, hZ, hS, hS2, h0, h0b, h0c, hne, hne0, hne1, hpos, zAi, -List.drop_one, hn, h34, h91, h123, c12]; rfl) ?_) | (refine sk_F s 0 hl1 fun _ _ g _ => ⟨rfl, ?_⟩; try dsimp only at g) | (refine tk_F S [110, 117, 108, 108] 0 hl2 fun _ _ g _ => ⟨rfl, ?_⟩; try dsimp only at g) | (refine tk_F S [116, 114, 117, 101] 0 hl2 fun _ _ g _ => ⟨rfl, ?_⟩; try dsimp only at g) | (refine tk_F S [102, 97, 108, 115, 101] 0 hl2 fun _ _ g _ => ⟨rfl, ?_⟩; try dsimp only at g) | ((first | (refine W.ret ?_; (try simp only [zAb, zA0, zA8]); refine endW.of (.inl rfl) rfl ?_) | refine endW.of (.inr rfl) rfl ?_); generalize e : zAc .. = r; simp (disch := omega) [hX, hZ, hS, hS2, h0, h0b, h0c, hne, hne0, hne1, hpos, zAi, -List.drop_one, hn, h34, h91, h123, c12] at e; subst e; (refine hk _ _ ?_ ?_; omega; exact ut_)))
theorem tr_tru {p d : Nat} (s S : B8) (hS : zA3 s = S) (hl : S.length < 25000) (hl0 : s.length < 25000) (c : UInt8) (hc : S[0]? = some c) (h34 : c.toNat ≠ 34) (h91 : c.toNat ≠ 91) (h123 : c.toNat ≠ 123) (hn : isF [110, 117, 108, 108] S = false) (ht : isF [116, 114, 117, 101] S = true) {dv : Int} {h : CHeap} {K : KT} (hk : ∀ n' ty, h.next ≤ n' → zA9 ty n' → K (.agg [.int .i64 2, .int .i64 1, .str [], .nils, .nils]) ⟨zA5 h.ents p (rdr (S.drop 4) (0)), n', ty⟩) (hf : Fit h) (hg : zA4 h.ents p = some (rdr s 0)) (hp : p < h.next) : Wc tree.getF 12 [.ptr p d 0, .int .i64 dv] h K := by
 obtain ⟨hu, hut, hX⟩ := fx4 hf
 have hZ := fx6 hf hg
 have hS2 : zA3 S = S := by rw [← hS]; exact zAy s
 have hl1 : s.length < 90000 := by omega
 have hl2 : S.length < 90000 := by omega
 have hl3 : S.length < 30000 := by omega
 have h0 : S[0]? = some (c) := hc
 have hpos : 0 < S.length := by cases S with | nil => cases hc | cons a r => simp
 have h0b : ∀ hh : 0 < S.length, S[0]'hh = c := fun hh => by rw [List.getElem?_eq_getElem hh] at hc; exact Option.some.inj hc
 have h0c : S.head? = some (c) := by cases S with | nil => cases hc | cons a r => simpa using hc
 have hne : S ≠ [] := by intro e; rw [e] at hc; cases hc
 have hne0 : (S == ([] : B8)) = false := by simpa using hne
 have hne1 : S.isEmpty = false := by simpa using hne
 refine Wc.mkG 12 c12 (by kernel_rfl) rfl ?_
 generalize e : zAa .. = r
 simp (disch := omega) [c12] at e
 subst e
 repeat (first | refine st_ rfl ?_ | ((first | refine rg_ ?_ | refine go_ ?_); refine gw_ (by simp (disch := omega) [hX, hZ, hS, hS2, h0, h0b, h0c, hne, hne0, hne1, hpos, zAi, -List.drop_one, hn, ht, h34, h91, h123, c12]; rfl) ?_) | (refine sk_F s 0 hl1 fun _ _ g _ => ⟨rfl, ?_⟩; try dsimp only at g) | (refine tk_F S [110, 117, 108, 108] 0 hl2 fun _ _ g _ => ⟨rfl, ?_⟩; try dsimp only at g) | (refine tk_F S [116, 114, 117, 101] 0 hl2 fun _ _ g _ => ⟨rfl, ?_⟩; try dsimp only at g) | (refine tk_F S [102, 97, 108, 115, 101] 0 hl2 fun _ _ g _ => ⟨rfl, ?_⟩; try dsimp only at g) | ((first | (refine W.ret ?_; (try simp only [zAb, zA0, zA8]); refine endW.of (.inl rfl) rfl ?_) | refine endW.of (.inr rfl) rfl ?_); generalize e : zAc .. = r; simp (disch := omega) [hX, hZ, hS, hS2, h0, h0b, h0c, hne, hne0, hne1, hpos, zAi, -List.drop_one, hn, ht, h34, h91, h123, c12] at e; subst e; (refine hk _ _ ?_ ?_; omega; exact ut_)))
theorem tr_fal {p d : Nat} (s S : B8) (hS : zA3 s = S) (hl : S.length < 25000) (hl0 : s.length < 25000) (c : UInt8) (hc : S[0]? = some c) (h34 : c.toNat ≠ 34) (h91 : c.toNat ≠ 91) (h123 : c.toNat ≠ 123) (hn : isF [110, 117, 108, 108] S = false) (ht : isF [116, 114, 117, 101] S = false) (hfa : isF [102, 97, 108, 115, 101] S = true) {dv : Int} {h : CHeap} {K : KT} (hk : ∀ n' ty, h.next ≤ n' → zA9 ty n' → K (.agg [.int .i64 2, .int .i64 0, .str [], .nils, .nils]) ⟨zA5 h.ents p (rdr (S.drop 5) (0)), n', ty⟩) (hf : Fit h) (hg : zA4 h.ents p = some (rdr s 0)) (hp : p < h.next) : Wc tree.getF 12 [.ptr p d 0, .int .i64 dv] h K := by
 obtain ⟨hu, hut, hX⟩ := fx4 hf
 have hZ := fx6 hf hg
 have hS2 : zA3 S = S := by rw [← hS]; exact zAy s
 have hl1 : s.length < 90000 := by omega
 have hl2 : S.length < 90000 := by omega
 have hl3 : S.length < 30000 := by omega
 have h0 : S[0]? = some (c) := hc
 have hpos : 0 < S.length := by cases S with | nil => cases hc | cons a r => simp
 have h0b : ∀ hh : 0 < S.length, S[0]'hh = c := fun hh => by rw [List.getElem?_eq_getElem hh] at hc; exact Option.some.inj hc
 have h0c : S.head? = some (c) := by cases S with | nil => cases hc | cons a r => simpa using hc
 have hne : S ≠ [] := by intro e; rw [e] at hc; cases hc
 have hne0 : (S == ([] : B8)) = false := by simpa using hne
 have hne1 : S.isEmpty = false := by simpa using hne
 refine Wc.mkG 12 c12 (by kernel_rfl) rfl ?_
 generalize e : zAa .. = r
 simp (disch := omega) [c12] at e
 subst e
 repeat (first | refine st_ rfl ?_ | ((first | refine rg_ ?_ | refine go_ ?_); refine gw_ (by simp (disch := omega) [hX, hZ, hS, hS2, h0, h0b, h0c, hne, hne0, hne1, hpos, zAi, -List.drop_one, hn, ht, hfa, h34, h91, h123, c12]; rfl) ?_) | (refine sk_F s 0 hl1 fun _ _ g _ => ⟨rfl, ?_⟩; try dsimp only at g) | (refine tk_F S [110, 117, 108, 108] 0 hl2 fun _ _ g _ => ⟨rfl, ?_⟩; try dsimp only at g) | (refine tk_F S [116, 114, 117, 101] 0 hl2 fun _ _ g _ => ⟨rfl, ?_⟩; try dsimp only at g) | (refine tk_F S [102, 97, 108, 115, 101] 0 hl2 fun _ _ g _ => ⟨rfl, ?_⟩; try dsimp only at g) | ((first | (refine W.ret ?_; (try simp only [zAb, zA0, zA8]); refine endW.of (.inl rfl) rfl ?_) | refine endW.of (.inr rfl) rfl ?_); generalize e : zAc .. = r; simp (disch := omega) [hX, hZ, hS, hS2, h0, h0b, h0c, hne, hne0, hne1, hpos, zAi, -List.drop_one, hn, ht, hfa, h34, h91, h123, c12] at e; subst e; (refine hk _ _ ?_ ?_; omega; exact ut_)))
theorem tr_num {p d : Nat} (s S : B8) (hS : zA3 s = S) (hl : S.length < 25000) (hl0 : s.length < 25000) (c : UInt8) (hc : S[0]? = some c) (h34 : c.toNat ≠ 34) (h91 : c.toNat ≠ 91) (h123 : c.toNat ≠ 123) (hn : isF [110, 117, 108, 108] S = false) (ht : isF [116, 114, 117, 101] S = false) (hfa : isF [102, 97, 108, 115, 101] S = false) (v : Int) (hv : numV S = some v) {dv : Int} {h : CHeap} {K : KT} (hk : ∀ n' ty, h.next ≤ n' → zA9 ty n' → K (.agg [.int .i64 3, .int .i64 v, .str [], .nils, .nils]) ⟨zA5 h.ents p (rdr (numR S) (0)), n', ty⟩) (hf : Fit h) (hg : zA4 h.ents p = some (rdr s 0)) (hp : p < h.next) : Wc tree.getF 12 [.ptr p d 0, .int .i64 dv] h K := by
 obtain ⟨hu, hut, hX⟩ := fx4 hf
 have hZ := fx6 hf hg
 have hS2 : zA3 S = S := by rw [← hS]; exact zAy s
 have hl1 : s.length < 90000 := by omega
 have hl2 : S.length < 90000 := by omega
 have hl3 : S.length < 30000 := by omega
 have h0 : S[0]? = some (c) := hc
 have hpos : 0 < S.length := by cases S with | nil => cases hc | cons a r => simp
 have h0b : ∀ hh : 0 < S.length, S[0]'hh = c := fun hh => by rw [List.getElem?_eq_getElem hh] at hc; exact Option.some.inj hc
 have h0c : S.head? = some (c) := by cases S with | nil => cases hc | cons a r => simpa using hc
 have hne : S ≠ [] := by intro e; rw [e] at hc; cases hc
 have hne0 : (S == ([] : B8)) = false := by simpa using hne
 have hne1 : S.isEmpty = false := by simpa using hne
 refine Wc.mkG 12 c12 (by kernel_rfl) rfl ?_
 generalize e : zAa .. = r
 simp (disch := omega) [c12] at e
 subst e
 repeat (first | refine st_ rfl ?_ | ((first | refine rg_ ?_ | refine go_ ?_); refine gw_ (by simp (disch := omega) [hX, hZ, hS, hS2, h0, h0b, h0c, hne, hne0, hne1, hpos, zAi, -List.drop_one, hn, ht, hfa, h34, h91, h123, c12]; rfl) ?_) | (refine sk_F s 0 hl1 fun _ _ g _ => ⟨rfl, ?_⟩; try dsimp only at g) | (refine tk_F S [110, 117, 108, 108] 0 hl2 fun _ _ g _ => ⟨rfl, ?_⟩; try dsimp only at g) | (refine tk_F S [116, 114, 117, 101] 0 hl2 fun _ _ g _ => ⟨rfl, ?_⟩; try dsimp only at g) | (refine tk_F S [102, 97, 108, 115, 101] 0 hl2 fun _ _ g _ => ⟨rfl, ?_⟩; try dsimp only at g) | (refine num_S S v hv hl3 fun _ _ g _ => ⟨rfl, ?_⟩; try dsimp only at g) | ((first | (refine W.ret ?_; (try simp only [zAb, zA0, zA8]); refine endW.of (.inl rfl) rfl ?_) | refine endW.of (.inr rfl) rfl ?_); generalize e : zAc .. = r; simp (disch := omega) [hX, hZ, hS, hS2, h0, h0b, h0c, hne, hne0, hne1, hpos, zAi, -List.drop_one, hn, ht, hfa, h34, h91, h123, c12] at e; subst e; (refine hk _ _ ?_ ?_; omega; exact ut_)))
theorem tr_non {p d : Nat} (s S : B8) (hS : zA3 s = S) (hl : S.length < 25000) (hl0 : s.length < 25000) (c : UInt8) (hc : S[0]? = some c) (h34 : c.toNat ≠ 34) (h91 : c.toNat ≠ 91) (h123 : c.toNat ≠ 123) (hn : isF [110, 117, 108, 108] S = false) (ht : isF [116, 114, 117, 101] S = false) (hfa : isF [102, 97, 108, 115, 101] S = false) (hv : numV S = none) {dv : Int} {h : CHeap} {K : KT} (hk : ∀ v n' ty, h.next ≤ n' → zA9 ty n' → K (.agg [.int .i64 3, .int .i64 v, .str [], .nils, .nils]) ⟨zA5 h.ents p (rdr (numR S) (2)), n', ty⟩) (hf : Fit h) (hg : zA4 h.ents p = some (rdr s 0)) (hp : p < h.next) : Wc tree.getF 12 [.ptr p d 0, .int .i64 dv] h K := by
 obtain ⟨hu, hut, hX⟩ := fx4 hf
 have hZ := fx6 hf hg
 have hS2 : zA3 S = S := by rw [← hS]; exact zAy s
 have hl1 : s.length < 90000 := by omega
 have hl2 : S.length < 90000 := by omega
 have hl3 : S.length < 30000 := by omega
 have h0 : S[0]? = some (c) := hc
 have hpos : 0 < S.length := by cases S with | nil => cases hc | cons a r => simp
 have h0b : ∀ hh : 0 < S.length, S[0]'hh = c := fun hh => by rw [List.getElem?_eq_getElem hh] at hc; exact Option.some.inj hc
 have h0c : S.head? = some (c) := by cases S with | nil => cases hc | cons a r => simpa using hc
 have hne : S ≠ [] := by intro e; rw [e] at hc; cases hc
 have hne0 : (S == ([] : B8)) = false := by simpa using hne
 have hne1 : S.isEmpty = false := by simpa using hne
 refine Wc.mkG 12 c12 (by kernel_rfl) rfl ?_
 generalize e : zAa .. = r
 simp (disch := omega) [c12] at e
 subst e
 repeat (first | refine st_ rfl ?_ | ((first | refine rg_ ?_ | refine go_ ?_); refine gw_ (by simp (disch := omega) [hX, hZ, hS, hS2, h0, h0b, h0c, hne, hne0, hne1, hpos, zAi, -List.drop_one, hn, ht, hfa, h34, h91, h123, c12]; rfl) ?_) | (refine sk_F s 0 hl1 fun _ _ g _ => ⟨rfl, ?_⟩; try dsimp only at g) | (refine tk_F S [110, 117, 108, 108] 0 hl2 fun _ _ g _ => ⟨rfl, ?_⟩; try dsimp only at g) | (refine tk_F S [116, 114, 117, 101] 0 hl2 fun _ _ g _ => ⟨rfl, ?_⟩; try dsimp only at g) | (refine tk_F S [102, 97, 108, 115, 101] 0 hl2 fun _ _ g _ => ⟨rfl, ?_⟩; try dsimp only at g) | (refine num_N S hv hl3 fun v _ _ g _ => ⟨rfl, ?_⟩; try dsimp only at g) | ((first | (refine W.ret ?_; (try simp only [zAb, zA0, zA8]); refine endW.of (.inl rfl) rfl ?_) | refine endW.of (.inr rfl) rfl ?_); generalize e : zAc .. = r; simp (disch := omega) [hX, hZ, hS, hS2, h0, h0b, h0c, hne, hne0, hne1, hpos, zAi, -List.drop_one, hn, ht, hfa, h34, h91, h123, c12] at e; subst e; (refine hk _ _ _ ?_ ?_; omega; exact ut_)))
theorem tr_nil {p d : Nat} (s : B8) (hS : zA3 s = []) (hl0 : s.length < 25000) {dv : Int} {h : CHeap} {K : KT} (hk : ∀ v n' ty, h.next ≤ n' → zA9 ty n' → K (.agg [.int .i64 3, .int .i64 v, .str [], .nils, .nils]) ⟨zA5 h.ents p (rdr [] 2), n', ty⟩) (hf : Fit h) (hg : zA4 h.ents p = some (rdr s 0)) (hp : p < h.next) : Wc tree.getF 12 [.ptr p d 0, .int .i64 dv] h K := by
 obtain ⟨hu, hut, hX⟩ := fx4 hf
 have hZ := fx6 hf hg
 have hS2 : zA3 [] = [] := rfl
 have hl1 : s.length < 90000 := by omega
 have hn : isF [110, 117, 108, 108] [] = false := rfl
 have ht : isF [116, 114, 117, 101] [] = false := rfl
 have hfa : isF [102, 97, 108, 115, 101] [] = false := rfl
 have hl2 : ([] : B8).length < 90000 := by simp
 refine Wc.mkG 12 c12 (by kernel_rfl) rfl ?_
 generalize e : zAa .. = r
 simp (disch := omega) [c12] at e
 subst e
 repeat (first | refine st_ rfl ?_ | ((first | refine rg_ ?_ | refine go_ ?_); refine gw_ (by simp (disch := omega) [hX, hZ, hS, hS2, hn, ht, hfa, zAi, c12]; rfl) ?_) | (refine sk_F s 0 hl1 fun _ _ g _ => ⟨rfl, ?_⟩; try dsimp only at g) | (refine tk_F [] [110, 117, 108, 108] 0 hl2 fun _ _ g _ => ⟨rfl, ?_⟩; try dsimp only at g) | (refine tk_F [] [116, 114, 117, 101] 0 hl2 fun _ _ g _ => ⟨rfl, ?_⟩; try dsimp only at g) | (refine tk_F [] [102, 97, 108, 115, 101] 0 hl2 fun _ _ g _ => ⟨rfl, ?_⟩; try dsimp only at g) | (refine num_N [] rfl (by simp) fun v _ _ g _ => ⟨rfl, ?_⟩; try dsimp only at g) | ((first | (refine W.ret ?_; (try simp only [zAb, zA0, zA8]); refine endW.of (.inl rfl) rfl ?_) | refine endW.of (.inr rfl) rfl ?_); generalize e : zAc .. = r; simp (disch := omega) [hX, hZ, hS, hS2, hn, ht, hfa, zAi, c12] at e; subst e; (refine hk _ _ _ ?_ ?_; omega; exact ut_)))
end Go.Proofs.YtdanefpnfnippaaGreatDoor.IrJ
