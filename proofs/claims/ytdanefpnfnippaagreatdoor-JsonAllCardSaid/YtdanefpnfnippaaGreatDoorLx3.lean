/- What the functions of the law 'JsonAll' do: part 3 of 8. -/
import Derived.Test.YtdanefpnfnippaaGreatDoorLx2
namespace Go.Proofs.YtdanefpnfnippaaGreatDoor.IrJ
open Go Go.CI
set_option maxRecDepth 100000
set_option maxHeartbeats 4000000
set_option linter.unusedVariables false
set_option linter.unusedSimpArgs false
attribute [local irreducible] W Wo Wc WoR
theorem wG51 {P : Prop} (h : P := by refine Wc.mkG 72 c72 (by kernel_rfl) rfl ?_; generalize e : zAa .. = r; simp (disch := omega) [c72] at e; subst e; repeat (first | refine st_ rfl ?_ | ((first | refine rg_ ?_ | refine go_ ?_); generalize e : goR .. = r; simp (disch := omega) [hZ, c72] at e; replace e : some _ = _ := e; subst e; (try dsimp only [goW])) | (refine zC9 S hl 117 hx0 fun _ S g => ⟨rfl, ?_⟩; (try dsimp only at g); have hZ := S.z; have hlp := S.lp) | (refine n_pe S (ib_F [34, 92, 98, 102, 110, 114, 116] 117 (-1) (by omega) (by kernel_rfl) (by decide)) fun _ S g => ⟨rfl, ?_⟩; (try dsimp only at g); have hZ := S.z; have hlp := S.lp) | (refine n_unitR S hl hR fun _ S g => ⟨rfl, ?_⟩; (try dsimp only at g); have hZ := S.z; have hlp := S.lp) | (refine n_pe S (put_G _ u1 (by omega) rfl) fun _ S g => ⟨rfl, ?_⟩; (try dsimp only at g); have hZ := S.z; have hlp := S.lp) | (refine n_ws S (by omega) u1 (hk := fun _ _ _ _ S g => ⟨rfl, ?_⟩); (try dsimp only at g); have hZ := S.z; have hlp := S.lp) | ((first | (refine W.ret ?_; (try simp only [zAb, zA0, zA8]); refine endW.of (.inl rfl) rfl ?_) | refine endW.of (.inr rfl) rfl ?_); generalize e : zAc .. = r; simp (disch := omega) [hZ, c72] at e; subst e; (refine hk _ _ _ S ?_; (try dsimp only); omega)))) : P := h
theorem wG52 {P : Prop} (h : P := by refine Wc.mkG 72 c72 (by kernel_rfl) rfl ?_; generalize e : zAa .. = r; simp (disch := omega) [c72] at e; subst e; repeat (first | refine st_ rfl ?_ | ((first | refine rg_ ?_ | refine go_ ?_); generalize e : goR .. = r; simp (disch := omega) [hZ, hdl, c72] at e; replace e : some _ = _ := e; subst e; (try dsimp only [goW])) | (refine zC9 S hl 117 hx0 fun _ S g => ⟨rfl, ?_⟩; (try dsimp only at g); have hZ := S.z; have hlp := S.lp) | (refine n_pe S (ib_F [34, 92, 98, 102, 110, 114, 116] 117 (-1) (by omega) (by kernel_rfl) (by decide)) fun _ S g => ⟨rfl, ?_⟩; (try dsimp only at g); have hZ := S.z; have hlp := S.lp) | (refine n_unitR S hl hR fun _ S g => ⟨rfl, ?_⟩; (try dsimp only at g); have hZ := S.z; have hlp := S.lp) | (refine n_pe S (hp_F (s.drop a1) [92, 117] true hpv) fun _ S g => ⟨rfl, ?_⟩; (try dsimp only at g); have hZ := S.z; have hlp := S.lp) | (refine n_unitR (S.putI (a1 + 2) b1 (by omega)) hl hR2 fun _ S g => ⟨rfl, ?_⟩; (try dsimp only at g); have hZ := S.z; have hlp := S.lp) | (refine n_pe (S.put _ true (Nat.le_refl _)) (put_G _ (65536 + (u1 - 55296) * 1024 + u2 % 1024) (by omega) (surv hr (by omega))) fun _ S g => ⟨rfl, ?_⟩; (try dsimp only at g); have hZ := S.z; have hlp := S.lp) | (refine n_ws S (by omega) (65536 + (u1 - 55296) * 1024 + u2 % 1024) (hk := fun _ _ _ _ S g => ⟨rfl, ?_⟩); (try dsimp only at g); have hZ := S.z; have hlp := S.lp) | ((first | (refine W.ret ?_; (try simp only [zAb, zA0, zA8]); refine endW.of (.inl rfl) rfl ?_) | refine endW.of (.inr rfl) rfl ?_); generalize e : zAc .. = r; simp (disch := omega) [hZ, hdl, c72] at e; subst e; (refine hk _ _ _ _ S ?_; (try dsimp only); omega)))) : P := h
variable {n0 : Nat} {E0 : EE} {p : Nat} {s : B8} {a : Nat} {A B : CVal} {acc : B8} {bad : Bool} {h : CHeap}
theorem n_unitR (S : CU n0 E0 p s a A B acc bad h) {d : Nat} (hl : s.length < 100000) {a1 : Nat} {b1 : Bool} {u1 : Nat} (hR : itU s 4 (a, bad, 0) = (a1, b1, u1)) {K : KT} (hk : ∀ h', CU n0 E0 p s a1 A B acc b1 h' → h.next ≤ h'.next → K (.int .u32 (u1 : Int)) h') {n : Nat} (hn : h.next ≤ n := by (try dsimp only); omega) : Wc tree.getF 91 [.ptr p d 0] ⟨h.ents, n, h.tys⟩ K :=
 n_unit S hl (fun h' S' g => by rw [hR] at S' ⊢; exact hk h' S' g) hn
theorem CU.putI (S : CU n0 E0 p s a A B acc bad h) (a' : Nat) (bad' : Bool) {ai : Int} (hai : ai = (a' : Int)) : CU n0 E0 p s a' A B acc bad' ⟨zA5 h.ents p (cu s ai A B bad'), h.next, h.tys⟩ := by
 subst hai; exact S.put a' bad' (Nat.le_refl _)
theorem surv {u1 u2 : Nat} (h1 : 55296 ≤ u1 ∧ u1 < 56320) (h2 : u2 < 65536) : IntKind.u32.wrap (IntKind.u32.wrap (65536 + IntKind.u32.wrap (IntKind.u32.wrap ((u1 : Int) - 55296) * 2 ^ min 10 IntKind.u32.bits)) + IntKind.u32.wrap ((u2 % 2 ^ IntKind.u32.bits &&& 1023 % 2 ^ IntKind.u32.bits : Nat) : Int)) = ((65536 + (u1 - 55296) * 1024 + u2 % 1024 : Nat) : Int) := by
 have e1 : (2 : Int) ^ min 10 IntKind.u32.bits = 1024 := by decide
 have e2 : (2 : Nat) ^ IntKind.u32.bits = 4294967296 := by decide
 have e3 : u2 % 4294967296 &&& 1023 % 4294967296 = u2 % 1024 := by
  rw [Nat.mod_eq_of_lt (show u2 < 4294967296 by omega), Nat.mod_eq_of_lt (show 1023 < 4294967296 by omega)]
  exact Nat.and_two_pow_sub_one_eq_mod u2 10
 rw [e1, e2, e3]
 have w1 : IntKind.u32.wrap ((u1 : Int) - 55296) = ((u1 - 55296 : Nat) : Int) := by
  have : (u1 : Int) - 55296 = ((u1 - 55296 : Nat) : Int) := by omega
  rw [this, wrapN (by omega)]
 rw [w1]
 have w2 : ((u1 - 55296 : Nat) : Int) * 1024 = (((u1 - 55296) * 1024 : Nat) : Int) := by omega
 rw [w2, wrapN (n := (u1 - 55296) * 1024) (by omega)]
 have w3 : (65536 : Int) + (((u1 - 55296) * 1024 : Nat) : Int) = ((65536 + (u1 - 55296) * 1024 : Nat) : Int) := by omega
 rw [w3, wrapN (n := 65536 + (u1 - 55296) * 1024) (by omega), wrapN (n := u2 % 1024) (by omega)]
 have w4 : ((65536 + (u1 - 55296) * 1024 : Nat) : Int) + ((u2 % 1024 : Nat) : Int) = ((65536 + (u1 - 55296) * 1024 + u2 % 1024 : Nat) : Int) := by omega
 rw [w4, wrapN (by omega)]
theorem put_G (y : Int) (w : Nat) (hw : w < 4294967296) (hy : y = (w : Int)) : Pe 90 [.int .u32 y] (.str (putB w)) := by
 subst hy; exact put_F w hw
theorem eu_lo (S : CU n0 E0 p s a A B acc false h) (hl : s.length < 100000) (hal : acc.length < 90000) (hx0 : s[a]? = some 117) {a1 u1 : Nat} {b1 : Bool} (hR : itU s 4 (a + 1, false, 0) = (a1, b1, u1)) (hr : u1 < 55296) {K : KT} (hk : ∀ A' B' h', CU n0 E0 p s a1 A' B' (acc ++ putB u1) b1 h' → h.next ≤ h'.next → K (.tup []) h') {n : Nat} (hn : h.next ≤ n := by (try dsimp only); omega) : Wc tree.getF 72 [.ptr p 106954757 0] ⟨h.ents, n, h.tys⟩ K := by
 have hZ := S.z
 have hlp := S.lp
 have hal1 : a < s.length := (List.getElem?_eq_some_iff.1 hx0).1
 have hle := itU_le s 4 (a + 1, false, 0) hal1
 rw [hR] at hle
 dsimp only at hle
 have hul := itU_u s 4 (a + 1, false, 0) 1 (show (0 : Nat) < 1 by decide)
 rw [hR] at hul
 dsimp only at hul
 exact wG51
theorem eu_hi (S : CU n0 E0 p s a A B acc false h) (hl : s.length < 100000) (hal : acc.length < 90000) (hx0 : s[a]? = some 117) {a1 u1 : Nat} {b1 : Bool} (hR : itU s 4 (a + 1, false, 0) = (a1, b1, u1)) (hr : 57344 ≤ u1) {K : KT} (hk : ∀ A' B' h', CU n0 E0 p s a1 A' B' (acc ++ putB u1) b1 h' → h.next ≤ h'.next → K (.tup []) h') {n : Nat} (hn : h.next ≤ n := by (try dsimp only); omega) : Wc tree.getF 72 [.ptr p 106954757 0] ⟨h.ents, n, h.tys⟩ K := by
 have hZ := S.z
 have hlp := S.lp
 have hal1 : a < s.length := (List.getElem?_eq_some_iff.1 hx0).1
 have hle := itU_le s 4 (a + 1, false, 0) hal1
 rw [hR] at hle
 dsimp only at hle
 have hul := itU_u s 4 (a + 1, false, 0) 1 (show (0 : Nat) < 1 by decide)
 rw [hR] at hul
 dsimp only at hul
 exact wG51
theorem eu_sec (S : CU n0 E0 p s a A B acc false h) (hl : s.length < 100000) (hal : acc.length < 90000) (hx0 : s[a]? = some 117) {a1 u1 : Nat} {b1 : Bool} (hR : itU s 4 (a + 1, false, 0) = (a1, b1, u1)) (hr : 56320 ≤ u1 ∧ u1 < 57344) {K : KT} (hk : ∀ A' B' h', CU n0 E0 p s a1 A' B' (acc ++ putB u1) true h' → h.next ≤ h'.next → K (.tup []) h') {n : Nat} (hn : h.next ≤ n := by (try dsimp only); omega) : Wc tree.getF 72 [.ptr p 106954757 0] ⟨h.ents, n, h.tys⟩ K := by
 have hZ := S.z
 have hlp := S.lp
 have hal1 : a < s.length := (List.getElem?_eq_some_iff.1 hx0).1
 have hle := itU_le s 4 (a + 1, false, 0) hal1
 rw [hR] at hle
 dsimp only at hle
 have hul := itU_u s 4 (a + 1, false, 0) 1 (show (0 : Nat) < 1 by decide)
 rw [hR] at hul
 dsimp only at hul
 refine Wc.mkG 72 c72 (by kernel_rfl) rfl ?_
 generalize e : zAa .. = r
 simp (disch := omega) [c72] at e
 subst e
 repeat (first | refine st_ rfl ?_ | ((first | refine rg_ ?_ | refine go_ ?_); generalize e : goR .. = r; simp (disch := omega) [hZ, c72] at e; replace e : some _ = _ := e; subst e; (try dsimp only [goW])) | (refine zC9 S hl 117 hx0 fun _ S g => ⟨rfl, ?_⟩; (try dsimp only at g); have hZ := S.z; have hlp := S.lp) | (refine n_pe S (ib_F [34, 92, 98, 102, 110, 114, 116] 117 (-1) (by omega) (by kernel_rfl) (by decide)) fun _ S g => ⟨rfl, ?_⟩; (try dsimp only at g); have hZ := S.z; have hlp := S.lp) | (refine n_unitR S hl hR fun _ S g => ⟨rfl, ?_⟩; (try dsimp only at g); have hZ := S.z; have hlp := S.lp) | (refine n_pe (S.put _ true (Nat.le_refl _)) (put_G _ u1 (by omega) rfl) fun _ S g => ⟨rfl, ?_⟩; (try dsimp only at g); have hZ := S.z; have hlp := S.lp) | (refine n_ws S (by omega) u1 (hk := fun _ _ _ _ S g => ⟨rfl, ?_⟩); (try dsimp only at g); have hZ := S.z; have hlp := S.lp) | ((first | (refine W.ret ?_; (try simp only [zAb, zA0, zA8]); refine endW.of (.inl rfl) rfl ?_) | refine endW.of (.inr rfl) rfl ?_); generalize e : zAc .. = r; simp (disch := omega) [hZ, c72] at e; subst e; (refine hk _ _ _ S ?_; (try dsimp only); omega)))
theorem eu_nop (S : CU n0 E0 p s a A B acc false h) (hl : s.length < 100000) (hal : acc.length < 90000) (hx0 : s[a]? = some 117) {a1 u1 : Nat} {b1 : Bool} (hR : itU s 4 (a + 1, false, 0) = (a1, b1, u1)) (hr : 55296 ≤ u1 ∧ u1 < 56320) (hpv : (decide (([92, 117] : B8).length ≤ (s.drop a1).length) && ((s.drop a1).take ([92, 117] : B8).length == [92, 117])) = false) {K : KT} (hk : ∀ A' B' h', CU n0 E0 p s a1 A' B' (acc ++ putB u1) true h' → h.next ≤ h'.next → K (.tup []) h') {n : Nat} (hn : h.next ≤ n := by (try dsimp only); omega) : Wc tree.getF 72 [.ptr p 106954757 0] ⟨h.ents, n, h.tys⟩ K := by
 have hZ := S.z
 have hlp := S.lp
 have hal1 : a < s.length := (List.getElem?_eq_some_iff.1 hx0).1
 have hle := itU_le s 4 (a + 1, false, 0) hal1
 rw [hR] at hle
 dsimp only at hle
 have hul := itU_u s 4 (a + 1, false, 0) 1 (show (0 : Nat) < 1 by decide)
 rw [hR] at hul
 dsimp only at hul
 have hdl : ¬ ((s.length : Int) < (a1 : Int)) := by omega
 have hd0 : List.drop a1 s = s.drop a1 := rfl
 refine Wc.mkG 72 c72 (by kernel_rfl) rfl ?_
 generalize e : zAa .. = r
 simp (disch := omega) [c72] at e
 subst e
 repeat (first | refine st_ rfl ?_ | ((first | refine rg_ ?_ | refine go_ ?_); generalize e : goR .. = r; simp (disch := omega) [hZ, hdl, c72] at e; replace e : some _ = _ := e; subst e; (try dsimp only [goW])) | (refine zC9 S hl 117 hx0 fun _ S g => ⟨rfl, ?_⟩; (try dsimp only at g); have hZ := S.z; have hlp := S.lp) | (refine n_pe S (ib_F [34, 92, 98, 102, 110, 114, 116] 117 (-1) (by omega) (by kernel_rfl) (by decide)) fun _ S g => ⟨rfl, ?_⟩; (try dsimp only at g); have hZ := S.z; have hlp := S.lp) | (refine n_unitR S hl hR fun _ S g => ⟨rfl, ?_⟩; (try dsimp only at g); have hZ := S.z; have hlp := S.lp) | (refine n_pe S (hp_F (s.drop a1) [92, 117] false hpv) fun _ S g => ⟨rfl, ?_⟩; (try dsimp only at g); have hZ := S.z; have hlp := S.lp) | (refine n_pe (S.put _ true (Nat.le_refl _)) (put_G _ u1 (by omega) rfl) fun _ S g => ⟨rfl, ?_⟩; (try dsimp only at g); have hZ := S.z; have hlp := S.lp) | (refine n_ws S (by omega) u1 (hk := fun _ _ _ _ S g => ⟨rfl, ?_⟩); (try dsimp only at g); have hZ := S.z; have hlp := S.lp) | ((first | (refine W.ret ?_; (try simp only [zAb, zA0, zA8]); refine endW.of (.inl rfl) rfl ?_) | refine endW.of (.inr rfl) rfl ?_); generalize e : zAc .. = r; simp (disch := omega) [hZ, hdl, c72] at e; subst e; (refine hk _ _ _ S ?_; (try dsimp only); omega)))
theorem eu_pair (S : CU n0 E0 p s a A B acc false h) (hl : s.length < 100000) (hal : acc.length < 90000) (hx0 : s[a]? = some 117) {a1 u1 : Nat} {b1 : Bool} (hR : itU s 4 (a + 1, false, 0) = (a1, b1, u1)) (hr : 55296 ≤ u1 ∧ u1 < 56320) (hpv : (decide (([92, 117] : B8).length ≤ (s.drop a1).length) && ((s.drop a1).take ([92, 117] : B8).length == [92, 117])) = true) {a2 u2 : Nat} {b2 : Bool} (hR2 : itU s 4 (a1 + 2, b1, 0) = (a2, b2, u2)) (hv : 56320 ≤ u2 ∧ u2 < 57344) {K : KT} (hk : ∀ A' B' h', CU n0 E0 p s a2 A' B' (acc ++ putB (65536 + (u1 - 55296) * 1024 + u2 % 1024)) b2 h' → h.next ≤ h'.next → K (.tup []) h') {n : Nat} (hn : h.next ≤ n := by (try dsimp only); omega) : Wc tree.getF 72 [.ptr p 106954757 0] ⟨h.ents, n, h.tys⟩ K := by
 have hZ := S.z
 have hlp := S.lp
 have hal1 : a < s.length := (List.getElem?_eq_some_iff.1 hx0).1
 have hle := itU_le s 4 (a + 1, false, 0) hal1
 rw [hR] at hle
 dsimp only at hle
 have hul := itU_u s 4 (a + 1, false, 0) 1 (show (0 : Nat) < 1 by decide)
 rw [hR] at hul
 dsimp only at hul
 have hdl : ¬ ((s.length : Int) < (a1 : Int)) := by omega
 have hd0 : List.drop a1 s = s.drop a1 := rfl
 have hlen2 : 2 ≤ (s.drop a1).length := by
  have := (Bool.and_eq_true_iff.1 hpv).1
  simpa using this
 rw [List.length_drop] at hlen2
 have hle2 := itU_le s 4 (a1 + 2, b1, 0) (show a1 + 2 ≤ s.length by omega)
 rw [hR2] at hle2
 dsimp only at hle2
 have hul2 := itU_u s 4 (a1 + 2, b1, 0) 1 (show (0 : Nat) < 1 by decide)
 rw [hR2] at hul2
 dsimp only at hul2
 refine Wc.mkG 72 c72 (by kernel_rfl) rfl ?_
 generalize e : zAa .. = r
 simp (disch := omega) [c72] at e
 subst e
 repeat (first | refine st_ rfl ?_ | ((first | refine rg_ ?_ | refine go_ ?_); generalize e : goR .. = r; simp (disch := omega) [hZ, hdl, c72] at e; replace e : some _ = _ := e; subst e; (try dsimp only [goW])) | (refine zC9 S hl 117 hx0 fun _ S g => ⟨rfl, ?_⟩; (try dsimp only at g); have hZ := S.z; have hlp := S.lp) | (refine n_pe S (ib_F [34, 92, 98, 102, 110, 114, 116] 117 (-1) (by omega) (by kernel_rfl) (by decide)) fun _ S g => ⟨rfl, ?_⟩; (try dsimp only at g); have hZ := S.z; have hlp := S.lp) | (refine n_unitR S hl hR fun _ S g => ⟨rfl, ?_⟩; (try dsimp only at g); have hZ := S.z; have hlp := S.lp) | (refine n_pe S (hp_F (s.drop a1) [92, 117] true hpv) fun _ S g => ⟨rfl, ?_⟩; (try dsimp only at g); have hZ := S.z; have hlp := S.lp) | (refine n_unitR (S.putI (a1 + 2) b1 (by omega)) hl hR2 fun _ S g => ⟨rfl, ?_⟩; (try dsimp only at g); have hZ := S.z; have hlp := S.lp) | (refine n_pe S (put_G _ (65536 + (u1 - 55296) * 1024 + u2 % 1024) (by omega) (surv hr (by omega))) fun _ S g => ⟨rfl, ?_⟩; (try dsimp only at g); have hZ := S.z; have hlp := S.lp) | (refine n_ws S (by omega) (65536 + (u1 - 55296) * 1024 + u2 % 1024) (hk := fun _ _ _ _ S g => ⟨rfl, ?_⟩); (try dsimp only at g); have hZ := S.z; have hlp := S.lp) | ((first | (refine W.ret ?_; (try simp only [zAb, zA0, zA8]); refine endW.of (.inl rfl) rfl ?_) | refine endW.of (.inr rfl) rfl ?_); generalize e : zAc .. = r; simp (disch := omega) [hZ, hdl, c72] at e; subst e; (refine hk _ _ _ S ?_; (try dsimp only); omega)))
theorem eu_pb1 (S : CU n0 E0 p s a A B acc false h) (hl : s.length < 100000) (hal : acc.length < 90000) (hx0 : s[a]? = some 117) {a1 u1 : Nat} {b1 : Bool} (hR : itU s 4 (a + 1, false, 0) = (a1, b1, u1)) (hr : 55296 ≤ u1 ∧ u1 < 56320) (hpv : (decide (([92, 117] : B8).length ≤ (s.drop a1).length) && ((s.drop a1).take ([92, 117] : B8).length == [92, 117])) = true) {a2 u2 : Nat} {b2 : Bool} (hR2 : itU s 4 (a1 + 2, b1, 0) = (a2, b2, u2)) (hv : u2 < 56320) {K : KT} (hk : ∀ A' B' w h', CU n0 E0 p s a2 A' B' (acc ++ putB w) true h' → h.next ≤ h'.next → K (.tup []) h') {n : Nat} (hn : h.next ≤ n := by (try dsimp only); omega) : Wc tree.getF 72 [.ptr p 106954757 0] ⟨h.ents, n, h.tys⟩ K := by
 have hZ := S.z
 have hlp := S.lp
 have hal1 : a < s.length := (List.getElem?_eq_some_iff.1 hx0).1
 have hle := itU_le s 4 (a + 1, false, 0) hal1
 rw [hR] at hle
 dsimp only at hle
 have hul := itU_u s 4 (a + 1, false, 0) 1 (show (0 : Nat) < 1 by decide)
 rw [hR] at hul
 dsimp only at hul
 have hdl : ¬ ((s.length : Int) < (a1 : Int)) := by omega
 have hd0 : List.drop a1 s = s.drop a1 := rfl
 have hlen2 : 2 ≤ (s.drop a1).length := by
  have := (Bool.and_eq_true_iff.1 hpv).1
  simpa using this
 rw [List.length_drop] at hlen2
 have hle2 := itU_le s 4 (a1 + 2, b1, 0) (show a1 + 2 ≤ s.length by omega)
 rw [hR2] at hle2
 dsimp only at hle2
 have hul2 := itU_u s 4 (a1 + 2, b1, 0) 1 (show (0 : Nat) < 1 by decide)
 rw [hR2] at hul2
 dsimp only at hul2
 exact wG52
theorem eu_pb2 (S : CU n0 E0 p s a A B acc false h) (hl : s.length < 100000) (hal : acc.length < 90000) (hx0 : s[a]? = some 117) {a1 u1 : Nat} {b1 : Bool} (hR : itU s 4 (a + 1, false, 0) = (a1, b1, u1)) (hr : 55296 ≤ u1 ∧ u1 < 56320) (hpv : (decide (([92, 117] : B8).length ≤ (s.drop a1).length) && ((s.drop a1).take ([92, 117] : B8).length == [92, 117])) = true) {a2 u2 : Nat} {b2 : Bool} (hR2 : itU s 4 (a1 + 2, b1, 0) = (a2, b2, u2)) (hv : 57344 ≤ u2) {K : KT} (hk : ∀ A' B' w h', CU n0 E0 p s a2 A' B' (acc ++ putB w) true h' → h.next ≤ h'.next → K (.tup []) h') {n : Nat} (hn : h.next ≤ n := by (try dsimp only); omega) : Wc tree.getF 72 [.ptr p 106954757 0] ⟨h.ents, n, h.tys⟩ K := by
 have hZ := S.z
 have hlp := S.lp
 have hal1 : a < s.length := (List.getElem?_eq_some_iff.1 hx0).1
 have hle := itU_le s 4 (a + 1, false, 0) hal1
 rw [hR] at hle
 dsimp only at hle
 have hul := itU_u s 4 (a + 1, false, 0) 1 (show (0 : Nat) < 1 by decide)
 rw [hR] at hul
 dsimp only at hul
 have hdl : ¬ ((s.length : Int) < (a1 : Int)) := by omega
 have hd0 : List.drop a1 s = s.drop a1 := rfl
 have hlen2 : 2 ≤ (s.drop a1).length := by
  have := (Bool.and_eq_true_iff.1 hpv).1
  simpa using this
 rw [List.length_drop] at hlen2
 have hle2 := itU_le s 4 (a1 + 2, b1, 0) (show a1 + 2 ≤ s.length by omega)
 rw [hR2] at hle2
 dsimp only at hle2
 have hul2 := itU_u s 4 (a1 + 2, b1, 0) 1 (show (0 : Nat) < 1 by decide)
 rw [hR2] at hul2
 dsimp only at hul2
 exact wG52
theorem putB_len (x : Nat) : (putB x).length ≤ 4 := by
 obtain ⟨c, cs, e, hc⟩ := putB_cons x
 rw [e, List.length_cons]; omega
theorem isU_take {t : B8} {v : Bool} (h : (decide (([92, 117] : B8).length ≤ t.length) && (t.take ([92, 117] : B8).length == [92, 117])) = v) : if v then t.take 2 = [92, 117] else ¬ t.take 2 = [92, 117] := by
 cases v with
 | true => simp at h; simpa using h.2
 | false =>
  simp only [Bool.false_eq_true, if_false]
  intro e
  have hl := congrArg List.length e
  rw [List.length_take] at hl
  simp at hl
  simp [e] at h
  omega
theorem escV_117 (r : B8) : escV (117 :: r) = match zBq r with
      | none => none
      | some u => if 55296 ≤ u ∧ u < 56320 then (if (r.drop 4).take 2 = [92, 117] then (match zBq (r.drop 6) with
            | none => none
            | some v => if 56320 ≤ v ∧ v < 57344 then some (putB (65536 + (u - 55296) * 1024 + (v - 56320)), 11) else none) else none)
       else if 56320 ≤ u ∧ u < 57344 then none else some (putB u, 5) := by
 simp only [escV]; rfl
theorem sigI_all : (List.range 256).all (fun y => decide (y ∈ [34, 92, 98, 102, 110, 114, 116]) || idxFrom (UInt8.ofNat y) [34, 92, 98, 102, 110, 114, 116] 0 == -1) = true := by kernel_rfl
theorem n_esc (S : CU n0 E0 p s a A B acc false h) (hl : s.length < 100000) (hal : acc.length < 90000) {K : KT}
    (hk1 : ∀ t k, escV (s.drop a) = some (t, k) → ∀ A' B' h', CU n0 E0 p s (a + k) A' B' (acc ++ t) false h' → h.next ≤ h'.next → K (.tup []) h')
    (hk0 : escV (s.drop a) = none → ∀ a' A' B' acc' h', CU n0 E0 p s a' A' B' acc' true h' → acc'.length ≤ acc.length + 4 → h.next ≤ h'.next → K (.tup []) h') {n : Nat} (hn : h.next ≤ n := by (try dsimp only); omega) : Wc tree.getF 72 [.ptr p 106954757 0] ⟨h.ents, n, h.tys⟩ K := by
 cases hx : s[a]? with
 | none =>
  have hle : s.length ≤ a := by simpa using hx
  have e : s.drop a = [] := List.drop_eq_nil_of_le hle
  rw [e] at hk0
  exact es_none S hl hal hle (hk0 rfl) hn
 | some x =>
  obtain ⟨hal1, hxa⟩ := List.getElem?_eq_some_iff.1 hx
  have e : s.drop a = x :: s.drop (a + 1) := by rw [← hxa]; exact List.drop_eq_getElem_cons hal1
  rw [e] at hk1 hk0
  by_cases h34 : x = 34
  · subst h34
    exact es_34 S hl hal hx (hk1 [34] 1 (by simp [escV])) hn
  by_cases h92 : x = 92
  · subst h92
    exact es_92 S hl hal hx (hk1 [92] 1 (by simp [escV])) hn
  by_cases h98 : x = 98
  · subst h98
    exact es_98 S hl hal hx (hk1 [8] 1 (by simp [escV])) hn
  by_cases h102 : x = 102
  · subst h102
    exact es_102 S hl hal hx (hk1 [12] 1 (by simp [escV])) hn
  by_cases h110 : x = 110
  · subst h110
    exact es_110 S hl hal hx (hk1 [10] 1 (by simp [escV])) hn
  by_cases h114 : x = 114
  · subst h114
    exact es_114 S hl hal hx (hk1 [13] 1 (by simp [escV])) hn
  by_cases h116 : x = 116
  · subst h116
    exact es_116 S hl hal hx (hk1 [9] 1 (by simp [escV])) hn
  by_cases h47 : x = 47
  · subst h47
    exact es_47 S hl hal hx (hk1 [47] 1 (by simp [escV])) hn
  by_cases h117 : x = 117
  · subst h117
    rw [escV_117] at hk1 hk0
    have h4 := itU_4 s (a + 1)
    have hpl : ∀ w, (acc ++ putB w).length ≤ acc.length + 4 := fun w => by rw [List.length_append]; have := putB_len w; omega
    obtain ⟨a1, b1, u1, hR⟩ : ∃ a1 b1 u1, itU s 4 (a + 1, false, 0) = (a1, b1, u1) := ⟨_, _, _, rfl⟩
    rw [hR] at h4
    -- what comes of it, by the number's range
    have key : ∀ (good : Bool), (good = false → b1 = true ∨ (56320 ≤ u1 ∧ u1 < 57344)) → True := fun _ _ => trivial
    cases hu : zBq (s.drop (a + 1)) with
    | none =>
     rw [hu] at h4 hk0
     dsimp only at h4 hk0
     subst h4
     have hk := hk0 rfl
     rcases Nat.lt_or_ge u1 55296 with g1 | g1
     · exact eu_lo S hl hal hx hR g1 (fun A' B' h' S' g => hk _ A' B' _ h' S' (hpl _) g) hn
     rcases Nat.lt_or_ge u1 56320 with g2 | g2
     · cases hpv : (decide (([92, 117] : B8).length ≤ (s.drop a1).length) && ((s.drop a1).take ([92, 117] : B8).length == [92, 117])) with
       | false => exact eu_nop S hl hal hx hR ⟨g1, g2⟩ hpv (fun A' B' h' S' g => hk _ A' B' _ h' S' (hpl _) g) hn
       | true =>
        obtain ⟨a2, b2, u2, hR2⟩ : ∃ a2 b2 u2, itU s 4 (a1 + 2, true, 0) = (a2, b2, u2) := ⟨_, _, _, rfl⟩
        have hb2 := itU_bad s 4 (a1 + 2, true, 0) rfl
        rw [hR2] at hb2
        dsimp only at hb2
        subst hb2
        rcases Nat.lt_or_ge u2 56320 with g3 | g3
        · exact eu_pb1 S hl hal hx hR ⟨g1, g2⟩ hpv hR2 g3 (fun A' B' w h' S' g => hk _ A' B' _ h' S' (hpl _) g) hn
        rcases Nat.lt_or_ge u2 57344 with g4 | g4
        · exact eu_pair S hl hal hx hR ⟨g1, g2⟩ hpv hR2 ⟨g3, g4⟩ (fun A' B' h' S' g => hk _ A' B' _ h' S' (hpl _) g) hn
        · exact eu_pb2 S hl hal hx hR ⟨g1, g2⟩ hpv hR2 g4 (fun A' B' w h' S' g => hk _ A' B' _ h' S' (hpl _) g) hn
     rcases Nat.lt_or_ge u1 57344 with g3 | g3
     · exact eu_sec S hl hal hx hR ⟨g2, g3⟩ (fun A' B' h' S' g => hk _ A' B' _ h' S' (hpl _) g) hn
     · exact eu_hi S hl hal hx hR g3 (fun A' B' h' S' g => hk _ A' B' _ h' S' (hpl _) g) hn
    | some u =>
     rw [hu] at h4 hk0 hk1
     dsimp only at h4
     obtain ⟨e1, e2, e3⟩ : a1 = a + 1 + 4 ∧ b1 = false ∧ u1 = u := by simpa using h4
     subst e2 e3
     have ed : (s.drop (a + 1)).drop 4 = s.drop a1 := by rw [List.drop_drop, e1]
     have ed6 : (s.drop (a + 1)).drop 6 = s.drop (a1 + 2) := by rw [List.drop_drop, e1]
     rw [ed, ed6] at hk0 hk1
     dsimp only at hk0 hk1
     rcases Nat.lt_or_ge u1 55296 with g1 | g1
     · have := hk1 (putB u1) 5 (by rw [if_neg (by omega), if_neg (by omega)])
       rw [show a + 5 = a1 by omega] at this
       exact eu_lo S hl hal hx hR g1 this hn
     rcases Nat.lt_or_ge u1 56320 with g2 | g2
     · rw [if_pos ⟨g1, g2⟩] at hk0
       rw [if_pos ⟨g1, g2⟩] at hk1
       cases hpv : (decide (([92, 117] : B8).length ≤ (s.drop a1).length) && ((s.drop a1).take ([92, 117] : B8).length == [92, 117])) with
       | false =>
        have hne : ¬ (s.drop a1).take 2 = [92, 117] := isU_take hpv
        rw [if_neg hne] at hk0
        exact eu_nop S hl hal hx hR ⟨g1, g2⟩ hpv (fun A' B' h' S' g => hk0 rfl _ A' B' _ h' S' (hpl _) g) hn
       | true =>
        have hyes : (s.drop a1).take 2 = [92, 117] := isU_take hpv
        rw [if_pos hyes] at hk0
        rw [if_pos hyes] at hk1
        have h42 := itU_4 s (a1 + 2)
        obtain ⟨a2, b2, u2, hR2⟩ : ∃ a2 b2 u2, itU s 4 (a1 + 2, false, 0) = (a2, b2, u2) := ⟨_, _, _, rfl⟩
        rw [hR2] at h42
        cases hv : zBq (s.drop (a1 + 2)) with
        | none =>
         rw [hv] at h42 hk0
         dsimp only at h42 hk0
         subst h42
         have hk := hk0 rfl
         rcases Nat.lt_or_ge u2 56320 with g3 | g3
         · exact eu_pb1 S hl hal hx hR ⟨g1, g2⟩ hpv hR2 g3 (fun A' B' w h' S' g => hk _ A' B' _ h' S' (hpl _) g) hn
         rcases Nat.lt_or_ge u2 57344 with g4 | g4
         · exact eu_pair S hl hal hx hR ⟨g1, g2⟩ hpv hR2 ⟨g3, g4⟩ (fun A' B' h' S' g => hk _ A' B' _ h' S' (hpl _) g) hn
         · exact eu_pb2 S hl hal hx hR ⟨g1, g2⟩ hpv hR2 g4 (fun A' B' w h' S' g => hk _ A' B' _ h' S' (hpl _) g) hn
        | some v =>
         rw [hv] at h42 hk0 hk1
         dsimp only at h42 hk0 hk1
         obtain ⟨e4, e5, e6⟩ : a2 = a1 + 2 + 4 ∧ b2 = false ∧ u2 = v := by simpa using h42
         subst e5 e6
         rcases Nat.lt_or_ge u2 56320 with g3 | g3
         · rw [if_neg (by omega)] at hk0
           exact eu_pb1 S hl hal hx hR ⟨g1, g2⟩ hpv hR2 g3 (fun A' B' w h' S' g => hk0 rfl _ A' B' _ h' S' (hpl _) g) hn
         rcases Nat.lt_or_ge u2 57344 with g4 | g4
         · rw [if_pos ⟨g3, g4⟩] at hk1
           have := hk1 _ _ rfl
           rw [show a + 11 = a2 by omega] at this
           have em : u2 % 1024 = u2 - 56320 := by omega
           refine eu_pair S hl hal hx hR ⟨g1, g2⟩ hpv hR2 ⟨g3, g4⟩ (fun A' B' h' S' g => ?_) hn
           rw [em] at S'
           exact this A' B' h' S' g
         · rw [if_neg (by omega)] at hk0
           exact eu_pb2 S hl hal hx hR ⟨g1, g2⟩ hpv hR2 g4 (fun A' B' w h' S' g => hk0 rfl _ A' B' _ h' S' (hpl _) g) hn
     rcases Nat.lt_or_ge u1 57344 with g3 | g3
     · rw [if_neg (by omega), if_pos ⟨g2, g3⟩] at hk0
       exact eu_sec S hl hal hx hR ⟨g2, g3⟩ (fun A' B' h' S' g => hk0 rfl _ A' B' _ h' S' (hpl _) g) hn
     · have := hk1 (putB u1) 5 (by rw [if_neg (by omega), if_neg (by omega)])
       rw [show a + 5 = a1 by omega] at this
       exact eu_hi S hl hal hx hR g3 this hn
  · have hno : escV (x :: s.drop (a + 1)) = none := by simp only [escV, h34, h92, h98, h102, h110, h114, h116, h47, h117, if_false]
    have hx256 := x.toNat_lt
    have n34 : x.toNat ≠ 34 := fun e => h34 (UInt8.toNat_inj.1 e)
    have n92 : x.toNat ≠ 92 := fun e => h92 (UInt8.toNat_inj.1 e)
    have n98 : x.toNat ≠ 98 := fun e => h98 (UInt8.toNat_inj.1 e)
    have n102 : x.toNat ≠ 102 := fun e => h102 (UInt8.toNat_inj.1 e)
    have n110 : x.toNat ≠ 110 := fun e => h110 (UInt8.toNat_inj.1 e)
    have n114 : x.toNat ≠ 114 := fun e => h114 (UInt8.toNat_inj.1 e)
    have n116 : x.toNat ≠ 116 := fun e => h116 (UInt8.toNat_inj.1 e)
    have n47 : x.toNat ≠ 47 := fun e => h47 (UInt8.toNat_inj.1 e)
    have n117 : x.toNat ≠ 117 := fun e => h117 (UInt8.toNat_inj.1 e)
    have hI : idxFrom x [34, 92, 98, 102, 110, 114, 116] 0 = -1 := by
     have h1 := List.all_eq_true.1 sigI_all x.toNat (List.mem_range.2 hx256)
     rw [UInt8.ofNat_toNat] at h1
     simp only [Bool.or_eq_true, decide_eq_true_eq, beq_iff_eq, List.mem_cons, List.not_mem_nil, or_false] at h1
     rcases h1 with h1 | h1
     · exact absurd h1 (by omega)
     · exact h1
    exact es_bad S hl hal x hx hI n47 n117 (hk0 hno) hn
end Go.Proofs.YtdanefpnfnippaaGreatDoor.IrJ
namespace Go.Proofs.YtdanefpnfnippaaGreatDoor.IrJ
open Go Go.CI
set_option maxRecDepth 100000
set_option maxHeartbeats 4000000
set_option linter.unusedVariables false
set_option linter.unusedSimpArgs false
attribute [local irreducible] W Wo Wc WoR
structure CV (n0 : Nat) (E0 : EE) (p : Nat) (s : B8) (a : Nat) (h : CHeap) : Prop where
 g : ∃ A B bad, zA4 h.ents p = some (cu s (a : Int) A B bad)
 d : Over n0 E0 h.ents
 np : n0 ≤ p
 lp : p < h.next
 f : Fit h
variable {n0 : Nat} {E0 : EE} {p : Nat} {s : B8} {a : Nat} {A B : CVal} {acc : B8} {bad : Bool} {h : CHeap}
theorem CU.v (S : CU n0 E0 p s a A B acc bad h) : CV n0 E0 p s a h := ⟨⟨A, B, bad, S.g⟩, S.d, S.np, S.lp, S.f⟩
theorem CV.up (S : CV n0 E0 p s a h) {n : Nat} (hn : h.next ≤ n) : CV n0 E0 p s a ⟨h.ents, n, h.tys⟩ := ⟨S.g, S.d, S.np, Nat.lt_of_lt_of_le S.lp hn, ⟨S.f.1.le hn, S.f.2.le hn⟩⟩
theorem CV.set (S : CV n0 E0 p s a h) {r : Nat} {x : CObj} (hr : p < r) {n : Nat} (hn : h.next ≤ n) : CV n0 E0 p s a ⟨zA5 h.ents r x, n, h.tys⟩ := by
 have hnp := S.np
 obtain ⟨A, B, bad, hg⟩ := S.g
 exact ⟨⟨A, B, bad, (zA7 (by omega)).trans hg⟩, S.d.set (by omega), hnp, Nat.lt_of_lt_of_le S.lp hn, ⟨S.f.1.set.le hn, S.f.2.le hn⟩⟩
theorem v_pe (S : CV n0 E0 p s a h) {f : Nat} {ar : List CVal} {v : CVal} (H : Pe f ar v) {K : KT} (hk : ∀ h', CV n0 E0 p s a h' → h.next ≤ h'.next → K v h') {n : Nat} (hn : h.next ≤ n := by (try dsimp only); omega) : Wc tree.getF f ar ⟨h.ents, n, h.tys⟩ K :=
 H _ (S.up hn).f K fun n' g => hk _ (S.up (Nat.le_trans hn g)) (Nat.le_trans hn g)
theorem n_bs (S : CU n0 E0 p s a A B acc bad h) (hal : acc.length < 100000) {K : KT} (hk : ∀ h', CV n0 E0 p s a h' → h.next ≤ h'.next → K (.str acc) h') {n : Nat} (hn : h.next ≤ n := by (try dsimp only); omega) : Wc tree.getF 43 [.ptr p 106954757 2] ⟨h.ents, n, h.tys⟩ K := by
 have hg := S.g
 rcases S.b with ⟨rfl, rfl, rfl⟩ | ⟨r, v, hne, rfl, rfl, hr, hpr, hty⟩
 · refine Wc.primM (f := 43) (p := (zCn 5)) (by kernel_rfl) ?_
   generalize e : (zCn 5) _ _ = r
   simp (disch := omega) [zCn, CHeap.get, hg, nth] at e
   subst e
   exact hk _ (S.v.up hn) hn
 · have h0 : 0 < acc.length := List.length_pos_iff.2 hne
   have htk : List.take acc.length (acc.map bv) = acc.map bv := List.take_of_length_le (by simp)
   refine Wc.primM (f := 43) (p := (zCn 5)) (by kernel_rfl) ?_
   generalize e : (zCn 5) _ _ = r
   simp (disch := omega) [zCn, CHeap.get, CHeap.set, CHeap.ty, hg, hr, hty, nth, rowOf, cut, htk, byteVals_map, h0, zB4] at e
   first | subst e | (obtain ⟨h1, e⟩ := e; subst e)
   exact hk _ (S.v.set hpr hn) hn
def unqF : Nat → B8 → B8 → Nat → Option (B8 × Nat)
 | 0, _, _, _ => none
 | _ + 1, _, [], _ => none
 | m + 1, acc, c :: r, n =>
  if c = 34 then (if zBp acc = true then some (acc, n + 1) else none)
  else if c.toNat < 32 then none
  else if c = 92 then (match escV r with
   | none => none
   | some (t, k) => unqF m (acc ++ t) (r.drop k) (n + 1 + k))
  else unqF m (acc ++ [c]) r (n + 1)
abbrev zBr : CCode := (.loop true (.seq (.seq (.region [.v 1, .n 0, .f 4 0, .l 0, .g (.not (.loc 0))] [(3, 4)] [] []) (.cond (.var 3) .skip (.exit 0))) (.block 1 (.seq (.region [.v 1, .g (.call false 71 [(.loc 0)]), .m (.loc 0)] [(4, 2)] [] []) (.block 2 (.seq (.region [.v 4, .x .eql 0 (.u 34), .m (.loc 0)] [(5, 2)] [] []) (.cond (.var 5) (.seq (.seq (.region [.v 1, .n 0, .f 2 0, .g (.call false 43 [(.loc 0)]), .m (.loc 0)] [(6, 4)] [] []) (.seq (.region [.v 6, .g (.call false 46 [(.loc 0)]), .g (.not (.loc 0))] [(7, 2)] [] []) (.cond (.var 7) (.seq (.region [.m (.const (.str [])), .m (.k 0), .m (.k 2)] [(6, 0), (10, 1), (11, 2)] [] []) .ret) .skip))) (.seq (.region [.v 6, .v 1, .n 0, .f 1 0, .l 0, .m (.loc 4), .m (.loc 1), .m (.k 0)] [(6, 5), (10, 6), (11, 7)] [] []) .ret)) (.seq (.region [.v 4, .x .lss 0 (.u 32), .m (.loc 0)] [(8, 2)] [] []) (.cond (.var 8) (.region [.v 1, .n 0, .f 4 0, .g (.store 1 (.loc 0) (.b true))] [] [] []) (.seq (.region [.v 4, .x .eql 0 (.u 92), .m (.loc 0)] [(9, 2)] [] []) (.cond (.var 9) (.region [.v 1, .g (.call false 72 [(.loc 0)])] [] [] []) (.region [.v 1, .n 0, .f 2 0, .v 4, .g (.call false 40 [(.loc 1), (.loc 0)])] [] [] []))))))))))))
theorem q_exit (S : CU n0 E0 p s a A B acc true h) (hl : s.length < 50000)   {Q : QT} (v2 v3 v4 v5 v6 v7 v8 v9 v10 v11 : CVal)  (hk : ∀ (v2 v3 v4 v5 v6 v7 v8 v9 v10 v11 : CVal) h', CV n0 E0 p s a h' → h.next ≤ h'.next → Q (.exit 0) ⟨[.str s, .ptr p 106954757 0, v2, v3, v4, v5, v6, v7, v8, v9, v10, v11], h', []⟩) {n : Nat} (hn : h.next ≤ n := by (try dsimp only); omega) : W tree.getF zBr ⟨[.str s, .ptr p 106954757 0, v2, v3, v4, v5, v6, v7, v8, v9, v10, v11], ⟨h.ents, n, h.tys⟩, []⟩ Q := by
 have hZ := S.z
 have hlp := S.lp
 refine W.loop ?_
 repeat (first | refine st_ rfl ?_ | ((first | refine rg_ ?_ | refine go_ ?_); refine gw_ (by simp (disch := omega) [hZ]; rfl) ?_))
 all_goals (refine hk _ _ _ _ _ _ _ _ _ _ _ (S.v.up ?_) ?_; ((try dsimp only); omega); ((try dsimp only); omega))
theorem q_none (S : CU n0 E0 p s a A B acc false h) (hl : s.length < 50000) (hal : acc.length ≤ a) (hx : s.length ≤ a) {Q : QT} (v2 v3 v4 v5 v6 v7 v8 v9 v10 v11 : CVal)  (hk : ∀ (v2 v3 v4 v5 v6 v7 v8 v9 v10 v11 : CVal) a' A' B' acc' h', CU n0 E0 p s a' A' B' acc' true h' → h.next ≤ h'.next → W tree.getF zBr ⟨[.str s, .ptr p 106954757 0, v2, v3, v4, v5, v6, v7, v8, v9, v10, v11], h', []⟩ Q) {n : Nat} (hn : h.next ≤ n := by (try dsimp only); omega) : W tree.getF zBr ⟨[.str s, .ptr p 106954757 0, v2, v3, v4, v5, v6, v7, v8, v9, v10, v11], ⟨h.ents, n, h.tys⟩, []⟩ Q := by
 have hZ := S.z
 have hlp := S.lp
 refine W.loop ?_
 repeat (first | refine st_ rfl ?_ | ((first | refine rg_ ?_ | refine go_ ?_); refine gw_ (by simp (disch := omega) [hZ]; rfl) ?_) | (refine n_none S (by omega) hx fun _ S g => ⟨rfl, ?_⟩; (try dsimp only at g); have hZ := S.z; have hlp := S.lp))
 show W tree.getF zBr (dropped true _ _) Q
 generalize e : dropped .. = r0
 simp (disch := omega) [hZ] at e
 subst e
 try dsimp only
 refine hk _ _ _ _ _ _ _ _ _ _ _ _ _ _ _ ((S.putI a true rfl).up ?_) ?_
 · (try dsimp only); omega
 · (try dsimp only); omega
theorem q_ok (S : CU n0 E0 p s a A B acc false h) (hl : s.length < 50000) (hal : acc.length ≤ a) (hx : s[a]? = some 34) (hv : zBp acc = true) {Q : QT} (v2 v3 v4 v5 v6 v7 v8 v9 v10 v11 : CVal)  (hk : ∀ (v2 v3 v4 v5 v7 v8 v9 : CVal) h', CV n0 E0 p s (a + 1) h' → h.next ≤ h'.next → Q .ret ⟨[.str s, .ptr p 106954757 0, v2, v3, v4, v5, .str acc, v7, v8, v9, .int .i64 ((a : Int) + 1), .int .i64 0], h', []⟩) {n : Nat} (hn : h.next ≤ n := by (try dsimp only); omega) : W tree.getF zBr ⟨[.str s, .ptr p 106954757 0, v2, v3, v4, v5, v6, v7, v8, v9, v10, v11], ⟨h.ents, n, h.tys⟩, []⟩ Q := by
 have hZ := S.z
 have hlp := S.lp
 have hal1 := (List.getElem?_eq_some_iff.1 hx).1
 refine W.loop ?_
 repeat (first | refine st_ rfl ?_ | ((first | refine rg_ ?_ | refine go_ ?_); refine gw_ (by simp (disch := omega) [hZ, hv]; rfl) ?_) | (refine zC9 S (by omega) 34 hx fun _ S g => ⟨rfl, ?_⟩; (try dsimp only at g); have hZ := S.z; have hlp := S.lp) | (refine n_bs S (by omega) fun _ S g => ⟨rfl, ?_⟩; (try dsimp only at g); have hlp := S.lp; obtain ⟨A9, B9, b9, hZ⟩ := S.g) | (refine v_pe S (valid_F acc (by omega)) fun _ S g => ⟨rfl, ?_⟩; (try dsimp only at g); have hlp := S.lp; obtain ⟨A9, B9, b9, hZ⟩ := S.g) | ((refine W.ret ?_; (try simp only [zAb, zA0, zA8]); refine hk _ _ _ _ _ _ _ _ (S.up ?_) ?_; ((try dsimp only); omega); ((try dsimp only); omega))))
theorem q_inv (S : CU n0 E0 p s a A B acc false h) (hl : s.length < 50000) (hal : acc.length ≤ a) (hx : s[a]? = some 34) (hv : zBp acc = false) {Q : QT} (v2 v3 v4 v5 v6 v7 v8 v9 v10 v11 : CVal)  (hk : ∀ (v2 v3 v4 v5 v7 v8 v9 : CVal) h', CV n0 E0 p s (a + 1) h' → h.next ≤ h'.next → Q .ret ⟨[.str s, .ptr p 106954757 0, v2, v3, v4, v5, .str [], v7, v8, v9, .int .i64 0, .int .i64 2], h', []⟩) {n : Nat} (hn : h.next ≤ n := by (try dsimp only); omega) : W tree.getF zBr ⟨[.str s, .ptr p 106954757 0, v2, v3, v4, v5, v6, v7, v8, v9, v10, v11], ⟨h.ents, n, h.tys⟩, []⟩ Q := by
 have hZ := S.z
 have hlp := S.lp
 have hal1 := (List.getElem?_eq_some_iff.1 hx).1
 refine W.loop ?_
 repeat (first | refine st_ rfl ?_ | ((first | refine rg_ ?_ | refine go_ ?_); refine gw_ (by simp (disch := omega) [hZ, hv]; rfl) ?_) | (refine zC9 S (by omega) 34 hx fun _ S g => ⟨rfl, ?_⟩; (try dsimp only at g); have hZ := S.z; have hlp := S.lp) | (refine n_bs S (by omega) fun _ S g => ⟨rfl, ?_⟩; (try dsimp only at g); have hlp := S.lp; obtain ⟨A9, B9, b9, hZ⟩ := S.g) | (refine v_pe S (valid_F acc (by omega)) fun _ S g => ⟨rfl, ?_⟩; (try dsimp only at g); have hlp := S.lp; obtain ⟨A9, B9, b9, hZ⟩ := S.g) | ((refine W.ret ?_; (try simp only [zAb, zA0, zA8]); refine hk _ _ _ _ _ _ _ _ (S.up ?_) ?_; ((try dsimp only); omega); ((try dsimp only); omega))))
theorem q_ctl (S : CU n0 E0 p s a A B acc false h) (hl : s.length < 50000) (hal : acc.length ≤ a) (x : UInt8) (hx : s[a]? = some x) (hc : x.toNat < 32) {Q : QT} (v2 v3 v4 v5 v6 v7 v8 v9 v10 v11 : CVal)  (hk : ∀ (v2 v3 v4 v5 v6 v7 v8 v9 v10 v11 : CVal) a' A' B' acc' h', CU n0 E0 p s a' A' B' acc' true h' → h.next ≤ h'.next → W tree.getF zBr ⟨[.str s, .ptr p 106954757 0, v2, v3, v4, v5, v6, v7, v8, v9, v10, v11], h', []⟩ Q) {n : Nat} (hn : h.next ≤ n := by (try dsimp only); omega) : W tree.getF zBr ⟨[.str s, .ptr p 106954757 0, v2, v3, v4, v5, v6, v7, v8, v9, v10, v11], ⟨h.ents, n, h.tys⟩, []⟩ Q := by
 have hZ := S.z
 have hlp := S.lp
 have hal1 := (List.getElem?_eq_some_iff.1 hx).1
 have hx256 := x.toNat_lt
 refine W.loop ?_
 repeat (first | refine st_ rfl ?_ | ((first | refine rg_ ?_ | refine go_ ?_); refine gw_ (by simp (disch := omega) [hZ]; rfl) ?_) | (refine zC9 S (by omega) x hx fun _ S g => ⟨rfl, ?_⟩; (try dsimp only at g); have hZ := S.z; have hlp := S.lp))
 show W tree.getF zBr (dropped true _ _) Q
 generalize e : dropped .. = r0
 simp (disch := omega) [hZ] at e
 subst e
 try dsimp only
 refine hk _ _ _ _ _ _ _ _ _ _ _ _ _ _ _ ((S.putI (a + 1) true (by omega)).up ?_) ?_
 · (try dsimp only); omega
 · (try dsimp only); omega
theorem q_chr (S : CU n0 E0 p s a A B acc false h) (hl : s.length < 50000) (hal : acc.length ≤ a) (x : UInt8) (hx : s[a]? = some x) (hc : 32 ≤ x.toNat) (h34 : ¬ x.toNat = 34) (h92 : ¬ x.toNat = 92) {Q : QT} (v2 v3 v4 v5 v6 v7 v8 v9 v10 v11 : CVal)  (hk : ∀ (v2 v3 v4 v5 v6 v7 v8 v9 v10 v11 : CVal) A' B' h', CU n0 E0 p s (a + 1) A' B' (acc ++ [x]) false h' → h.next ≤ h'.next → W tree.getF zBr ⟨[.str s, .ptr p 106954757 0, v2, v3, v4, v5, v6, v7, v8, v9, v10, v11], h', []⟩ Q) {n : Nat} (hn : h.next ≤ n := by (try dsimp only); omega) : W tree.getF zBr ⟨[.str s, .ptr p 106954757 0, v2, v3, v4, v5, v6, v7, v8, v9, v10, v11], ⟨h.ents, n, h.tys⟩, []⟩ Q := by
 have hZ := S.z
 have hlp := S.lp
 have hal1 := (List.getElem?_eq_some_iff.1 hx).1
 have hx256 := x.toNat_lt
 have h34x : ¬ (x.toNat : Int) = 34 := by omega
 have h92x : ¬ (x.toNat : Int) = 92 := by omega
 refine W.loop ?_
 repeat (first | refine st_ rfl ?_ | ((first | refine rg_ ?_ | refine go_ ?_); refine gw_ (by simp (disch := omega) [hZ, h34x, h92x]; rfl) ?_) | (refine zC9 S (by omega) x hx fun _ S g => ⟨rfl, ?_⟩; (try dsimp only at g); have hZ := S.z; have hlp := S.lp) | (refine n_wb S (by omega) x (hy := rfl) (hk := fun _ _ _ S g => ⟨rfl, ?_⟩); (try dsimp only at g); have hZ := S.z; have hlp := S.lp))
 show W tree.getF zBr (dropped true _ _) Q
 generalize e : dropped .. = r0
 simp (disch := omega) [hZ] at e
 subst e
 try dsimp only
 refine hk _ _ _ _ _ _ _ _ _ _ _ _ _ (S.up ?_) ?_
 · (try dsimp only); omega
 · (try dsimp only); omega
theorem q_esc (S : CU n0 E0 p s a A B acc false h) (hl : s.length < 50000) (hal : acc.length ≤ a) (hx : s[a]? = some 92) {Q : QT} (v2 v3 v4 v5 v6 v7 v8 v9 v10 v11 : CVal) (hk2 : escV (s.drop (a + 1)) = none → ∀ (v2 v3 v4 v5 v6 v7 v8 v9 v10 v11 : CVal) a' A' B' acc' h', CU n0 E0 p s a' A' B' acc' true h' → h.next ≤ h'.next → W tree.getF zBr ⟨[.str s, .ptr p 106954757 0, v2, v3, v4, v5, v6, v7, v8, v9, v10, v11], h', []⟩ Q) (hk : ∀ t k, escV (s.drop (a + 1)) = some (t, k) → ∀ (v2 v3 v4 v5 v6 v7 v8 v9 v10 v11 : CVal) A' B' h', CU n0 E0 p s (a + 1 + k) A' B' (acc ++ t) false h' → h.next ≤ h'.next → W tree.getF zBr ⟨[.str s, .ptr p 106954757 0, v2, v3, v4, v5, v6, v7, v8, v9, v10, v11], h', []⟩ Q) {n : Nat} (hn : h.next ≤ n := by (try dsimp only); omega) : W tree.getF zBr ⟨[.str s, .ptr p 106954757 0, v2, v3, v4, v5, v6, v7, v8, v9, v10, v11], ⟨h.ents, n, h.tys⟩, []⟩ Q := by
 have hZ := S.z
 have hlp := S.lp
 have hal1 := (List.getElem?_eq_some_iff.1 hx).1
 refine W.loop ?_
 repeat (first | refine st_ rfl ?_ | ((first | refine rg_ ?_ | refine go_ ?_); refine gw_ (by simp (disch := omega) [hZ]; rfl) ?_) | (refine zC9 S (by omega) 92 hx fun _ S g => ⟨rfl, ?_⟩; (try dsimp only at g); have hZ := S.z; have hlp := S.lp) | (refine n_esc S (by omega) (by omega) ?_ ?_))
 · intro t k he A' B' h' S g
   have hZ := S.z
   have hlp := S.lp
   refine ⟨rfl, ?_⟩
   (try dsimp only at g)
   repeat (first | refine st_ rfl ?_ | ((first | refine rg_ ?_ | refine go_ ?_); refine gw_ (by simp (disch := omega) [hZ]; rfl) ?_))
   show W tree.getF zBr (dropped true _ _) Q
   generalize e : dropped .. = r0
   simp (disch := omega) [hZ] at e
   subst e
   try dsimp only
   refine hk _ _ he _ _ _ _ _ _ _ _ _ _ _ _ _ (S.up ?_) ?_
   · (try dsimp only); omega
   · (try dsimp only); omega
 · intro he a' A' B' acc' h' S hlen g
   have hZ := S.z
   have hlp := S.lp
   refine ⟨rfl, ?_⟩
   (try dsimp only at g)
   repeat (first | refine st_ rfl ?_ | ((first | refine rg_ ?_ | refine go_ ?_); refine gw_ (by simp (disch := omega) [hZ]; rfl) ?_))
   show W tree.getF zBr (dropped true _ _) Q
   generalize e : dropped .. = r0
   simp (disch := omega) [hZ] at e
   subst e
   try dsimp only
   refine hk2 he _ _ _ _ _ _ _ _ _ _ _ _ _ _ _ (S.up ?_) ?_
   · (try dsimp only); omega
   · (try dsimp only); omega
theorem unit4_len {t : B8} {u : Nat} (h : zBq t = some u) : 4 ≤ t.length := by
 match t, h with
 | [], h => simp [zBq] at h
 | [_], h => simp [zBq] at h
 | [_, _], h => simp [zBq] at h
 | [_, _, _], h => simp [zBq] at h
 | _ :: _ :: _ :: _ :: _, _ => simp
theorem escV_len {t x : B8} {k : Nat} (h : escV t = some (x, k)) : x.length ≤ k ∧ k ≤ t.length := by
 cases t with
 | nil => simp [escV] at h
 | cons c r =>
  simp only [escV] at h
  by_cases h34 : c = 34
  · rw [if_pos h34] at h; cases h; exact ⟨by simp, by simp⟩
  rw [if_neg h34] at h
  by_cases h92 : c = 92
  · rw [if_pos h92] at h; cases h; exact ⟨by simp, by simp⟩
  rw [if_neg h92] at h
  by_cases h98 : c = 98
  · rw [if_pos h98] at h; cases h; exact ⟨by simp, by simp⟩
  rw [if_neg h98] at h
  by_cases h102 : c = 102
  · rw [if_pos h102] at h; cases h; exact ⟨by simp, by simp⟩
  rw [if_neg h102] at h
  by_cases h110 : c = 110
  · rw [if_pos h110] at h; cases h; exact ⟨by simp, by simp⟩
  rw [if_neg h110] at h
  by_cases h114 : c = 114
  · rw [if_pos h114] at h; cases h; exact ⟨by simp, by simp⟩
  rw [if_neg h114] at h
  by_cases h116 : c = 116
  · rw [if_pos h116] at h; cases h; exact ⟨by simp, by simp⟩
  rw [if_neg h116] at h
  by_cases h47 : c = 47
  · rw [if_pos h47] at h; cases h; exact ⟨by simp, by simp⟩
  rw [if_neg h47] at h
  by_cases h117 : c = 117
  · rw [if_pos h117] at h
    cases hu : zBq r with
    | none => rw [hu] at h; cases h
    | some u =>
     rw [hu] at h
     dsimp only at h
     have h4 := unit4_len hu
     split at h
     · split at h
       · split at h
         · cases h
         · rename_i v hv
           have h6 := unit4_len hv
           rw [List.length_drop] at h6
           split at h
           · have hh := Option.some.inj h; have e1 := congrArg Prod.fst hh; have e2 := congrArg Prod.snd hh; dsimp only at e1 e2; rw [← e1, ← e2]; exact ⟨Nat.le_trans (putB_len _) (by omega), by simp only [List.length_cons]; omega⟩
           · cases h
       · cases h
     · split at h
       · cases h
       · have hh := Option.some.inj h; have e1 := congrArg Prod.fst hh; have e2 := congrArg Prod.snd hh; dsimp only at e1 e2; rw [← e1, ← e2]; exact ⟨Nat.le_trans (putB_len _) (by omega), by simp only [List.length_cons]; omega⟩
  · rw [if_neg h117] at h; cases h
theorem q_loop {n1 : Nat} (hl : s.length < 50000) {R : Option (B8 × Nat)} {Q : QT}
    (hok : ∀ txt k, R = some (txt, k) → ∀ (v2 v3 v4 v5 v7 v8 v9 : CVal) a' h', CV n0 E0 p s a' h' → n1 ≤ h'.next → Q .ret ⟨[.str s, .ptr p 106954757 0, v2, v3, v4, v5, .str txt, v7, v8, v9, .int .i64 (k : Int), .int .i64 0], h', []⟩)
    (hinv : R = none → ∀ (v2 v3 v4 v5 v7 v8 v9 : CVal) a' h', CV n0 E0 p s a' h' → n1 ≤ h'.next → Q .ret ⟨[.str s, .ptr p 106954757 0, v2, v3, v4, v5, .str [], v7, v8, v9, .int .i64 0, .int .i64 2], h', []⟩)
    (hex : R = none → ∀ (v2 v3 v4 v5 v6 v7 v8 v9 v10 v11 : CVal) a' h', CV n0 E0 p s a' h' → n1 ≤ h'.next → Q (.exit 0) ⟨[.str s, .ptr p 106954757 0, v2, v3, v4, v5, v6, v7, v8, v9, v10, v11], h', []⟩) :
    ∀ (m : Nat) (t acc : B8) (a : Nat) (A B : CVal) (h : CHeap) (v2 v3 v4 v5 v6 v7 v8 v9 v10 v11 : CVal), t.length < m → s.drop a = t → acc.length ≤ a → unqF m acc t a = R → CU n0 E0 p s a A B acc false h → n1 ≤ h.next → W tree.getF zBr ⟨[.str s, .ptr p 106954757 0, v2, v3, v4, v5, v6, v7, v8, v9, v10, v11], h, []⟩ Q := by
 intro m
 induction m with
 | zero => intro t acc a A B h v2 v3 v4 v5 v6 v7 v8 v9 v10 v11 hm; omega
 | succ m ih =>
  intro t acc a A B h v2 v3 v4 v5 v6 v7 v8 v9 v10 v11 hm hd hal hR S hn
  have bad : R = none → ∀ (v2 v3 v4 v5 v6 v7 v8 v9 v10 v11 : CVal) a' A' B' acc' h', CU n0 E0 p s a' A' B' acc' true h' → h.next ≤ h'.next → W tree.getF zBr ⟨[.str s, .ptr p 106954757 0, v2, v3, v4, v5, v6, v7, v8, v9, v10, v11], h', []⟩ Q := fun hr v2 v3 v4 v5 v6 v7 v8 v9 v10 v11 a' A' B' acc' h' S' g =>
   q_exit S' hl v2 v3 v4 v5 v6 v7 v8 v9 v10 v11 (fun v2 v3 v4 v5 v6 v7 v8 v9 v10 v11 h2 S2 g2 => hex hr v2 v3 v4 v5 v6 v7 v8 v9 v10 v11 a' h2 S2 (by omega)) (Nat.le_refl _)
  cases t with
  | nil =>
   have hle : s.length ≤ a := by
    rcases Nat.lt_or_ge a s.length with g | g
    · rw [List.drop_eq_getElem_cons g] at hd; cases hd
    · exact g
   have hr : R = none := by rw [← hR]; rfl
   exact q_none S hl hal hle v2 v3 v4 v5 v6 v7 v8 v9 v10 v11 (fun v2 v3 v4 v5 v6 v7 v8 v9 v10 v11 a' A' B' acc' h' S' g => bad hr v2 v3 v4 v5 v6 v7 v8 v9 v10 v11 a' A' B' acc' h' S' g) (Nat.le_refl _)
  | cons c r =>
   have hx : s[a]? = some c := by rw [← Nat.add_zero a, ← List.getElem?_drop, hd]; rfl
   have hd1 : s.drop (a + 1) = r := drop_next hd
   have hm1 : r.length < m := by simp only [List.length_cons] at hm; omega
   by_cases h34 : c = 34
   · subst h34
     cases hv : zBp acc with
     | true =>
      have hr : R = some (acc, a + 1) := by rw [← hR]; simp [unqF, hv]
      refine q_ok S hl hal hx hv v2 v3 v4 v5 v6 v7 v8 v9 v10 v11 (fun v2 v3 v4 v5 v7 v8 v9 h' S' g => ?_) (Nat.le_refl _)
      exact hok acc (a + 1) hr v2 v3 v4 v5 v7 v8 v9 (a + 1) h' S' (by omega)
     | false =>
      have hr : R = none := by rw [← hR]; simp [unqF, hv]
      exact q_inv S hl hal hx hv v2 v3 v4 v5 v6 v7 v8 v9 v10 v11 (fun v2 v3 v4 v5 v7 v8 v9 h' S' g => hinv hr v2 v3 v4 v5 v7 v8 v9 (a + 1) h' S' (by omega)) (Nat.le_refl _)
   · have n34 : ¬ c.toNat = 34 := fun e => h34 (UInt8.toNat_inj.1 e)
     by_cases hc : c.toNat < 32
     · have hr : R = none := by rw [← hR]; simp [unqF, h34, hc]
       exact q_ctl S hl hal c hx hc v2 v3 v4 v5 v6 v7 v8 v9 v10 v11 (fun v2 v3 v4 v5 v6 v7 v8 v9 v10 v11 a' A' B' acc' h' S' g => bad hr v2 v3 v4 v5 v6 v7 v8 v9 v10 v11 a' A' B' acc' h' S' g) (Nat.le_refl _)
     · by_cases h92 : c = 92
       · subst h92
         refine q_esc S hl hal hx v2 v3 v4 v5 v6 v7 v8 v9 v10 v11 ?_ ?_ (Nat.le_refl _)
         · intro he v2 v3 v4 v5 v6 v7 v8 v9 v10 v11 a' A' B' acc' h' S' g
           rw [hd1] at he
           have hr : R = none := by rw [← hR]; simp [unqF, he]
           exact bad hr v2 v3 v4 v5 v6 v7 v8 v9 v10 v11 a' A' B' acc' h' S' g
         · intro tx k he v2 v3 v4 v5 v6 v7 v8 v9 v10 v11 A' B' h' S' g
           rw [hd1] at he
           have hlen := escV_len he
           have hr : unqF m (acc ++ tx) (r.drop k) (a + 1 + k) = R := by rw [← hR]; simp [unqF, he]
           refine ih (r.drop k) (acc ++ tx) (a + 1 + k) A' B' h' v2 v3 v4 v5 v6 v7 v8 v9 v10 v11 ?_ ?_ ?_ hr S' (by omega)
           · rw [List.length_drop]; omega
           · rw [← List.drop_drop, hd1]
           · rw [List.length_append]; omega
       · have n92 : ¬ c.toNat = 92 := fun e => h92 (UInt8.toNat_inj.1 e)
         refine q_chr S hl hal c hx (by omega) n34 n92 v2 v3 v4 v5 v6 v7 v8 v9 v10 v11 (fun v2 v3 v4 v5 v6 v7 v8 v9 v10 v11 A' B' h' S' g => ?_) (Nat.le_refl _)
         have hr : unqF m (acc ++ [c]) r (a + 1) = R := by rw [← hR]; simp [unqF, h34, hc, h92]
         exact ih r (acc ++ [c]) (a + 1) A' B' h' v2 v3 v4 v5 v6 v7 v8 v9 v10 v11 hm1 hd1 (by rw [List.length_append]; simp; omega) hr S' (by omega)
end Go.Proofs.YtdanefpnfnippaaGreatDoor.IrJ
namespace Go.Proofs.YtdanefpnfnippaaGreatDoor.IrJ
open Go Go.CI
set_option maxRecDepth 100000
set_option maxHeartbeats 4000000
set_option linter.unusedVariables false
set_option linter.unusedSimpArgs false
attribute [local irreducible] W Wo Wc WoR
theorem over_refl {n : Nat} {E : EE} (hu : Under E n) : Over n E E := ⟨[], rfl, by simp, hu⟩
theorem cu_init {h : CHeap} (hf : Fit h) {q : Nat} (hq : h.next ≤ q) (s : B8) : CU h.next h.ents q s 0 .nilp .nils [] false ⟨(q, cu s 0 .nilp .nils false) :: h.ents, q + 1, h.tys⟩ :=
 { g := by simp [zA4]
   b := .inl ⟨rfl, rfl, rfl⟩
   d := (over_refl hf.1).cons hq
   nc := by
    intro y hy hp
    rcases List.mem_cons.1 hy with rfl | hy
    · exact absurd hp (by simp)
    · have := hf.1 y hy; omega
   np := hq
   lp := Nat.lt_succ_self _
   f := ⟨Under.cons (Nat.lt_succ_self _) (hf.1.le (Nat.le_succ_of_le hq)), hf.2.le (Nat.le_succ_of_le hq)⟩ }
def unqV : B8 → Option (B8 × Nat)
 | [] => none
 | c :: r => if c = 34 then unqF (r.length + 1) [] r 1 else none
def unqR (s : B8) : CVal := match unqV s with
 | some (t, k) => .tup [.str t, .int .i64 (k : Int), .int .i64 0]
 | none => .tup [.str [], .int .i64 0, .int .i64 2]
theorem CV.z {n0 : Nat} {E0 : EE} {p : Nat} {s : B8} {a : Nat} {h : CHeap} (S : CV n0 E0 p s a h) : zB7 h.ents n0 = E0 := S.d.drop
theorem uq_nil (s : B8) (hl : s.length < 50000) (hs : s = []) : Pu tree.getF 49 [.str s] (.tup [.str [], .int .i64 0, .int .i64 2]) := by
 intro h hf K hk
 obtain ⟨hu, hut, hX⟩ := fx4 hf
 have hdr := trivial
 have hZ := trivial
 refine Wc.mkG 49 c49 (by kernel_rfl) rfl ?_
 generalize e : zAa .. = r
 simp (disch := omega) [c49] at e
 subst e
 repeat (first | refine st_ rfl ?_ | ((first | refine rg_ ?_ | refine go_ ?_); refine gw_ (by simp (disch := omega) [hX, hZ, hdr, c49]; rfl) ?_) | (refine n_none (cu_init hf (by omega) s) (by omega) (by rw [hs]; exact Nat.le_refl _) fun _ S g => ⟨rfl, ?_⟩; (try dsimp only at g); have hZ := S.z; have hlp := S.lp; have hdr := S.v.z) | ((first | (refine W.ret ?_; (try simp only [zAb, zA0, zA8]); refine endW.of (.inl rfl) rfl ?_) | refine endW.of (.inr rfl) rfl ?_); generalize e : zAc .. = r; simp (disch := omega) [hX, hZ, hdr, c49] at e; subst e; (refine hk _ _ ?_ ?_; ((try dsimp only); omega); (exact S.f.2.le (by (try dsimp only); omega)))))
theorem uq_no (s : B8) (hl : s.length < 50000) (x : UInt8) (hx : s[0]? = some x) (h34 : ¬ x.toNat = 34) : Pu tree.getF 49 [.str s] (.tup [.str [], .int .i64 0, .int .i64 2]) := by
 intro h hf K hk
 obtain ⟨hu, hut, hX⟩ := fx4 hf
 have hdr := trivial
 have hZ := trivial
 have h34x : ¬ (x.toNat : Int) = 34 := by omega
 refine Wc.mkG 49 c49 (by kernel_rfl) rfl ?_
 generalize e : zAa .. = r
 simp (disch := omega) [c49] at e
 subst e
 repeat (first | refine st_ rfl ?_ | ((first | refine rg_ ?_ | refine go_ ?_); refine gw_ (by simp (disch := omega) [hX, hZ, h34x, hdr, c49]; rfl) ?_) | (refine zC9 (cu_init hf (by omega) s) (by omega) x hx fun _ S g => ⟨rfl, ?_⟩; (try dsimp only at g); have hZ := S.z; have hlp := S.lp; have hdr := S.v.z) | ((first | (refine W.ret ?_; (try simp only [zAb, zA0, zA8]); refine endW.of (.inl rfl) rfl ?_) | refine endW.of (.inr rfl) rfl ?_); generalize e : zAc .. = r; simp (disch := omega) [hX, hZ, h34x, hdr, c49] at e; subst e; (refine hk _ _ ?_ ?_; ((try dsimp only); omega); (exact S.f.2.le (by (try dsimp only); omega)))))
theorem uq_34 (s : B8) (hl : s.length < 50000) (r : B8) (hs : s = 34 :: r) : Pu tree.getF 49 [.str s] (unqR s) := by
 intro h hf K hk
 obtain ⟨hu, hut, hX⟩ := fx4 hf
 have hdr := trivial
 have hZ := trivial
 have hx : s[0]? = some 34 := by rw [hs]; rfl
 have hd1 : s.drop 1 = r := by rw [hs]; rfl
 have hV : unqF (r.length + 1) [] r 1 = unqV s := by rw [hs]; simp [unqV]
 refine Wc.mkG 49 c49 (by kernel_rfl) rfl ?_
 generalize e : zAa .. = r
 simp (disch := omega) [c49] at e
 subst e
 repeat (first | refine st_ rfl ?_ | ((first | refine rg_ ?_ | refine go_ ?_); refine gw_ (by simp (disch := omega) [hX, hZ, hdr, c49]; rfl) ?_) | (refine zC9 (cu_init hf (by omega) s) (by omega) 34 hx fun _ S g => ⟨rfl, ?_⟩; (try dsimp only at g); have hZ := S.z; have hlp := S.lp; have hdr := S.v.z) | ((first | (refine W.ret ?_; (try simp only [zAb, zA0, zA8]); refine endW.of (.inl rfl) rfl ?_) | refine endW.of (.inr rfl) rfl ?_); generalize e : zAc .. = r; simp (disch := omega) [hX, hZ, hdr, c49] at e; subst e; (refine hk _ _ ?_ ?_; ((try dsimp only); omega); (exact S.f.2.le (by (try dsimp only); omega)))))
 refine q_loop hl (n1 := h.next) (R := unqV s) ?_ ?_ ?_ (r.length + 1) r [] 1 _ _ _ _ _ _ _ _ _ _ _ _ _ (Nat.lt_succ_self _) hd1 (by simp) hV S (by (try dsimp only); omega)
 · intro txt k hR v2 v3 v4 v5 v7 v8 v9 a' h' S g
   have hdr := S.z
   have e : unqR s = .tup [.str txt, .int .i64 (k : Int), .int .i64 0] := by simp only [unqR, hR]
   rw [e] at hk
   (try simp only [zAb, zA0, zA8])
   refine endW.of (.inl rfl) rfl ?_
   generalize e9 : zAc _ _ _ = r9
   simp (disch := omega) [hX, hdr, c49] at e9
   subst e9
   (try dsimp only [goW])
   refine hk _ _ ?_ ?_; ((try dsimp only); omega); exact S.f.2.le (by (try dsimp only); omega)
 · intro hR v2 v3 v4 v5 v7 v8 v9 a' h' S g
   have hdr := S.z
   have e : unqR s = .tup [.str [], .int .i64 0, .int .i64 2] := by simp only [unqR, hR]
   rw [e] at hk
   (try simp only [zAb, zA0, zA8])
   refine endW.of (.inl rfl) rfl ?_
   generalize e9 : zAc _ _ _ = r9
   simp (disch := omega) [hX, hdr, c49] at e9
   subst e9
   (try dsimp only [goW])
   refine hk _ _ ?_ ?_; ((try dsimp only); omega); exact S.f.2.le (by (try dsimp only); omega)
 · intro hR v2 v3 v4 v5 v6 v7 v8 v9 v10 v11 a' h' S g
   have hdr := S.z
   have e : unqR s = .tup [.str [], .int .i64 0, .int .i64 2] := by simp only [unqR, hR]
   rw [e] at hk
   (try simp only [zAh, zA8, zAb, reduceIte]); (try simp only [zD8])
   repeat (first | refine st_ rfl ?_ | ((first | refine rg_ ?_ | refine go_ ?_); refine gw_ (by simp (disch := omega) [hX, hdr, c49]; rfl) ?_) | (simp only [zD8]) | ((first | (refine W.ret ?_; (try simp only [zAb, zA0, zA8]); refine endW.of (.inl rfl) rfl ?_) | refine endW.of (.inr rfl) rfl ?_); generalize e : zAc .. = r; simp (disch := omega) [hX, hdr, c49] at e; subst e; ((refine hk _ _ ?_ ?_; ((try dsimp only); omega); exact S.f.2.le (by (try dsimp only); omega)))))
theorem uq_F (s : B8) (hl : s.length < 50000) : Pu tree.getF 49 [.str s] (unqR s) := by
 cases hs : s with
 | nil => rw [← hs]; have e : unqR s = .tup [.str [], .int .i64 0, .int .i64 2] := by rw [hs]; rfl
          rw [e]; exact uq_nil s hl hs
 | cons c r =>
  rw [← hs]
  by_cases h34 : c = 34
  · subst h34; exact uq_34 s hl r hs
  · have e : unqR s = .tup [.str [], .int .i64 0, .int .i64 2] := by rw [hs]; simp [unqR, unqV, h34]
    rw [e]
    exact uq_no s hl c (by rw [hs]; rfl) (fun e => h34 (UInt8.toNat_inj.1 e))
theorem wGA1 {P : Prop} (h : P := by refine Wc.mkG 115 c115 (by kernel_rfl) rfl ?_; generalize e : zAa .. = r; simp (disch := omega) [c115] at e; subst e; repeat (first | refine st_ rfl ?_ | ((first | refine rg_ ?_ | refine go_ ?_); refine gw_ (by simp (disch := omega) [hX, zA2, zA1, c115]; rfl) ?_) | (refine W.loop ?_; try (generalize e : dropped .. = r; simp (disch := omega) [hX, zA2, zA1, c115] at e; subst e; try dsimp only)) | ((first | (refine W.ret ?_; (try simp only [zAb, zA0, zA8]); refine endW.of (.inl rfl) rfl ?_) | refine endW.of (.inr rfl) rfl ?_); generalize e : zAc .. = r; simp (disch := omega) [hX, zA2, zA1, c115] at e; subst e; (refine hk _ _ ?_ ?_; omega; exact ut_)))) : P := h
theorem dg_0 (c : UInt8) (h1 : 0 ≤ c.toNat) (h2 : c.toNat < 48) : Pu tree.getF 115 [.int .u8 (c.toNat : Int)] (.int .i64 (-1)) := by
 intro h hf K hk
 obtain ⟨hu, hut, hX⟩ := fx4 hf
 exact wGA1
theorem dg_1 (c : UInt8) (h1 : 48 ≤ c.toNat) (h2 : c.toNat < 58) : Pu tree.getF 115 [.int .u8 (c.toNat : Int)] (.int .i64 ((c.toNat : Int) - 48)) := by
 intro h hf K hk
 obtain ⟨hu, hut, hX⟩ := fx4 hf
 exact wGA1
theorem dg_2 (c : UInt8) (h1 : 58 ≤ c.toNat) (h2 : c.toNat < 65) : Pu tree.getF 115 [.int .u8 (c.toNat : Int)] (.int .i64 (-1)) := by
 intro h hf K hk
 obtain ⟨hu, hut, hX⟩ := fx4 hf
 exact wGA1
theorem dg_3 (c : UInt8) (h1 : 65 ≤ c.toNat) (h2 : c.toNat < 71) : Pu tree.getF 115 [.int .u8 (c.toNat : Int)] (.int .i64 ((c.toNat : Int) - 65 + 10)) := by
 intro h hf K hk
 obtain ⟨hu, hut, hX⟩ := fx4 hf
 exact wGA1
theorem dg_4 (c : UInt8) (h1 : 71 ≤ c.toNat) (h2 : c.toNat < 97) : Pu tree.getF 115 [.int .u8 (c.toNat : Int)] (.int .i64 (-1)) := by
 intro h hf K hk
 obtain ⟨hu, hut, hX⟩ := fx4 hf
 exact wGA1
theorem dg_5 (c : UInt8) (h1 : 97 ≤ c.toNat) (h2 : c.toNat < 103) : Pu tree.getF 115 [.int .u8 (c.toNat : Int)] (.int .i64 ((c.toNat : Int) - 97 + 10)) := by
 intro h hf K hk
 obtain ⟨hu, hut, hX⟩ := fx4 hf
 exact wGA1
theorem dg_6 (c : UInt8) (h1 : 103 ≤ c.toNat) (h2 : c.toNat < 256) : Pu tree.getF 115 [.int .u8 (c.toNat : Int)] (.int .i64 (-1)) := by
 intro h hf K hk
 obtain ⟨hu, hut, hX⟩ := fx4 hf
 exact wGA1
def digR (c : UInt8) : Int := match hexV c with | some v => (v : Int) | none => -1
theorem dg_F (c : UInt8) : Pu tree.getF 115 [.int .u8 (c.toNat : Int)] (.int .i64 (digR c)) := by
 have hc := c.toNat_lt
 unfold digR hexV
 by_cases h1 : 48 ≤ c.toNat ∧ c.toNat ≤ 57
 · rw [if_pos h1]
   have e : ((c.toNat - 48 : Nat) : Int) = (c.toNat : Int) - 48 := by omega
   dsimp only; rw [e]; exact dg_1 c h1.1 (by omega)
 · rw [if_neg h1]
   by_cases h2 : 97 ≤ c.toNat ∧ c.toNat ≤ 102
   · rw [if_pos h2]
     have e : ((c.toNat - 87 : Nat) : Int) = (c.toNat : Int) - 97 + 10 := by omega
     dsimp only; rw [e]; exact dg_5 c h2.1 (by omega)
   · rw [if_neg h2]
     by_cases h3 : 65 ≤ c.toNat ∧ c.toNat ≤ 70
     · rw [if_pos h3]
       have e : ((c.toNat - 55 : Nat) : Int) = (c.toNat : Int) - 65 + 10 := by omega
       dsimp only; rw [e]; exact dg_3 c h3.1 (by omega)
     · rw [if_neg h3]
       dsimp only
       rcases Nat.lt_or_ge c.toNat 48 with g | g
       · exact dg_0 c (by omega) g
       rcases Nat.lt_or_ge c.toNat 65 with g2 | g2
       · exact dg_2 c (by omega) g2
       rcases Nat.lt_or_ge c.toNat 97 with g3 | g3
       · exact dg_4 c (by omega) g3
       · exact dg_6 c (by omega) hc
theorem digR_some {c : UInt8} {v : Nat} (h : hexV c = some v) : digR c = (v : Int) := by unfold digR; rw [h]
theorem digR_none {c : UInt8} (h : hexV c = none) : digR c = -1 := by unfold digR; rw [h]
theorem dg_S (c : UInt8) (v : Nat) (h : hexV c = some v) : Pu tree.getF 115 [.int .u8 (c.toNat : Int)] (.int .i64 (v : Int)) := by rw [← digR_some h]; exact dg_F c
theorem dg_N (c : UInt8) (h : hexV c = none) : Pu tree.getF 115 [.int .u8 (c.toNat : Int)] (.int .i64 (-1)) := by rw [← digR_none h]; exact dg_F c
theorem un_0 (x0 x1 x2 x3 : UInt8) (r : B8) (hr : r.length < 100000) (h0 : hexV x0 = none) : Pu tree.getF 102 [.str (92 :: 117 :: x0 :: x1 :: x2 :: x3 :: r)] (.tup [.int .u32 0, .bool false]) := by
 intro h hf K hk
 obtain ⟨hu, hut, hX⟩ := fx4 hf
 refine Wc.mkG 102 c102 (by kernel_rfl) rfl ?_
 generalize e : zAa .. = r
 simp (disch := omega) [c102] at e
 subst e
 repeat (first | refine st_ rfl ?_ | ((first | refine rg_ ?_ | refine go_ ?_); refine gw_ (by simp (disch := omega) [hX, zA2, zA1, List.length_cons, c102]; rfl) ?_) | (refine W.loop ?_; try (generalize e : dropped .. = r; simp (disch := omega) [hX, zA2, zA1, List.length_cons, c102] at e; subst e; try dsimp only)) | (refine pu_ (dg_N x0 h0) fun _ _ g _ => ⟨rfl, ?_⟩; try dsimp only at g) | ((first | (refine W.ret ?_; (try simp only [zAb, zA0, zA8]); refine endW.of (.inl rfl) rfl ?_) | refine endW.of (.inr rfl) rfl ?_); generalize e : zAc .. = r; simp (disch := omega) [hX, zA2, zA1, List.length_cons, c102] at e; subst e; (refine hk _ _ ?_ ?_; omega; exact ut_)))
theorem un_1 (x0 x1 x2 x3 : UInt8) (r : B8) (hr : r.length < 100000) (v0 : Nat) (h0 : hexV x0 = some v0) (b0 : v0 < 16) (h1 : hexV x1 = none) : Pu tree.getF 102 [.str (92 :: 117 :: x0 :: x1 :: x2 :: x3 :: r)] (.tup [.int .u32 0, .bool false]) := by
 intro h hf K hk
 obtain ⟨hu, hut, hX⟩ := fx4 hf
 refine Wc.mkG 102 c102 (by kernel_rfl) rfl ?_
 generalize e : zAa .. = r
 simp (disch := omega) [c102] at e
 subst e
 repeat (first | refine st_ rfl ?_ | ((first | refine rg_ ?_ | refine go_ ?_); refine gw_ (by simp (disch := omega) [hX, zA2, zA1, List.length_cons, c102]; rfl) ?_) | (refine W.loop ?_; try (generalize e : dropped .. = r; simp (disch := omega) [hX, zA2, zA1, List.length_cons, c102] at e; subst e; try dsimp only)) | (refine pu_ (dg_S x0 v0 h0) fun _ _ g _ => ⟨rfl, ?_⟩; try dsimp only at g) | (refine pu_ (dg_N x1 h1) fun _ _ g _ => ⟨rfl, ?_⟩; try dsimp only at g) | ((first | (refine W.ret ?_; (try simp only [zAb, zA0, zA8]); refine endW.of (.inl rfl) rfl ?_) | refine endW.of (.inr rfl) rfl ?_); generalize e : zAc .. = r; simp (disch := omega) [hX, zA2, zA1, List.length_cons, c102] at e; subst e; (refine hk _ _ ?_ ?_; omega; exact ut_)))
theorem un_2 (x0 x1 x2 x3 : UInt8) (r : B8) (hr : r.length < 100000) (v0 : Nat) (h0 : hexV x0 = some v0) (b0 : v0 < 16) (v1 : Nat) (h1 : hexV x1 = some v1) (b1 : v1 < 16) (h2 : hexV x2 = none) : Pu tree.getF 102 [.str (92 :: 117 :: x0 :: x1 :: x2 :: x3 :: r)] (.tup [.int .u32 0, .bool false]) := by
 intro h hf K hk
 obtain ⟨hu, hut, hX⟩ := fx4 hf
 refine Wc.mkG 102 c102 (by kernel_rfl) rfl ?_
 generalize e : zAa .. = r
 simp (disch := omega) [c102] at e
 subst e
 repeat (first | refine st_ rfl ?_ | ((first | refine rg_ ?_ | refine go_ ?_); refine gw_ (by simp (disch := omega) [hX, zA2, zA1, List.length_cons, c102]; rfl) ?_) | (refine W.loop ?_; try (generalize e : dropped .. = r; simp (disch := omega) [hX, zA2, zA1, List.length_cons, c102] at e; subst e; try dsimp only)) | (refine pu_ (dg_S x0 v0 h0) fun _ _ g _ => ⟨rfl, ?_⟩; try dsimp only at g) | (refine pu_ (dg_S x1 v1 h1) fun _ _ g _ => ⟨rfl, ?_⟩; try dsimp only at g) | (refine pu_ (dg_N x2 h2) fun _ _ g _ => ⟨rfl, ?_⟩; try dsimp only at g) | ((first | (refine W.ret ?_; (try simp only [zAb, zA0, zA8]); refine endW.of (.inl rfl) rfl ?_) | refine endW.of (.inr rfl) rfl ?_); generalize e : zAc .. = r; simp (disch := omega) [hX, zA2, zA1, List.length_cons, c102] at e; subst e; (refine hk _ _ ?_ ?_; omega; exact ut_)))
theorem un_3 (x0 x1 x2 x3 : UInt8) (r : B8) (hr : r.length < 100000) (v0 : Nat) (h0 : hexV x0 = some v0) (b0 : v0 < 16) (v1 : Nat) (h1 : hexV x1 = some v1) (b1 : v1 < 16) (v2 : Nat) (h2 : hexV x2 = some v2) (b2 : v2 < 16) (h3 : hexV x3 = none) : Pu tree.getF 102 [.str (92 :: 117 :: x0 :: x1 :: x2 :: x3 :: r)] (.tup [.int .u32 0, .bool false]) := by
 intro h hf K hk
 obtain ⟨hu, hut, hX⟩ := fx4 hf
 refine Wc.mkG 102 c102 (by kernel_rfl) rfl ?_
 generalize e : zAa .. = r
 simp (disch := omega) [c102] at e
 subst e
 repeat (first | refine st_ rfl ?_ | ((first | refine rg_ ?_ | refine go_ ?_); refine gw_ (by simp (disch := omega) [hX, zA2, zA1, List.length_cons, c102]; rfl) ?_) | (refine W.loop ?_; try (generalize e : dropped .. = r; simp (disch := omega) [hX, zA2, zA1, List.length_cons, c102] at e; subst e; try dsimp only)) | (refine pu_ (dg_S x0 v0 h0) fun _ _ g _ => ⟨rfl, ?_⟩; try dsimp only at g) | (refine pu_ (dg_S x1 v1 h1) fun _ _ g _ => ⟨rfl, ?_⟩; try dsimp only at g) | (refine pu_ (dg_S x2 v2 h2) fun _ _ g _ => ⟨rfl, ?_⟩; try dsimp only at g) | (refine pu_ (dg_N x3 h3) fun _ _ g _ => ⟨rfl, ?_⟩; try dsimp only at g) | ((first | (refine W.ret ?_; (try simp only [zAb, zA0, zA8]); refine endW.of (.inl rfl) rfl ?_) | refine endW.of (.inr rfl) rfl ?_); generalize e : zAc .. = r; simp (disch := omega) [hX, zA2, zA1, List.length_cons, c102] at e; subst e; (refine hk _ _ ?_ ?_; omega; exact ut_)))
theorem un_4 (x0 x1 x2 x3 : UInt8) (r : B8) (hr : r.length < 100000) (v0 : Nat) (h0 : hexV x0 = some v0) (b0 : v0 < 16) (v1 : Nat) (h1 : hexV x1 = some v1) (b1 : v1 < 16) (v2 : Nat) (h2 : hexV x2 = some v2) (b2 : v2 < 16) (v3 : Nat) (h3 : hexV x3 = some v3) (b3 : v3 < 16) : Pu tree.getF 102 [.str (92 :: 117 :: x0 :: x1 :: x2 :: x3 :: r)] (.tup [.int .u32 ((((v0 : Int) * 16 + v1) * 16 + v2) * 16 + v3), .bool true]) := by
 intro h hf K hk
 obtain ⟨hu, hut, hX⟩ := fx4 hf
 refine Wc.mkG 102 c102 (by kernel_rfl) rfl ?_
 generalize e : zAa .. = r
 simp (disch := omega) [c102] at e
 subst e
 repeat (first | refine st_ rfl ?_ | ((first | refine rg_ ?_ | refine go_ ?_); refine gw_ (by simp (disch := omega) [hX, zA2, zA1, List.length_cons, c102]; rfl) ?_) | (refine W.loop ?_; try (generalize e : dropped .. = r; simp (disch := omega) [hX, zA2, zA1, List.length_cons, c102] at e; subst e; try dsimp only)) | (refine pu_ (dg_S x0 v0 h0) fun _ _ g _ => ⟨rfl, ?_⟩; try dsimp only at g) | (refine pu_ (dg_S x1 v1 h1) fun _ _ g _ => ⟨rfl, ?_⟩; try dsimp only at g) | (refine pu_ (dg_S x2 v2 h2) fun _ _ g _ => ⟨rfl, ?_⟩; try dsimp only at g) | (refine pu_ (dg_S x3 v3 h3) fun _ _ g _ => ⟨rfl, ?_⟩; try dsimp only at g) | ((first | (refine W.ret ?_; (try simp only [zAb, zA0, zA8]); refine endW.of (.inl rfl) rfl ?_) | refine endW.of (.inr rfl) rfl ?_); generalize e : zAc .. = r; simp (disch := omega) [hX, zA2, zA1, List.length_cons, c102] at e; subst e; (refine hk _ _ ?_ ?_; omega; exact ut_)))
theorem un_short (s : B8) (hs : s.length < 6) : Pu tree.getF 102 [.str s] (.tup [.int .u32 0, .bool false]) := by
 intro h hf K hk
 obtain ⟨hu, hut, hX⟩ := fx4 hf
 refine Wc.mkG 102 c102 (by kernel_rfl) rfl ?_
 generalize e : zAa .. = r
 simp (disch := omega) [c102] at e
 subst e
 repeat (first | refine st_ rfl ?_ | ((first | refine rg_ ?_ | refine go_ ?_); refine gw_ (by simp (disch := omega) [hX, zA2, zA1, c102]; rfl) ?_) | (refine W.loop ?_; try (generalize e : dropped .. = r; simp (disch := omega) [hX, zA2, zA1, c102] at e; subst e; try dsimp only)) | ((first | (refine W.ret ?_; (try simp only [zAb, zA0, zA8]); refine endW.of (.inl rfl) rfl ?_) | refine endW.of (.inr rfl) rfl ?_); generalize e : zAc .. = r; simp (disch := omega) [hX, zA2, zA1, c102] at e; subst e; (refine hk _ _ ?_ ?_; omega; exact ut_)))
theorem un_no0 (s : B8) (hs : 6 ≤ s.length) (c : UInt8) (hx0 : s[0]? = some c) (hc : ¬ c.toNat = 92) : Pu tree.getF 102 [.str s] (.tup [.int .u32 0, .bool false]) := by
 intro h hf K hk
 obtain ⟨hu, hut, hX⟩ := fx4 hf
 obtain ⟨l0, y0⟩ := List.getElem?_eq_some_iff.1 hx0
 have hcx : ¬ (c.toNat : Int) = 92 := by omega
 have hlx : ¬ (s.length : Int) < 6 := by omega
 refine Wc.mkG 102 c102 (by kernel_rfl) rfl ?_
 generalize e : zAa .. = r
 simp (disch := omega) [c102] at e
 subst e
 repeat (first | refine st_ rfl ?_ | ((first | refine rg_ ?_ | refine go_ ?_); refine gw_ (by simp (disch := omega) [hX, zA2, zA1, hx0, y0, hcx, hlx, c102]; rfl) ?_) | (refine W.loop ?_; try (generalize e : dropped .. = r; simp (disch := omega) [hX, zA2, zA1, hx0, y0, hcx, hlx, c102] at e; subst e; try dsimp only)) | ((first | (refine W.ret ?_; (try simp only [zAb, zA0, zA8]); refine endW.of (.inl rfl) rfl ?_) | refine endW.of (.inr rfl) rfl ?_); generalize e : zAc .. = r; simp (disch := omega) [hX, zA2, zA1, hx0, y0, hcx, hlx, c102] at e; subst e; (refine hk _ _ ?_ ?_; omega; exact ut_)))
theorem un_no1 (s : B8) (hs : 6 ≤ s.length) (c : UInt8) (hx0 : s[0]? = some 92) (hx1 : s[1]? = some c) (hc : ¬ c.toNat = 117) : Pu tree.getF 102 [.str s] (.tup [.int .u32 0, .bool false]) := by
 intro h hf K hk
 obtain ⟨hu, hut, hX⟩ := fx4 hf
 obtain ⟨l0, y0⟩ := List.getElem?_eq_some_iff.1 hx0
 obtain ⟨l1, y1⟩ := List.getElem?_eq_some_iff.1 hx1
 have hcx : ¬ (c.toNat : Int) = 117 := by omega
 have hlx : ¬ (s.length : Int) < 6 := by omega
 refine Wc.mkG 102 c102 (by kernel_rfl) rfl ?_
 generalize e : zAa .. = r
 simp (disch := omega) [c102] at e
 subst e
 repeat (first | refine st_ rfl ?_ | ((first | refine rg_ ?_ | refine go_ ?_); refine gw_ (by simp (disch := omega) [hX, zA2, zA1, hx0, y0, hx1, y1, hcx, hlx, c102]; rfl) ?_) | (refine W.loop ?_; try (generalize e : dropped .. = r; simp (disch := omega) [hX, zA2, zA1, hx0, y0, hx1, y1, hcx, hlx, c102] at e; subst e; try dsimp only)) | ((first | (refine W.ret ?_; (try simp only [zAb, zA0, zA8]); refine endW.of (.inl rfl) rfl ?_) | refine endW.of (.inr rfl) rfl ?_); generalize e : zAc .. = r; simp (disch := omega) [hX, zA2, zA1, hx0, y0, hx1, y1, hcx, hlx, c102] at e; subst e; (refine hk _ _ ?_ ?_; omega; exact ut_)))
def zCt (s : B8) : Option Nat := if s.take 2 = [92, 117] then zBq (s.drop 2) else none
def unitC (s : B8) : CVal := match zCt s with | some u => .tup [.int .u32 (u : Int), .bool true] | none => .tup [.int .u32 0, .bool false]
theorem un_F (s : B8) (hl : s.length < 100000) : Pu tree.getF 102 [.str s] (unitC s) := by
 have none_ : zCt s = none → unitC s = .tup [.int .u32 0, .bool false] := fun e => by unfold unitC; rw [e]
 rcases Nat.lt_or_ge s.length 6 with hs | hs
 · rw [none_ (by
    unfold zCt
    split
    · cases hu : zBq (s.drop 2) with
      | none => rfl
      | some u => have := unit4_len hu; rw [List.length_drop] at this; omega
    · rfl)]
   exact un_short s hs
 · match s, hs, hl with
   | c0 :: c1 :: x0 :: x1 :: x2 :: x3 :: r, hs, hl =>
    by_cases h0 : c0 = 92
    · by_cases h1 : c1 = 117
      · subst h0 h1
        have e : zCt (92 :: 117 :: x0 :: x1 :: x2 :: x3 :: r) = zBq (x0 :: x1 :: x2 :: x3 :: r) := by simp [zCt]
        simp only [List.length_cons] at hl
        have hr : r.length < 100000 := by omega
        unfold unitC
        rw [e]
        simp only [zBq]
        cases h0 : hexV x0 with
        | none => exact un_0 x0 x1 x2 x3 r hr h0
        | some v0 =>
         have b0 := zEg h0
         cases h1 : hexV x1 with
         | none => exact un_1 x0 x1 x2 x3 r hr v0 h0 b0 h1
         | some v1 =>
          have b1 := zEg h1
          cases h2 : hexV x2 with
          | none => exact un_2 x0 x1 x2 x3 r hr v0 h0 b0 v1 h1 b1 h2
          | some v2 =>
           have b2 := zEg h2
           cases h3 : hexV x3 with
           | none => exact un_3 x0 x1 x2 x3 r hr v0 h0 b0 v1 h1 b1 v2 h2 b2 h3
           | some v3 =>
            have b3 := zEg h3
            have := un_4 x0 x1 x2 x3 r hr v0 h0 b0 v1 h1 b1 v2 h2 b2 v3 h3 b3
            dsimp only
            rw [show ((((v0 * 16 + v1) * 16 + v2) * 16 + v3 : Nat) : Int) = ((((v0 : Int) * 16 + v1) * 16 + v2) * 16 + v3) by omega]
            exact this
      · rw [none_ (by unfold zCt; rw [if_neg]; simp [h1])]
        subst h0
        exact un_no1 _ hs c1 rfl rfl (fun e => h1 (UInt8.toNat_inj.1 e))
    · rw [none_ (by unfold zCt; rw [if_neg]; simp [h0])]
      exact un_no0 _ hs c0 rfl (fun e => h0 (UInt8.toNat_inj.1 e))
theorem wGE1 {P : Prop} (h : P := by refine Wc.mkG 103 c103 (by kernel_rfl) rfl ?_; generalize e : zAa .. = r; simp (disch := omega) [c103] at e; subst e; repeat (first | refine st_ rfl ?_ | ((first | refine rg_ ?_ | refine go_ ?_); refine gw_ (by simp (disch := omega) [hX, zA2, zA1, bytesOf, -UInt8.ofNat_add, q1, q2, q3, qt1, qt2, qt3, m0, m1, m2, t192y1, t224y2, t240y3, t128z0, t128z1, t128z2, c103]; rfl) ?_) | (refine W.loop ?_; try (generalize e : dropped .. = r; simp (disch := omega) [hX, zA2, zA1, bytesOf, -UInt8.ofNat_add, q1, q2, q3, qt1, qt2, qt3, m0, m1, m2, t192y1, t224y2, t240y3, t128z0, t128z1, t128z2, c103] at e; subst e; try dsimp only)) | ((first | (refine W.ret ?_; (try simp only [zAb, zA0, zA8]); refine endW.of (.inl rfl) rfl ?_) | refine endW.of (.inr rfl) rfl ?_); generalize e : zAc .. = r; simp (disch := omega) [hX, zA2, zA1, bytesOf, -UInt8.ofNat_add, q1, q2, q3, qt1, qt2, qt3, m0, m1, m2, t192y1, t224y2, t240y3, t128z0, t128z1, t128z2, c103] at e; subst e; (refine hk _ _ ?_ ?_; omega; exact ut_)))) : P := h
theorem gl_1 (x : Nat) (hx : x < 128) : Pu tree.getF 103 [.int .u32 (x : Int)] (.str [UInt8.ofNat x]) := by
 intro h hf K hk
 obtain ⟨hu, hut, hX⟩ := fx4 hf
 obtain ⟨y1, hy1⟩ : ∃ y, x / 64 = y := ⟨_, rfl⟩
 obtain ⟨y2, hy2⟩ : ∃ y, x / 4096 = y := ⟨_, rfl⟩
 obtain ⟨y3, hy3⟩ : ∃ y, x / 262144 = y := ⟨_, rfl⟩
 obtain ⟨z0, hz0⟩ : ∃ y, x % 64 = y := ⟨_, rfl⟩
 obtain ⟨z1, hz1⟩ : ∃ y, y1 % 64 = y := ⟨_, rfl⟩
 obtain ⟨z2, hz2⟩ : ∃ y, y2 % 64 = y := ⟨_, rfl⟩
 (try simp only [hy1, hy2, hy3, hz0, hz1, hz2] at hk)
 have q1 : (x : Int) / 64 = (y1 : Int) := by omega
 have q2 : (x : Int) / 4096 = (y2 : Int) := by omega
 have q3 : (x : Int) / 262144 = (y3 : Int) := by omega
 have m0 : (x : Int).tmod 64 = (z0 : Int) := by rw [Int.tmod_eq_emod_of_nonneg (by omega)]; omega
 have m1 : (y1 : Int).tmod 64 = (z1 : Int) := by rw [Int.tmod_eq_emod_of_nonneg (by omega)]; omega
 have m2 : (y2 : Int).tmod 64 = (z2 : Int) := by rw [Int.tmod_eq_emod_of_nonneg (by omega)]; omega
 have t192y1 : ((192 : Int) + (y1 : Int)).toNat = 192 + y1 := by omega
 have t224y2 : ((224 : Int) + (y2 : Int)).toNat = 224 + y2 := by omega
 have t240y3 : ((240 : Int) + (y3 : Int)).toNat = 240 + y3 := by omega
 have t128z0 : ((128 : Int) + (z0 : Int)).toNat = 128 + z0 := by omega
 have t128z1 : ((128 : Int) + (z1 : Int)).toNat = 128 + z1 := by omega
 have t128z2 : ((128 : Int) + (z2 : Int)).toNat = 128 + z2 := by omega
 have qt1 : (x : Int).tdiv 64 = (y1 : Int) := by rw [Int.tdiv_eq_ediv_of_nonneg (by omega)]; omega
 have qt2 : (x : Int).tdiv 4096 = (y2 : Int) := by rw [Int.tdiv_eq_ediv_of_nonneg (by omega)]; omega
 have qt3 : (x : Int).tdiv 262144 = (y3 : Int) := by rw [Int.tdiv_eq_ediv_of_nonneg (by omega)]; omega
 exact wGE1
theorem gl_2 (x : Nat) (h0 : 128 ≤ x) (hx : x < 2048) : Pu tree.getF 103 [.int .u32 (x : Int)] (.str [UInt8.ofNat (192 + x / 64), UInt8.ofNat (128 + x % 64)]) := by
 intro h hf K hk
 obtain ⟨hu, hut, hX⟩ := fx4 hf
 obtain ⟨y1, hy1⟩ : ∃ y, x / 64 = y := ⟨_, rfl⟩
 obtain ⟨y2, hy2⟩ : ∃ y, x / 4096 = y := ⟨_, rfl⟩
 obtain ⟨y3, hy3⟩ : ∃ y, x / 262144 = y := ⟨_, rfl⟩
 obtain ⟨z0, hz0⟩ : ∃ y, x % 64 = y := ⟨_, rfl⟩
 obtain ⟨z1, hz1⟩ : ∃ y, y1 % 64 = y := ⟨_, rfl⟩
 obtain ⟨z2, hz2⟩ : ∃ y, y2 % 64 = y := ⟨_, rfl⟩
 (try simp only [hy1, hy2, hy3, hz0, hz1, hz2] at hk)
 have q1 : (x : Int) / 64 = (y1 : Int) := by omega
 have q2 : (x : Int) / 4096 = (y2 : Int) := by omega
 have q3 : (x : Int) / 262144 = (y3 : Int) := by omega
 have m0 : (x : Int).tmod 64 = (z0 : Int) := by rw [Int.tmod_eq_emod_of_nonneg (by omega)]; omega
 have m1 : (y1 : Int).tmod 64 = (z1 : Int) := by rw [Int.tmod_eq_emod_of_nonneg (by omega)]; omega
 have m2 : (y2 : Int).tmod 64 = (z2 : Int) := by rw [Int.tmod_eq_emod_of_nonneg (by omega)]; omega
 have t192y1 : ((192 : Int) + (y1 : Int)).toNat = 192 + y1 := by omega
 have t224y2 : ((224 : Int) + (y2 : Int)).toNat = 224 + y2 := by omega
 have t240y3 : ((240 : Int) + (y3 : Int)).toNat = 240 + y3 := by omega
 have t128z0 : ((128 : Int) + (z0 : Int)).toNat = 128 + z0 := by omega
 have t128z1 : ((128 : Int) + (z1 : Int)).toNat = 128 + z1 := by omega
 have t128z2 : ((128 : Int) + (z2 : Int)).toNat = 128 + z2 := by omega
 have qt1 : (x : Int).tdiv 64 = (y1 : Int) := by rw [Int.tdiv_eq_ediv_of_nonneg (by omega)]; omega
 have qt2 : (x : Int).tdiv 4096 = (y2 : Int) := by rw [Int.tdiv_eq_ediv_of_nonneg (by omega)]; omega
 have qt3 : (x : Int).tdiv 262144 = (y3 : Int) := by rw [Int.tdiv_eq_ediv_of_nonneg (by omega)]; omega
 exact wGE1
theorem gl_s (x : Nat) (h0 : 55296 ≤ x) (hx : x ≤ 57343) : Pu tree.getF 103 [.int .u32 (x : Int)] (.str [239, 191, 189]) := by
 intro h hf K hk
 obtain ⟨hu, hut, hX⟩ := fx4 hf
 obtain ⟨y1, hy1⟩ : ∃ y, x / 64 = y := ⟨_, rfl⟩
 obtain ⟨y2, hy2⟩ : ∃ y, x / 4096 = y := ⟨_, rfl⟩
 obtain ⟨y3, hy3⟩ : ∃ y, x / 262144 = y := ⟨_, rfl⟩
 obtain ⟨z0, hz0⟩ : ∃ y, x % 64 = y := ⟨_, rfl⟩
 obtain ⟨z1, hz1⟩ : ∃ y, y1 % 64 = y := ⟨_, rfl⟩
 obtain ⟨z2, hz2⟩ : ∃ y, y2 % 64 = y := ⟨_, rfl⟩
 (try simp only [hy1, hy2, hy3, hz0, hz1, hz2] at hk)
 have q1 : (x : Int) / 64 = (y1 : Int) := by omega
 have q2 : (x : Int) / 4096 = (y2 : Int) := by omega
 have q3 : (x : Int) / 262144 = (y3 : Int) := by omega
 have m0 : (x : Int).tmod 64 = (z0 : Int) := by rw [Int.tmod_eq_emod_of_nonneg (by omega)]; omega
 have m1 : (y1 : Int).tmod 64 = (z1 : Int) := by rw [Int.tmod_eq_emod_of_nonneg (by omega)]; omega
 have m2 : (y2 : Int).tmod 64 = (z2 : Int) := by rw [Int.tmod_eq_emod_of_nonneg (by omega)]; omega
 have t192y1 : ((192 : Int) + (y1 : Int)).toNat = 192 + y1 := by omega
 have t224y2 : ((224 : Int) + (y2 : Int)).toNat = 224 + y2 := by omega
 have t240y3 : ((240 : Int) + (y3 : Int)).toNat = 240 + y3 := by omega
 have t128z0 : ((128 : Int) + (z0 : Int)).toNat = 128 + z0 := by omega
 have t128z1 : ((128 : Int) + (z1 : Int)).toNat = 128 + z1 := by omega
 have t128z2 : ((128 : Int) + (z2 : Int)).toNat = 128 + z2 := by omega
 have qt1 : (x : Int).tdiv 64 = (y1 : Int) := by rw [Int.tdiv_eq_ediv_of_nonneg (by omega)]; omega
 have qt2 : (x : Int).tdiv 4096 = (y2 : Int) := by rw [Int.tdiv_eq_ediv_of_nonneg (by omega)]; omega
 have qt3 : (x : Int).tdiv 262144 = (y3 : Int) := by rw [Int.tdiv_eq_ediv_of_nonneg (by omega)]; omega
 exact wGE1
theorem gl_g (x : Nat) (h0 : 1114111 < x) (hx : x < 4294967296) : Pu tree.getF 103 [.int .u32 (x : Int)] (.str [239, 191, 189]) := by
 intro h hf K hk
 obtain ⟨hu, hut, hX⟩ := fx4 hf
 obtain ⟨y1, hy1⟩ : ∃ y, x / 64 = y := ⟨_, rfl⟩
 obtain ⟨y2, hy2⟩ : ∃ y, x / 4096 = y := ⟨_, rfl⟩
 obtain ⟨y3, hy3⟩ : ∃ y, x / 262144 = y := ⟨_, rfl⟩
 obtain ⟨z0, hz0⟩ : ∃ y, x % 64 = y := ⟨_, rfl⟩
 obtain ⟨z1, hz1⟩ : ∃ y, y1 % 64 = y := ⟨_, rfl⟩
 obtain ⟨z2, hz2⟩ : ∃ y, y2 % 64 = y := ⟨_, rfl⟩
 (try simp only [hy1, hy2, hy3, hz0, hz1, hz2] at hk)
 have q1 : (x : Int) / 64 = (y1 : Int) := by omega
 have q2 : (x : Int) / 4096 = (y2 : Int) := by omega
 have q3 : (x : Int) / 262144 = (y3 : Int) := by omega
 have m0 : (x : Int).tmod 64 = (z0 : Int) := by rw [Int.tmod_eq_emod_of_nonneg (by omega)]; omega
 have m1 : (y1 : Int).tmod 64 = (z1 : Int) := by rw [Int.tmod_eq_emod_of_nonneg (by omega)]; omega
 have m2 : (y2 : Int).tmod 64 = (z2 : Int) := by rw [Int.tmod_eq_emod_of_nonneg (by omega)]; omega
 have t192y1 : ((192 : Int) + (y1 : Int)).toNat = 192 + y1 := by omega
 have t224y2 : ((224 : Int) + (y2 : Int)).toNat = 224 + y2 := by omega
 have t240y3 : ((240 : Int) + (y3 : Int)).toNat = 240 + y3 := by omega
 have t128z0 : ((128 : Int) + (z0 : Int)).toNat = 128 + z0 := by omega
 have t128z1 : ((128 : Int) + (z1 : Int)).toNat = 128 + z1 := by omega
 have t128z2 : ((128 : Int) + (z2 : Int)).toNat = 128 + z2 := by omega
 have qt1 : (x : Int).tdiv 64 = (y1 : Int) := by rw [Int.tdiv_eq_ediv_of_nonneg (by omega)]; omega
 have qt2 : (x : Int).tdiv 4096 = (y2 : Int) := by rw [Int.tdiv_eq_ediv_of_nonneg (by omega)]; omega
 have qt3 : (x : Int).tdiv 262144 = (y3 : Int) := by rw [Int.tdiv_eq_ediv_of_nonneg (by omega)]; omega
 exact wGE1
theorem gl_3a (x : Nat) (h0 : 2048 ≤ x) (hx : x < 55296) : Pu tree.getF 103 [.int .u32 (x : Int)] (.str [UInt8.ofNat (224 + x / 4096), UInt8.ofNat (128 + x / 64 % 64), UInt8.ofNat (128 + x % 64)]) := by
 intro h hf K hk
 obtain ⟨hu, hut, hX⟩ := fx4 hf
 obtain ⟨y1, hy1⟩ : ∃ y, x / 64 = y := ⟨_, rfl⟩
 obtain ⟨y2, hy2⟩ : ∃ y, x / 4096 = y := ⟨_, rfl⟩
 obtain ⟨y3, hy3⟩ : ∃ y, x / 262144 = y := ⟨_, rfl⟩
 obtain ⟨z0, hz0⟩ : ∃ y, x % 64 = y := ⟨_, rfl⟩
 obtain ⟨z1, hz1⟩ : ∃ y, y1 % 64 = y := ⟨_, rfl⟩
 obtain ⟨z2, hz2⟩ : ∃ y, y2 % 64 = y := ⟨_, rfl⟩
 (try simp only [hy1, hy2, hy3, hz0, hz1, hz2] at hk)
 have q1 : (x : Int) / 64 = (y1 : Int) := by omega
 have q2 : (x : Int) / 4096 = (y2 : Int) := by omega
 have q3 : (x : Int) / 262144 = (y3 : Int) := by omega
 have m0 : (x : Int).tmod 64 = (z0 : Int) := by rw [Int.tmod_eq_emod_of_nonneg (by omega)]; omega
 have m1 : (y1 : Int).tmod 64 = (z1 : Int) := by rw [Int.tmod_eq_emod_of_nonneg (by omega)]; omega
 have m2 : (y2 : Int).tmod 64 = (z2 : Int) := by rw [Int.tmod_eq_emod_of_nonneg (by omega)]; omega
 have t192y1 : ((192 : Int) + (y1 : Int)).toNat = 192 + y1 := by omega
 have t224y2 : ((224 : Int) + (y2 : Int)).toNat = 224 + y2 := by omega
 have t240y3 : ((240 : Int) + (y3 : Int)).toNat = 240 + y3 := by omega
 have t128z0 : ((128 : Int) + (z0 : Int)).toNat = 128 + z0 := by omega
 have t128z1 : ((128 : Int) + (z1 : Int)).toNat = 128 + z1 := by omega
 have t128z2 : ((128 : Int) + (z2 : Int)).toNat = 128 + z2 := by omega
 have qt1 : (x : Int).tdiv 64 = (y1 : Int) := by rw [Int.tdiv_eq_ediv_of_nonneg (by omega)]; omega
 have qt2 : (x : Int).tdiv 4096 = (y2 : Int) := by rw [Int.tdiv_eq_ediv_of_nonneg (by omega)]; omega
 have qt3 : (x : Int).tdiv 262144 = (y3 : Int) := by rw [Int.tdiv_eq_ediv_of_nonneg (by omega)]; omega
 exact wGE1
theorem gl_3b (x : Nat) (h0 : 57344 ≤ x) (hx : x < 65536) : Pu tree.getF 103 [.int .u32 (x : Int)] (.str [UInt8.ofNat (224 + x / 4096), UInt8.ofNat (128 + x / 64 % 64), UInt8.ofNat (128 + x % 64)]) := by
 intro h hf K hk
 obtain ⟨hu, hut, hX⟩ := fx4 hf
 obtain ⟨y1, hy1⟩ : ∃ y, x / 64 = y := ⟨_, rfl⟩
 obtain ⟨y2, hy2⟩ : ∃ y, x / 4096 = y := ⟨_, rfl⟩
 obtain ⟨y3, hy3⟩ : ∃ y, x / 262144 = y := ⟨_, rfl⟩
 obtain ⟨z0, hz0⟩ : ∃ y, x % 64 = y := ⟨_, rfl⟩
 obtain ⟨z1, hz1⟩ : ∃ y, y1 % 64 = y := ⟨_, rfl⟩
 obtain ⟨z2, hz2⟩ : ∃ y, y2 % 64 = y := ⟨_, rfl⟩
 (try simp only [hy1, hy2, hy3, hz0, hz1, hz2] at hk)
 have q1 : (x : Int) / 64 = (y1 : Int) := by omega
 have q2 : (x : Int) / 4096 = (y2 : Int) := by omega
 have q3 : (x : Int) / 262144 = (y3 : Int) := by omega
 have m0 : (x : Int).tmod 64 = (z0 : Int) := by rw [Int.tmod_eq_emod_of_nonneg (by omega)]; omega
 have m1 : (y1 : Int).tmod 64 = (z1 : Int) := by rw [Int.tmod_eq_emod_of_nonneg (by omega)]; omega
 have m2 : (y2 : Int).tmod 64 = (z2 : Int) := by rw [Int.tmod_eq_emod_of_nonneg (by omega)]; omega
 have t192y1 : ((192 : Int) + (y1 : Int)).toNat = 192 + y1 := by omega
 have t224y2 : ((224 : Int) + (y2 : Int)).toNat = 224 + y2 := by omega
 have t240y3 : ((240 : Int) + (y3 : Int)).toNat = 240 + y3 := by omega
 have t128z0 : ((128 : Int) + (z0 : Int)).toNat = 128 + z0 := by omega
 have t128z1 : ((128 : Int) + (z1 : Int)).toNat = 128 + z1 := by omega
 have t128z2 : ((128 : Int) + (z2 : Int)).toNat = 128 + z2 := by omega
 have qt1 : (x : Int).tdiv 64 = (y1 : Int) := by rw [Int.tdiv_eq_ediv_of_nonneg (by omega)]; omega
 have qt2 : (x : Int).tdiv 4096 = (y2 : Int) := by rw [Int.tdiv_eq_ediv_of_nonneg (by omega)]; omega
 have qt3 : (x : Int).tdiv 262144 = (y3 : Int) := by rw [Int.tdiv_eq_ediv_of_nonneg (by omega)]; omega
 exact wGE1
theorem gl_4 (x : Nat) (h0 : 65536 ≤ x) (hx : x ≤ 1114111) : Pu tree.getF 103 [.int .u32 (x : Int)] (.str [UInt8.ofNat (240 + x / 262144), UInt8.ofNat (128 + x / 4096 % 64), UInt8.ofNat (128 + x / 64 % 64), UInt8.ofNat (128 + x % 64)]) := by
 intro h hf K hk
 obtain ⟨hu, hut, hX⟩ := fx4 hf
 obtain ⟨y1, hy1⟩ : ∃ y, x / 64 = y := ⟨_, rfl⟩
 obtain ⟨y2, hy2⟩ : ∃ y, x / 4096 = y := ⟨_, rfl⟩
 obtain ⟨y3, hy3⟩ : ∃ y, x / 262144 = y := ⟨_, rfl⟩
 obtain ⟨z0, hz0⟩ : ∃ y, x % 64 = y := ⟨_, rfl⟩
 obtain ⟨z1, hz1⟩ : ∃ y, y1 % 64 = y := ⟨_, rfl⟩
 obtain ⟨z2, hz2⟩ : ∃ y, y2 % 64 = y := ⟨_, rfl⟩
 (try simp only [hy1, hy2, hy3, hz0, hz1, hz2] at hk)
 have q1 : (x : Int) / 64 = (y1 : Int) := by omega
 have q2 : (x : Int) / 4096 = (y2 : Int) := by omega
 have q3 : (x : Int) / 262144 = (y3 : Int) := by omega
 have m0 : (x : Int).tmod 64 = (z0 : Int) := by rw [Int.tmod_eq_emod_of_nonneg (by omega)]; omega
 have m1 : (y1 : Int).tmod 64 = (z1 : Int) := by rw [Int.tmod_eq_emod_of_nonneg (by omega)]; omega
 have m2 : (y2 : Int).tmod 64 = (z2 : Int) := by rw [Int.tmod_eq_emod_of_nonneg (by omega)]; omega
 have t192y1 : ((192 : Int) + (y1 : Int)).toNat = 192 + y1 := by omega
 have t224y2 : ((224 : Int) + (y2 : Int)).toNat = 224 + y2 := by omega
 have t240y3 : ((240 : Int) + (y3 : Int)).toNat = 240 + y3 := by omega
 have t128z0 : ((128 : Int) + (z0 : Int)).toNat = 128 + z0 := by omega
 have t128z1 : ((128 : Int) + (z1 : Int)).toNat = 128 + z1 := by omega
 have t128z2 : ((128 : Int) + (z2 : Int)).toNat = 128 + z2 := by omega
 have qt1 : (x : Int).tdiv 64 = (y1 : Int) := by rw [Int.tdiv_eq_ediv_of_nonneg (by omega)]; omega
 have qt2 : (x : Int).tdiv 4096 = (y2 : Int) := by rw [Int.tdiv_eq_ediv_of_nonneg (by omega)]; omega
 have qt3 : (x : Int).tdiv 262144 = (y3 : Int) := by rw [Int.tdiv_eq_ediv_of_nonneg (by omega)]; omega
 exact wGE1
theorem gl_F (x : Nat) (hx : x < 4294967296) : Pu tree.getF 103 [.int .u32 (x : Int)] (.str (putB x)) := by
 unfold putB
 split
 · exact gl_1 x (by omega)
 · split
   · exact gl_2 x (by omega) (by omega)
   · split
     · rename_i g
       rcases g with g | g
       · exact gl_s x g.1 (by omega)
       · exact gl_g x g hx
     · split
       · rcases Nat.lt_or_ge x 55296 with g | g
         · exact gl_3a x (by omega) g
         · exact gl_3b x (by omega) (by omega)
       · exact gl_4 x (by omega) (by omega)
theorem wGF1 {P : Prop} (h : P := by refine Wc.mkG 81 c81 (by kernel_rfl) rfl ?_; generalize e : zAa .. = r; simp (disch := omega) [c81] at e; subst e; repeat (first | refine st_ rfl ?_ | ((first | refine rg_ ?_ | refine go_ ?_); generalize e : goR .. = r; simp (disch := omega) [hX, zA2, zA1, List.length_cons, c81] at e; replace e : some _ = _ := e; subst e; (try dsimp only [goW])) | (refine W.loop ?_; try (generalize e : dropped .. = r; simp (disch := omega) [hX, zA2, zA1, List.length_cons, c81] at e; subst e; try dsimp only)) | ((first | (refine W.ret ?_; (try simp only [zAb, zA0, zA8]); refine endW.of (.inl rfl) rfl ?_) | refine endW.of (.inr rfl) rfl ?_); generalize e : zAc .. = r; simp (disch := omega) [hX, zA2, zA1, List.length_cons, c81] at e; subst e; (refine hk _ _ ?_ ?_; omega; exact ut_)))) : P := h
theorem wGF2 {P : Prop} (h : P := by refine Wc.mkG 81 c81 (by kernel_rfl) rfl ?_; generalize e : zAa .. = r; simp (disch := omega) [c81] at e; subst e; repeat (first | refine st_ rfl ?_ | ((first | refine rg_ ?_ | refine go_ ?_); generalize e : goR .. = r; simp (disch := omega) [hX, zA2, zA1, List.length_cons, c81] at e; replace e : some _ = _ := e; subst e; (try dsimp only [goW])) | (refine W.loop ?_; try (generalize e : dropped .. = r; simp (disch := omega) [hX, zA2, zA1, List.length_cons, c81] at e; subst e; try dsimp only)) | (refine pu_ (un_S (92 :: 117 :: r) (by simp only [List.length_cons]; omega) u hU) fun _ _ g _ => ⟨rfl, ?_⟩; try dsimp only at g) | (refine pu_ (gl_F u (by omega)) fun _ _ g _ => ⟨rfl, ?_⟩; try dsimp only at g) | ((first | (refine W.ret ?_; (try simp only [zAb, zA0, zA8]); refine endW.of (.inl rfl) rfl ?_) | refine endW.of (.inr rfl) rfl ?_); generalize e : zAc .. = r; simp (disch := omega) [hX, zA2, zA1, List.length_cons, c81] at e; subst e; (refine hk _ _ ?_ ?_; omega; exact ut_)))) : P := h
theorem wGF3 {P : Prop} (h : P := by refine Wc.mkG 81 c81 (by kernel_rfl) rfl ?_; generalize e : zAa .. = r; simp (disch := omega) [c81] at e; subst e; repeat (first | refine st_ rfl ?_ | ((first | refine rg_ ?_ | refine go_ ?_); generalize e : goR .. = r; simp (disch := omega) [hX, zA2, zA1, List.length_cons, c81] at e; replace e : some _ = _ := e; subst e; (try dsimp only [goW])) | (refine W.loop ?_; try (generalize e : dropped .. = r; simp (disch := omega) [hX, zA2, zA1, List.length_cons, c81] at e; subst e; try dsimp only)) | (refine pu_ (un_S (92 :: 117 :: r) (by simp only [List.length_cons]; omega) u hU) fun _ _ g _ => ⟨rfl, ?_⟩; try dsimp only at g) | (refine pu_ (un_S (r.drop 4) (by rw [List.length_drop]; omega) v hv) fun _ _ g _ => ⟨rfl, ?_⟩; try dsimp only at g) | ((first | (refine W.ret ?_; (try simp only [zAb, zA0, zA8]); refine endW.of (.inl rfl) rfl ?_) | refine endW.of (.inr rfl) rfl ?_); generalize e : zAc .. = r; simp (disch := omega) [hX, zA2, zA1, List.length_cons, c81] at e; subst e; (refine hk _ _ ?_ ?_; omega; exact ut_)))) : P := h
theorem gl_G (y : Int) (w : Nat) (hw : w < 4294967296) (hy : y = (w : Int)) : Pu tree.getF 103 [.int .u32 y] (.str (putB w)) := by
 subst hy; exact gl_F w hw
theorem un_S (s : B8) (hl : s.length < 100000) (u : Nat) (h : zCt s = some u) : Pu tree.getF 102 [.str s] (.tup [.int .u32 (u : Int), .bool true]) := by
 have := un_F s hl; unfold unitC at this; rw [h] at this; exact this
theorem un_N (s : B8) (hl : s.length < 100000) (h : zCt s = none) : Pu tree.getF 102 [.str s] (.tup [.int .u32 0, .bool false]) := by
 have := un_F s hl; unfold unitC at this; rw [h] at this; exact this
theorem unit4_lt {t : B8} {u : Nat} (h : zBq t = some u) : u < 65536 := by
 match t, h with
 | [], h => simp [zBq] at h
 | [_], h => simp [zBq] at h
 | [_, _], h => simp [zBq] at h
 | [_, _, _], h => simp [zBq] at h
 | x0 :: x1 :: x2 :: x3 :: _, h =>
  simp only [zBq] at h
  split at h
  · rename_i v0 v1 v2 v3 e0 e1 e2 e3
    have b0 := zEg e0; have b1 := zEg e1; have b2 := zEg e2; have b3 := zEg e3
    have := Option.some.inj h
    omega
  · cases h
theorem er_nil (s : B8) (hs : s.length < 2) : Pu tree.getF 81 [.str s] (.tup [.str [], .int .i64 0]) := by
 intro h hf K hk
 obtain ⟨hu, hut, hX⟩ := fx4 hf
 exact wGF1
theorem er_34 (r : B8) (hr : r.length < 100000) : Pu tree.getF 81 [.str (92 :: 34 :: r)] (.tup [.str [34], .int .i64 2]) := by
 intro h hf K hk
 obtain ⟨hu, hut, hX⟩ := fx4 hf
 have hl2 : ¬ ((r.length : Int) + 1 + 1 < 2) := by omega
 exact wGF1
theorem er_92 (r : B8) (hr : r.length < 100000) : Pu tree.getF 81 [.str (92 :: 92 :: r)] (.tup [.str [92], .int .i64 2]) := by
 intro h hf K hk
 obtain ⟨hu, hut, hX⟩ := fx4 hf
 have hl2 : ¬ ((r.length : Int) + 1 + 1 < 2) := by omega
 exact wGF1
theorem er_98 (r : B8) (hr : r.length < 100000) : Pu tree.getF 81 [.str (92 :: 98 :: r)] (.tup [.str [8], .int .i64 2]) := by
 intro h hf K hk
 obtain ⟨hu, hut, hX⟩ := fx4 hf
 have hl2 : ¬ ((r.length : Int) + 1 + 1 < 2) := by omega
 exact wGF1
theorem er_102 (r : B8) (hr : r.length < 100000) : Pu tree.getF 81 [.str (92 :: 102 :: r)] (.tup [.str [12], .int .i64 2]) := by
 intro h hf K hk
 obtain ⟨hu, hut, hX⟩ := fx4 hf
 have hl2 : ¬ ((r.length : Int) + 1 + 1 < 2) := by omega
 exact wGF1
theorem er_110 (r : B8) (hr : r.length < 100000) : Pu tree.getF 81 [.str (92 :: 110 :: r)] (.tup [.str [10], .int .i64 2]) := by
 intro h hf K hk
 obtain ⟨hu, hut, hX⟩ := fx4 hf
 have hl2 : ¬ ((r.length : Int) + 1 + 1 < 2) := by omega
 exact wGF1
theorem er_114 (r : B8) (hr : r.length < 100000) : Pu tree.getF 81 [.str (92 :: 114 :: r)] (.tup [.str [13], .int .i64 2]) := by
 intro h hf K hk
 obtain ⟨hu, hut, hX⟩ := fx4 hf
 have hl2 : ¬ ((r.length : Int) + 1 + 1 < 2) := by omega
 exact wGF1
theorem er_116 (r : B8) (hr : r.length < 100000) : Pu tree.getF 81 [.str (92 :: 116 :: r)] (.tup [.str [9], .int .i64 2]) := by
 intro h hf K hk
 obtain ⟨hu, hut, hX⟩ := fx4 hf
 have hl2 : ¬ ((r.length : Int) + 1 + 1 < 2) := by omega
 exact wGF1
theorem er_47 (r : B8) (hr : r.length < 100000) : Pu tree.getF 81 [.str (92 :: 47 :: r)] (.tup [.str [47], .int .i64 2]) := by
 intro h hf K hk
 obtain ⟨hu, hut, hX⟩ := fx4 hf
 have hl2 : ¬ ((r.length : Int) + 1 + 1 < 2) := by omega
 exact wGF1
theorem er_no (c : UInt8) (r : B8) (hr : r.length < 90000) (n34 : ¬ c.toNat = 34) (n92 : ¬ c.toNat = 92) (n98 : ¬ c.toNat = 98) (n102 : ¬ c.toNat = 102) (n110 : ¬ c.toNat = 110) (n114 : ¬ c.toNat = 114) (n116 : ¬ c.toNat = 116) (n47 : ¬ c.toNat = 47) (hU : zCt (92 :: c :: r) = none) : Pu tree.getF 81 [.str (92 :: c :: r)] (.tup [.str [], .int .i64 0]) := by
 intro h hf K hk
 obtain ⟨hu, hut, hX⟩ := fx4 hf
 have a34 : ¬ (c.toNat : Int) = 34 := by omega
 have b34 : ¬ (34 : Int) = (c.toNat : Int) := by omega
 have f34 : (((UInt8.toNat 34 : Nat) : Int) == (c.toNat : Int)) = false := zD4 (by simpa using b34)
 have a92 : ¬ (c.toNat : Int) = 92 := by omega
 have b92 : ¬ (92 : Int) = (c.toNat : Int) := by omega
 have f92 : (((UInt8.toNat 92 : Nat) : Int) == (c.toNat : Int)) = false := zD4 (by simpa using b92)
 have a98 : ¬ (c.toNat : Int) = 98 := by omega
 have b98 : ¬ (98 : Int) = (c.toNat : Int) := by omega
 have f98 : (((UInt8.toNat 98 : Nat) : Int) == (c.toNat : Int)) = false := zD4 (by simpa using b98)
 have a102 : ¬ (c.toNat : Int) = 102 := by omega
 have b102 : ¬ (102 : Int) = (c.toNat : Int) := by omega
 have f102 : (((UInt8.toNat 102 : Nat) : Int) == (c.toNat : Int)) = false := zD4 (by simpa using b102)
 have a110 : ¬ (c.toNat : Int) = 110 := by omega
 have b110 : ¬ (110 : Int) = (c.toNat : Int) := by omega
 have f110 : (((UInt8.toNat 110 : Nat) : Int) == (c.toNat : Int)) = false := zD4 (by simpa using b110)
 have a114 : ¬ (c.toNat : Int) = 114 := by omega
 have b114 : ¬ (114 : Int) = (c.toNat : Int) := by omega
 have f114 : (((UInt8.toNat 114 : Nat) : Int) == (c.toNat : Int)) = false := zD4 (by simpa using b114)
 have a116 : ¬ (c.toNat : Int) = 116 := by omega
 have b116 : ¬ (116 : Int) = (c.toNat : Int) := by omega
 have f116 : (((UInt8.toNat 116 : Nat) : Int) == (c.toNat : Int)) = false := zD4 (by simpa using b116)
 have a47 : ¬ (c.toNat : Int) = 47 := by omega
 have b47 : ¬ (47 : Int) = (c.toNat : Int) := by omega
 have f47 : (((UInt8.toNat 47 : Nat) : Int) == (c.toNat : Int)) = false := zD4 (by simpa using b47)
 have k0 : ([34, 92, 47, 98, 102, 110, 114, 116] : B8)[0]? = some 34 := rfl
 have k1 : ([92, 47, 98, 102, 110, 114, 116] : B8)[0]? = some 92 := rfl
 have k2 : ([47, 98, 102, 110, 114, 116] : B8)[0]? = some 47 := rfl
 have k3 : ([98, 102, 110, 114, 116] : B8)[0]? = some 98 := rfl
 have k4 : ([102, 110, 114, 116] : B8)[0]? = some 102 := rfl
 have k5 : ([110, 114, 116] : B8)[0]? = some 110 := rfl
 have k6 : ([114, 116] : B8)[0]? = some 114 := rfl
 have k7 : ([116] : B8)[0]? = some 116 := rfl
 have kc : (c :: r)[0]? = some c := rfl
 have kc2 : (92 :: c :: r)[1]? = some c := rfl
 refine Wc.mkG 81 c81 (by kernel_rfl) rfl ?_
 generalize e : zAa .. = r
 simp (disch := omega) [c81] at e
 subst e
 repeat (first | refine st_ rfl ?_ | ((first | refine rg_ ?_ | refine go_ ?_); generalize e : goR .. = r; simp (disch := omega) [hX, zA2, zA1, List.length_cons, k0, k1, k2, k3, k4, k5, k6, k7, kc, kc2, a34, b34, f34, a92, b92, f92, a98, b98, f98, a102, b102, f102, a110, b110, f110, a114, b114, f114, a116, b116, f116, a47, b47, f47, c81] at e; replace e : some _ = _ := e; subst e; (try dsimp only [goW])) | (refine W.loop ?_; try (generalize e : dropped .. = r; simp (disch := omega) [hX, zA2, zA1, List.length_cons, k0, k1, k2, k3, k4, k5, k6, k7, kc, kc2, a34, b34, f34, a92, b92, f92, a98, b98, f98, a102, b102, f102, a110, b110, f110, a114, b114, f114, a116, b116, f116, a47, b47, f47, c81] at e; subst e; try dsimp only)) | (refine pu_ (un_N (92 :: c :: r) (by simp only [List.length_cons]; omega) hU) fun _ _ g _ => ⟨rfl, ?_⟩; try dsimp only at g) | ((first | (refine W.ret ?_; (try simp only [zAb, zA0, zA8]); refine endW.of (.inl rfl) rfl ?_) | refine endW.of (.inr rfl) rfl ?_); generalize e : zAc .. = r; simp (disch := omega) [hX, zA2, zA1, List.length_cons, k0, k1, k2, k3, k4, k5, k6, k7, kc, kc2, a34, b34, f34, a92, b92, f92, a98, b98, f98, a102, b102, f102, a110, b110, f110, a114, b114, f114, a116, b116, f116, a47, b47, f47, c81] at e; subst e; (refine hk _ _ ?_ ?_; omega; exact ut_)))
theorem er_sec (r : B8) (hr : r.length < 90000) (u : Nat) (hU : zCt (92 :: 117 :: r) = some u) (hu6 : u < 65536) (h1 : 56320 ≤ u ∧ u < 57344) : Pu tree.getF 81 [.str (92 :: 117 :: r)] (.tup [.str [], .int .i64 0]) := by
 intro h hf K hk
 obtain ⟨hu, hut, hX⟩ := fx4 hf
 refine Wc.mkG 81 c81 (by kernel_rfl) rfl ?_
 generalize e : zAa .. = r
 simp (disch := omega) [c81] at e
 subst e
 repeat (first | refine st_ rfl ?_ | ((first | refine rg_ ?_ | refine go_ ?_); generalize e : goR .. = r; simp (disch := omega) [hX, zA2, zA1, List.length_cons, c81] at e; replace e : some _ = _ := e; subst e; (try dsimp only [goW])) | (refine W.loop ?_; try (generalize e : dropped .. = r; simp (disch := omega) [hX, zA2, zA1, List.length_cons, c81] at e; subst e; try dsimp only)) | (refine pu_ (un_S (92 :: 117 :: r) (by simp only [List.length_cons]; omega) u hU) fun _ _ g _ => ⟨rfl, ?_⟩; try dsimp only at g) | ((first | (refine W.ret ?_; (try simp only [zAb, zA0, zA8]); refine endW.of (.inl rfl) rfl ?_) | refine endW.of (.inr rfl) rfl ?_); generalize e : zAc .. = r; simp (disch := omega) [hX, zA2, zA1, List.length_cons, c81] at e; subst e; (refine hk _ _ ?_ ?_; omega; exact ut_)))
theorem er_lo (r : B8) (hr : r.length < 90000) (u : Nat) (hU : zCt (92 :: 117 :: r) = some u) (hu6 : u < 65536) (h1 : u < 55296) : Pu tree.getF 81 [.str (92 :: 117 :: r)] (.tup [.str (putB u), .int .i64 6]) := by
 intro h hf K hk
 obtain ⟨hu, hut, hX⟩ := fx4 hf
 exact wGF2
theorem er_hi (r : B8) (hr : r.length < 90000) (u : Nat) (hU : zCt (92 :: 117 :: r) = some u) (hu6 : u < 65536) (h1 : 57344 ≤ u) : Pu tree.getF 81 [.str (92 :: 117 :: r)] (.tup [.str (putB u), .int .i64 6]) := by
 intro h hf K hk
 obtain ⟨hu, hut, hX⟩ := fx4 hf
 exact wGF2
theorem er_pn (r : B8) (hr : r.length < 90000) (u : Nat) (hU : zCt (92 :: 117 :: r) = some u) (hu6 : u < 65536) (h1 : 55296 ≤ u ∧ u < 56320) (h4 : 4 ≤ r.length) (hv : zCt (r.drop 4) = none) : Pu tree.getF 81 [.str (92 :: 117 :: r)] (.tup [.str [], .int .i64 0]) := by
 intro h hf K hk
 obtain ⟨hu, hut, hX⟩ := fx4 hf
 refine Wc.mkG 81 c81 (by kernel_rfl) rfl ?_
 generalize e : zAa .. = r
 simp (disch := omega) [c81] at e
 subst e
 repeat (first | refine st_ rfl ?_ | ((first | refine rg_ ?_ | refine go_ ?_); generalize e : goR .. = r; simp (disch := omega) [hX, zA2, zA1, List.length_cons, c81] at e; replace e : some _ = _ := e; subst e; (try dsimp only [goW])) | (refine W.loop ?_; try (generalize e : dropped .. = r; simp (disch := omega) [hX, zA2, zA1, List.length_cons, c81] at e; subst e; try dsimp only)) | (refine pu_ (un_S (92 :: 117 :: r) (by simp only [List.length_cons]; omega) u hU) fun _ _ g _ => ⟨rfl, ?_⟩; try dsimp only at g) | (refine pu_ (un_N (r.drop 4) (by rw [List.length_drop]; omega) hv) fun _ _ g _ => ⟨rfl, ?_⟩; try dsimp only at g) | ((first | (refine W.ret ?_; (try simp only [zAb, zA0, zA8]); refine endW.of (.inl rfl) rfl ?_) | refine endW.of (.inr rfl) rfl ?_); generalize e : zAc .. = r; simp (disch := omega) [hX, zA2, zA1, List.length_cons, c81] at e; subst e; (refine hk _ _ ?_ ?_; omega; exact ut_)))
theorem er_p1 (r : B8) (hr : r.length < 90000) (u : Nat) (hU : zCt (92 :: 117 :: r) = some u) (hu6 : u < 65536) (h1 : 55296 ≤ u ∧ u < 56320) (h4 : 4 ≤ r.length) (v : Nat) (hv6 : v < 65536) (hv : zCt (r.drop 4) = some v) (h2 : v < 56320) : Pu tree.getF 81 [.str (92 :: 117 :: r)] (.tup [.str [], .int .i64 0]) := by
 intro h hf K hk
 obtain ⟨hu, hut, hX⟩ := fx4 hf
 exact wGF3
theorem er_p2 (r : B8) (hr : r.length < 90000) (u : Nat) (hU : zCt (92 :: 117 :: r) = some u) (hu6 : u < 65536) (h1 : 55296 ≤ u ∧ u < 56320) (h4 : 4 ≤ r.length) (v : Nat) (hv6 : v < 65536) (hv : zCt (r.drop 4) = some v) (h2 : 57344 ≤ v) : Pu tree.getF 81 [.str (92 :: 117 :: r)] (.tup [.str [], .int .i64 0]) := by
 intro h hf K hk
 obtain ⟨hu, hut, hX⟩ := fx4 hf
 exact wGF3
theorem er_pair (r : B8) (hr : r.length < 90000) (u : Nat) (hU : zCt (92 :: 117 :: r) = some u) (hu6 : u < 65536) (h1 : 55296 ≤ u ∧ u < 56320) (h4 : 4 ≤ r.length) (v : Nat) (hv6 : v < 65536) (hv : zCt (r.drop 4) = some v) (h2 : 56320 ≤ v ∧ v < 57344) : Pu tree.getF 81 [.str (92 :: 117 :: r)] (.tup [.str (putB (65536 + (u - 55296) * 1024 + (v - 56320))), .int .i64 12]) := by
 intro h hf K hk
 obtain ⟨hu, hut, hX⟩ := fx4 hf
 have hw : (65536 : Int) + ((u : Int) - 55296) * 1024 + (v : Int) - 56320 = ((65536 + (u - 55296) * 1024 + (v - 56320) : Nat) : Int) := by omega
 refine Wc.mkG 81 c81 (by kernel_rfl) rfl ?_
 generalize e : zAa .. = r
 simp (disch := omega) [c81] at e
 subst e
 repeat (first | refine st_ rfl ?_ | ((first | refine rg_ ?_ | refine go_ ?_); generalize e : goR .. = r; simp (disch := omega) [hX, zA2, zA1, List.length_cons, hw, c81] at e; replace e : some _ = _ := e; subst e; (try dsimp only [goW])) | (refine W.loop ?_; try (generalize e : dropped .. = r; simp (disch := omega) [hX, zA2, zA1, List.length_cons, hw, c81] at e; subst e; try dsimp only)) | (refine pu_ (un_S (92 :: 117 :: r) (by simp only [List.length_cons]; omega) u hU) fun _ _ g _ => ⟨rfl, ?_⟩; try dsimp only at g) | (refine pu_ (un_S (r.drop 4) (by rw [List.length_drop]; omega) v hv) fun _ _ g _ => ⟨rfl, ?_⟩; try dsimp only at g) | (refine pu_ (gl_G _ (65536 + (u - 55296) * 1024 + (v - 56320)) (by omega) (by omega)) fun _ _ g _ => ⟨rfl, ?_⟩; try dsimp only at g) | ((first | (refine W.ret ?_; (try simp only [zAb, zA0, zA8]); refine endW.of (.inl rfl) rfl ?_) | refine endW.of (.inr rfl) rfl ?_); generalize e : zAc .. = r; simp (disch := omega) [hX, zA2, zA1, List.length_cons, hw, c81] at e; subst e; (refine hk _ _ ?_ ?_; omega; exact ut_)))
end Go.Proofs.YtdanefpnfnippaaGreatDoor.IrJ
