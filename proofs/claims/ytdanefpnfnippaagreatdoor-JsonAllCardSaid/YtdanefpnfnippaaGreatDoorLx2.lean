/- What the functions of the law 'JsonAll' do: part 2 of 8. -/
import Derived.Test.YtdanefpnfnippaaGreatDoorLx1
namespace Go.Proofs.YtdanefpnfnippaaGreatDoor.IrJ
open Go Go.CI
set_option maxRecDepth 100000
set_option linter.unusedVariables false
set_option linter.unusedSimpArgs false
attribute [local irreducible] W Wo Wc WoR
theorem wGC1 {P : Prop} (h : P := by refine Wc.mkG 101 c101 (by kernel_rfl) rfl ?_; generalize e : zAa .. = r; simp (disch := omega) [c101] at e; subst e; repeat (first | refine st_ rfl ?_ | ((first | refine rg_ ?_ | refine go_ ?_); refine gw_ (by simp (disch := omega) [hX, zA1, zA2, zAg, c101]; rfl) ?_) | (refine W.loop ?_; try (generalize e : dropped .. = r; simp (disch := omega) [hX, zA1, zA2, zAg, c101] at e; subst e; try dsimp only)) | ((first | (refine W.ret ?_; (try simp only [zAb, zA0, zA8]); refine endW.of (.inl rfl) rfl ?_) | refine endW.of (.inr rfl) rfl ?_); generalize e : zAc .. = r; simp (disch := omega) [hX, zA1, zA2, zAg, c101] at e; subst e; (refine hk _ _ ?_ ?_; omega; exact ut_)))) : P := h
theorem wGC2 {P : Prop} (h : P := by refine Wc.mkG 101 c101 (by kernel_rfl) rfl ?_; generalize e : zAa .. = r; simp (disch := omega) [c101] at e; subst e; repeat (first | refine st_ rfl ?_ | ((first | refine rg_ ?_ | refine go_ ?_); refine gw_ (by simp (disch := omega) [hX, List.length_cons, zA1, zA2, zAg, c101]; rfl) ?_) | (refine W.loop ?_; try (generalize e : dropped .. = r; simp (disch := omega) [hX, List.length_cons, zA1, zA2, zAg, c101] at e; subst e; try dsimp only)) | ((first | (refine W.ret ?_; (try simp only [zAb, zA0, zA8]); refine endW.of (.inl rfl) rfl ?_) | refine endW.of (.inr rfl) rfl ?_); generalize e : zAc .. = r; simp (disch := omega) [hX, List.length_cons, zA1, zA2, zAg, c101] at e; subst e; (refine hk _ _ ?_ ?_; omega; exact ut_)))) : P := h
theorem wGC3 {P : Prop} (h : P := by refine Wc.mkG 101 c101 (by kernel_rfl) rfl ?_; generalize e : zAa .. = r; simp (disch := omega) [c101] at e; subst e; repeat (first | refine st_ rfl ?_ | ((first | refine rg_ ?_ | refine go_ ?_); refine gw_ (by simp (disch := omega) [hX, List.length_cons, i1, zA1, zA2, zAg, c101]; rfl) ?_) | (refine W.loop ?_; try (generalize e : dropped .. = r; simp (disch := omega) [hX, List.length_cons, i1, zA1, zA2, zAg, c101] at e; subst e; try dsimp only)) | ((first | (refine W.ret ?_; (try simp only [zAb, zA0, zA8]); refine endW.of (.inl rfl) rfl ?_) | refine endW.of (.inr rfl) rfl ?_); generalize e : zAc .. = r; simp (disch := omega) [hX, List.length_cons, i1, zA1, zA2, zAg, c101] at e; subst e; (refine hk _ _ ?_ ?_; omega; exact ut_)))) : P := h
theorem wGC4 {P : Prop} (h : P := by refine Wc.mkG 101 c101 (by kernel_rfl) rfl ?_; generalize e : zAa .. = r; simp (disch := omega) [c101] at e; subst e; repeat (first | refine st_ rfl ?_ | ((first | refine rg_ ?_ | refine go_ ?_); refine gw_ (by simp (disch := omega) [hX, List.length_cons, i1, i2, zA1, zA2, zAg, c101]; rfl) ?_) | (refine W.loop ?_; try (generalize e : dropped .. = r; simp (disch := omega) [hX, List.length_cons, i1, i2, zA1, zA2, zAg, c101] at e; subst e; try dsimp only)) | ((first | (refine W.ret ?_; (try simp only [zAb, zA0, zA8]); refine endW.of (.inl rfl) rfl ?_) | refine endW.of (.inr rfl) rfl ?_); generalize e : zAc .. = r; simp (disch := omega) [hX, List.length_cons, i1, i2, zA1, zA2, zAg, c101] at e; subst e; (refine hk _ _ ?_ ?_; omega; exact ut_)))) : P := h
theorem wGC5 {P : Prop} (h : P := by refine Wc.mkG 101 c101 (by kernel_rfl) rfl ?_; generalize e : zAa .. = r; simp (disch := omega) [c101] at e; subst e; repeat (first | refine st_ rfl ?_ | ((first | refine rg_ ?_ | refine go_ ?_); refine gw_ (by simp (disch := omega) [hX, List.length_cons, i1, i2, i3, zA1, zA2, zAg, c101]; rfl) ?_) | (refine W.loop ?_; try (generalize e : dropped .. = r; simp (disch := omega) [hX, List.length_cons, i1, i2, i3, zA1, zA2, zAg, c101] at e; subst e; try dsimp only)) | ((first | (refine W.ret ?_; (try simp only [zAb, zA0, zA8]); refine endW.of (.inl rfl) rfl ?_) | refine endW.of (.inr rfl) rfl ?_); generalize e : zAc .. = r; simp (disch := omega) [hX, List.length_cons, i1, i2, i3, zA1, zA2, zAg, c101] at e; subst e; (refine hk _ _ ?_ ?_; omega; exact ut_)))) : P := h
theorem sy_ibneT {a b : Int} (h : a ≠ b) : (a != b) = true := by simp [h]
theorem sy_ibneF {a b : Int} (h : a = b) : (a != b) = false := by simp [h]
theorem sy_ibeqT {a b : Int} (h : a = b) : (a == b) = true := by simp [h]
attribute [simp] sy_ibneT sy_ibneF sy_ibeqT
theorem rp_nil  : Pu tree.getF 101 [.str []] (.tup [.int .u32 0, .int .i64 0]) := by
 intro h hf K hk
 obtain ⟨hu, hut, hX⟩ := fx4 hf
 exact wGC1
theorem rp_1 (c : UInt8) (t : B8) (hc : c.toNat < 128) : Pu tree.getF 101 [.str (c :: t)] (.tup [.int .u32 (c.toNat : Int), .int .i64 1]) := by
 intro h hf K hk
 obtain ⟨hu, hut, hX⟩ := fx4 hf
 have hcl := c.toNat_lt
 exact wGC1
theorem rp_lo (c : UInt8) (t : B8) (hc : 128 ≤ c.toNat) (hc2 : c.toNat < 192) : Pu tree.getF 101 [.str (c :: t)] (.tup [.int .u32 0, .int .i64 0]) := by
 intro h hf K hk
 obtain ⟨hu, hut, hX⟩ := fx4 hf
 have hcl := c.toNat_lt
 exact wGC1
theorem rp_hi (c : UInt8) (t : B8) (hc : 248 ≤ c.toNat) : Pu tree.getF 101 [.str (c :: t)] (.tup [.int .u32 0, .int .i64 0]) := by
 intro h hf K hk
 obtain ⟨hu, hut, hX⟩ := fx4 hf
 have hcl := c.toNat_lt
 exact wGC1
theorem rp_2s (c : UInt8) (t : B8) (hc : 192 ≤ c.toNat) (hc2 : c.toNat < 224) (hs : t.length < 1) : Pu tree.getF 101 [.str (c :: t)] (.tup [.int .u32 0, .int .i64 0]) := by
 intro h hf K hk
 obtain ⟨hu, hut, hX⟩ := fx4 hf
 have hcl := c.toNat_lt
 exact wGC2
theorem rp_2l1 (c  : UInt8) (c1 : UInt8) (t : B8) (hc : 192 ≤ c.toNat) (hc2 : c.toNat < 224) (hs : 0 ≤ t.length)  (hb : c1.toNat < 128) : Pu tree.getF 101 [.str (c :: c1 :: t)] (.tup [.int .u32 0, .int .i64 0]) := by
 intro h hf K hk
 obtain ⟨hu, hut, hX⟩ := fx4 hf
 have hcl := c.toNat_lt
 have hcl1 := c1.toNat_lt
 have i1 : (c :: c1 :: t)[1]? = some c1 := rfl
 exact wGC3
theorem rp_2h1 (c  : UInt8) (c1 : UInt8) (t : B8) (hc : 192 ≤ c.toNat) (hc2 : c.toNat < 224) (hs : 0 ≤ t.length)  (hb : 191 < c1.toNat) : Pu tree.getF 101 [.str (c :: c1 :: t)] (.tup [.int .u32 0, .int .i64 0]) := by
 intro h hf K hk
 obtain ⟨hu, hut, hX⟩ := fx4 hf
 have hcl := c.toNat_lt
 have hcl1 := c1.toNat_lt
 have i1 : (c :: c1 :: t)[1]? = some c1 := rfl
 exact wGC3
theorem rp_2least (c : UInt8) (c1 : UInt8) (t : B8) (hc : 192 ≤ c.toNat) (hc2 : c.toNat < 224) (a1 : 128 ≤ c1.toNat ∧ c1.toNat ≤ 191) (hb : (((c.toNat : Int) - 192) * 64 + ((c1.toNat : Int) - 128)) < 128) : Pu tree.getF 101 [.str (c :: c1 :: t)] (.tup [.int .u32 0, .int .i64 0]) := by
 intro h hf K hk
 obtain ⟨hu, hut, hX⟩ := fx4 hf
 have hcl := c.toNat_lt
 have hcl1 := c1.toNat_lt
 have i1 : (c :: c1 :: t)[1]? = some c1 := rfl
 exact wGC3
theorem rp_2ok1 (c : UInt8) (c1 : UInt8) (t : B8) (hc : 192 ≤ c.toNat) (hc2 : c.toNat < 224) (a1 : 128 ≤ c1.toNat ∧ c1.toNat ≤ 191) (hb : 128 ≤ (((c.toNat : Int) - 192) * 64 + ((c1.toNat : Int) - 128)) ∧ (((c.toNat : Int) - 192) * 64 + ((c1.toNat : Int) - 128)) < 55296) : Pu tree.getF 101 [.str (c :: c1 :: t)] (.tup [.int .u32 (((c.toNat : Int) - 192) * 64 + ((c1.toNat : Int) - 128)), .int .i64 2]) := by
 intro h hf K hk
 obtain ⟨hu, hut, hX⟩ := fx4 hf
 have hcl := c.toNat_lt
 have hcl1 := c1.toNat_lt
 have i1 : (c :: c1 :: t)[1]? = some c1 := rfl
 exact wGC3
theorem rp_3s (c : UInt8) (t : B8) (hc : 224 ≤ c.toNat) (hc2 : c.toNat < 240) (hs : t.length < 2) : Pu tree.getF 101 [.str (c :: t)] (.tup [.int .u32 0, .int .i64 0]) := by
 intro h hf K hk
 obtain ⟨hu, hut, hX⟩ := fx4 hf
 have hcl := c.toNat_lt
 exact wGC2
theorem rp_3l1 (c  : UInt8) (c1 : UInt8) (t : B8) (hc : 224 ≤ c.toNat) (hc2 : c.toNat < 240) (hs : 1 ≤ t.length)  (hb : c1.toNat < 128) : Pu tree.getF 101 [.str (c :: c1 :: t)] (.tup [.int .u32 0, .int .i64 0]) := by
 intro h hf K hk
 obtain ⟨hu, hut, hX⟩ := fx4 hf
 have hcl := c.toNat_lt
 have hcl1 := c1.toNat_lt
 have i1 : (c :: c1 :: t)[1]? = some c1 := rfl
 exact wGC3
theorem rp_3h1 (c  : UInt8) (c1 : UInt8) (t : B8) (hc : 224 ≤ c.toNat) (hc2 : c.toNat < 240) (hs : 1 ≤ t.length)  (hb : 191 < c1.toNat) : Pu tree.getF 101 [.str (c :: c1 :: t)] (.tup [.int .u32 0, .int .i64 0]) := by
 intro h hf K hk
 obtain ⟨hu, hut, hX⟩ := fx4 hf
 have hcl := c.toNat_lt
 have hcl1 := c1.toNat_lt
 have i1 : (c :: c1 :: t)[1]? = some c1 := rfl
 exact wGC3
theorem rp_3l2 (c  : UInt8) (c1 : UInt8) (c2 : UInt8) (t : B8) (hc : 224 ≤ c.toNat) (hc2 : c.toNat < 240) (hs : 0 ≤ t.length) (a1 : 128 ≤ c1.toNat ∧ c1.toNat ≤ 191) (hb : c2.toNat < 128) : Pu tree.getF 101 [.str (c :: c1 :: c2 :: t)] (.tup [.int .u32 0, .int .i64 0]) := by
 intro h hf K hk
 obtain ⟨hu, hut, hX⟩ := fx4 hf
 have hcl := c.toNat_lt
 have hcl1 := c1.toNat_lt
 have i1 : (c :: c1 :: c2 :: t)[1]? = some c1 := rfl
 have hcl2 := c2.toNat_lt
 have i2 : (c :: c1 :: c2 :: t)[2]? = some c2 := rfl
 exact wGC4
theorem rp_3h2 (c  : UInt8) (c1 : UInt8) (c2 : UInt8) (t : B8) (hc : 224 ≤ c.toNat) (hc2 : c.toNat < 240) (hs : 0 ≤ t.length) (a1 : 128 ≤ c1.toNat ∧ c1.toNat ≤ 191) (hb : 191 < c2.toNat) : Pu tree.getF 101 [.str (c :: c1 :: c2 :: t)] (.tup [.int .u32 0, .int .i64 0]) := by
 intro h hf K hk
 obtain ⟨hu, hut, hX⟩ := fx4 hf
 have hcl := c.toNat_lt
 have hcl1 := c1.toNat_lt
 have i1 : (c :: c1 :: c2 :: t)[1]? = some c1 := rfl
 have hcl2 := c2.toNat_lt
 have i2 : (c :: c1 :: c2 :: t)[2]? = some c2 := rfl
 exact wGC4
theorem rp_3least (c : UInt8) (c1 : UInt8) (c2 : UInt8) (t : B8) (hc : 224 ≤ c.toNat) (hc2 : c.toNat < 240) (a1 : 128 ≤ c1.toNat ∧ c1.toNat ≤ 191) (a2 : 128 ≤ c2.toNat ∧ c2.toNat ≤ 191) (hb : ((((c.toNat : Int) - 224) * 64 + ((c1.toNat : Int) - 128)) * 64 + ((c2.toNat : Int) - 128)) < 2048) : Pu tree.getF 101 [.str (c :: c1 :: c2 :: t)] (.tup [.int .u32 0, .int .i64 0]) := by
 intro h hf K hk
 obtain ⟨hu, hut, hX⟩ := fx4 hf
 have hcl := c.toNat_lt
 have hcl1 := c1.toNat_lt
 have i1 : (c :: c1 :: c2 :: t)[1]? = some c1 := rfl
 have hcl2 := c2.toNat_lt
 have i2 : (c :: c1 :: c2 :: t)[2]? = some c2 := rfl
 exact wGC4
theorem rp_3sur (c : UInt8) (c1 : UInt8) (c2 : UInt8) (t : B8) (hc : 224 ≤ c.toNat) (hc2 : c.toNat < 240) (a1 : 128 ≤ c1.toNat ∧ c1.toNat ≤ 191) (a2 : 128 ≤ c2.toNat ∧ c2.toNat ≤ 191) (hb : 2048 ≤ ((((c.toNat : Int) - 224) * 64 + ((c1.toNat : Int) - 128)) * 64 + ((c2.toNat : Int) - 128)) ∧ ¬ 1114111 < ((((c.toNat : Int) - 224) * 64 + ((c1.toNat : Int) - 128)) * 64 + ((c2.toNat : Int) - 128)) ∧ 55296 ≤ ((((c.toNat : Int) - 224) * 64 + ((c1.toNat : Int) - 128)) * 64 + ((c2.toNat : Int) - 128)) ∧ ((((c.toNat : Int) - 224) * 64 + ((c1.toNat : Int) - 128)) * 64 + ((c2.toNat : Int) - 128)) ≤ 57343) : Pu tree.getF 101 [.str (c :: c1 :: c2 :: t)] (.tup [.int .u32 0, .int .i64 0]) := by
 intro h hf K hk
 obtain ⟨hu, hut, hX⟩ := fx4 hf
 have hcl := c.toNat_lt
 have hcl1 := c1.toNat_lt
 have i1 : (c :: c1 :: c2 :: t)[1]? = some c1 := rfl
 have hcl2 := c2.toNat_lt
 have i2 : (c :: c1 :: c2 :: t)[2]? = some c2 := rfl
 exact wGC4
theorem rp_3ok1 (c : UInt8) (c1 : UInt8) (c2 : UInt8) (t : B8) (hc : 224 ≤ c.toNat) (hc2 : c.toNat < 240) (a1 : 128 ≤ c1.toNat ∧ c1.toNat ≤ 191) (a2 : 128 ≤ c2.toNat ∧ c2.toNat ≤ 191) (hb : 2048 ≤ ((((c.toNat : Int) - 224) * 64 + ((c1.toNat : Int) - 128)) * 64 + ((c2.toNat : Int) - 128)) ∧ ((((c.toNat : Int) - 224) * 64 + ((c1.toNat : Int) - 128)) * 64 + ((c2.toNat : Int) - 128)) < 55296) : Pu tree.getF 101 [.str (c :: c1 :: c2 :: t)] (.tup [.int .u32 ((((c.toNat : Int) - 224) * 64 + ((c1.toNat : Int) - 128)) * 64 + ((c2.toNat : Int) - 128)), .int .i64 3]) := by
 intro h hf K hk
 obtain ⟨hu, hut, hX⟩ := fx4 hf
 have hcl := c.toNat_lt
 have hcl1 := c1.toNat_lt
 have i1 : (c :: c1 :: c2 :: t)[1]? = some c1 := rfl
 have hcl2 := c2.toNat_lt
 have i2 : (c :: c1 :: c2 :: t)[2]? = some c2 := rfl
 exact wGC4
theorem rp_3ok2 (c : UInt8) (c1 : UInt8) (c2 : UInt8) (t : B8) (hc : 224 ≤ c.toNat) (hc2 : c.toNat < 240) (a1 : 128 ≤ c1.toNat ∧ c1.toNat ≤ 191) (a2 : 128 ≤ c2.toNat ∧ c2.toNat ≤ 191) (hb : 2048 ≤ ((((c.toNat : Int) - 224) * 64 + ((c1.toNat : Int) - 128)) * 64 + ((c2.toNat : Int) - 128)) ∧ 57343 < ((((c.toNat : Int) - 224) * 64 + ((c1.toNat : Int) - 128)) * 64 + ((c2.toNat : Int) - 128)) ∧ ((((c.toNat : Int) - 224) * 64 + ((c1.toNat : Int) - 128)) * 64 + ((c2.toNat : Int) - 128)) ≤ 1114111) : Pu tree.getF 101 [.str (c :: c1 :: c2 :: t)] (.tup [.int .u32 ((((c.toNat : Int) - 224) * 64 + ((c1.toNat : Int) - 128)) * 64 + ((c2.toNat : Int) - 128)), .int .i64 3]) := by
 intro h hf K hk
 obtain ⟨hu, hut, hX⟩ := fx4 hf
 have hcl := c.toNat_lt
 have hcl1 := c1.toNat_lt
 have i1 : (c :: c1 :: c2 :: t)[1]? = some c1 := rfl
 have hcl2 := c2.toNat_lt
 have i2 : (c :: c1 :: c2 :: t)[2]? = some c2 := rfl
 exact wGC4
theorem rp_4s (c : UInt8) (t : B8) (hc : 240 ≤ c.toNat) (hc2 : c.toNat < 248) (hs : t.length < 3) : Pu tree.getF 101 [.str (c :: t)] (.tup [.int .u32 0, .int .i64 0]) := by
 intro h hf K hk
 obtain ⟨hu, hut, hX⟩ := fx4 hf
 have hcl := c.toNat_lt
 exact wGC2
theorem rp_4l1 (c  : UInt8) (c1 : UInt8) (t : B8) (hc : 240 ≤ c.toNat) (hc2 : c.toNat < 248) (hs : 2 ≤ t.length)  (hb : c1.toNat < 128) : Pu tree.getF 101 [.str (c :: c1 :: t)] (.tup [.int .u32 0, .int .i64 0]) := by
 intro h hf K hk
 obtain ⟨hu, hut, hX⟩ := fx4 hf
 have hcl := c.toNat_lt
 have hcl1 := c1.toNat_lt
 have i1 : (c :: c1 :: t)[1]? = some c1 := rfl
 exact wGC3
theorem rp_4h1 (c  : UInt8) (c1 : UInt8) (t : B8) (hc : 240 ≤ c.toNat) (hc2 : c.toNat < 248) (hs : 2 ≤ t.length)  (hb : 191 < c1.toNat) : Pu tree.getF 101 [.str (c :: c1 :: t)] (.tup [.int .u32 0, .int .i64 0]) := by
 intro h hf K hk
 obtain ⟨hu, hut, hX⟩ := fx4 hf
 have hcl := c.toNat_lt
 have hcl1 := c1.toNat_lt
 have i1 : (c :: c1 :: t)[1]? = some c1 := rfl
 exact wGC3
theorem rp_4l2 (c  : UInt8) (c1 : UInt8) (c2 : UInt8) (t : B8) (hc : 240 ≤ c.toNat) (hc2 : c.toNat < 248) (hs : 1 ≤ t.length) (a1 : 128 ≤ c1.toNat ∧ c1.toNat ≤ 191) (hb : c2.toNat < 128) : Pu tree.getF 101 [.str (c :: c1 :: c2 :: t)] (.tup [.int .u32 0, .int .i64 0]) := by
 intro h hf K hk
 obtain ⟨hu, hut, hX⟩ := fx4 hf
 have hcl := c.toNat_lt
 have hcl1 := c1.toNat_lt
 have i1 : (c :: c1 :: c2 :: t)[1]? = some c1 := rfl
 have hcl2 := c2.toNat_lt
 have i2 : (c :: c1 :: c2 :: t)[2]? = some c2 := rfl
 exact wGC4
theorem rp_4h2 (c  : UInt8) (c1 : UInt8) (c2 : UInt8) (t : B8) (hc : 240 ≤ c.toNat) (hc2 : c.toNat < 248) (hs : 1 ≤ t.length) (a1 : 128 ≤ c1.toNat ∧ c1.toNat ≤ 191) (hb : 191 < c2.toNat) : Pu tree.getF 101 [.str (c :: c1 :: c2 :: t)] (.tup [.int .u32 0, .int .i64 0]) := by
 intro h hf K hk
 obtain ⟨hu, hut, hX⟩ := fx4 hf
 have hcl := c.toNat_lt
 have hcl1 := c1.toNat_lt
 have i1 : (c :: c1 :: c2 :: t)[1]? = some c1 := rfl
 have hcl2 := c2.toNat_lt
 have i2 : (c :: c1 :: c2 :: t)[2]? = some c2 := rfl
 exact wGC4
theorem rp_4l3 (c  : UInt8) (c1 : UInt8) (c2 : UInt8) (c3 : UInt8) (t : B8) (hc : 240 ≤ c.toNat) (hc2 : c.toNat < 248) (hs : 0 ≤ t.length) (a1 : 128 ≤ c1.toNat ∧ c1.toNat ≤ 191) (a2 : 128 ≤ c2.toNat ∧ c2.toNat ≤ 191) (hb : c3.toNat < 128) : Pu tree.getF 101 [.str (c :: c1 :: c2 :: c3 :: t)] (.tup [.int .u32 0, .int .i64 0]) := by
 intro h hf K hk
 obtain ⟨hu, hut, hX⟩ := fx4 hf
 have hcl := c.toNat_lt
 have hcl1 := c1.toNat_lt
 have i1 : (c :: c1 :: c2 :: c3 :: t)[1]? = some c1 := rfl
 have hcl2 := c2.toNat_lt
 have i2 : (c :: c1 :: c2 :: c3 :: t)[2]? = some c2 := rfl
 have hcl3 := c3.toNat_lt
 have i3 : (c :: c1 :: c2 :: c3 :: t)[3]? = some c3 := rfl
 exact wGC5
theorem rp_4h3 (c  : UInt8) (c1 : UInt8) (c2 : UInt8) (c3 : UInt8) (t : B8) (hc : 240 ≤ c.toNat) (hc2 : c.toNat < 248) (hs : 0 ≤ t.length) (a1 : 128 ≤ c1.toNat ∧ c1.toNat ≤ 191) (a2 : 128 ≤ c2.toNat ∧ c2.toNat ≤ 191) (hb : 191 < c3.toNat) : Pu tree.getF 101 [.str (c :: c1 :: c2 :: c3 :: t)] (.tup [.int .u32 0, .int .i64 0]) := by
 intro h hf K hk
 obtain ⟨hu, hut, hX⟩ := fx4 hf
 have hcl := c.toNat_lt
 have hcl1 := c1.toNat_lt
 have i1 : (c :: c1 :: c2 :: c3 :: t)[1]? = some c1 := rfl
 have hcl2 := c2.toNat_lt
 have i2 : (c :: c1 :: c2 :: c3 :: t)[2]? = some c2 := rfl
 have hcl3 := c3.toNat_lt
 have i3 : (c :: c1 :: c2 :: c3 :: t)[3]? = some c3 := rfl
 exact wGC5
theorem rp_4least (c : UInt8) (c1 : UInt8) (c2 : UInt8) (c3 : UInt8) (t : B8) (hc : 240 ≤ c.toNat) (hc2 : c.toNat < 248) (a1 : 128 ≤ c1.toNat ∧ c1.toNat ≤ 191) (a2 : 128 ≤ c2.toNat ∧ c2.toNat ≤ 191) (a3 : 128 ≤ c3.toNat ∧ c3.toNat ≤ 191) (hb : (((((c.toNat : Int) - 240) * 64 + ((c1.toNat : Int) - 128)) * 64 + ((c2.toNat : Int) - 128)) * 64 + ((c3.toNat : Int) - 128)) < 65536) : Pu tree.getF 101 [.str (c :: c1 :: c2 :: c3 :: t)] (.tup [.int .u32 0, .int .i64 0]) := by
 intro h hf K hk
 obtain ⟨hu, hut, hX⟩ := fx4 hf
 have hcl := c.toNat_lt
 have hcl1 := c1.toNat_lt
 have i1 : (c :: c1 :: c2 :: c3 :: t)[1]? = some c1 := rfl
 have hcl2 := c2.toNat_lt
 have i2 : (c :: c1 :: c2 :: c3 :: t)[2]? = some c2 := rfl
 have hcl3 := c3.toNat_lt
 have i3 : (c :: c1 :: c2 :: c3 :: t)[3]? = some c3 := rfl
 exact wGC5
theorem rp_4most (c : UInt8) (c1 : UInt8) (c2 : UInt8) (c3 : UInt8) (t : B8) (hc : 240 ≤ c.toNat) (hc2 : c.toNat < 248) (a1 : 128 ≤ c1.toNat ∧ c1.toNat ≤ 191) (a2 : 128 ≤ c2.toNat ∧ c2.toNat ≤ 191) (a3 : 128 ≤ c3.toNat ∧ c3.toNat ≤ 191) (hb : 65536 ≤ (((((c.toNat : Int) - 240) * 64 + ((c1.toNat : Int) - 128)) * 64 + ((c2.toNat : Int) - 128)) * 64 + ((c3.toNat : Int) - 128)) ∧ 1114111 < (((((c.toNat : Int) - 240) * 64 + ((c1.toNat : Int) - 128)) * 64 + ((c2.toNat : Int) - 128)) * 64 + ((c3.toNat : Int) - 128))) : Pu tree.getF 101 [.str (c :: c1 :: c2 :: c3 :: t)] (.tup [.int .u32 0, .int .i64 0]) := by
 intro h hf K hk
 obtain ⟨hu, hut, hX⟩ := fx4 hf
 have hcl := c.toNat_lt
 have hcl1 := c1.toNat_lt
 have i1 : (c :: c1 :: c2 :: c3 :: t)[1]? = some c1 := rfl
 have hcl2 := c2.toNat_lt
 have i2 : (c :: c1 :: c2 :: c3 :: t)[2]? = some c2 := rfl
 have hcl3 := c3.toNat_lt
 have i3 : (c :: c1 :: c2 :: c3 :: t)[3]? = some c3 := rfl
 exact wGC5
theorem rp_4ok2 (c : UInt8) (c1 : UInt8) (c2 : UInt8) (c3 : UInt8) (t : B8) (hc : 240 ≤ c.toNat) (hc2 : c.toNat < 248) (a1 : 128 ≤ c1.toNat ∧ c1.toNat ≤ 191) (a2 : 128 ≤ c2.toNat ∧ c2.toNat ≤ 191) (a3 : 128 ≤ c3.toNat ∧ c3.toNat ≤ 191) (hb : 65536 ≤ (((((c.toNat : Int) - 240) * 64 + ((c1.toNat : Int) - 128)) * 64 + ((c2.toNat : Int) - 128)) * 64 + ((c3.toNat : Int) - 128)) ∧ 57343 < (((((c.toNat : Int) - 240) * 64 + ((c1.toNat : Int) - 128)) * 64 + ((c2.toNat : Int) - 128)) * 64 + ((c3.toNat : Int) - 128)) ∧ (((((c.toNat : Int) - 240) * 64 + ((c1.toNat : Int) - 128)) * 64 + ((c2.toNat : Int) - 128)) * 64 + ((c3.toNat : Int) - 128)) ≤ 1114111) : Pu tree.getF 101 [.str (c :: c1 :: c2 :: c3 :: t)] (.tup [.int .u32 (((((c.toNat : Int) - 240) * 64 + ((c1.toNat : Int) - 128)) * 64 + ((c2.toNat : Int) - 128)) * 64 + ((c3.toNat : Int) - 128)), .int .i64 4]) := by
 intro h hf K hk
 obtain ⟨hu, hut, hX⟩ := fx4 hf
 have hcl := c.toNat_lt
 have hcl1 := c1.toNat_lt
 have i1 : (c :: c1 :: c2 :: c3 :: t)[1]? = some c1 := rfl
 have hcl2 := c2.toNat_lt
 have i2 : (c :: c1 :: c2 :: c3 :: t)[2]? = some c2 := rfl
 have hcl3 := c3.toNat_lt
 have i3 : (c :: c1 :: c2 :: c3 :: t)[3]? = some c3 := rfl
 exact wGC5
theorem of_eq {x : Nat} {c : UInt8} (hx : x < 256) : UInt8.ofNat x = c ↔ c.toNat = x := by
 constructor
 · intro h; rw [← h]; simp; omega
 · intro h; rw [← h]; simp
theorem put2 {x : Nat} {c c1 : UInt8} (hx : x < 2048) : putB x = [c, c1] ↔ 128 ≤ x ∧ c.toNat = 192 + x / 64 ∧ c1.toNat = 128 + x % 64 := by
 unfold putB
 by_cases h : x < 128
 · rw [if_pos h]; simp; omega
 · rw [if_neg h, if_pos hx]
   simp only [List.cons.injEq, and_true]
   rw [of_eq (by omega), of_eq (by omega)]
   omega
theorem put3 {x : Nat} {c c1 c2 : UInt8} (hx : x < 65536) : putB x = [c, c1, c2] ↔ 2048 ≤ x ∧ (¬ (55296 ≤ x ∧ x < 57344) ∧ c.toNat = 224 + x / 4096 ∧ c1.toNat = 128 + x / 64 % 64 ∧ c2.toNat = 128 + x % 64 ∨ (55296 ≤ x ∧ x < 57344) ∧ c.toNat = 239 ∧ c1.toNat = 191 ∧ c2.toNat = 189) := by
 unfold putB
 by_cases h : x < 128
 · rw [if_pos h]; simp; omega
 · rw [if_neg h]
   by_cases h2 : x < 2048
   · rw [if_pos h2]; simp; omega
   · rw [if_neg h2]
     by_cases hs : 55296 ≤ x ∧ x < 57344 ∨ 1114111 < x
     · rw [if_pos hs]
       simp only [List.cons.injEq, and_true]
       rw [show (239 : UInt8) = UInt8.ofNat 239 by rfl, show (191 : UInt8) = UInt8.ofNat 191 by rfl, show (189 : UInt8) = UInt8.ofNat 189 by rfl, of_eq (by omega), of_eq (by omega), of_eq (by omega)]
       omega
     · rw [if_neg hs, if_pos hx]
       simp only [List.cons.injEq, and_true]
       rw [of_eq (by omega), of_eq (by omega), of_eq (by omega)]
       omega
theorem put4 {x : Nat} {c c1 c2 c3 : UInt8} (hx : x < 2097152) : putB x = [c, c1, c2, c3] ↔ 65536 ≤ x ∧ x ≤ 1114111 ∧ c.toNat = 240 + x / 262144 ∧ c1.toNat = 128 + x / 4096 % 64 ∧ c2.toNat = 128 + x / 64 % 64 ∧ c3.toNat = 128 + x % 64 := by
 unfold putB
 by_cases h : x < 128
 · rw [if_pos h]; simp; omega
 · rw [if_neg h]
   by_cases h2 : x < 2048
   · rw [if_pos h2]; simp; omega
   · rw [if_neg h2]
     by_cases hs : 55296 ≤ x ∧ x < 57344 ∨ 1114111 < x
     · rw [if_pos hs]; simp; omega
     · rw [if_neg hs]
       by_cases h3 : x < 65536
       · rw [if_pos h3]; simp; omega
       · rw [if_neg h3]
         simp only [List.cons.injEq, and_true]
         rw [of_eq (by omega), of_eq (by omega), of_eq (by omega), of_eq (by omega)]
         omega
theorem point_2 (c : UInt8) (t : B8) (hc : 192 ≤ c.toNat) (hc2 : c.toNat < 224) : ∃ v : Int, Pu tree.getF 101 [.str (c :: t)] (.tup [.int .u32 v, .int .i64 (ptF (c :: t) : Int)]) := by
 have hcl := c.toNat_lt
 have k1 : ¬ c.toNat < 128 := by omega
 have k2 : c.toNat / 32 = 6 := by omega
 match t with
 | [] =>
  have e : ptF (c :: []) = 0 := by simp only [ptF]; rw [if_neg k1, if_pos k2]
  rw [e]; exact ⟨_, rp_2s c _ hc hc2 (by simp)⟩
 | c1 :: t =>
  have hcl1 := c1.toNat_lt
  obtain ⟨x, hx⟩ : ∃ x, (c.toNat % 32) * 64 + c1.toNat % 64 = x := ⟨_, rfl⟩
  have P := put2 (x := x) (c := c) (c1 := c1) (by omega)
  have ef : ptF (c :: c1 :: t) = if putB x = [c, c1] then 2 else 0 := by
   rw [← hx]; simp only [ptF]; rw [if_neg k1, if_pos k2]
  have eno : ¬ putB x = [c, c1] → ptF (c :: c1 :: t) = 0 := fun h => by rw [ef, if_neg h]
  have eyes : putB x = [c, c1] → ptF (c :: c1 :: t) = 2 := fun h => by rw [ef, if_pos h]
  by_cases l1 : c1.toNat < 128
  · rw [eno (by rw [P]; omega)]; exact ⟨_, rp_2l1 c c1 (t) hc hc2 (by simp)  l1⟩
  by_cases h1 : 191 < c1.toNat
  · rw [eno (by rw [P]; omega)]; exact ⟨_, rp_2h1 c c1 (t) hc hc2 (by simp)  h1⟩
  have a1 : 128 ≤ c1.toNat ∧ c1.toNat ≤ 191 := by omega
  have hv : (((c.toNat : Int) - 192) * 64 + ((c1.toNat : Int) - 128)) = (x : Int) := by omega
  by_cases w1 : x < 128
  · rw [eno (by rw [P]; omega)]; exact ⟨_, rp_2least c c1 t hc hc2 a1 (by rw [hv]; omega)⟩
  rw [eyes (by rw [P]; omega)]; exact ⟨_, rp_2ok1 c c1 t hc hc2 a1 (by rw [hv]; omega)⟩
theorem point_3 (c : UInt8) (t : B8) (hc : 224 ≤ c.toNat) (hc2 : c.toNat < 240) : ∃ v : Int, Pu tree.getF 101 [.str (c :: t)] (.tup [.int .u32 v, .int .i64 (ptF (c :: t) : Int)]) := by
 have hcl := c.toNat_lt
 have k1 : ¬ c.toNat < 128 := by omega
 have k2 : ¬ c.toNat / 32 = 6 := by omega
 have k3 : c.toNat / 16 = 14 := by omega
 match t with
 | [] =>
  have e : ptF (c :: []) = 0 := by simp only [ptF]; rw [if_neg k1, if_neg k2, if_pos k3]
  rw [e]; exact ⟨_, rp_3s c _ hc hc2 (by simp)⟩
 | [c1] =>
  have e : ptF (c :: [c1]) = 0 := by simp only [ptF]; rw [if_neg k1, if_neg k2, if_pos k3]
  rw [e]; exact ⟨_, rp_3s c _ hc hc2 (by simp)⟩
 | c1 :: c2 :: t =>
  have hcl1 := c1.toNat_lt
  have hcl2 := c2.toNat_lt
  obtain ⟨x, hx⟩ : ∃ x, ((c.toNat % 16) * 64 + c1.toNat % 64) * 64 + c2.toNat % 64 = x := ⟨_, rfl⟩
  have P := put3 (x := x) (c := c) (c1 := c1) (c2 := c2) (by omega)
  have ef : ptF (c :: c1 :: c2 :: t) = if putB x = [c, c1, c2] then 3 else 0 := by
   rw [← hx]; simp only [ptF]; rw [if_neg k1, if_neg k2, if_pos k3]
  have eno : ¬ putB x = [c, c1, c2] → ptF (c :: c1 :: c2 :: t) = 0 := fun h => by rw [ef, if_neg h]
  have eyes : putB x = [c, c1, c2] → ptF (c :: c1 :: c2 :: t) = 3 := fun h => by rw [ef, if_pos h]
  by_cases l1 : c1.toNat < 128
  · rw [eno (by rw [P]; omega)]; exact ⟨_, rp_3l1 c c1 (c2 :: t) hc hc2 (by simp)  l1⟩
  by_cases h1 : 191 < c1.toNat
  · rw [eno (by rw [P]; omega)]; exact ⟨_, rp_3h1 c c1 (c2 :: t) hc hc2 (by simp)  h1⟩
  have a1 : 128 ≤ c1.toNat ∧ c1.toNat ≤ 191 := by omega
  by_cases l2 : c2.toNat < 128
  · rw [eno (by rw [P]; omega)]; exact ⟨_, rp_3l2 c c1 c2 (t) hc hc2 (by simp) a1 l2⟩
  by_cases h2 : 191 < c2.toNat
  · rw [eno (by rw [P]; omega)]; exact ⟨_, rp_3h2 c c1 c2 (t) hc hc2 (by simp) a1 h2⟩
  have a2 : 128 ≤ c2.toNat ∧ c2.toNat ≤ 191 := by omega
  have hv : ((((c.toNat : Int) - 224) * 64 + ((c1.toNat : Int) - 128)) * 64 + ((c2.toNat : Int) - 128)) = (x : Int) := by omega
  by_cases w1 : x < 2048
  · rw [eno (by rw [P]; omega)]; exact ⟨_, rp_3least c c1 c2 t hc hc2 a1 a2 (by rw [hv]; omega)⟩
  by_cases w2 : x < 55296
  · rw [eyes (by rw [P]; omega)]; exact ⟨_, rp_3ok1 c c1 c2 t hc hc2 a1 a2 (by rw [hv]; omega)⟩
  by_cases w3 : x ≤ 57343
  · rw [eno (by rw [P]; omega)]; exact ⟨_, rp_3sur c c1 c2 t hc hc2 a1 a2 (by rw [hv]; omega)⟩
  rw [eyes (by rw [P]; omega)]; exact ⟨_, rp_3ok2 c c1 c2 t hc hc2 a1 a2 (by rw [hv]; omega)⟩
theorem point_4 (c : UInt8) (t : B8) (hc : 240 ≤ c.toNat) (hc2 : c.toNat < 248) : ∃ v : Int, Pu tree.getF 101 [.str (c :: t)] (.tup [.int .u32 v, .int .i64 (ptF (c :: t) : Int)]) := by
 have hcl := c.toNat_lt
 have k1 : ¬ c.toNat < 128 := by omega
 have k2 : ¬ c.toNat / 32 = 6 := by omega
 have k3 : ¬ c.toNat / 16 = 14 := by omega
 have k4 : c.toNat / 8 = 30 := by omega
 match t with
 | [] =>
  have e : ptF (c :: []) = 0 := by simp only [ptF]; rw [if_neg k1, if_neg k2, if_neg k3, if_pos k4]
  rw [e]; exact ⟨_, rp_4s c _ hc hc2 (by simp)⟩
 | [c1] =>
  have e : ptF (c :: [c1]) = 0 := by simp only [ptF]; rw [if_neg k1, if_neg k2, if_neg k3, if_pos k4]
  rw [e]; exact ⟨_, rp_4s c _ hc hc2 (by simp)⟩
 | [c1, c2] =>
  have e : ptF (c :: [c1, c2]) = 0 := by simp only [ptF]; rw [if_neg k1, if_neg k2, if_neg k3, if_pos k4]
  rw [e]; exact ⟨_, rp_4s c _ hc hc2 (by simp)⟩
 | c1 :: c2 :: c3 :: t =>
  have hcl1 := c1.toNat_lt
  have hcl2 := c2.toNat_lt
  have hcl3 := c3.toNat_lt
  obtain ⟨x, hx⟩ : ∃ x, (((c.toNat % 8) * 64 + c1.toNat % 64) * 64 + c2.toNat % 64) * 64 + c3.toNat % 64 = x := ⟨_, rfl⟩
  have P := put4 (x := x) (c := c) (c1 := c1) (c2 := c2) (c3 := c3) (by omega)
  have ef : ptF (c :: c1 :: c2 :: c3 :: t) = if putB x = [c, c1, c2, c3] then 4 else 0 := by
   rw [← hx]; simp only [ptF]; rw [if_neg k1, if_neg k2, if_neg k3, if_pos k4]
  have eno : ¬ putB x = [c, c1, c2, c3] → ptF (c :: c1 :: c2 :: c3 :: t) = 0 := fun h => by rw [ef, if_neg h]
  have eyes : putB x = [c, c1, c2, c3] → ptF (c :: c1 :: c2 :: c3 :: t) = 4 := fun h => by rw [ef, if_pos h]
  by_cases l1 : c1.toNat < 128
  · rw [eno (by rw [P]; omega)]; exact ⟨_, rp_4l1 c c1 (c2 :: c3 :: t) hc hc2 (by simp)  l1⟩
  by_cases h1 : 191 < c1.toNat
  · rw [eno (by rw [P]; omega)]; exact ⟨_, rp_4h1 c c1 (c2 :: c3 :: t) hc hc2 (by simp)  h1⟩
  have a1 : 128 ≤ c1.toNat ∧ c1.toNat ≤ 191 := by omega
  by_cases l2 : c2.toNat < 128
  · rw [eno (by rw [P]; omega)]; exact ⟨_, rp_4l2 c c1 c2 (c3 :: t) hc hc2 (by simp) a1 l2⟩
  by_cases h2 : 191 < c2.toNat
  · rw [eno (by rw [P]; omega)]; exact ⟨_, rp_4h2 c c1 c2 (c3 :: t) hc hc2 (by simp) a1 h2⟩
  have a2 : 128 ≤ c2.toNat ∧ c2.toNat ≤ 191 := by omega
  by_cases l3 : c3.toNat < 128
  · rw [eno (by rw [P]; omega)]; exact ⟨_, rp_4l3 c c1 c2 c3 (t) hc hc2 (by simp) a1 a2 l3⟩
  by_cases h3 : 191 < c3.toNat
  · rw [eno (by rw [P]; omega)]; exact ⟨_, rp_4h3 c c1 c2 c3 (t) hc hc2 (by simp) a1 a2 h3⟩
  have a3 : 128 ≤ c3.toNat ∧ c3.toNat ≤ 191 := by omega
  have hv : (((((c.toNat : Int) - 240) * 64 + ((c1.toNat : Int) - 128)) * 64 + ((c2.toNat : Int) - 128)) * 64 + ((c3.toNat : Int) - 128)) = (x : Int) := by omega
  by_cases w1 : x < 65536
  · rw [eno (by rw [P]; omega)]; exact ⟨_, rp_4least c c1 c2 c3 t hc hc2 a1 a2 a3 (by rw [hv]; omega)⟩
  by_cases w2 : 1114111 < x
  · rw [eno (by rw [P]; omega)]; exact ⟨_, rp_4most c c1 c2 c3 t hc hc2 a1 a2 a3 (by rw [hv]; omega)⟩
  rw [eyes (by rw [P]; omega)]; exact ⟨_, rp_4ok2 c c1 c2 c3 t hc hc2 a1 a2 a3 (by rw [hv]; omega)⟩
theorem point_R (s : B8) : ∃ v : Int, Pu tree.getF 101 [.str s] (.tup [.int .u32 v, .int .i64 (ptF s : Int)]) := by
 cases s with
 | nil => exact ⟨_, rp_nil⟩
 | cons c t =>
  by_cases h1 : c.toNat < 128
  · have e : ptF (c :: t) = 1 := by simp only [ptF]; rw [if_pos h1]
    rw [e]; exact ⟨_, rp_1 c t h1⟩
  by_cases h2 : c.toNat < 192
  · have e : ptF (c :: t) = 0 := by simp only [ptF]; rw [if_neg h1, if_neg (by omega), if_neg (by omega), if_neg (by omega)]
    rw [e]; exact ⟨_, rp_lo c t (by omega) h2⟩
  by_cases h3 : c.toNat < 224
  · exact point_2 c t (by omega) h3
  by_cases h4 : c.toNat < 240
  · exact point_3 c t (by omega) h4
  by_cases h5 : c.toNat < 248
  · exact point_4 c t (by omega) h5
  have e : ptF (c :: t) = 0 := by simp only [ptF]; rw [if_neg h1, if_neg (by omega), if_neg (by omega), if_neg (by omega)]
  rw [e]; exact ⟨_, rp_hi c t (by omega)⟩
abbrev rvalidLoop : CCode := (.loop true (.seq (.seq (.region [.v 0, .g (.len true (.loc 0)), .x .gtr 0 (.k 0)] [(1, 2)] [] []) (.cond (.var 1) .skip (.exit 0))) (.block 1 (.seq (.region [.v 0, .g (.call false 101 [(.loc 0)]), .m (.loc 0), .g (.extract 0 (.loc 0)), .g (.extract 1 (.loc 1)), .m (.loc 1), .m (.loc 1)] [(2, 6)] [] []) (.seq (.seq (.region [.v 2, .x .eql 0 (.k 0)] [(3, 1)] [] []) (.cond (.var 3) (.seq (.region [.m (.b false)] [(4, 0)] [] []) .ret) .skip)) (.region [.v 0, .v 2, .g (.slc 0 (.loc 1) (some (.loc 0)) none), .m (.loc 0)] [(0, 3)] [] []))))))
theorem rvalid_loop (Q : QT) : ∀ (m : Nat) (s : B8), s.length ≤ m → s.length ≤ 70000 → ∀ (h : CHeap) (v1 v2 v3 v4 : CVal), Fit h →
    (∀ n' ty v0 v1 v2 v3, h.next ≤ n' → zA9 ty n' → zBp s = false → Q .ret ⟨[v0, v1, v2, v3, .bool false], ⟨h.ents, n', ty⟩, []⟩) →
    (∀ n' ty v0 v1 v2 v3 v4, h.next ≤ n' → zA9 ty n' → zBp s = true → Q (.exit 0) ⟨[v0, v1, v2, v3, v4], ⟨h.ents, n', ty⟩, []⟩) →
    W tree.getF rvalidLoop ⟨[.str s, v1, v2, v3, v4], h, []⟩ Q := by
 intro m
 induction m with
 | zero =>
  intro s hm hl h v1 v2 v3 v4 hf hk1 hk2
  obtain rfl : s = [] := List.length_eq_zero_iff.1 (by omega)
  obtain ⟨hu, hut, hX⟩ := fx4 hf
  refine W.loop ?_
  repeat (first | refine st_ rfl ?_ | ((first | refine rg_ ?_ | refine go_ ?_); refine gw_ (by simp (disch := omega) [hX]; rfl) ?_))
  exact hk2 _ _ _ _ _ _ _ (by omega) ut_ (by rw [zBp]; rfl)
 | succ m ih =>
  intro s hm hl h v1 v2 v3 v4 hf hk1 hk2
  obtain ⟨hu, hut, hX⟩ := fx4 hf
  cases s with
  | nil =>
   refine W.loop ?_
   repeat (first | refine st_ rfl ?_ | ((first | refine rg_ ?_ | refine go_ ?_); refine gw_ (by simp (disch := omega) [hX]; rfl) ?_))
   exact hk2 _ _ _ _ _ _ _ (by omega) ut_ (by rw [zBp]; rfl)
  | cons c t =>
   obtain ⟨rv, P⟩ := point_R (c :: t)
   have hle := ptF_le (c :: t)
   simp only [List.length_cons] at hm hl hle
   have htk : (c :: t).take (t.length + 1) = c :: t := List.take_of_length_le (by simp)
   by_cases hz : ptF (c :: t) = 0
   · rw [hz] at P
     refine W.loop ?_
     repeat (first | refine st_ rfl ?_ | ((first | refine rg_ ?_ | refine go_ ?_); refine gw_ (by simp (disch := omega) [hX]; rfl) ?_) | (refine P _ ?_ _ fun n1 tyn1 hn1 hun1 => ⟨rfl, ?_⟩; exact fit_; (try dsimp only at hn1)) | (refine W.ret ?_; (try simp only [zAb, zA0, zA8]); refine hk1 _ _ _ _ _ _ ?_ ?_ ?_; omega; exact ut_; rw [zBp, dif_pos hz]; rfl))
   · obtain ⟨n, hn⟩ : ∃ n, ptF (c :: t) = n := ⟨_, rfl⟩
     have hvd : zBp (c :: t) = zBp ((c :: t).drop n) := by
      conv => lhs; rw [zBp]
      rw [dif_neg hz, hn]
     rw [hvd] at hk1 hk2
     rw [hn] at P hz hle
     have hn0 : ¬ ((n : Int) = 0) := by omega
     refine W.loop ?_
     repeat (first | refine st_ rfl ?_ | ((first | refine rg_ ?_ | refine go_ ?_); refine gw_ (by simp (disch := omega) [hX, htk, hn0]; rfl) ?_) | (refine P _ ?_ _ fun n1 tyn1 hn1 hun1 => ⟨rfl, ?_⟩; exact fit_; (try dsimp only at hn1)))
     show W tree.getF rvalidLoop (dropped true _ _) Q
     generalize e : dropped .. = r9
     simp (disch := omega) [hX] at e
     subst e
     refine ih ((c :: t).drop n) (by rw [List.length_drop]; simp; omega) (by rw [List.length_drop]; simp; omega) _ _ _ _ _ ?_ ?_ ?_
     · exact fit_
     · intro n' ty w0 w1 w2 w3 g1 g3 g2; exact hk1 n' ty w0 w1 w2 w3 (by dsimp only at g1; omega) g3 g2
     · intro n' ty w0 w1 w2 w3 w4 g1 g3 g2; exact hk2 n' ty w0 w1 w2 w3 w4 (by dsimp only at g1; omega) g3 g2
theorem valid_R (s : B8) (hl : s.length < 70000) : Pu tree.getF 80 [.str s] (.bool (zBp s)) := by
 intro h hf K hk
 obtain ⟨hu, hut, hX⟩ := fx4 hf
 refine Wc.mkG 80 c80 (by kernel_rfl) rfl ?_
 generalize e : zAa .. = r
 simp (disch := omega) [c80] at e
 subst e
 repeat (first | refine st_ rfl ?_ | ((first | refine rg_ ?_ | refine go_ ?_); refine gw_ (by simp (disch := omega) [hX, c80]; rfl) ?_))
 refine rvalid_loop _ s.length s (Nat.le_refl _) (by omega) _ _ _ _ _ ?_ ?_ ?_
 · exact fit_
 · intro n' ty w0 w1 w2 w3 g1 g3 g2
   try dsimp only at g1
   rw [g2] at hk
   try simp only [zAb, zA0, zA8]
   refine endW.of (.inl rfl) rfl ?_
   generalize e : zAc .. = r
   simp (disch := omega) [hX, c80] at e
   subst e
   (try dsimp only)
   refine hk _ _ ?_ ?_
   omega
   exact ut_
 · intro n' ty w0 w1 w2 w3 w4 g1 g3 g2
   try dsimp only at g1
   rw [g2] at hk
   repeat (first | refine st_ rfl ?_ | ((first | refine rg_ ?_ | refine go_ ?_); refine gw_ (by simp (disch := omega) [hX, c80]; rfl) ?_) | ((first | (refine W.ret ?_; (try simp only [zAb, zA0, zA8]); refine endW.of (.inl rfl) rfl ?_) | refine endW.of (.inr rfl) rfl ?_); generalize e : zAc .. = r; simp (disch := omega) [hX, c80] at e; subst e; (refine hk _ _ ?_ ?_; omega; exact ut_)))
end Go.Proofs.YtdanefpnfnippaaGreatDoor.IrJ
namespace Go.Proofs.YtdanefpnfnippaaGreatDoor.IrJ
open Go Go.CI
set_option maxRecDepth 100000
set_option maxHeartbeats 4000000
set_option linter.unusedVariables false
set_option linter.unusedSimpArgs false
attribute [local irreducible] W Wo Wc WoR
theorem fx6 {h : CHeap} {p : Nat} {oP : CObj} (hf : Fit h) (hg : zA4 h.ents p = some oP) : (zA4 h.ents p = some oP) ∧ (∀ x, zA4 (zA5 h.ents p x) p = some x) ∧ (∀ x m, h.next ≤ m → zB7 (zA5 h.ents p x) m = zA5 h.ents p x) ∧ (∀ x m, h.next ≤ m → zAe (zA5 h.ents p x) m = zA5 h.ents p x) ∧ (∀ x q, h.next ≤ q → zA4 (zA5 h.ents p x) q = none) := ⟨hg, fx5 hf hg⟩
theorem un2_ {l : EE} {n : Nat} (h : Under l n := by repeat (first | exact hu.le (by (try dsimp only); omega) | exact hu.set.le (by (try dsimp only); omega) | exact hu.set.set.le (by (try dsimp only); omega) | exact hu.set.set.set.le (by (try dsimp only); omega) | refine Under.cons (by (try dsimp only); omega) ?_ | exact Under.nil)) : Under l n := h
theorem ft_ {h : CHeap} (hf : Fit h := by exact ⟨un2_, ut_⟩) : Fit h := hf
theorem ge2_ {P : Prop} (h : P := by first | exact hg | exact hZ.2.1 _ | ((try dsimp only); exact hg) | ((try dsimp only); exact hZ.2.1 _) | (simp (disch := omega) [zA4, zA5, sy_nbeq, sy_neqF, zAm, zA7, hZ]; done) | (simp (disch := omega) [zA4, zA5, sy_nbeq, sy_neqF, zAm, zA7, hZ]; omega)) : P := h
theorem lt_ {a b : Nat} (h : a < b := by (try dsimp only); omega) : a < b := h
theorem pu_ {f : Nat} {ar : List CVal} {v : CVal} (H : Pu tree.getF f ar v) {h : CHeap} {K : KT} (hk : ∀ n2 ty, h.next ≤ n2 → zA9 ty n2 → K v ⟨h.ents, n2, ty⟩) (hf : Fit h := by exact ft_) : Wc tree.getF f ar h K := H h hf K hk
theorem pe_ {f : Nat} {ar : List CVal} {v : CVal} (H : Pe f ar v) {h : CHeap} {K : KT} (hk : ∀ n2, h.next ≤ n2 → K v ⟨h.ents, n2, h.tys⟩) (hf : Fit h := by exact ft_) : Wc tree.getF f ar h K := H h hf K hk
abbrev cu (s : B8) (a : Int) (A B : CVal) (bad : Bool) : CObj := .cells [.str s, .int .i64 a, A, B, .bool bad]
theorem ib_F (cs : B8) (y k : Int) (hy : 0 ≤ y ∧ y < 256) (hI : idxFrom (UInt8.ofNat y.toNat) cs 0 = k) (hl : cs.length < 1000) : Pe 41 [.str cs, .int .u8 y] (.int .i64 k) := by
 intro h hf K hk
 obtain ⟨hu, hut, hX⟩ := fx4 hf
 refine Wc.mkG 41 c41 (by kernel_rfl) rfl ?_
 generalize e : zAa .. = r
 simp (disch := omega) [c41] at e
 subst e
 repeat (first | refine st_ rfl ?_ | ((first | refine rg_ ?_ | refine go_ ?_); refine gw_ (by simp (disch := omega) [hX, hI, c67, c41]; rfl) ?_) | (refine W.loop ?_; try (generalize e : dropped .. = r; simp (disch := omega) [hX, hI, c67, c41] at e; subst e; try dsimp only)) | (refine Wc.mkG 67 c67 (by kernel_rfl) rfl ?_; generalize e : zAa .. = r; simp (disch := omega) [hX, hI, c67, c41] at e; subst e) | (refine Wc.primM (f := 88) (p := zD3) (by kernel_rfl) ?_; generalize e : zD3 _ _ = r; simp (disch := omega) [hX, hI, c67, c41] at e; subst e; (try dsimp only); refine ⟨rfl, ?_⟩) | ((first | (refine W.ret ?_; (try simp only [zAb, zA0, zA8]); refine endW.of (.inl rfl) rfl ?_) | refine endW.of (.inr rfl) rfl ?_); generalize e : zAc .. = r; simp (disch := omega) [hX, hI, c67, c41] at e; subst e; (first | refine ⟨rfl, ?_⟩ | (refine hk _ ?_; omega))))
theorem cn_some {p d : Nat} (s : B8) (a : Nat) (A B : CVal) (bad : Bool) (hA : A.whole = true ∧ A.cells.length = 1) (hB : B.whole = true ∧ B.cells.length = 1) (hl : s.length < 100000) (x : UInt8) (hx : s[a]? = some x) (ai : Int) (hai : ai = (a : Int)) {h : CHeap} {K : KT} (hk : ∀ n', h.next ≤ n' → K (.int .u8 (x.toNat : Int)) ⟨zA5 h.ents p (cu s (ai + 1) A B bad), n', h.tys⟩) (hf : Fit h := by exact ft_) (hg : zA4 h.ents p = some (cu s ai A B bad) := by exact ge2_) (hp : p < h.next := by exact lt_) : Wc tree.getF 71 [.ptr p d 0] h K := by
 obtain ⟨hu, hut, hX⟩ := fx4 hf
 have hZ := fx6 hf hg
 obtain ⟨hal, hx2⟩ := List.getElem?_eq_some_iff.1 hx
 have hat : ai.toNat = a := by omega
 have hlt : ¬ (s.length : Int) ≤ ai := by omega
 refine Wc.mkG 71 c71 (by kernel_rfl) rfl ?_
 generalize e : zAa .. = r
 simp (disch := omega) [c71] at e
 subst e
 repeat (first | refine st_ rfl ?_ | ((first | refine rg_ ?_ | refine go_ ?_); refine gw_ (by simp (disch := omega) [hX, hZ, hA.1, hA.2, hB.1, hB.2, hat, hx, hx2, hlt, c71]; rfl) ?_) | (refine W.loop ?_; try (generalize e : dropped .. = r; simp (disch := omega) [hX, hZ, hA.1, hA.2, hB.1, hB.2, hat, hx, hx2, hlt, c71] at e; subst e; try dsimp only)) | ((first | (refine W.ret ?_; (try simp only [zAb, zA0, zA8]); refine endW.of (.inl rfl) rfl ?_) | refine endW.of (.inr rfl) rfl ?_); generalize e : zAc .. = r; simp (disch := omega) [hX, hZ, hA.1, hA.2, hB.1, hB.2, hat, hx, hx2, hlt, c71] at e; subst e; (refine hk _ ?_; omega)))
theorem cn_none {p d : Nat} (s : B8) (a : Nat) (A B : CVal) (bad : Bool) (hA : A.whole = true ∧ A.cells.length = 1) (hB : B.whole = true ∧ B.cells.length = 1) (hl : s.length < 100000) (hx : s.length ≤ a) (ai : Int) (hai : ai = (a : Int)) {h : CHeap} {K : KT} (hk : ∀ n', h.next ≤ n' → K (.int .u8 0) ⟨zA5 h.ents p (cu s ai A B true), n', h.tys⟩) (hf : Fit h := by exact ft_) (hg : zA4 h.ents p = some (cu s ai A B bad) := by exact ge2_) (hp : p < h.next := by exact lt_) : Wc tree.getF 71 [.ptr p d 0] h K := by
 obtain ⟨hu, hut, hX⟩ := fx4 hf
 have hZ := fx6 hf hg
 have hlt : (s.length : Int) ≤ ai := by omega
 refine Wc.mkG 71 c71 (by kernel_rfl) rfl ?_
 generalize e : zAa .. = r
 simp (disch := omega) [c71] at e
 subst e
 repeat (first | refine st_ rfl ?_ | ((first | refine rg_ ?_ | refine go_ ?_); refine gw_ (by simp (disch := omega) [hX, hZ, hA.1, hA.2, hB.1, hB.2, hlt, c71]; rfl) ?_) | (refine W.loop ?_; try (generalize e : dropped .. = r; simp (disch := omega) [hX, hZ, hA.1, hA.2, hB.1, hB.2, hlt, c71] at e; subst e; try dsimp only)) | ((first | (refine W.ret ?_; (try simp only [zAb, zA0, zA8]); refine endW.of (.inl rfl) rfl ?_) | refine endW.of (.inr rfl) rfl ?_); generalize e : zAc .. = r; simp (disch := omega) [hX, hZ, hA.1, hA.2, hB.1, hB.2, hlt, c71] at e; subst e; (refine hk _ ?_; omega)))
abbrev zB3 : CCode := (.loop true (.seq (.region [.g (.bin .lss (.var 0) (.k 4))] [(1, 0)] [] []) (.seq (.cond (.var 1) .skip (.exit 0)) (.seq (.block 1 (.seq (.region [.v 2, .g (.call false 71 [(.loc 0)]), .m (.loc 0)] [(3, 2)] [] []) (.seq (.seq (.region [.v 3, .x .geq 0 (.u 65), .m (.loc 0), .q (.mv (.var 3)) 0 true, .q (.bin .leq (.loc 0) (.u 70)) 1 true, .g (.pick (.loc 2) (.loc 0) (.b false))] [(4, 5)] [] []) (.cond (.var 4) (.region [.v 3, .x .add 0 (.u 32), .m (.loc 0)] [(3, 2)] [] []) .skip)) (.seq (.region [.v 3, .g (.call false 41 [(.const (.str [48, 49, 50, 51, 52, 53, 54, 55, 56, 57, 97, 98, 99, 100, 101, 102])), (.loc 0)]), .m (.loc 0)] [(5, 2)] [] []) (.seq (.seq (.region [.v 5, .x .lss 0 (.k 0)] [(6, 1)] [] []) (.cond (.var 6) (.region [.v 2, .n 0, .f 4 0, .g (.store 1 (.loc 0) (.b true))] [] [] []) .skip)) (.region [.v 7, .g (.bin .shl (.loc 0) (.const (.int .u64 4))), .v 5, .x .and 0 (.k 15), .g (.conv .u32 (.loc 0)), .h .or 3 0, .m (.loc 0)] [(7, 6)] [] [])))))) (.region [.g (.bin .add (.var 0) (.k 1)), .m (.loc 0)] [(0, 1)] [] [])))))
def hexV (x : UInt8) : Option Nat := if 48 ≤ x.toNat ∧ x.toNat ≤ 57 then some (x.toNat - 48) else if 97 ≤ x.toNat ∧ x.toNat ≤ 102 then some (x.toNat - 87) else if 65 ≤ x.toNat ∧ x.toNat ≤ 70 then some (x.toNat - 55) else none
def hexI (y : Nat) : Int := if 48 ≤ y ∧ y ≤ 57 then (y : Int) - 48 else if 97 ≤ y ∧ y ≤ 102 then (y : Int) - 87 else -1
theorem hexI_all : (List.range 256).all (fun y => idxFrom (UInt8.ofNat y) [48, 49, 50, 51, 52, 53, 54, 55, 56, 57, 97, 98, 99, 100, 101, 102] 0 == hexI y) = true := by kernel_rfl
theorem hexI_eq {y : Nat} (hy : y < 256) : idxFrom (UInt8.ofNat y) [48, 49, 50, 51, 52, 53, 54, 55, 56, 57, 97, 98, 99, 100, 101, 102] 0 = hexI y := by
 have := List.all_eq_true.1 hexI_all y (List.mem_range.2 hy)
 simpa using this
theorem and15N (n : Nat) (hn : n < 16) : zAd .and .i64 (n : Int) 15 = some (.int .i64 (n : Int)) := by
 match n, hn with
 | 0, _ => rfl
 | 1, _ => rfl
 | 2, _ => rfl
 | 3, _ => rfl
 | 4, _ => rfl
 | 5, _ => rfl
 | 6, _ => rfl
 | 7, _ => rfl
 | 8, _ => rfl
 | 9, _ => rfl
 | 10, _ => rfl
 | 11, _ => rfl
 | 12, _ => rfl
 | 13, _ => rfl
 | 14, _ => rfl
 | 15, _ => rfl
 | n + 16, h => omega
theorem and15m : zAd .and .i64 (-1) 15 = some (.int .i64 15) := rfl
theorem wrapN {n : Nat} (hn : n < 4294967296) : IntKind.u32.wrap (n : Int) = (n : Int) := by
 simp [IntKind.wrap, IntKind.bits, IntKind.signed]; omega
theorem uar {u v : Nat} (hu : u < 268435456) (hv : v < 16) : IntKind.u32.wrap (((IntKind.u32.wrap ((u : Int) * 2 ^ min 4 IntKind.u32.bits) % 2 ^ IntKind.u32.bits).toNat ||| (IntKind.u32.wrap (v : Int) % 2 ^ IntKind.u32.bits).toNat : Nat) : Int) = ((u * 16 + v : Nat) : Int) := by
 have e0 : (u : Int) * 2 ^ min 4 IntKind.u32.bits = ((u * 16 : Nat) : Int) := by
  have : (2 : Int) ^ min 4 IntKind.u32.bits = 16 := by decide
  rw [this]; omega
 have e3 : (2 : Int) ^ IntKind.u32.bits = 4294967296 := by decide
 rw [e0, wrapN (n := u * 16) (by omega), wrapN (n := v) (by omega), e3]
 have e1 : (((u * 16 : Nat) : Int) % 4294967296).toNat = u * 16 := by omega
 have e2 : ((v : Int) % 4294967296).toNat = v := by omega
 rw [e1, e2]
 have e : u * 16 ||| v = u * 16 + v := by
  have := Nat.shiftLeft_add_eq_or_of_lt (i := 4) hv u
  rw [Nat.shiftLeft_eq] at this
  simpa using this.symm
 rw [e]
 exact wrapN (by omega)
theorem uar15 {u : Nat} (hu : u < 268435456) : IntKind.u32.wrap (((IntKind.u32.wrap ((u : Int) * 2 ^ min 4 IntKind.u32.bits) % 2 ^ IntKind.u32.bits).toNat ||| (IntKind.u32.wrap 15 % 2 ^ IntKind.u32.bits).toNat : Nat) : Int) = ((u * 16 + 15 : Nat) : Int) := uar (v := 15) hu (by decide)
def stU (s : B8) : Nat × Bool × Nat → Nat × Bool × Nat
 | (a, bad, u) => match s[a]? with
  | none => (a, true, u * 16 + 15)
  | some x => match hexV x with
   | some v => (a + 1, bad, u * 16 + v)
   | none => (a + 1, true, u * 16 + 15)
def itU (s : B8) : Nat → Nat × Bool × Nat → Nat × Bool × Nat
 | 0, t => t
 | m + 1, t => itU s m (stU s t)
theorem zEg {x : UInt8} {v : Nat} (h : hexV x = some v) : v < 16 := by
 unfold hexV at h
 split at h
 · cases h; omega
 · split at h
   · cases h; omega
   · split at h
     · cases h; omega
     · cases h
theorem stU_u (s : B8) (t : Nat × Bool × Nat) (n : Nat) (h : t.2.2 < n) : (stU s t).2.2 < n * 16 := by
 obtain ⟨a, bad, u⟩ := t
 simp only [stU]
 split
 · (try dsimp only at h ⊢); omega
 · split
   · rename_i v hv
     have := zEg hv
     (try dsimp only at h ⊢); omega
   · (try dsimp only at h ⊢); omega
theorem u_lo1 {p d : Nat} (s : B8) (a : Nat) (A B : CVal) (bad : Bool) (hA : A.whole = true ∧ A.cells.length = 1) (hB : B.whole = true ∧ B.cells.length = 1) (hl : s.length < 100000) (i : Nat) (hi : i < 4) (u : Nat) (hu2 : u < 268435456) (ai : Int) (hai : ai = (a : Int)) (x : UInt8) (hx : s[a]? = some x) (v : Nat) (hv : v < 16) (hxr : x.toNat < 65) (hI : idxFrom x [48, 49, 50, 51, 52, 53, 54, 55, 56, 57, 97, 98, 99, 100, 101, 102] 0 = (v : Int)) (v1 v3 v4 v5 v6 : CVal) (h : CHeap) (hf : Fit h) (hg : zA4 h.ents p = some (cu s ai A B bad)) (hp : p < h.next) (Q : QT)
    (hk : ∀ n' v1 v3 v4 v5 v6, h.next ≤ n' → W tree.getF zB3 ⟨[.int .i64 ((i : Int) + 1), v1, .ptr p d 0, v3, v4, v5, v6, .int .u32 (u * 16 + v : Nat)], ⟨zA5 h.ents p (cu s (ai + 1) A B bad), n', h.tys⟩, []⟩ Q) : W tree.getF zB3 ⟨[.int .i64 (i : Int), v1, .ptr p d 0, v3, v4, v5, v6, .int .u32 (u : Int)], h, []⟩ Q := by
 obtain ⟨hu, hut, hX⟩ := fx4 hf
 have hZ := fx6 hf hg
 have hi4 : (i : Int) < 4 := by omega
 have hx256 := x.toNat_lt
 refine W.loop ?_
 repeat (first | refine st_ rfl ?_ | ((first | refine rg_ ?_ | refine go_ ?_); refine gw_ (by simp (disch := omega) [hX, hZ, hA.1, hA.2, hB.1, hB.2, hi4, and15N v hv, and15m]; rfl) ?_) | (refine cn_some s a A B bad hA hB hl x hx ai hai fun _ g => ⟨rfl, ?_⟩; try dsimp only at g) | (refine pe_ (ib_F [48, 49, 50, 51, 52, 53, 54, 55, 56, 57, 97, 98, 99, 100, 101, 102] (x.toNat : Int) (v : Int) (by omega) (by simpa using hI) (by decide)) fun _ g => ⟨rfl, ?_⟩; try dsimp only at g))
 show W tree.getF zB3 (dropped true _ _) Q
 generalize e : dropped .. = r0
 simp (disch := omega) [hX, hZ, hA.1, hA.2, hB.1, hB.2, hi4, and15N v hv, and15m] at e
 subst e
 try dsimp only
 rw [uar hu2 hv]
 refine hk _ _ _ _ _ _ ?_
 (try dsimp only); omega
theorem u_lo2 {p d : Nat} (s : B8) (a : Nat) (A B : CVal) (bad : Bool) (hA : A.whole = true ∧ A.cells.length = 1) (hB : B.whole = true ∧ B.cells.length = 1) (hl : s.length < 100000) (i : Nat) (hi : i < 4) (u : Nat) (hu2 : u < 268435456) (ai : Int) (hai : ai = (a : Int)) (x : UInt8) (hx : s[a]? = some x) (v : Nat) (hv : v < 16) (hxr : 70 < x.toNat) (hI : idxFrom x [48, 49, 50, 51, 52, 53, 54, 55, 56, 57, 97, 98, 99, 100, 101, 102] 0 = (v : Int)) (v1 v3 v4 v5 v6 : CVal) (h : CHeap) (hf : Fit h) (hg : zA4 h.ents p = some (cu s ai A B bad)) (hp : p < h.next) (Q : QT)
    (hk : ∀ n' v1 v3 v4 v5 v6, h.next ≤ n' → W tree.getF zB3 ⟨[.int .i64 ((i : Int) + 1), v1, .ptr p d 0, v3, v4, v5, v6, .int .u32 (u * 16 + v : Nat)], ⟨zA5 h.ents p (cu s (ai + 1) A B bad), n', h.tys⟩, []⟩ Q) : W tree.getF zB3 ⟨[.int .i64 (i : Int), v1, .ptr p d 0, v3, v4, v5, v6, .int .u32 (u : Int)], h, []⟩ Q := by
 obtain ⟨hu, hut, hX⟩ := fx4 hf
 have hZ := fx6 hf hg
 have hi4 : (i : Int) < 4 := by omega
 have hx256 := x.toNat_lt
 refine W.loop ?_
 repeat (first | refine st_ rfl ?_ | ((first | refine rg_ ?_ | refine go_ ?_); refine gw_ (by simp (disch := omega) [hX, hZ, hA.1, hA.2, hB.1, hB.2, hi4, and15N v hv, and15m]; rfl) ?_) | (refine cn_some s a A B bad hA hB hl x hx ai hai fun _ g => ⟨rfl, ?_⟩; try dsimp only at g) | (refine pe_ (ib_F [48, 49, 50, 51, 52, 53, 54, 55, 56, 57, 97, 98, 99, 100, 101, 102] (x.toNat : Int) (v : Int) (by omega) (by simpa using hI) (by decide)) fun _ g => ⟨rfl, ?_⟩; try dsimp only at g))
 show W tree.getF zB3 (dropped true _ _) Q
 generalize e : dropped .. = r0
 simp (disch := omega) [hX, hZ, hA.1, hA.2, hB.1, hB.2, hi4, and15N v hv, and15m] at e
 subst e
 try dsimp only
 rw [uar hu2 hv]
 refine hk _ _ _ _ _ _ ?_
 (try dsimp only); omega
theorem u_up {p d : Nat} (s : B8) (a : Nat) (A B : CVal) (bad : Bool) (hA : A.whole = true ∧ A.cells.length = 1) (hB : B.whole = true ∧ B.cells.length = 1) (hl : s.length < 100000) (i : Nat) (hi : i < 4) (u : Nat) (hu2 : u < 268435456) (ai : Int) (hai : ai = (a : Int)) (x : UInt8) (hx : s[a]? = some x) (v : Nat) (hv : v < 16) (hxr : 65 ≤ x.toNat ∧ x.toNat ≤ 70) (hI : idxFrom (UInt8.ofNat (x.toNat + 32)) [48, 49, 50, 51, 52, 53, 54, 55, 56, 57, 97, 98, 99, 100, 101, 102] 0 = (v : Int)) (v1 v3 v4 v5 v6 : CVal) (h : CHeap) (hf : Fit h) (hg : zA4 h.ents p = some (cu s ai A B bad)) (hp : p < h.next) (Q : QT)
    (hk : ∀ n' v1 v3 v4 v5 v6, h.next ≤ n' → W tree.getF zB3 ⟨[.int .i64 ((i : Int) + 1), v1, .ptr p d 0, v3, v4, v5, v6, .int .u32 (u * 16 + v : Nat)], ⟨zA5 h.ents p (cu s (ai + 1) A B bad), n', h.tys⟩, []⟩ Q) : W tree.getF zB3 ⟨[.int .i64 (i : Int), v1, .ptr p d 0, v3, v4, v5, v6, .int .u32 (u : Int)], h, []⟩ Q := by
 obtain ⟨hu, hut, hX⟩ := fx4 hf
 have hZ := fx6 hf hg
 have hi4 : (i : Int) < 4 := by omega
 have hx256 := x.toNat_lt
 have hI2 : idxFrom (UInt8.ofNat ((x.toNat : Int) + 32).toNat) [48, 49, 50, 51, 52, 53, 54, 55, 56, 57, 97, 98, 99, 100, 101, 102] 0 = (v : Int) := by
  have e : ((x.toNat : Int) + 32).toNat = x.toNat + 32 := by omega
  rw [e]; exact hI
 refine W.loop ?_
 repeat (first | refine st_ rfl ?_ | ((first | refine rg_ ?_ | refine go_ ?_); refine gw_ (by simp (disch := omega) [hX, hZ, hA.1, hA.2, hB.1, hB.2, hi4, and15N v hv, and15m, zA2]; rfl) ?_) | (refine cn_some s a A B bad hA hB hl x hx ai hai fun _ g => ⟨rfl, ?_⟩; try dsimp only at g) | (refine pe_ (ib_F [48, 49, 50, 51, 52, 53, 54, 55, 56, 57, 97, 98, 99, 100, 101, 102] ((x.toNat : Int) + 32) (v : Int) (by omega) hI2 (by decide)) fun _ g => ⟨rfl, ?_⟩; try dsimp only at g))
 show W tree.getF zB3 (dropped true _ _) Q
 generalize e : dropped .. = r0
 simp (disch := omega) [hX, hZ, hA.1, hA.2, hB.1, hB.2, hi4, and15N v hv, and15m, zA2] at e
 subst e
 try dsimp only
 rw [uar hu2 hv]
 refine hk _ _ _ _ _ _ ?_
 (try dsimp only); omega
theorem u_bad1 {p d : Nat} (s : B8) (a : Nat) (A B : CVal) (bad : Bool) (hA : A.whole = true ∧ A.cells.length = 1) (hB : B.whole = true ∧ B.cells.length = 1) (hl : s.length < 100000) (i : Nat) (hi : i < 4) (u : Nat) (hu2 : u < 268435456) (ai : Int) (hai : ai = (a : Int)) (x : UInt8) (hx : s[a]? = some x) (hxr : x.toNat < 65) (hI : idxFrom x [48, 49, 50, 51, 52, 53, 54, 55, 56, 57, 97, 98, 99, 100, 101, 102] 0 = -1) (v1 v3 v4 v5 v6 : CVal) (h : CHeap) (hf : Fit h) (hg : zA4 h.ents p = some (cu s ai A B bad)) (hp : p < h.next) (Q : QT)
    (hk : ∀ n' v1 v3 v4 v5 v6, h.next ≤ n' → W tree.getF zB3 ⟨[.int .i64 ((i : Int) + 1), v1, .ptr p d 0, v3, v4, v5, v6, .int .u32 (u * 16 + 15 : Nat)], ⟨zA5 h.ents p (cu s (ai + 1) A B true), n', h.tys⟩, []⟩ Q) : W tree.getF zB3 ⟨[.int .i64 (i : Int), v1, .ptr p d 0, v3, v4, v5, v6, .int .u32 (u : Int)], h, []⟩ Q := by
 obtain ⟨hu, hut, hX⟩ := fx4 hf
 have hZ := fx6 hf hg
 have hi4 : (i : Int) < 4 := by omega
 have hx256 := x.toNat_lt
 refine W.loop ?_
 repeat (first | refine st_ rfl ?_ | ((first | refine rg_ ?_ | refine go_ ?_); refine gw_ (by simp (disch := omega) [hX, hZ, hA.1, hA.2, hB.1, hB.2, hi4, and15m]; rfl) ?_) | (refine cn_some s a A B bad hA hB hl x hx ai hai fun _ g => ⟨rfl, ?_⟩; try dsimp only at g) | (refine pe_ (ib_F [48, 49, 50, 51, 52, 53, 54, 55, 56, 57, 97, 98, 99, 100, 101, 102] (x.toNat : Int) (-1) (by omega) (by simpa using hI) (by decide)) fun _ g => ⟨rfl, ?_⟩; try dsimp only at g))
 show W tree.getF zB3 (dropped true _ _) Q
 generalize e : dropped .. = r0
 simp (disch := omega) [hX, hZ, hA.1, hA.2, hB.1, hB.2, hi4, and15m] at e
 subst e
 try dsimp only
 rw [uar15 hu2]
 refine hk _ _ _ _ _ _ ?_
 (try dsimp only); omega
theorem u_bad2 {p d : Nat} (s : B8) (a : Nat) (A B : CVal) (bad : Bool) (hA : A.whole = true ∧ A.cells.length = 1) (hB : B.whole = true ∧ B.cells.length = 1) (hl : s.length < 100000) (i : Nat) (hi : i < 4) (u : Nat) (hu2 : u < 268435456) (ai : Int) (hai : ai = (a : Int)) (x : UInt8) (hx : s[a]? = some x) (hxr : 70 < x.toNat) (hI : idxFrom x [48, 49, 50, 51, 52, 53, 54, 55, 56, 57, 97, 98, 99, 100, 101, 102] 0 = -1) (v1 v3 v4 v5 v6 : CVal) (h : CHeap) (hf : Fit h) (hg : zA4 h.ents p = some (cu s ai A B bad)) (hp : p < h.next) (Q : QT)
    (hk : ∀ n' v1 v3 v4 v5 v6, h.next ≤ n' → W tree.getF zB3 ⟨[.int .i64 ((i : Int) + 1), v1, .ptr p d 0, v3, v4, v5, v6, .int .u32 (u * 16 + 15 : Nat)], ⟨zA5 h.ents p (cu s (ai + 1) A B true), n', h.tys⟩, []⟩ Q) : W tree.getF zB3 ⟨[.int .i64 (i : Int), v1, .ptr p d 0, v3, v4, v5, v6, .int .u32 (u : Int)], h, []⟩ Q := by
 obtain ⟨hu, hut, hX⟩ := fx4 hf
 have hZ := fx6 hf hg
 have hi4 : (i : Int) < 4 := by omega
 have hx256 := x.toNat_lt
 refine W.loop ?_
 repeat (first | refine st_ rfl ?_ | ((first | refine rg_ ?_ | refine go_ ?_); refine gw_ (by simp (disch := omega) [hX, hZ, hA.1, hA.2, hB.1, hB.2, hi4, and15m]; rfl) ?_) | (refine cn_some s a A B bad hA hB hl x hx ai hai fun _ g => ⟨rfl, ?_⟩; try dsimp only at g) | (refine pe_ (ib_F [48, 49, 50, 51, 52, 53, 54, 55, 56, 57, 97, 98, 99, 100, 101, 102] (x.toNat : Int) (-1) (by omega) (by simpa using hI) (by decide)) fun _ g => ⟨rfl, ?_⟩; try dsimp only at g))
 show W tree.getF zB3 (dropped true _ _) Q
 generalize e : dropped .. = r0
 simp (disch := omega) [hX, hZ, hA.1, hA.2, hB.1, hB.2, hi4, and15m] at e
 subst e
 try dsimp only
 rw [uar15 hu2]
 refine hk _ _ _ _ _ _ ?_
 (try dsimp only); omega
theorem u_none {p d : Nat} (s : B8) (a : Nat) (A B : CVal) (bad : Bool) (hA : A.whole = true ∧ A.cells.length = 1) (hB : B.whole = true ∧ B.cells.length = 1) (hl : s.length < 100000) (i : Nat) (hi : i < 4) (u : Nat) (hu2 : u < 268435456) (ai : Int) (hai : ai = (a : Int)) (hx : s.length ≤ a) (hI : idxFrom 0 [48, 49, 50, 51, 52, 53, 54, 55, 56, 57, 97, 98, 99, 100, 101, 102] 0 = -1) (v1 v3 v4 v5 v6 : CVal) (h : CHeap) (hf : Fit h) (hg : zA4 h.ents p = some (cu s ai A B bad)) (hp : p < h.next) (Q : QT)
    (hk : ∀ n' v1 v3 v4 v5 v6, h.next ≤ n' → W tree.getF zB3 ⟨[.int .i64 ((i : Int) + 1), v1, .ptr p d 0, v3, v4, v5, v6, .int .u32 (u * 16 + 15 : Nat)], ⟨zA5 h.ents p (cu s ai A B true), n', h.tys⟩, []⟩ Q) : W tree.getF zB3 ⟨[.int .i64 (i : Int), v1, .ptr p d 0, v3, v4, v5, v6, .int .u32 (u : Int)], h, []⟩ Q := by
 obtain ⟨hu, hut, hX⟩ := fx4 hf
 have hZ := fx6 hf hg
 have hi4 : (i : Int) < 4 := by omega
 refine W.loop ?_
 repeat (first | refine st_ rfl ?_ | ((first | refine rg_ ?_ | refine go_ ?_); refine gw_ (by simp (disch := omega) [hX, hZ, hA.1, hA.2, hB.1, hB.2, hi4, and15m]; rfl) ?_) | (refine cn_none s a A B bad hA hB hl hx ai hai fun _ g => ⟨rfl, ?_⟩; try dsimp only at g) | (refine pe_ (ib_F [48, 49, 50, 51, 52, 53, 54, 55, 56, 57, 97, 98, 99, 100, 101, 102] 0 (-1) (by omega) hI (by decide)) fun _ g => ⟨rfl, ?_⟩; try dsimp only at g))
 show W tree.getF zB3 (dropped true _ _) Q
 generalize e : dropped .. = r0
 simp (disch := omega) [hX, hZ, hA.1, hA.2, hB.1, hB.2, hi4, and15m] at e
 subst e
 try dsimp only
 rw [uar15 hu2]
 refine hk _ _ _ _ _ _ ?_
 (try dsimp only); omega
theorem u_step {p d : Nat} (s : B8) (A B : CVal) (hA : A.whole = true ∧ A.cells.length = 1) (hB : B.whole = true ∧ B.cells.length = 1) (hl : s.length < 100000) (i : Nat) (hi : i < 4) (a : Nat) (bad : Bool) (u : Nat) (hu2 : u < 268435456) (v1 v3 v4 v5 v6 : CVal) (h : CHeap) (hf : Fit h) (hg : zA4 h.ents p = some (cu s (a : Int) A B bad)) (hp : p < h.next) (Q : QT)
    (hk : ∀ n' v1 v3 v4 v5 v6, h.next ≤ n' → W tree.getF zB3 ⟨[.int .i64 ((i : Int) + 1), v1, .ptr p d 0, v3, v4, v5, v6, .int .u32 ((stU s (a, bad, u)).2.2 : Nat)], ⟨zA5 h.ents p (cu s ((stU s (a, bad, u)).1 : Int) A B (stU s (a, bad, u)).2.1), n', h.tys⟩, []⟩ Q) : W tree.getF zB3 ⟨[.int .i64 (i : Int), v1, .ptr p d 0, v3, v4, v5, v6, .int .u32 (u : Int)], h, []⟩ Q := by
 cases hx : s[a]? with
 | none =>
  have e : stU s (a, bad, u) = (a, true, u * 16 + 15) := by simp only [stU, hx]
  rw [e] at hk
  exact u_none s a A B bad hA hB hl i hi u hu2 (a : Int) rfl (by simpa using hx) (by kernel_rfl) v1 v3 v4 v5 v6 h hf hg hp Q hk
 | some x =>
  have hx256 := x.toNat_lt
  have e1 : ((a + 1 : Nat) : Int) = (a : Int) + 1 := by omega
  have hI := hexI_eq hx256
  rw [UInt8.ofNat_toNat] at hI
  cases hv : hexV x with
  | none =>
   have e : stU s (a, bad, u) = (a + 1, true, u * 16 + 15) := by simp only [stU, hx, hv]
   rw [e] at hk
   dsimp only at hk
   rw [e1] at hk
   unfold hexV at hv
   have hc : ¬ (48 ≤ x.toNat ∧ x.toNat ≤ 57) ∧ ¬ (97 ≤ x.toNat ∧ x.toNat ≤ 102) ∧ ¬ (65 ≤ x.toNat ∧ x.toNat ≤ 70) := by
    split at hv
    · cases hv
    · split at hv
      · cases hv
      · split at hv
        · cases hv
        · exact ⟨by assumption, by assumption, by assumption⟩
   have hI2 : idxFrom x [48, 49, 50, 51, 52, 53, 54, 55, 56, 57, 97, 98, 99, 100, 101, 102] 0 = -1 := by rw [hI]; unfold hexI; rw [if_neg hc.1, if_neg hc.2.1]
   by_cases h65 : x.toNat < 65
   · exact u_bad1 s a A B bad hA hB hl i hi u hu2 (a : Int) rfl x hx h65 hI2 v1 v3 v4 v5 v6 h hf hg hp Q hk
   · exact u_bad2 s a A B bad hA hB hl i hi u hu2 (a : Int) rfl x hx (by omega) hI2 v1 v3 v4 v5 v6 h hf hg hp Q hk
  | some v =>
   have hv16 := zEg hv
   have e : stU s (a, bad, u) = (a + 1, bad, u * 16 + v) := by simp only [stU, hx, hv]
   rw [e] at hk
   dsimp only at hk
   rw [e1] at hk
   unfold hexV at hv
   split at hv
   · rename_i hc
     cases hv
     exact u_lo1 s a A B bad hA hB hl i hi u hu2 (a : Int) rfl x hx (x.toNat - 48) hv16 (by omega) (by rw [hI]; unfold hexI; rw [if_pos hc]; omega) v1 v3 v4 v5 v6 h hf hg hp Q hk
   · rename_i hc0
     split at hv
     · rename_i hc
       cases hv
       exact u_lo2 s a A B bad hA hB hl i hi u hu2 (a : Int) rfl x hx (x.toNat - 87) hv16 (by omega) (by rw [hI]; unfold hexI; rw [if_neg hc0, if_pos hc]; omega) v1 v3 v4 v5 v6 h hf hg hp Q hk
     · split at hv
       · rename_i hc
         cases hv
         exact u_up s a A B bad hA hB hl i hi u hu2 (a : Int) rfl x hx (x.toNat - 55) hv16 hc (by rw [hexI_eq (by omega)]; unfold hexI; rw [if_neg (by omega), if_pos (by omega)]; omega) v1 v3 v4 v5 v6 h hf hg hp Q hk
       · cases hv
theorem u_loop {p d : Nat} (s : B8) (A B : CVal) (hA : A.whole = true ∧ A.cells.length = 1) (hB : B.whole = true ∧ B.cells.length = 1) (hl : s.length < 100000) (Q : QT) : ∀ (m i : Nat), i + m = 4 → ∀ (t : Nat × Bool × Nat), t.2.2 < 16 ^ i → ∀ (v1 v3 v4 v5 v6 : CVal) (h : CHeap), Fit h → zA4 h.ents p = some (cu s (t.1 : Int) A B t.2.1) → p < h.next →
    (∀ n' v1 v3 v4 v5 v6, h.next ≤ n' → Q (.exit 0) ⟨[.int .i64 4, v1, .ptr p d 0, v3, v4, v5, v6, .int .u32 ((itU s m t).2.2 : Nat)], ⟨zA5 h.ents p (cu s ((itU s m t).1 : Int) A B (itU s m t).2.1), n', h.tys⟩, []⟩) → W tree.getF zB3 ⟨[.int .i64 (i : Int), v1, .ptr p d 0, v3, v4, v5, v6, .int .u32 (t.2.2 : Nat)], h, []⟩ Q := by
 intro m
 induction m with
 | zero =>
  intro i him t ht v1 v3 v4 v5 v6 h hf hg hp hk
  obtain rfl : i = 4 := by omega
  rw [show zA5 h.ents p (cu s ((itU s 0 t).1 : Int) A B (itU s 0 t).2.1) = h.ents from zBk hg] at hk
  have hno : ¬ ((4 : Nat) : Int) < 4 := by omega
  obtain ⟨hu, hut⟩ := id hf
  obtain ⟨_, _, hX⟩ := fx4 hf
  have hZ := fx6 hf hg
  refine W.loop ?_
  repeat (first | refine st_ rfl ?_ | ((first | refine rg_ ?_ | refine go_ ?_); refine gw_ (by simp (disch := omega) [hX, hZ, hno]; rfl) ?_))
  all_goals (refine hk _ _ _ _ _ _ ?_; (try dsimp only); omega)
 | succ m ih =>
  intro i him t ht v1 v3 v4 v5 v6 h hf hg hp hk
  have hb : (16 : Nat) ^ i ≤ 16 ^ 3 := Nat.pow_le_pow_right (by omega) (by omega)
  refine u_step s A B hA hB hl i (by omega) t.1 t.2.1 t.2.2 (by omega) v1 v3 v4 v5 v6 h hf hg hp Q ?_
  intro n' v1 v3 v4 v5 v6 hn
  have e1 : ((i + 1 : Nat) : Int) = (i : Int) + 1 := by omega
  have hst := stU_u s t (16 ^ i) ht
  have := ih (i + 1) (by omega) (stU s t) (by rw [Nat.pow_succ]; exact hst) v1 v3 v4 v5 v6 ⟨zA5 h.ents p (cu s ((stU s t).1 : Int) A B (stU s t).2.1), n', h.tys⟩ ⟨hf.1.set.le hn, hf.2.le hn⟩ (zA6 hg) (Nat.lt_of_lt_of_le hp hn) (fun n2 w1 w3 w4 w5 w6 hn2 => by
   have := hk n2 w1 w3 w4 w5 w6 (Nat.le_trans hn hn2)
   (try dsimp only)
   rw [zAm]
   exact this)
  rw [e1] at this
  exact this
theorem unit_F {p d : Nat} (s : B8) (a : Nat) (A B : CVal) (bad : Bool) (hA : A.whole = true ∧ A.cells.length = 1) (hB : B.whole = true ∧ B.cells.length = 1) (hl : s.length < 100000) (ai : Int) (hai : ai = (a : Int)) {h : CHeap} {K : KT} (hk : ∀ n', h.next ≤ n' → K (.int .u32 ((itU s 4 (a, bad, 0)).2.2 : Nat)) ⟨zA5 h.ents p (cu s ((itU s 4 (a, bad, 0)).1 : Int) A B (itU s 4 (a, bad, 0)).2.1), n', h.tys⟩) (hf : Fit h := by exact ft_) (hg : zA4 h.ents p = some (cu s ai A B bad) := by exact ge2_) (hp : p < h.next := by exact lt_) : Wc tree.getF 91 [.ptr p d 0] h K := by
 obtain ⟨hu, hut, hX⟩ := fx4 hf
 have hZ := fx6 hf hg
 subst hai
 refine Wc.mkG 91 c91 (by kernel_rfl) rfl ?_
 generalize e : zAa .. = r
 simp (disch := omega) [c91] at e
 subst e
 repeat (first | refine st_ rfl ?_ | ((first | refine rg_ ?_ | refine go_ ?_); refine gw_ (by simp (disch := omega) [hX, hZ, c91]; rfl) ?_) | (refine u_loop s A B hA hB hl _ 4 0 (by omega) (a, bad, 0) (show (0 : Nat) < 16 ^ 0 by decide) _ _ _ _ _ _ ?_ ?_ ?_ ?_; exact ft_; exact ge2_; exact lt_; intro n3 w1 w3 w4 w5 w6 g3; try dsimp only at g3) | (simp only [zAh, zA8, zAb, reduceIte]; (try simp only [zD8])) | ((first | (refine W.ret ?_; (try simp only [zAb, zA0, zA8]); refine endW.of (.inl rfl) rfl ?_) | refine endW.of (.inr rfl) rfl ?_); generalize e : zAc .. = r; simp (disch := omega) [hX, hZ, c91] at e; subst e; (refine hk _ ?_; omega)))
end Go.Proofs.YtdanefpnfnippaaGreatDoor.IrJ
namespace Go.Proofs.YtdanefpnfnippaaGreatDoor.IrJ
open Go Go.CI
set_option maxRecDepth 100000
set_option maxHeartbeats 4000000
set_option linter.unusedVariables false
set_option linter.unusedSimpArgs false
attribute [local irreducible] W Wo Wc WoR
theorem setEnt_none : ∀ {l : EE} {p : Nat} {x : CObj}, zA4 l p = none → zA5 l p x = l
 | [], _, _, _ => rfl
 | (i, o) :: r, p, x, h => by
  by_cases hi : i = p
  · subst hi; simp [zA4] at h
  · simp [zA4, hi] at h; simp [zA5, hi, setEnt_none h]
def Over (n0 : Nat) (E0 l : EE) : Prop := ∃ pre, l = pre ++ E0 ∧ (∀ x ∈ pre, n0 ≤ x.1) ∧ Under E0 n0
theorem Over.cons {n0 : Nat} {E0 l : EE} {i : Nat} {o : CObj} (h : Over n0 E0 l) (hi : n0 ≤ i) : Over n0 E0 ((i, o) :: l) := by
 obtain ⟨pre, rfl, h1, h2⟩ := h
 exact ⟨(i, o) :: pre, rfl, fun x hx => by rcases List.mem_cons.1 hx with rfl | hx; exact hi; exact h1 x hx, h2⟩
theorem Over.drop {n0 : Nat} {E0 l : EE} (h : Over n0 E0 l) : zB7 l n0 = E0 := by
 obtain ⟨pre, rfl, h1, h2⟩ := h
 induction pre with
 | nil => exact zAl h2
 | cons a pre ih =>
  have := h1 a (by simp)
  show (if n0 ≤ a.1 then zB7 (pre ++ E0) n0 else _) = _
  rw [if_pos this]
  exact ih fun x hx => h1 x (by simp [hx])
theorem set_ids : ∀ {l : EE} {p n0 : Nat} {x : CObj}, (∀ y ∈ l, n0 ≤ y.1) → ∀ y ∈ zA5 l p x, n0 ≤ y.1
 | [], _, _, _, _, y, hy => by cases hy
 | (i, o) :: r, p, n0, x, h, y, hy => by
  have h1 := h (i, o) (by simp)
  unfold zA5 at hy
  split at hy
  · rcases List.mem_cons.1 hy with rfl | hy
    · exact h1
    · exact h y (by simp [hy])
  · rcases List.mem_cons.1 hy with rfl | hy
    · exact h1
    · exact set_ids (fun z hz => h z (by simp [hz])) y hy
theorem set_append : ∀ {pre E0 : EE} {p : Nat} {x : CObj}, zA4 E0 p = none → zA5 (pre ++ E0) p x = zA5 pre p x ++ E0
 | [], _, _, _, h => setEnt_none h
 | (i, o) :: r, E0, p, x, h => by
  have := set_append (pre := r) (x := x) h
  simp only [List.cons_append, zA5]
  split
  · rfl
  · rw [this]; rfl
theorem Over.set {n0 : Nat} {E0 l : EE} {p : Nat} {x : CObj} (h : Over n0 E0 l) (hp : n0 ≤ p) : Over n0 E0 (zA5 l p x) := by
 obtain ⟨pre, rfl, h1, h2⟩ := h
 exact ⟨zA5 pre p x, set_append (zAx h2 hp), set_ids h1, h2⟩
theorem setEnt_app_no {p n0 : Nat} {x : CObj} (hp : p < n0) : ∀ (pre E : EE), (∀ y ∈ pre, n0 ≤ y.1) → zA5 (pre ++ E) p x = pre ++ zA5 E p x
 | [], E, _ => rfl
 | a :: r, E, h => by
  have h1 := h a (by simp)
  have hne : (a.1 == p) = false := by simp; omega
  have ih := setEnt_app_no (x := x) hp r E (fun y hy => h y (by simp [hy]))
  obtain ⟨i, o⟩ := a
  simp only [List.cons_append, zA5]
  have hne' : (i == p) = false := hne
  simp [hne', ih]
  try omega
theorem Over.setP {n0 p : Nat} {E0 l : EE} {x y : CObj} (h : Over n0 (zA5 E0 p x) l) (hp : p < n0) : Over n0 (zA5 E0 p y) (zA5 l p y) := by
 obtain ⟨pre, rfl, h1, h2⟩ := h
 refine ⟨pre, ?_, h1, ?_⟩
 · rw [setEnt_app_no hp pre _ h1, zAm]
 · have := h2.set (m := p) (x := y)
   rwa [zAm] at this
theorem zDt {k : Nat} {x : CObj} : ∀ {l : EE} {y : Nat × CObj}, y ∈ zA5 l k x → y ∈ l ∨ y = (k, x)
 | [], y, h => by simp [zA5] at h
 | (i, o) :: r, y, h => by
  unfold zA5 at h
  split at h
  · rename_i e
    have e' : i = k := by simpa using e
    rcases List.mem_cons.1 h with rfl | h
    · exact .inr (by rw [e'])
    · exact .inl (by simp [h])
  · rcases List.mem_cons.1 h with rfl | h
    · exact .inl (by simp)
    · rcases zDt h with h | h
      · exact .inl (by simp [h])
      · exact .inr h
abbrev bv (b : UInt8) : CVal := .int .u8 b.toNat
theorem byteVals_map : ∀ l : B8, zB5 (l.map bv) = some l
 | [] => rfl
 | c :: l => by
  have hc := c.toNat_lt
  have ih := byteVals_map l
  have e : UInt8.ofNat (c.toNat : Int).toNat = c := by simp
  simp only [List.map_cons, zB5]
  rw [if_pos (by simp; omega), ih]
  simp
def NC (p : Nat) (l : EE) : Prop := ∀ y ∈ l, p < y.1 → (∀ cs, y.2 ≠ .cells cs) ∧ ∀ ck kvs, y.2 ≠ .map ck kvs
theorem NC.drop {p m : Nat} (hm : p < m) : ∀ {l : EE}, NC p l → zAe l m = l
 | [], _ => rfl
 | (i, x) :: r, h => by
  have ih := NC.drop hm (l := r) fun y hy => h y (by simp [hy])
  have h0 := h (i, x) (by simp)
  unfold zAe
  by_cases hi : m ≤ i
  · have h1 := h0 (by (try dsimp only); omega)
    cases x with
    | cells cs => exact absurd rfl (h1.1 cs)
    | map ck kvs => exact absurd rfl (h1.2 ck kvs)
    | row v es => simp [hi, ih]
    | frow v es => simp [hi, ih]
    | tok v => simp [hi, ih]
  · cases x <;> simp [hi, ih]
theorem NC.cons {p r v : Nat} {es : List CVal} {l : EE} (h : NC p l) : NC p ((r, .row v es) :: l) := by
 intro y hy hp
 rcases List.mem_cons.1 hy with rfl | hy
 · exact ⟨fun _ e => (by cases e), fun _ _ e => (by cases e)⟩
 · exact h y hy hp
theorem NC.setP {p : Nat} {x : CObj} {l : EE} (h : NC p l) : NC p (zA5 l p x) := by
 intro y hy hp
 rcases zDt hy with hy | rfl
 · exact h y hy hp
 · exact absurd hp (by simp)
theorem NC.setR {p r v : Nat} {es : List CVal} {l : EE} (h : NC p l) : NC p (zA5 l r (.row v es)) := by
 intro y hy hp
 rcases zDt hy with hy | rfl
 · exact h y hy hp
 · exact ⟨fun _ e => (by cases e), fun _ _ e => (by cases e)⟩
structure CU (n0 : Nat) (E0 : EE) (p : Nat) (s : B8) (a : Nat) (A B : CVal) (acc : B8) (bad : Bool) (h : CHeap) : Prop where
 g : zA4 h.ents p = some (cu s (a : Int) A B bad)
 b : acc = [] ∧ A = .nilp ∧ B = .nils ∨ ∃ r v, acc ≠ [] ∧ A = .ptr p 106954757 2 ∧ B = .ref r v 1 0 acc.length ∧ zA4 h.ents r = some (.row v (acc.map bv)) ∧ p < r ∧ zBs h.tys r = some 5
 d : Over n0 E0 h.ents
 nc : NC p h.ents
 np : n0 ≤ p
 lp : p < h.next
 f : Fit h
variable {n0 : Nat} {E0 : EE} {p : Nat} {s : B8} {a : Nat} {A B : CVal} {acc : B8} {bad : Bool} {h : CHeap}
theorem CU.wA (S : CU n0 E0 p s a A B acc bad h) : A.whole = true ∧ A.cells.length = 1 := by
 rcases S.b with ⟨_, rfl, rfl⟩ | ⟨r, v, _, rfl, rfl, _⟩ <;> exact ⟨rfl, rfl⟩
theorem CU.wB (S : CU n0 E0 p s a A B acc bad h) : B.whole = true ∧ B.cells.length = 1 := by
 rcases S.b with ⟨_, rfl, rfl⟩ | ⟨r, v, _, rfl, rfl, _⟩ <;> exact ⟨rfl, rfl⟩
theorem CU.up (S : CU n0 E0 p s a A B acc bad h) {n : Nat} (hn : h.next ≤ n) : CU n0 E0 p s a A B acc bad ⟨h.ents, n, h.tys⟩ :=
 { g := S.g, b := S.b, d := S.d, nc := S.nc, np := S.np, lp := Nat.lt_of_lt_of_le S.lp hn, f := ⟨S.f.1.le hn, S.f.2.le hn⟩ }
theorem CU.put (S : CU n0 E0 p s a A B acc bad h) (a' : Nat) (bad' : Bool) {n : Nat} (hn : h.next ≤ n) : CU n0 E0 p s a' A B acc bad' ⟨zA5 h.ents p (cu s (a' : Int) A B bad'), n, h.tys⟩ :=
 { g := zA6 S.g
   b := by
    rcases S.b with h1 | ⟨r, v, h1, h2, h3, h4, h5, h6⟩
    · exact .inl h1
    · exact .inr ⟨r, v, h1, h2, h3, (zA7 (by omega)).trans h4, h5, h6⟩
   d := S.d.set S.np
   nc := S.nc.setP
   np := S.np
   lp := Nat.lt_of_lt_of_le S.lp hn
   f := ⟨S.f.1.set.le hn, S.f.2.le hn⟩ }
theorem CU.app0 (S : CU n0 E0 p s a A B [] bad h) {x : B8} (hx : x ≠ []) {r n : Nat} (hr : h.next ≤ r) (hn : r < n) : CU n0 E0 p s a (.ptr p 106954757 2) (.ref r 0 1 0 x.length) x bad ⟨(r, .row 0 (x.map bv)) :: zA5 h.ents p (cu s (a : Int) (.ptr p 106954757 2) (.ref r 0 1 0 x.length) bad), n, (r, 5) :: h.tys⟩ := by
 have hlp := S.lp
 have hrp : (r == p) = false := by simp; omega
 exact {
  g := by simp only [zA4, hrp, Bool.false_eq_true, if_false]; exact zA6 S.g
  b := .inr ⟨r, 0, hx, rfl, rfl, by simp [zA4], by omega, by simp [zBs]⟩
  d := (S.d.set S.np).cons (by have := S.np; omega)
  nc := S.nc.setP.cons
  np := S.np
  lp := by (try dsimp only); omega
  f := ⟨Under.cons hn (S.f.1.set.le (Nat.le_of_lt (Nat.lt_of_le_of_lt hr hn))), zA9.cons hn (S.f.2.le (Nat.le_of_lt (Nat.lt_of_le_of_lt hr hn)))⟩}
theorem CU.app1 (S : CU n0 E0 p s a A B acc bad h) {r v : Nat} (hacc : acc ≠ []) (hA : A = .ptr p 106954757 2) (hB : B = .ref r v 1 0 acc.length) (hg : zA4 h.ents r = some (.row v (acc.map bv))) (hpr : p < r) (hty : zBs h.tys r = some 5) {x : B8} {es : List CVal} (hes : es = (acc ++ x).map bv) {n : Nat} (hn : h.next ≤ n) : CU n0 E0 p s a A (.ref r (v + 1) 1 0 (acc.length + x.length)) (acc ++ x) bad ⟨zA5 (zA5 h.ents r (.row (v + 1) es)) p (cu s (a : Int) A (.ref r (v + 1) 1 0 (acc.length + x.length)) bad), n, h.tys⟩ := by
 subst hes
 have hlp := S.lp
 have hnp := S.np
 exact {
  g := zA6 ((zA7 (by omega)).trans S.g)
  b := .inr ⟨r, v + 1, by simp [hacc], hA, by rw [List.length_append], (zA7 (by omega)).trans (zA6 hg), hpr, hty⟩
  d := (S.d.set (by omega)).set hnp
  nc := S.nc.setR.setP
  np := hnp
  lp := by (try dsimp only); omega
  f := ⟨S.f.1.set.set.le hn, S.f.2.le hn⟩}
theorem CU.z (S : CU n0 E0 p s a A B acc bad h) : zA4 h.ents p = some (cu s (a : Int) A B bad) ∧ (∀ x, zA4 (zA5 h.ents p x) p = some x) ∧ (∀ m, p < m → zAe h.ents m = h.ents) ∧ (∀ x m, p < m → zAe (zA5 h.ents p x) m = zA5 h.ents p x) ∧ (∀ m, h.next ≤ m → zB7 h.ents m = h.ents) ∧ (∀ q, h.next ≤ q → zA4 h.ents q = none) ∧ (∀ q, h.next ≤ q → zBs h.tys q = none) ∧ (A.whole = true ∧ A.cells.length = 1) ∧ (B.whole = true ∧ B.cells.length = 1) ∧ (∀ x q, h.next ≤ q → zA4 (zA5 h.ents p x) q = none) :=
 ⟨S.g, fun x => zA6 S.g, fun m hm => S.nc.drop hm, fun x m hm => S.nc.setP.drop hm, fun m hm => zAl (S.f.1.le hm), fun q hq => zAx S.f.1 hq, fun q hq => zC4 S.f.2 hq, S.wA, S.wB, fun x q hq => zAx S.f.1.set hq⟩
theorem zC9 (S : CU n0 E0 p s a A B acc bad h) {d : Nat} (hl : s.length < 100000) (x : UInt8) (hx : s[a]? = some x) {K : KT} (hk : ∀ h', CU n0 E0 p s (a + 1) A B acc bad h' → h.next ≤ h'.next → K (.int .u8 (x.toNat : Int)) h') {n : Nat} (hn : h.next ≤ n := by (try dsimp only); omega) : Wc tree.getF 71 [.ptr p d 0] ⟨h.ents, n, h.tys⟩ K :=
 cn_some s a A B bad S.wA S.wB hl x hx (a : Int) rfl (fun n' g => by
  have := S.put (a + 1) bad (n := n') (Nat.le_trans hn g)
  have e : ((a + 1 : Nat) : Int) = (a : Int) + 1 := by omega
  rw [e] at this
  exact hk _ this (Nat.le_trans hn g)) (S.up hn).f S.g (Nat.lt_of_lt_of_le S.lp hn)
theorem n_none (S : CU n0 E0 p s a A B acc bad h) {d : Nat} (hl : s.length < 100000) (hx : s.length ≤ a) {K : KT} (hk : ∀ h', CU n0 E0 p s a A B acc true h' → h.next ≤ h'.next → K (.int .u8 0) h') {n : Nat} (hn : h.next ≤ n := by (try dsimp only); omega) : Wc tree.getF 71 [.ptr p d 0] ⟨h.ents, n, h.tys⟩ K :=
 cn_none s a A B bad S.wA S.wB hl hx (a : Int) rfl (fun n' g => hk _ (S.put a true (Nat.le_trans hn g)) (Nat.le_trans hn g)) (S.up hn).f S.g (Nat.lt_of_lt_of_le S.lp hn)
theorem n_unit (S : CU n0 E0 p s a A B acc bad h) {d : Nat} (hl : s.length < 100000) {K : KT} (hk : ∀ h', CU n0 E0 p s (itU s 4 (a, bad, 0)).1 A B acc (itU s 4 (a, bad, 0)).2.1 h' → h.next ≤ h'.next → K (.int .u32 ((itU s 4 (a, bad, 0)).2.2 : Nat)) h') {n : Nat} (hn : h.next ≤ n := by (try dsimp only); omega) : Wc tree.getF 91 [.ptr p d 0] ⟨h.ents, n, h.tys⟩ K :=
 unit_F s a A B bad S.wA S.wB hl (a : Int) rfl (fun n' g => hk _ (S.put _ _ (Nat.le_trans hn g)) (Nat.le_trans hn g)) (S.up hn).f S.g (Nat.lt_of_lt_of_le S.lp hn)
theorem n_pe (S : CU n0 E0 p s a A B acc bad h) {f : Nat} {ar : List CVal} {v : CVal} (H : Pe f ar v) {K : KT} (hk : ∀ h', CU n0 E0 p s a A B acc bad h' → h.next ≤ h'.next → K v h') {n : Nat} (hn : h.next ≤ n := by (try dsimp only); omega) : Wc tree.getF f ar ⟨h.ents, n, h.tys⟩ K :=
 H _ (S.up hn).f K fun n' g => hk _ (S.up (Nat.le_trans hn g)) (Nat.le_trans hn g)
theorem wb_0 (S : CU n0 E0 p s a A B [] bad h) (x : UInt8) {K : KT} (hk : ∀ A' B' h', CU n0 E0 p s a A' B' [x] bad h' → h.next ≤ h'.next → K (.nili) h') {n : Nat} (hn : h.next ≤ n := by (try dsimp only); omega) : Wc tree.getF 40 [.ptr p 106954757 2, .int .u8 (x.toNat : Int)] ⟨h.ents, n, h.tys⟩ K := by
 obtain ⟨rfl, rfl⟩ : A = .nilp ∧ B = .nils := by
  rcases S.b with ⟨_, h1, h2⟩ | ⟨r, v, h1, _⟩
  · exact ⟨h1, h2⟩
  · exact absurd rfl h1
 have hZ := S.z
 have hlp := S.lp
 refine Wc.mkG 40 c40 (by kernel_rfl) rfl ?_
 generalize e : zAa .. = r
 simp (disch := omega) [c40] at e
 subst e
 repeat (first | refine st_ rfl ?_ | ((first | refine rg_ ?_ | refine go_ ?_); refine gw_ (by simp (disch := omega) [hZ, zB5, List.map_append, List.length_append, List.length_map, List.map_cons, List.length_cons, c40]; rfl) ?_) | (refine Wc.primM (f := 66) (p := (zB9 [(106954757, 2), (63963138, 0)])) (by kernel_rfl) ?_; generalize e : (zB9 [(106954757, 2), (63963138, 0)]) _ _ = r; simp (disch := omega) [hZ, zB5, List.map_append, List.length_append, List.length_map, List.map_cons, List.length_cons, c40] at e; subst e; (try dsimp only); refine ⟨rfl, ?_⟩) | ((first | (refine W.ret ?_; (try simp only [zAb, zA0, zA8]); refine endW.of (.inl rfl) rfl ?_) | refine endW.of (.inr rfl) rfl ?_); generalize e : zAc .. = r; simp (disch := omega) [hZ, zB5, List.map_append, List.length_append, List.length_map, List.map_cons, List.length_cons, c40] at e; subst e; (refine hk _ _ _ (S.app0 (x := [x]) (by simp) ?_ ?_) ?_; omega; omega; ((try dsimp only); omega))))
theorem wb_1 (S : CU n0 E0 p s a A B acc bad h) (hac : acc ≠ []) (hal : acc.length < 100000) (x : UInt8) {K : KT} (hk : ∀ A' B' h', CU n0 E0 p s a A' B' (acc ++ [x]) bad h' → h.next ≤ h'.next → K (.nili) h') {n : Nat} (hn : h.next ≤ n := by (try dsimp only); omega) : Wc tree.getF 40 [.ptr p 106954757 2, .int .u8 (x.toNat : Int)] ⟨h.ents, n, h.tys⟩ K := by
 obtain ⟨r, v, _, rfl, rfl, hr, hpr, hty⟩ : ∃ r v, acc ≠ [] ∧ A = .ptr p 106954757 2 ∧ B = .ref r v 1 0 acc.length ∧ zA4 h.ents r = some (.row v (acc.map bv)) ∧ p < r ∧ zBs h.tys r = some 5 := by
  rcases S.b with ⟨h1, _⟩ | h1
  · exact absurd h1 hac
  · exact h1
 have hZ := S.z
 have hlp := S.lp
 have htk : List.take acc.length (acc.map bv) = acc.map bv := List.take_of_length_le (by simp)
 have htk0 : ¬ acc.length = 0 := fun e => hac (List.length_eq_zero_iff.1 e)
 have hgr : ∀ x, zA4 (zA5 h.ents r x) r = some x := fun x => zA6 hr
 have hgp : ∀ x, zA4 (zA5 h.ents r x) p = zA4 h.ents p := fun x => zA7 (by omega)
 have hnd : ∀ x9 y9 m, p < m → zAe (zA5 (zA5 h.ents r (.row x9 y9)) p (cu s (a : Int) (.ptr p 106954757 2) (.ref r (v + 1) 1 0 (acc.length + 1)) bad)) m = zA5 (zA5 h.ents r (.row x9 y9)) p (cu s (a : Int) (.ptr p 106954757 2) (.ref r (v + 1) 1 0 (acc.length + 1)) bad) := fun x9 y9 m hm => S.nc.setR.setP.drop hm
 refine Wc.mkG 40 c40 (by kernel_rfl) rfl ?_
 generalize e : zAa .. = r
 simp (disch := omega) [c40] at e
 subst e
 repeat (first | refine st_ rfl ?_ | ((first | refine rg_ ?_ | refine go_ ?_); refine gw_ (by simp (disch := omega) [hZ, zB5, List.map_append, List.length_append, List.length_map, hr, hty, hgr, hgp, hnd, htk, htk0, List.map_cons, List.length_cons, c40]; rfl) ?_) | (refine Wc.primM (f := 66) (p := (zB9 [(106954757, 2), (63963138, 0)])) (by kernel_rfl) ?_; generalize e : (zB9 [(106954757, 2), (63963138, 0)]) _ _ = r; simp (disch := omega) [hZ, zB5, List.map_append, List.length_append, List.length_map, hr, hty, hgr, hgp, hnd, htk, htk0, List.map_cons, List.length_cons, c40] at e; subst e; (try dsimp only); refine ⟨rfl, ?_⟩) | ((first | (refine W.ret ?_; (try simp only [zAb, zA0, zA8]); refine endW.of (.inl rfl) rfl ?_) | refine endW.of (.inr rfl) rfl ?_); generalize e : zAc .. = r; simp (disch := omega) [hZ, zB5, List.map_append, List.length_append, List.length_map, hr, hty, hgr, hgp, hnd, htk, htk0, List.map_cons, List.length_cons, c40] at e; subst e; (refine hk _ _ _ (S.app1 (x := [x]) hac rfl rfl hr hpr hty (by simp [bv, CVal.bare]) ?_) ?_; omega; ((try dsimp only); omega))))
theorem ws_0 (S : CU n0 E0 p s a A B [] bad h) (x : UInt8) (xs : B8) (hxl : xs.length < 100) {K : KT} (hk : ∀ A' B' h', CU n0 E0 p s a A' B' (x :: xs) bad h' → h.next ≤ h'.next → K (.tup [.int .i64 ((xs.length : Int) + 1), .nili]) h') {n : Nat} (hn : h.next ≤ n := by (try dsimp only); omega) : Wc tree.getF 42 [.ptr p 106954757 2, .str (x :: xs)] ⟨h.ents, n, h.tys⟩ K := by
 obtain ⟨rfl, rfl⟩ : A = .nilp ∧ B = .nils := by
  rcases S.b with ⟨_, h1, h2⟩ | ⟨r, v, h1, _⟩
  · exact ⟨h1, h2⟩
  · exact absurd rfl h1
 have hZ := S.z
 have hlp := S.lp
 refine Wc.mkG 42 c42 (by kernel_rfl) rfl ?_
 generalize e : zAa .. = r
 simp (disch := omega) [c42] at e
 subst e
 repeat (first | refine st_ rfl ?_ | ((first | refine rg_ ?_ | refine go_ ?_); refine gw_ (by simp (disch := omega) [hZ, zB5, List.map_append, List.length_append, List.length_map, List.map_cons, List.length_cons, c42]; rfl) ?_) | (refine Wc.primM (f := 66) (p := (zB9 [(106954757, 2), (63963138, 0)])) (by kernel_rfl) ?_; generalize e : (zB9 [(106954757, 2), (63963138, 0)]) _ _ = r; simp (disch := omega) [hZ, zB5, List.map_append, List.length_append, List.length_map, List.map_cons, List.length_cons, c42] at e; subst e; (try dsimp only); refine ⟨rfl, ?_⟩) | ((first | (refine W.ret ?_; (try simp only [zAb, zA0, zA8]); refine endW.of (.inl rfl) rfl ?_) | refine endW.of (.inr rfl) rfl ?_); generalize e : zAc .. = r; simp (disch := omega) [hZ, zB5, List.map_append, List.length_append, List.length_map, List.map_cons, List.length_cons, c42] at e; subst e; (refine hk _ _ _ (S.app0 (x := (x :: xs)) (by simp) ?_ ?_) ?_; omega; omega; ((try dsimp only); omega))))
theorem ws_1 (S : CU n0 E0 p s a A B acc bad h) (hac : acc ≠ []) (hal : acc.length < 100000) (x : UInt8) (xs : B8) (hxl : xs.length < 100) {K : KT} (hk : ∀ A' B' h', CU n0 E0 p s a A' B' (acc ++ (x :: xs)) bad h' → h.next ≤ h'.next → K (.tup [.int .i64 ((xs.length : Int) + 1), .nili]) h') {n : Nat} (hn : h.next ≤ n := by (try dsimp only); omega) : Wc tree.getF 42 [.ptr p 106954757 2, .str (x :: xs)] ⟨h.ents, n, h.tys⟩ K := by
 obtain ⟨r, v, _, rfl, rfl, hr, hpr, hty⟩ : ∃ r v, acc ≠ [] ∧ A = .ptr p 106954757 2 ∧ B = .ref r v 1 0 acc.length ∧ zA4 h.ents r = some (.row v (acc.map bv)) ∧ p < r ∧ zBs h.tys r = some 5 := by
  rcases S.b with ⟨h1, _⟩ | h1
  · exact absurd h1 hac
  · exact h1
 have hZ := S.z
 have hlp := S.lp
 have htk : List.take acc.length (acc.map bv) = acc.map bv := List.take_of_length_le (by simp)
 have htk0 : ¬ acc.length = 0 := fun e => hac (List.length_eq_zero_iff.1 e)
 have hgr : ∀ x, zA4 (zA5 h.ents r x) r = some x := fun x => zA6 hr
 have hgp : ∀ x, zA4 (zA5 h.ents r x) p = zA4 h.ents p := fun x => zA7 (by omega)
 have hnd : ∀ x9 y9 m, p < m → zAe (zA5 (zA5 h.ents r (.row x9 y9)) p (cu s (a : Int) (.ptr p 106954757 2) (.ref r (v + 1) 1 0 (acc.length + (xs.length + 1))) bad)) m = zA5 (zA5 h.ents r (.row x9 y9)) p (cu s (a : Int) (.ptr p 106954757 2) (.ref r (v + 1) 1 0 (acc.length + (xs.length + 1))) bad) := fun x9 y9 m hm => S.nc.setR.setP.drop hm
 refine Wc.mkG 42 c42 (by kernel_rfl) rfl ?_
 generalize e : zAa .. = r
 simp (disch := omega) [c42] at e
 subst e
 repeat (first | refine st_ rfl ?_ | ((first | refine rg_ ?_ | refine go_ ?_); refine gw_ (by simp (disch := omega) [hZ, zB5, List.map_append, List.length_append, List.length_map, hr, hty, hgr, hgp, hnd, htk, htk0, List.map_cons, List.length_cons, c42]; rfl) ?_) | (refine Wc.primM (f := 66) (p := (zB9 [(106954757, 2), (63963138, 0)])) (by kernel_rfl) ?_; generalize e : (zB9 [(106954757, 2), (63963138, 0)]) _ _ = r; simp (disch := omega) [hZ, zB5, List.map_append, List.length_append, List.length_map, hr, hty, hgr, hgp, hnd, htk, htk0, List.map_cons, List.length_cons, c42] at e; subst e; (try dsimp only); refine ⟨rfl, ?_⟩) | ((first | (refine W.ret ?_; (try simp only [zAb, zA0, zA8]); refine endW.of (.inl rfl) rfl ?_) | refine endW.of (.inr rfl) rfl ?_); generalize e : zAc .. = r; simp (disch := omega) [hZ, zB5, List.map_append, List.length_append, List.length_map, hr, hty, hgr, hgp, hnd, htk, htk0, List.map_cons, List.length_cons, c42] at e; subst e; (refine hk _ _ _ (S.app1 (x := (x :: xs)) hac rfl rfl hr hpr hty (by simp [bv, CVal.bare]) ?_) ?_; omega; ((try dsimp only); omega))))
end Go.Proofs.YtdanefpnfnippaaGreatDoor.IrJ
namespace Go.Proofs.YtdanefpnfnippaaGreatDoor.IrJ
open Go Go.CI
set_option maxRecDepth 100000
set_option maxHeartbeats 4000000
set_option linter.unusedVariables false
set_option linter.unusedSimpArgs false
attribute [local irreducible] W Wo Wc WoR
theorem itU_bad (s : B8) : ∀ (m : Nat) (t : Nat × Bool × Nat), t.2.1 = true → (itU s m t).2.1 = true
 | 0, t, h => h
 | m + 1, t, h => by
  refine itU_bad s m (stU s t) ?_
  obtain ⟨a, b, u⟩ := t
  simp only [stU]
  split
  · rfl
  · split
    · exact h
    · rfl
theorem itU_le (s : B8) : ∀ (m : Nat) (t : Nat × Bool × Nat), t.1 ≤ s.length → t.1 ≤ (itU s m t).1 ∧ (itU s m t).1 ≤ s.length
 | 0, t, h => ⟨Nat.le_refl _, h⟩
 | m + 1, t, h => by
  have h1 : t.1 ≤ (stU s t).1 ∧ (stU s t).1 ≤ s.length := by
   obtain ⟨a, b, u⟩ := t
   simp only [stU]
   split
   · exact ⟨Nat.le_refl _, h⟩
   · rename_i x hx
     have hlt := (List.getElem?_eq_some_iff.1 hx).1
     split
     · exact ⟨Nat.le_succ _, hlt⟩
     · exact ⟨Nat.le_succ _, hlt⟩
  have h2 := itU_le s m (stU s t) h1.2
  exact ⟨Nat.le_trans h1.1 h2.1, h2.2⟩
theorem itU_u (s : B8) : ∀ (m : Nat) (t : Nat × Bool × Nat) (n : Nat), t.2.2 < n → (itU s m t).2.2 < n * 16 ^ m
 | 0, t, n, h => by simpa [itU] using h
 | m + 1, t, n, h => by
  have := itU_u s m (stU s t) (n * 16) (stU_u s t n h)
  rw [Nat.pow_succ, Nat.mul_comm (16 ^ m) 16, ← Nat.mul_assoc]
  exact this
def zBq : B8 → Option Nat
 | x0 :: x1 :: x2 :: x3 :: _ => match hexV x0, hexV x1, hexV x2, hexV x3 with
  | some v0, some v1, some v2, some v3 => some (((v0 * 16 + v1) * 16 + v2) * 16 + v3)
  | _, _, _, _ => none
 | _ => none
theorem stU_at {s t : B8} {a : Nat} {x : UInt8} (h : s.drop a = x :: t) (b : Bool) (u : Nat) : stU s (a, b, u) = match hexV x with | some v => (a + 1, b, u * 16 + v) | none => (a + 1, true, u * 16 + 15) := by
 have : s[a]? = some x := by rw [← Nat.add_zero a, ← List.getElem?_drop, h]; rfl
 simp only [stU, this]
 try (cases hexV x <;> rfl)
theorem stU_end {s : B8} {a : Nat} (h : s.drop a = []) (b : Bool) (u : Nat) : stU s (a, b, u) = (a, true, u * 16 + 15) := by
 have : s[a]? = none := by rw [← Nat.add_zero a, ← List.getElem?_drop, h]; rfl
 simp only [stU, this]
theorem drop_next {s t : B8} {a : Nat} {x : UInt8} (h : s.drop a = x :: t) : s.drop (a + 1) = t := by rw [← List.drop_drop, h]; rfl
theorem itU_4 (s : B8) (a : Nat) : match zBq (s.drop a) with | some u => itU s 4 (a, false, 0) = (a + 4, false, u) | none => (itU s 4 (a, false, 0)).2.1 = true := by
 show match zBq (s.drop a) with | some u => itU s 3 (stU s (a, false, 0)) = (a + 4, false, u) | none => (itU s 3 (stU s (a, false, 0))).2.1 = true
 cases e0 : s.drop a with
 | nil => rw [stU_end e0]; exact itU_bad s 3 _ rfl
 | cons x0 t0 =>
  rw [stU_at e0]
  have d1 := drop_next e0
  cases h0 : hexV x0 with
  | none =>
   have : zBq (x0 :: t0) = none := by
    match t0 with
    | [] => rfl
    | [_] => rfl
    | [_, _] => rfl
    | _ :: _ :: _ :: _ => simp only [zBq, h0]
   rw [this]; exact itU_bad s 3 _ rfl
  | some v0 =>
   dsimp only
   show match zBq (x0 :: t0) with | some u => itU s 2 (stU s (a + 1, false, 0 * 16 + v0)) = (a + 4, false, u) | none => (itU s 2 (stU s (a + 1, false, 0 * 16 + v0))).2.1 = true
   cases t0 with
   | nil => rw [stU_end d1]; exact itU_bad s 2 _ rfl
   | cons x1 t1 =>
    rw [stU_at d1]
    have d2 := drop_next d1
    cases h1 : hexV x1 with
    | none =>
     have : zBq (x0 :: x1 :: t1) = none := by
      match t1 with
      | [] => rfl
      | [_] => rfl
      | _ :: _ :: _ => simp only [zBq, h0, h1]
     rw [this]; exact itU_bad s 2 _ rfl
    | some v1 =>
     dsimp only
     show match zBq (x0 :: x1 :: t1) with | some u => itU s 1 (stU s (a + 1 + 1, false, (0 * 16 + v0) * 16 + v1)) = (a + 4, false, u) | none => (itU s 1 (stU s (a + 1 + 1, false, (0 * 16 + v0) * 16 + v1))).2.1 = true
     cases t1 with
     | nil => rw [stU_end d2]; exact itU_bad s 1 _ rfl
     | cons x2 t2 =>
      rw [stU_at d2]
      have d3 := drop_next d2
      cases h2 : hexV x2 with
      | none =>
       have : zBq (x0 :: x1 :: x2 :: t2) = none := by
        match t2 with
        | [] => rfl
        | _ :: _ => simp only [zBq, h0, h1, h2]
       rw [this]; exact itU_bad s 1 _ rfl
      | some v2 =>
       dsimp only
       show match zBq (x0 :: x1 :: x2 :: t2) with | some u => stU s (a + 1 + 1 + 1, false, ((0 * 16 + v0) * 16 + v1) * 16 + v2) = (a + 4, false, u) | none => (stU s (a + 1 + 1 + 1, false, ((0 * 16 + v0) * 16 + v1) * 16 + v2)).2.1 = true
       cases t2 with
       | nil => rw [stU_end d3]; rfl
       | cons x3 t3 =>
        rw [stU_at d3]
        cases h3 : hexV x3 with
        | none => simp only [zBq, h0, h1, h2, h3]
        | some v3 => simp only [zBq, h0, h1, h2, h3, Nat.zero_mul, Nat.zero_add]
def escV : B8 → Option (B8 × Nat)
 | [] => none
 | x :: r =>
  if x = 34 then some ([34], 1) else if x = 92 then some ([92], 1) else if x = 98 then some ([8], 1) else if x = 102 then some ([12], 1) else if x = 110 then some ([10], 1) else if x = 114 then some ([13], 1) else if x = 116 then some ([9], 1)
  else if x = 47 then some ([47], 1) else if x = 117 then
   match zBq r with
   | none => none
   | some u => if 55296 ≤ u ∧ u < 56320 then (if (r.drop 4).take 2 = [92, 117] then (match zBq (r.drop 6) with
         | none => none
         | some v => if 56320 ≤ v ∧ v < 57344 then some (putB (65536 + (u - 55296) * 1024 + (v - 56320)), 11) else none) else none)
    else if 56320 ≤ u ∧ u < 57344 then none else some (putB u, 5)
  else none
theorem putB_cons (x : Nat) : ∃ c cs, putB x = c :: cs ∧ cs.length < 4 := by
 unfold putB
 split
 · exact ⟨_, _, rfl, by simp⟩
 · split
   · exact ⟨_, _, rfl, by simp⟩
   · split
     · exact ⟨_, _, rfl, by simp⟩
     · split
       · exact ⟨_, _, rfl, by simp⟩
       · exact ⟨_, _, rfl, by simp⟩
variable {n0 : Nat} {E0 : EE} {p : Nat} {s : B8} {a : Nat} {A B : CVal} {acc : B8} {bad : Bool} {h : CHeap}
theorem n_wb (S : CU n0 E0 p s a A B acc bad h) (hal : acc.length < 100000) (x : UInt8) {K : KT} (hk : ∀ A' B' h', CU n0 E0 p s a A' B' (acc ++ [x]) bad h' → h.next ≤ h'.next → K .nili h') {y : Int} (hy : y = (x.toNat : Int)) {n : Nat} (hn : h.next ≤ n := by (try dsimp only); omega) : Wc tree.getF 40 [.ptr p 106954757 2, .int .u8 y] ⟨h.ents, n, h.tys⟩ K := by
 subst hy
 by_cases he : acc = []
 · subst he; exact wb_0 S x hk hn
 · exact wb_1 S he hal x hk hn
theorem n_ws (S : CU n0 E0 p s a A B acc bad h) (hal : acc.length < 100000) (x : Nat) {K : KT} (hk : ∀ A' B' v h', CU n0 E0 p s a A' B' (acc ++ putB x) bad h' → h.next ≤ h'.next → K (.tup [.int .i64 v, .nili]) h') {n : Nat} (hn : h.next ≤ n := by (try dsimp only); omega) : Wc tree.getF 42 [.ptr p 106954757 2, .str (putB x)] ⟨h.ents, n, h.tys⟩ K := by
 obtain ⟨c, cs, e, hc⟩ := putB_cons x
 rw [e] at hk ⊢
 by_cases he : acc = []
 · subst he; exact ws_0 S c cs (by omega) (fun A' B' h' S' g => hk A' B' _ h' S' g) hn
 · exact ws_1 S he hal c cs (by omega) (fun A' B' h' S' g => hk A' B' _ h' S' g) hn
theorem hp0_F (t q : B8) (v : Bool) (hv : (decide (q.length ≤ t.length) && (t.take q.length == q)) = v) : Pe 93 [.str t, .str q] (.bool v) := fun h hf K hk => zDb t q v hv h hf.1 K hk
theorem hp_F (t q : B8) (v : Bool) (hv : (decide (q.length ≤ t.length) && (t.take q.length == q)) = v) : Pe 92 [.str t, .str q] (.bool v) := by
 intro h hf K hk
 obtain ⟨hu, hut, hX⟩ := fx4 hf
 refine Wc.mkG 92 c92 (by kernel_rfl) rfl ?_
 generalize e : zAa .. = r
 simp (disch := omega) [c92] at e
 subst e
 repeat (first | refine st_ rfl ?_ | ((first | refine rg_ ?_ | refine go_ ?_); refine gw_ (by simp (disch := omega) [hX, c92]; rfl) ?_) | (refine W.loop ?_; try (generalize e : dropped .. = r; simp (disch := omega) [hX, c92] at e; subst e; try dsimp only)) | (refine pe_ (hp0_F t q v hv) fun _ g => ⟨rfl, ?_⟩; try dsimp only at g) | ((first | (refine W.ret ?_; (try simp only [zAb, zA0, zA8]); refine endW.of (.inl rfl) rfl ?_) | refine endW.of (.inr rfl) rfl ?_); generalize e : zAc .. = r; simp (disch := omega) [hX, c92] at e; subst e; (refine hk _ ?_; omega)))
theorem es_none (S : CU n0 E0 p s a A B acc false h) (hl : s.length < 100000) (hal : acc.length < 90000) (hx : s.length ≤ a) {K : KT} (hk : ∀ a' A' B' acc' h', CU n0 E0 p s a' A' B' acc' true h' → acc'.length ≤ acc.length + 4 → h.next ≤ h'.next → K (.tup []) h') {n : Nat} (hn : h.next ≤ n := by (try dsimp only); omega) : Wc tree.getF 72 [.ptr p 106954757 0] ⟨h.ents, n, h.tys⟩ K := by
 have hZ := S.z
 have hlp := S.lp
 refine Wc.mkG 72 c72 (by kernel_rfl) rfl ?_
 generalize e : zAa .. = r
 simp (disch := omega) [c72] at e
 subst e
 repeat (first | refine st_ rfl ?_ | ((first | refine rg_ ?_ | refine go_ ?_); refine gw_ (by simp (disch := omega) [hZ, c72]; rfl) ?_) | (refine n_none S hl hx fun _ S g => ⟨rfl, ?_⟩; (try dsimp only at g); have hZ := S.z; have hlp := S.lp) | (refine n_pe S (ib_F [34, 92, 98, 102, 110, 114, 116] 0 (-1) (by omega) (by kernel_rfl) (by decide)) fun _ S g => ⟨rfl, ?_⟩; (try dsimp only at g); have hZ := S.z; have hlp := S.lp) | ((first | (refine W.ret ?_; (try simp only [zAb, zA0, zA8]); refine endW.of (.inl rfl) rfl ?_) | refine endW.of (.inr rfl) rfl ?_); generalize e : zAc .. = r; simp (disch := omega) [hZ, c72] at e; subst e; ((refine hk _ _ _ _ _ (S.put _ true ?_) ?_ ?_; ((try dsimp only); omega); omega; ((try dsimp only); omega)))))
theorem es_34 (S : CU n0 E0 p s a A B acc false h) (hl : s.length < 100000) (hal : acc.length < 90000) (hx0 : s[a]? = some 34) {K : KT} (hk : ∀ A' B' h', CU n0 E0 p s (a + 1) A' B' (acc ++ [34]) false h' → h.next ≤ h'.next → K (.tup []) h') {n : Nat} (hn : h.next ≤ n := by (try dsimp only); omega) : Wc tree.getF 72 [.ptr p 106954757 0] ⟨h.ents, n, h.tys⟩ K := by
 have hZ := S.z
 have hlp := S.lp
 refine Wc.mkG 72 c72 (by kernel_rfl) rfl ?_
 generalize e : zAa .. = r
 simp (disch := omega) [c72] at e
 subst e
 repeat (first | refine st_ rfl ?_ | ((first | refine rg_ ?_ | refine go_ ?_); refine gw_ (by simp (disch := omega) [hZ, c72]; rfl) ?_) | (refine zC9 S hl 34 hx0 fun _ S g => ⟨rfl, ?_⟩; (try dsimp only at g); have hZ := S.z; have hlp := S.lp) | (refine n_pe S (ib_F [34, 92, 98, 102, 110, 114, 116] 34 0 (by omega) (by kernel_rfl) (by decide)) fun _ S g => ⟨rfl, ?_⟩; (try dsimp only at g); have hZ := S.z; have hlp := S.lp) | (refine n_wb S (by omega) 34 (hy := rfl) (hk := fun _ _ _ S g => ⟨rfl, ?_⟩); (try dsimp only at g); have hZ := S.z; have hlp := S.lp) | ((first | (refine W.ret ?_; (try simp only [zAb, zA0, zA8]); refine endW.of (.inl rfl) rfl ?_) | refine endW.of (.inr rfl) rfl ?_); generalize e : zAc .. = r; simp (disch := omega) [hZ, c72] at e; subst e; (refine hk _ _ _ S ?_; (try dsimp only); omega)))
theorem es_92 (S : CU n0 E0 p s a A B acc false h) (hl : s.length < 100000) (hal : acc.length < 90000) (hx0 : s[a]? = some 92) {K : KT} (hk : ∀ A' B' h', CU n0 E0 p s (a + 1) A' B' (acc ++ [92]) false h' → h.next ≤ h'.next → K (.tup []) h') {n : Nat} (hn : h.next ≤ n := by (try dsimp only); omega) : Wc tree.getF 72 [.ptr p 106954757 0] ⟨h.ents, n, h.tys⟩ K := by
 have hZ := S.z
 have hlp := S.lp
 refine Wc.mkG 72 c72 (by kernel_rfl) rfl ?_
 generalize e : zAa .. = r
 simp (disch := omega) [c72] at e
 subst e
 repeat (first | refine st_ rfl ?_ | ((first | refine rg_ ?_ | refine go_ ?_); refine gw_ (by simp (disch := omega) [hZ, c72]; rfl) ?_) | (refine zC9 S hl 92 hx0 fun _ S g => ⟨rfl, ?_⟩; (try dsimp only at g); have hZ := S.z; have hlp := S.lp) | (refine n_pe S (ib_F [34, 92, 98, 102, 110, 114, 116] 92 1 (by omega) (by kernel_rfl) (by decide)) fun _ S g => ⟨rfl, ?_⟩; (try dsimp only at g); have hZ := S.z; have hlp := S.lp) | (refine n_wb S (by omega) 92 (hy := rfl) (hk := fun _ _ _ S g => ⟨rfl, ?_⟩); (try dsimp only at g); have hZ := S.z; have hlp := S.lp) | ((first | (refine W.ret ?_; (try simp only [zAb, zA0, zA8]); refine endW.of (.inl rfl) rfl ?_) | refine endW.of (.inr rfl) rfl ?_); generalize e : zAc .. = r; simp (disch := omega) [hZ, c72] at e; subst e; (refine hk _ _ _ S ?_; (try dsimp only); omega)))
theorem es_98 (S : CU n0 E0 p s a A B acc false h) (hl : s.length < 100000) (hal : acc.length < 90000) (hx0 : s[a]? = some 98) {K : KT} (hk : ∀ A' B' h', CU n0 E0 p s (a + 1) A' B' (acc ++ [8]) false h' → h.next ≤ h'.next → K (.tup []) h') {n : Nat} (hn : h.next ≤ n := by (try dsimp only); omega) : Wc tree.getF 72 [.ptr p 106954757 0] ⟨h.ents, n, h.tys⟩ K := by
 have hZ := S.z
 have hlp := S.lp
 refine Wc.mkG 72 c72 (by kernel_rfl) rfl ?_
 generalize e : zAa .. = r
 simp (disch := omega) [c72] at e
 subst e
 repeat (first | refine st_ rfl ?_ | ((first | refine rg_ ?_ | refine go_ ?_); refine gw_ (by simp (disch := omega) [hZ, c72]; rfl) ?_) | (refine zC9 S hl 98 hx0 fun _ S g => ⟨rfl, ?_⟩; (try dsimp only at g); have hZ := S.z; have hlp := S.lp) | (refine n_pe S (ib_F [34, 92, 98, 102, 110, 114, 116] 98 2 (by omega) (by kernel_rfl) (by decide)) fun _ S g => ⟨rfl, ?_⟩; (try dsimp only at g); have hZ := S.z; have hlp := S.lp) | (refine n_wb S (by omega) 8 (hy := rfl) (hk := fun _ _ _ S g => ⟨rfl, ?_⟩); (try dsimp only at g); have hZ := S.z; have hlp := S.lp) | ((first | (refine W.ret ?_; (try simp only [zAb, zA0, zA8]); refine endW.of (.inl rfl) rfl ?_) | refine endW.of (.inr rfl) rfl ?_); generalize e : zAc .. = r; simp (disch := omega) [hZ, c72] at e; subst e; (refine hk _ _ _ S ?_; (try dsimp only); omega)))
theorem es_102 (S : CU n0 E0 p s a A B acc false h) (hl : s.length < 100000) (hal : acc.length < 90000) (hx0 : s[a]? = some 102) {K : KT} (hk : ∀ A' B' h', CU n0 E0 p s (a + 1) A' B' (acc ++ [12]) false h' → h.next ≤ h'.next → K (.tup []) h') {n : Nat} (hn : h.next ≤ n := by (try dsimp only); omega) : Wc tree.getF 72 [.ptr p 106954757 0] ⟨h.ents, n, h.tys⟩ K := by
 have hZ := S.z
 have hlp := S.lp
 refine Wc.mkG 72 c72 (by kernel_rfl) rfl ?_
 generalize e : zAa .. = r
 simp (disch := omega) [c72] at e
 subst e
 repeat (first | refine st_ rfl ?_ | ((first | refine rg_ ?_ | refine go_ ?_); refine gw_ (by simp (disch := omega) [hZ, c72]; rfl) ?_) | (refine zC9 S hl 102 hx0 fun _ S g => ⟨rfl, ?_⟩; (try dsimp only at g); have hZ := S.z; have hlp := S.lp) | (refine n_pe S (ib_F [34, 92, 98, 102, 110, 114, 116] 102 3 (by omega) (by kernel_rfl) (by decide)) fun _ S g => ⟨rfl, ?_⟩; (try dsimp only at g); have hZ := S.z; have hlp := S.lp) | (refine n_wb S (by omega) 12 (hy := rfl) (hk := fun _ _ _ S g => ⟨rfl, ?_⟩); (try dsimp only at g); have hZ := S.z; have hlp := S.lp) | ((first | (refine W.ret ?_; (try simp only [zAb, zA0, zA8]); refine endW.of (.inl rfl) rfl ?_) | refine endW.of (.inr rfl) rfl ?_); generalize e : zAc .. = r; simp (disch := omega) [hZ, c72] at e; subst e; (refine hk _ _ _ S ?_; (try dsimp only); omega)))
theorem es_110 (S : CU n0 E0 p s a A B acc false h) (hl : s.length < 100000) (hal : acc.length < 90000) (hx0 : s[a]? = some 110) {K : KT} (hk : ∀ A' B' h', CU n0 E0 p s (a + 1) A' B' (acc ++ [10]) false h' → h.next ≤ h'.next → K (.tup []) h') {n : Nat} (hn : h.next ≤ n := by (try dsimp only); omega) : Wc tree.getF 72 [.ptr p 106954757 0] ⟨h.ents, n, h.tys⟩ K := by
 have hZ := S.z
 have hlp := S.lp
 refine Wc.mkG 72 c72 (by kernel_rfl) rfl ?_
 generalize e : zAa .. = r
 simp (disch := omega) [c72] at e
 subst e
 repeat (first | refine st_ rfl ?_ | ((first | refine rg_ ?_ | refine go_ ?_); refine gw_ (by simp (disch := omega) [hZ, c72]; rfl) ?_) | (refine zC9 S hl 110 hx0 fun _ S g => ⟨rfl, ?_⟩; (try dsimp only at g); have hZ := S.z; have hlp := S.lp) | (refine n_pe S (ib_F [34, 92, 98, 102, 110, 114, 116] 110 4 (by omega) (by kernel_rfl) (by decide)) fun _ S g => ⟨rfl, ?_⟩; (try dsimp only at g); have hZ := S.z; have hlp := S.lp) | (refine n_wb S (by omega) 10 (hy := rfl) (hk := fun _ _ _ S g => ⟨rfl, ?_⟩); (try dsimp only at g); have hZ := S.z; have hlp := S.lp) | ((first | (refine W.ret ?_; (try simp only [zAb, zA0, zA8]); refine endW.of (.inl rfl) rfl ?_) | refine endW.of (.inr rfl) rfl ?_); generalize e : zAc .. = r; simp (disch := omega) [hZ, c72] at e; subst e; (refine hk _ _ _ S ?_; (try dsimp only); omega)))
theorem es_114 (S : CU n0 E0 p s a A B acc false h) (hl : s.length < 100000) (hal : acc.length < 90000) (hx0 : s[a]? = some 114) {K : KT} (hk : ∀ A' B' h', CU n0 E0 p s (a + 1) A' B' (acc ++ [13]) false h' → h.next ≤ h'.next → K (.tup []) h') {n : Nat} (hn : h.next ≤ n := by (try dsimp only); omega) : Wc tree.getF 72 [.ptr p 106954757 0] ⟨h.ents, n, h.tys⟩ K := by
 have hZ := S.z
 have hlp := S.lp
 refine Wc.mkG 72 c72 (by kernel_rfl) rfl ?_
 generalize e : zAa .. = r
 simp (disch := omega) [c72] at e
 subst e
 repeat (first | refine st_ rfl ?_ | ((first | refine rg_ ?_ | refine go_ ?_); refine gw_ (by simp (disch := omega) [hZ, c72]; rfl) ?_) | (refine zC9 S hl 114 hx0 fun _ S g => ⟨rfl, ?_⟩; (try dsimp only at g); have hZ := S.z; have hlp := S.lp) | (refine n_pe S (ib_F [34, 92, 98, 102, 110, 114, 116] 114 5 (by omega) (by kernel_rfl) (by decide)) fun _ S g => ⟨rfl, ?_⟩; (try dsimp only at g); have hZ := S.z; have hlp := S.lp) | (refine n_wb S (by omega) 13 (hy := rfl) (hk := fun _ _ _ S g => ⟨rfl, ?_⟩); (try dsimp only at g); have hZ := S.z; have hlp := S.lp) | ((first | (refine W.ret ?_; (try simp only [zAb, zA0, zA8]); refine endW.of (.inl rfl) rfl ?_) | refine endW.of (.inr rfl) rfl ?_); generalize e : zAc .. = r; simp (disch := omega) [hZ, c72] at e; subst e; (refine hk _ _ _ S ?_; (try dsimp only); omega)))
theorem es_116 (S : CU n0 E0 p s a A B acc false h) (hl : s.length < 100000) (hal : acc.length < 90000) (hx0 : s[a]? = some 116) {K : KT} (hk : ∀ A' B' h', CU n0 E0 p s (a + 1) A' B' (acc ++ [9]) false h' → h.next ≤ h'.next → K (.tup []) h') {n : Nat} (hn : h.next ≤ n := by (try dsimp only); omega) : Wc tree.getF 72 [.ptr p 106954757 0] ⟨h.ents, n, h.tys⟩ K := by
 have hZ := S.z
 have hlp := S.lp
 refine Wc.mkG 72 c72 (by kernel_rfl) rfl ?_
 generalize e : zAa .. = r
 simp (disch := omega) [c72] at e
 subst e
 repeat (first | refine st_ rfl ?_ | ((first | refine rg_ ?_ | refine go_ ?_); refine gw_ (by simp (disch := omega) [hZ, c72]; rfl) ?_) | (refine zC9 S hl 116 hx0 fun _ S g => ⟨rfl, ?_⟩; (try dsimp only at g); have hZ := S.z; have hlp := S.lp) | (refine n_pe S (ib_F [34, 92, 98, 102, 110, 114, 116] 116 6 (by omega) (by kernel_rfl) (by decide)) fun _ S g => ⟨rfl, ?_⟩; (try dsimp only at g); have hZ := S.z; have hlp := S.lp) | (refine n_wb S (by omega) 9 (hy := rfl) (hk := fun _ _ _ S g => ⟨rfl, ?_⟩); (try dsimp only at g); have hZ := S.z; have hlp := S.lp) | ((first | (refine W.ret ?_; (try simp only [zAb, zA0, zA8]); refine endW.of (.inl rfl) rfl ?_) | refine endW.of (.inr rfl) rfl ?_); generalize e : zAc .. = r; simp (disch := omega) [hZ, c72] at e; subst e; (refine hk _ _ _ S ?_; (try dsimp only); omega)))
theorem es_47 (S : CU n0 E0 p s a A B acc false h) (hl : s.length < 100000) (hal : acc.length < 90000) (hx0 : s[a]? = some 47) {K : KT} (hk : ∀ A' B' h', CU n0 E0 p s (a + 1) A' B' (acc ++ [47]) false h' → h.next ≤ h'.next → K (.tup []) h') {n : Nat} (hn : h.next ≤ n := by (try dsimp only); omega) : Wc tree.getF 72 [.ptr p 106954757 0] ⟨h.ents, n, h.tys⟩ K := by
 have hZ := S.z
 have hlp := S.lp
 refine Wc.mkG 72 c72 (by kernel_rfl) rfl ?_
 generalize e : zAa .. = r
 simp (disch := omega) [c72] at e
 subst e
 repeat (first | refine st_ rfl ?_ | ((first | refine rg_ ?_ | refine go_ ?_); refine gw_ (by simp (disch := omega) [hZ, c72]; rfl) ?_) | (refine zC9 S hl 47 hx0 fun _ S g => ⟨rfl, ?_⟩; (try dsimp only at g); have hZ := S.z; have hlp := S.lp) | (refine n_pe S (ib_F [34, 92, 98, 102, 110, 114, 116] 47 (-1) (by omega) (by kernel_rfl) (by decide)) fun _ S g => ⟨rfl, ?_⟩; (try dsimp only at g); have hZ := S.z; have hlp := S.lp) | (refine n_wb S (by omega) 47 (hy := rfl) (hk := fun _ _ _ S g => ⟨rfl, ?_⟩); (try dsimp only at g); have hZ := S.z; have hlp := S.lp) | ((first | (refine W.ret ?_; (try simp only [zAb, zA0, zA8]); refine endW.of (.inl rfl) rfl ?_) | refine endW.of (.inr rfl) rfl ?_); generalize e : zAc .. = r; simp (disch := omega) [hZ, c72] at e; subst e; (refine hk _ _ _ S ?_; (try dsimp only); omega)))
theorem es_bad (S : CU n0 E0 p s a A B acc false h) (hl : s.length < 100000) (hal : acc.length < 90000) (x : UInt8) (hx : s[a]? = some x) (hI : idxFrom x [34, 92, 98, 102, 110, 114, 116] 0 = -1) (h47 : ¬ x.toNat = 47) (h117 : ¬ x.toNat = 117) {K : KT} (hk : ∀ a' A' B' acc' h', CU n0 E0 p s a' A' B' acc' true h' → acc'.length ≤ acc.length + 4 → h.next ≤ h'.next → K (.tup []) h') {n : Nat} (hn : h.next ≤ n := by (try dsimp only); omega) : Wc tree.getF 72 [.ptr p 106954757 0] ⟨h.ents, n, h.tys⟩ K := by
 have hZ := S.z
 have hlp := S.lp
 have hx256 := x.toNat_lt
 have h47x : ¬ (x.toNat : Int) = 47 := by omega
 have h117x : ¬ (x.toNat : Int) = 117 := by omega
 refine Wc.mkG 72 c72 (by kernel_rfl) rfl ?_
 generalize e : zAa .. = r
 simp (disch := omega) [c72] at e
 subst e
 repeat (first | refine st_ rfl ?_ | ((first | refine rg_ ?_ | refine go_ ?_); refine gw_ (by simp (disch := omega) [hZ, h47x, h117x, c72]; rfl) ?_) | (refine zC9 S hl x hx fun _ S g => ⟨rfl, ?_⟩; (try dsimp only at g); have hZ := S.z; have hlp := S.lp) | (refine n_pe S (ib_F [34, 92, 98, 102, 110, 114, 116] (x.toNat : Int) (-1) (by omega) (by simpa using hI) (by decide)) fun _ S g => ⟨rfl, ?_⟩; (try dsimp only at g); have hZ := S.z; have hlp := S.lp) | ((first | (refine W.ret ?_; (try simp only [zAb, zA0, zA8]); refine endW.of (.inl rfl) rfl ?_) | refine endW.of (.inr rfl) rfl ?_); generalize e : zAc .. = r; simp (disch := omega) [hZ, h47x, h117x, c72] at e; subst e; ((refine hk _ _ _ _ _ (S.put _ true ?_) ?_ ?_; ((try dsimp only); omega); omega; ((try dsimp only); omega)))))
end Go.Proofs.YtdanefpnfnippaaGreatDoor.IrJ
