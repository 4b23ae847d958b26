/- What the functions of the law 'PruleFinds' do: part 3 of 8. -/
import Derived.Test.YtcokdlfmnhjngaaGreatLx2
namespace Go.Proofs.YtcokdlfmnhjngaaGreat.IrE
open Go Go.CI
open Go.LexF hiding spacesB lettersB
set_option maxRecDepth 100000
set_option maxHeartbeats 4000000
set_option linter.unusedVariables false
set_option linter.unusedSimpArgs false
attribute [local irreducible] W Wo Wc WoR
theorem wQQ1 {P : Prop} (h : P := by refine mk_ 232 c232 (s_ ?_); repeat (first | refine st_ rfl ?_ | ((first | refine rg_ ?_ | refine go_ ?_); refine gw_ (by simp (disch := omega) [hX, zBb, zB8, zAg]; rfl) ?_) | (refine W.loop ?_; try (generalize e : dropped .. = r; simp (disch := omega) [hX, zBb, zB8, zAg] at e; subst e; try dsimp only)) | ((first | (refine W.ret ?_; (try simp only [zAd, zA3, zAa]); refine endW.of (.inl rfl) rfl ?_) | refine endW.of (.inr rfl) rfl ?_); generalize e : zB2 .. = r; simp (disch := omega) [hX, zBb, zB8, zAg] at e; subst e; (refine hk _ _ ?_ ?_; omega; exact ut_)))) : P := h
theorem wQQ2 {P : Prop} (h : P := by refine mk_ 232 c232 (s_ ?_); repeat (first | refine st_ rfl ?_ | ((first | refine rg_ ?_ | refine go_ ?_); refine gw_ (by simp (disch := omega) [hX, List.length_cons, zBb, zB8, zAg]; rfl) ?_) | (refine W.loop ?_; try (generalize e : dropped .. = r; simp (disch := omega) [hX, List.length_cons, zBb, zB8, zAg] at e; subst e; try dsimp only)) | ((first | (refine W.ret ?_; (try simp only [zAd, zA3, zAa]); refine endW.of (.inl rfl) rfl ?_) | refine endW.of (.inr rfl) rfl ?_); generalize e : zB2 .. = r; simp (disch := omega) [hX, List.length_cons, zBb, zB8, zAg] at e; subst e; (refine hk _ _ ?_ ?_; omega; exact ut_)))) : P := h
theorem wQQ3 {P : Prop} (h : P := by refine mk_ 232 c232 (s_ ?_); repeat (first | refine st_ rfl ?_ | ((first | refine rg_ ?_ | refine go_ ?_); refine gw_ (by simp (disch := omega) [hX, List.length_cons, i1, zBb, zB8, zAg]; rfl) ?_) | (refine W.loop ?_; try (generalize e : dropped .. = r; simp (disch := omega) [hX, List.length_cons, i1, zBb, zB8, zAg] at e; subst e; try dsimp only)) | ((first | (refine W.ret ?_; (try simp only [zAd, zA3, zAa]); refine endW.of (.inl rfl) rfl ?_) | refine endW.of (.inr rfl) rfl ?_); generalize e : zB2 .. = r; simp (disch := omega) [hX, List.length_cons, i1, zBb, zB8, zAg] at e; subst e; (refine hk _ _ ?_ ?_; omega; exact ut_)))) : P := h
theorem wQQ4 {P : Prop} (h : P := by refine mk_ 232 c232 (s_ ?_); repeat (first | refine st_ rfl ?_ | ((first | refine rg_ ?_ | refine go_ ?_); refine gw_ (by simp (disch := omega) [hX, List.length_cons, i1, i2, zBb, zB8, zAg]; rfl) ?_) | (refine W.loop ?_; try (generalize e : dropped .. = r; simp (disch := omega) [hX, List.length_cons, i1, i2, zBb, zB8, zAg] at e; subst e; try dsimp only)) | ((first | (refine W.ret ?_; (try simp only [zAd, zA3, zAa]); refine endW.of (.inl rfl) rfl ?_) | refine endW.of (.inr rfl) rfl ?_); generalize e : zB2 .. = r; simp (disch := omega) [hX, List.length_cons, i1, i2, zBb, zB8, zAg] at e; subst e; (refine hk _ _ ?_ ?_; omega; exact ut_)))) : P := h
theorem wQQ5 {P : Prop} (h : P := by refine mk_ 232 c232 (s_ ?_); repeat (first | refine st_ rfl ?_ | ((first | refine rg_ ?_ | refine go_ ?_); refine gw_ (by simp (disch := omega) [hX, List.length_cons, i1, i2, i3, zBb, zB8, zAg]; rfl) ?_) | (refine W.loop ?_; try (generalize e : dropped .. = r; simp (disch := omega) [hX, List.length_cons, i1, i2, i3, zBb, zB8, zAg] at e; subst e; try dsimp only)) | ((first | (refine W.ret ?_; (try simp only [zAd, zA3, zAa]); refine endW.of (.inl rfl) rfl ?_) | refine endW.of (.inr rfl) rfl ?_); generalize e : zB2 .. = r; simp (disch := omega) [hX, List.length_cons, i1, i2, i3, zBb, zB8, zAg] at e; subst e; (refine hk _ _ ?_ ?_; omega; exact ut_)))) : P := h
theorem rp_nil  : Pu tree.getF 232 [.str []] (.tup [.int .u32 0, .int .i64 0]) := by
 intro h hf K hk
 obtain ⟨hu, hut, hX⟩ := fx4 hf
 exact wQQ1
theorem rp_1 (c : UInt8) (t : B8) (hc : c.toNat < 128) : Pu tree.getF 232 [.str (c :: t)] (.tup [.int .u32 (c.toNat : Int), .int .i64 1]) := by
 intro h hf K hk
 obtain ⟨hu, hut, hX⟩ := fx4 hf
 have hcl := c.toNat_lt
 exact wQQ1
theorem rp_lo (c : UInt8) (t : B8) (hc : 128 ≤ c.toNat) (hc2 : c.toNat < 192) : Pu tree.getF 232 [.str (c :: t)] (.tup [.int .u32 0, .int .i64 0]) := by
 intro h hf K hk
 obtain ⟨hu, hut, hX⟩ := fx4 hf
 have hcl := c.toNat_lt
 exact wQQ1
theorem rp_hi (c : UInt8) (t : B8) (hc : 248 ≤ c.toNat) : Pu tree.getF 232 [.str (c :: t)] (.tup [.int .u32 0, .int .i64 0]) := by
 intro h hf K hk
 obtain ⟨hu, hut, hX⟩ := fx4 hf
 have hcl := c.toNat_lt
 exact wQQ1
theorem rp_2s (c : UInt8) (t : B8) (hc : 192 ≤ c.toNat) (hc2 : c.toNat < 224) (hs : t.length < 1) : Pu tree.getF 232 [.str (c :: t)] (.tup [.int .u32 0, .int .i64 0]) := by
 intro h hf K hk
 obtain ⟨hu, hut, hX⟩ := fx4 hf
 have hcl := c.toNat_lt
 exact wQQ2
theorem rp_2l1 (c  : UInt8) (c1 : UInt8) (t : B8) (hc : 192 ≤ c.toNat) (hc2 : c.toNat < 224) (hs : 0 ≤ t.length)  (hb : c1.toNat < 128) : Pu tree.getF 232 [.str (c :: c1 :: t)] (.tup [.int .u32 0, .int .i64 0]) := by
 intro h hf K hk
 obtain ⟨hu, hut, hX⟩ := fx4 hf
 have hcl := c.toNat_lt
 have hcl1 := c1.toNat_lt
 have i1 : (c :: c1 :: t)[1]? = some c1 := rfl
 exact wQQ3
theorem rp_2h1 (c  : UInt8) (c1 : UInt8) (t : B8) (hc : 192 ≤ c.toNat) (hc2 : c.toNat < 224) (hs : 0 ≤ t.length)  (hb : 191 < c1.toNat) : Pu tree.getF 232 [.str (c :: c1 :: t)] (.tup [.int .u32 0, .int .i64 0]) := by
 intro h hf K hk
 obtain ⟨hu, hut, hX⟩ := fx4 hf
 have hcl := c.toNat_lt
 have hcl1 := c1.toNat_lt
 have i1 : (c :: c1 :: t)[1]? = some c1 := rfl
 exact wQQ3
theorem rp_2least (c : UInt8) (c1 : UInt8) (t : B8) (hc : 192 ≤ c.toNat) (hc2 : c.toNat < 224) (a1 : 128 ≤ c1.toNat ∧ c1.toNat ≤ 191) (hb : (((c.toNat : Int) - 192) * 64 + ((c1.toNat : Int) - 128)) < 128) : Pu tree.getF 232 [.str (c :: c1 :: t)] (.tup [.int .u32 0, .int .i64 0]) := by
 intro h hf K hk
 obtain ⟨hu, hut, hX⟩ := fx4 hf
 have hcl := c.toNat_lt
 have hcl1 := c1.toNat_lt
 have i1 : (c :: c1 :: t)[1]? = some c1 := rfl
 exact wQQ3
theorem rp_2ok1 (c : UInt8) (c1 : UInt8) (t : B8) (hc : 192 ≤ c.toNat) (hc2 : c.toNat < 224) (a1 : 128 ≤ c1.toNat ∧ c1.toNat ≤ 191) (hb : 128 ≤ (((c.toNat : Int) - 192) * 64 + ((c1.toNat : Int) - 128)) ∧ (((c.toNat : Int) - 192) * 64 + ((c1.toNat : Int) - 128)) < 55296) : Pu tree.getF 232 [.str (c :: c1 :: t)] (.tup [.int .u32 (((c.toNat : Int) - 192) * 64 + ((c1.toNat : Int) - 128)), .int .i64 2]) := by
 intro h hf K hk
 obtain ⟨hu, hut, hX⟩ := fx4 hf
 have hcl := c.toNat_lt
 have hcl1 := c1.toNat_lt
 have i1 : (c :: c1 :: t)[1]? = some c1 := rfl
 exact wQQ3
theorem rp_3s (c : UInt8) (t : B8) (hc : 224 ≤ c.toNat) (hc2 : c.toNat < 240) (hs : t.length < 2) : Pu tree.getF 232 [.str (c :: t)] (.tup [.int .u32 0, .int .i64 0]) := by
 intro h hf K hk
 obtain ⟨hu, hut, hX⟩ := fx4 hf
 have hcl := c.toNat_lt
 exact wQQ2
theorem rp_3l1 (c  : UInt8) (c1 : UInt8) (t : B8) (hc : 224 ≤ c.toNat) (hc2 : c.toNat < 240) (hs : 1 ≤ t.length)  (hb : c1.toNat < 128) : Pu tree.getF 232 [.str (c :: c1 :: t)] (.tup [.int .u32 0, .int .i64 0]) := by
 intro h hf K hk
 obtain ⟨hu, hut, hX⟩ := fx4 hf
 have hcl := c.toNat_lt
 have hcl1 := c1.toNat_lt
 have i1 : (c :: c1 :: t)[1]? = some c1 := rfl
 exact wQQ3
theorem rp_3h1 (c  : UInt8) (c1 : UInt8) (t : B8) (hc : 224 ≤ c.toNat) (hc2 : c.toNat < 240) (hs : 1 ≤ t.length)  (hb : 191 < c1.toNat) : Pu tree.getF 232 [.str (c :: c1 :: t)] (.tup [.int .u32 0, .int .i64 0]) := by
 intro h hf K hk
 obtain ⟨hu, hut, hX⟩ := fx4 hf
 have hcl := c.toNat_lt
 have hcl1 := c1.toNat_lt
 have i1 : (c :: c1 :: t)[1]? = some c1 := rfl
 exact wQQ3
theorem rp_3l2 (c  : UInt8) (c1 : UInt8) (c2 : UInt8) (t : B8) (hc : 224 ≤ c.toNat) (hc2 : c.toNat < 240) (hs : 0 ≤ t.length) (a1 : 128 ≤ c1.toNat ∧ c1.toNat ≤ 191) (hb : c2.toNat < 128) : Pu tree.getF 232 [.str (c :: c1 :: c2 :: t)] (.tup [.int .u32 0, .int .i64 0]) := by
 intro h hf K hk
 obtain ⟨hu, hut, hX⟩ := fx4 hf
 have hcl := c.toNat_lt
 have hcl1 := c1.toNat_lt
 have i1 : (c :: c1 :: c2 :: t)[1]? = some c1 := rfl
 have hcl2 := c2.toNat_lt
 have i2 : (c :: c1 :: c2 :: t)[2]? = some c2 := rfl
 exact wQQ4
theorem rp_3h2 (c  : UInt8) (c1 : UInt8) (c2 : UInt8) (t : B8) (hc : 224 ≤ c.toNat) (hc2 : c.toNat < 240) (hs : 0 ≤ t.length) (a1 : 128 ≤ c1.toNat ∧ c1.toNat ≤ 191) (hb : 191 < c2.toNat) : Pu tree.getF 232 [.str (c :: c1 :: c2 :: t)] (.tup [.int .u32 0, .int .i64 0]) := by
 intro h hf K hk
 obtain ⟨hu, hut, hX⟩ := fx4 hf
 have hcl := c.toNat_lt
 have hcl1 := c1.toNat_lt
 have i1 : (c :: c1 :: c2 :: t)[1]? = some c1 := rfl
 have hcl2 := c2.toNat_lt
 have i2 : (c :: c1 :: c2 :: t)[2]? = some c2 := rfl
 exact wQQ4
theorem rp_3least (c : UInt8) (c1 : UInt8) (c2 : UInt8) (t : B8) (hc : 224 ≤ c.toNat) (hc2 : c.toNat < 240) (a1 : 128 ≤ c1.toNat ∧ c1.toNat ≤ 191) (a2 : 128 ≤ c2.toNat ∧ c2.toNat ≤ 191) (hb : ((((c.toNat : Int) - 224) * 64 + ((c1.toNat : Int) - 128)) * 64 + ((c2.toNat : Int) - 128)) < 2048) : Pu tree.getF 232 [.str (c :: c1 :: c2 :: t)] (.tup [.int .u32 0, .int .i64 0]) := by
 intro h hf K hk
 obtain ⟨hu, hut, hX⟩ := fx4 hf
 have hcl := c.toNat_lt
 have hcl1 := c1.toNat_lt
 have i1 : (c :: c1 :: c2 :: t)[1]? = some c1 := rfl
 have hcl2 := c2.toNat_lt
 have i2 : (c :: c1 :: c2 :: t)[2]? = some c2 := rfl
 exact wQQ4
theorem rp_3sur (c : UInt8) (c1 : UInt8) (c2 : UInt8) (t : B8) (hc : 224 ≤ c.toNat) (hc2 : c.toNat < 240) (a1 : 128 ≤ c1.toNat ∧ c1.toNat ≤ 191) (a2 : 128 ≤ c2.toNat ∧ c2.toNat ≤ 191) (hb : 2048 ≤ ((((c.toNat : Int) - 224) * 64 + ((c1.toNat : Int) - 128)) * 64 + ((c2.toNat : Int) - 128)) ∧ ¬ 1114111 < ((((c.toNat : Int) - 224) * 64 + ((c1.toNat : Int) - 128)) * 64 + ((c2.toNat : Int) - 128)) ∧ 55296 ≤ ((((c.toNat : Int) - 224) * 64 + ((c1.toNat : Int) - 128)) * 64 + ((c2.toNat : Int) - 128)) ∧ ((((c.toNat : Int) - 224) * 64 + ((c1.toNat : Int) - 128)) * 64 + ((c2.toNat : Int) - 128)) ≤ 57343) : Pu tree.getF 232 [.str (c :: c1 :: c2 :: t)] (.tup [.int .u32 0, .int .i64 0]) := by
 intro h hf K hk
 obtain ⟨hu, hut, hX⟩ := fx4 hf
 have hcl := c.toNat_lt
 have hcl1 := c1.toNat_lt
 have i1 : (c :: c1 :: c2 :: t)[1]? = some c1 := rfl
 have hcl2 := c2.toNat_lt
 have i2 : (c :: c1 :: c2 :: t)[2]? = some c2 := rfl
 exact wQQ4
theorem rp_3ok1 (c : UInt8) (c1 : UInt8) (c2 : UInt8) (t : B8) (hc : 224 ≤ c.toNat) (hc2 : c.toNat < 240) (a1 : 128 ≤ c1.toNat ∧ c1.toNat ≤ 191) (a2 : 128 ≤ c2.toNat ∧ c2.toNat ≤ 191) (hb : 2048 ≤ ((((c.toNat : Int) - 224) * 64 + ((c1.toNat : Int) - 128)) * 64 + ((c2.toNat : Int) - 128)) ∧ ((((c.toNat : Int) - 224) * 64 + ((c1.toNat : Int) - 128)) * 64 + ((c2.toNat : Int) - 128)) < 55296) : Pu tree.getF 232 [.str (c :: c1 :: c2 :: t)] (.tup [.int .u32 ((((c.toNat : Int) - 224) * 64 + ((c1.toNat : Int) - 128)) * 64 + ((c2.toNat : Int) - 128)), .int .i64 3]) := by
 intro h hf K hk
 obtain ⟨hu, hut, hX⟩ := fx4 hf
 have hcl := c.toNat_lt
 have hcl1 := c1.toNat_lt
 have i1 : (c :: c1 :: c2 :: t)[1]? = some c1 := rfl
 have hcl2 := c2.toNat_lt
 have i2 : (c :: c1 :: c2 :: t)[2]? = some c2 := rfl
 exact wQQ4
theorem rp_3ok2 (c : UInt8) (c1 : UInt8) (c2 : UInt8) (t : B8) (hc : 224 ≤ c.toNat) (hc2 : c.toNat < 240) (a1 : 128 ≤ c1.toNat ∧ c1.toNat ≤ 191) (a2 : 128 ≤ c2.toNat ∧ c2.toNat ≤ 191) (hb : 2048 ≤ ((((c.toNat : Int) - 224) * 64 + ((c1.toNat : Int) - 128)) * 64 + ((c2.toNat : Int) - 128)) ∧ 57343 < ((((c.toNat : Int) - 224) * 64 + ((c1.toNat : Int) - 128)) * 64 + ((c2.toNat : Int) - 128)) ∧ ((((c.toNat : Int) - 224) * 64 + ((c1.toNat : Int) - 128)) * 64 + ((c2.toNat : Int) - 128)) ≤ 1114111) : Pu tree.getF 232 [.str (c :: c1 :: c2 :: t)] (.tup [.int .u32 ((((c.toNat : Int) - 224) * 64 + ((c1.toNat : Int) - 128)) * 64 + ((c2.toNat : Int) - 128)), .int .i64 3]) := by
 intro h hf K hk
 obtain ⟨hu, hut, hX⟩ := fx4 hf
 have hcl := c.toNat_lt
 have hcl1 := c1.toNat_lt
 have i1 : (c :: c1 :: c2 :: t)[1]? = some c1 := rfl
 have hcl2 := c2.toNat_lt
 have i2 : (c :: c1 :: c2 :: t)[2]? = some c2 := rfl
 exact wQQ4
theorem rp_4s (c : UInt8) (t : B8) (hc : 240 ≤ c.toNat) (hc2 : c.toNat < 248) (hs : t.length < 3) : Pu tree.getF 232 [.str (c :: t)] (.tup [.int .u32 0, .int .i64 0]) := by
 intro h hf K hk
 obtain ⟨hu, hut, hX⟩ := fx4 hf
 have hcl := c.toNat_lt
 exact wQQ2
theorem rp_4l1 (c  : UInt8) (c1 : UInt8) (t : B8) (hc : 240 ≤ c.toNat) (hc2 : c.toNat < 248) (hs : 2 ≤ t.length)  (hb : c1.toNat < 128) : Pu tree.getF 232 [.str (c :: c1 :: t)] (.tup [.int .u32 0, .int .i64 0]) := by
 intro h hf K hk
 obtain ⟨hu, hut, hX⟩ := fx4 hf
 have hcl := c.toNat_lt
 have hcl1 := c1.toNat_lt
 have i1 : (c :: c1 :: t)[1]? = some c1 := rfl
 exact wQQ3
theorem rp_4h1 (c  : UInt8) (c1 : UInt8) (t : B8) (hc : 240 ≤ c.toNat) (hc2 : c.toNat < 248) (hs : 2 ≤ t.length)  (hb : 191 < c1.toNat) : Pu tree.getF 232 [.str (c :: c1 :: t)] (.tup [.int .u32 0, .int .i64 0]) := by
 intro h hf K hk
 obtain ⟨hu, hut, hX⟩ := fx4 hf
 have hcl := c.toNat_lt
 have hcl1 := c1.toNat_lt
 have i1 : (c :: c1 :: t)[1]? = some c1 := rfl
 exact wQQ3
theorem rp_4l2 (c  : UInt8) (c1 : UInt8) (c2 : UInt8) (t : B8) (hc : 240 ≤ c.toNat) (hc2 : c.toNat < 248) (hs : 1 ≤ t.length) (a1 : 128 ≤ c1.toNat ∧ c1.toNat ≤ 191) (hb : c2.toNat < 128) : Pu tree.getF 232 [.str (c :: c1 :: c2 :: t)] (.tup [.int .u32 0, .int .i64 0]) := by
 intro h hf K hk
 obtain ⟨hu, hut, hX⟩ := fx4 hf
 have hcl := c.toNat_lt
 have hcl1 := c1.toNat_lt
 have i1 : (c :: c1 :: c2 :: t)[1]? = some c1 := rfl
 have hcl2 := c2.toNat_lt
 have i2 : (c :: c1 :: c2 :: t)[2]? = some c2 := rfl
 exact wQQ4
theorem rp_4h2 (c  : UInt8) (c1 : UInt8) (c2 : UInt8) (t : B8) (hc : 240 ≤ c.toNat) (hc2 : c.toNat < 248) (hs : 1 ≤ t.length) (a1 : 128 ≤ c1.toNat ∧ c1.toNat ≤ 191) (hb : 191 < c2.toNat) : Pu tree.getF 232 [.str (c :: c1 :: c2 :: t)] (.tup [.int .u32 0, .int .i64 0]) := by
 intro h hf K hk
 obtain ⟨hu, hut, hX⟩ := fx4 hf
 have hcl := c.toNat_lt
 have hcl1 := c1.toNat_lt
 have i1 : (c :: c1 :: c2 :: t)[1]? = some c1 := rfl
 have hcl2 := c2.toNat_lt
 have i2 : (c :: c1 :: c2 :: t)[2]? = some c2 := rfl
 exact wQQ4
theorem rp_4l3 (c  : UInt8) (c1 : UInt8) (c2 : UInt8) (c3 : UInt8) (t : B8) (hc : 240 ≤ c.toNat) (hc2 : c.toNat < 248) (hs : 0 ≤ t.length) (a1 : 128 ≤ c1.toNat ∧ c1.toNat ≤ 191) (a2 : 128 ≤ c2.toNat ∧ c2.toNat ≤ 191) (hb : c3.toNat < 128) : Pu tree.getF 232 [.str (c :: c1 :: c2 :: c3 :: t)] (.tup [.int .u32 0, .int .i64 0]) := by
 intro h hf K hk
 obtain ⟨hu, hut, hX⟩ := fx4 hf
 have hcl := c.toNat_lt
 have hcl1 := c1.toNat_lt
 have i1 : (c :: c1 :: c2 :: c3 :: t)[1]? = some c1 := rfl
 have hcl2 := c2.toNat_lt
 have i2 : (c :: c1 :: c2 :: c3 :: t)[2]? = some c2 := rfl
 have hcl3 := c3.toNat_lt
 have i3 : (c :: c1 :: c2 :: c3 :: t)[3]? = some c3 := rfl
 exact wQQ5
theorem rp_4h3 (c  : UInt8) (c1 : UInt8) (c2 : UInt8) (c3 : UInt8) (t : B8) (hc : 240 ≤ c.toNat) (hc2 : c.toNat < 248) (hs : 0 ≤ t.length) (a1 : 128 ≤ c1.toNat ∧ c1.toNat ≤ 191) (a2 : 128 ≤ c2.toNat ∧ c2.toNat ≤ 191) (hb : 191 < c3.toNat) : Pu tree.getF 232 [.str (c :: c1 :: c2 :: c3 :: t)] (.tup [.int .u32 0, .int .i64 0]) := by
 intro h hf K hk
 obtain ⟨hu, hut, hX⟩ := fx4 hf
 have hcl := c.toNat_lt
 have hcl1 := c1.toNat_lt
 have i1 : (c :: c1 :: c2 :: c3 :: t)[1]? = some c1 := rfl
 have hcl2 := c2.toNat_lt
 have i2 : (c :: c1 :: c2 :: c3 :: t)[2]? = some c2 := rfl
 have hcl3 := c3.toNat_lt
 have i3 : (c :: c1 :: c2 :: c3 :: t)[3]? = some c3 := rfl
 exact wQQ5
theorem rp_4least (c : UInt8) (c1 : UInt8) (c2 : UInt8) (c3 : UInt8) (t : B8) (hc : 240 ≤ c.toNat) (hc2 : c.toNat < 248) (a1 : 128 ≤ c1.toNat ∧ c1.toNat ≤ 191) (a2 : 128 ≤ c2.toNat ∧ c2.toNat ≤ 191) (a3 : 128 ≤ c3.toNat ∧ c3.toNat ≤ 191) (hb : (((((c.toNat : Int) - 240) * 64 + ((c1.toNat : Int) - 128)) * 64 + ((c2.toNat : Int) - 128)) * 64 + ((c3.toNat : Int) - 128)) < 65536) : Pu tree.getF 232 [.str (c :: c1 :: c2 :: c3 :: t)] (.tup [.int .u32 0, .int .i64 0]) := by
 intro h hf K hk
 obtain ⟨hu, hut, hX⟩ := fx4 hf
 have hcl := c.toNat_lt
 have hcl1 := c1.toNat_lt
 have i1 : (c :: c1 :: c2 :: c3 :: t)[1]? = some c1 := rfl
 have hcl2 := c2.toNat_lt
 have i2 : (c :: c1 :: c2 :: c3 :: t)[2]? = some c2 := rfl
 have hcl3 := c3.toNat_lt
 have i3 : (c :: c1 :: c2 :: c3 :: t)[3]? = some c3 := rfl
 exact wQQ5
theorem rp_4most (c : UInt8) (c1 : UInt8) (c2 : UInt8) (c3 : UInt8) (t : B8) (hc : 240 ≤ c.toNat) (hc2 : c.toNat < 248) (a1 : 128 ≤ c1.toNat ∧ c1.toNat ≤ 191) (a2 : 128 ≤ c2.toNat ∧ c2.toNat ≤ 191) (a3 : 128 ≤ c3.toNat ∧ c3.toNat ≤ 191) (hb : 65536 ≤ (((((c.toNat : Int) - 240) * 64 + ((c1.toNat : Int) - 128)) * 64 + ((c2.toNat : Int) - 128)) * 64 + ((c3.toNat : Int) - 128)) ∧ 1114111 < (((((c.toNat : Int) - 240) * 64 + ((c1.toNat : Int) - 128)) * 64 + ((c2.toNat : Int) - 128)) * 64 + ((c3.toNat : Int) - 128))) : Pu tree.getF 232 [.str (c :: c1 :: c2 :: c3 :: t)] (.tup [.int .u32 0, .int .i64 0]) := by
 intro h hf K hk
 obtain ⟨hu, hut, hX⟩ := fx4 hf
 have hcl := c.toNat_lt
 have hcl1 := c1.toNat_lt
 have i1 : (c :: c1 :: c2 :: c3 :: t)[1]? = some c1 := rfl
 have hcl2 := c2.toNat_lt
 have i2 : (c :: c1 :: c2 :: c3 :: t)[2]? = some c2 := rfl
 have hcl3 := c3.toNat_lt
 have i3 : (c :: c1 :: c2 :: c3 :: t)[3]? = some c3 := rfl
 exact wQQ5
theorem rp_4ok2 (c : UInt8) (c1 : UInt8) (c2 : UInt8) (c3 : UInt8) (t : B8) (hc : 240 ≤ c.toNat) (hc2 : c.toNat < 248) (a1 : 128 ≤ c1.toNat ∧ c1.toNat ≤ 191) (a2 : 128 ≤ c2.toNat ∧ c2.toNat ≤ 191) (a3 : 128 ≤ c3.toNat ∧ c3.toNat ≤ 191) (hb : 65536 ≤ (((((c.toNat : Int) - 240) * 64 + ((c1.toNat : Int) - 128)) * 64 + ((c2.toNat : Int) - 128)) * 64 + ((c3.toNat : Int) - 128)) ∧ 57343 < (((((c.toNat : Int) - 240) * 64 + ((c1.toNat : Int) - 128)) * 64 + ((c2.toNat : Int) - 128)) * 64 + ((c3.toNat : Int) - 128)) ∧ (((((c.toNat : Int) - 240) * 64 + ((c1.toNat : Int) - 128)) * 64 + ((c2.toNat : Int) - 128)) * 64 + ((c3.toNat : Int) - 128)) ≤ 1114111) : Pu tree.getF 232 [.str (c :: c1 :: c2 :: c3 :: t)] (.tup [.int .u32 (((((c.toNat : Int) - 240) * 64 + ((c1.toNat : Int) - 128)) * 64 + ((c2.toNat : Int) - 128)) * 64 + ((c3.toNat : Int) - 128)), .int .i64 4]) := by
 intro h hf K hk
 obtain ⟨hu, hut, hX⟩ := fx4 hf
 have hcl := c.toNat_lt
 have hcl1 := c1.toNat_lt
 have i1 : (c :: c1 :: c2 :: c3 :: t)[1]? = some c1 := rfl
 have hcl2 := c2.toNat_lt
 have i2 : (c :: c1 :: c2 :: c3 :: t)[2]? = some c2 := rfl
 have hcl3 := c3.toNat_lt
 have i3 : (c :: c1 :: c2 :: c3 :: t)[3]? = some c3 := rfl
 exact wQQ5
theorem zIl {x : Nat} {c : UInt8} (hx : x < 256) : UInt8.ofNat x = c ↔ c.toNat = x := by
 constructor
 · intro h; rw [← h]; simp; omega
 · intro h; rw [← h]; simp
theorem put2 {x : Nat} {c c1 : UInt8} (hx : x < 2048) : putB x = [c, c1] ↔ 128 ≤ x ∧ c.toNat = 192 + x / 64 ∧ c1.toNat = 128 + x % 64 := by
 unfold putB
 by_cases h : x < 128
 · rw [if_pos h]; simp; omega
 · rw [if_neg h, if_pos hx]
   simp only [List.cons.injEq, and_true]
   rw [zIl (by omega), zIl (by omega)]
   omega
theorem put3 {x : Nat} {c c1 c2 : UInt8} (hx : x < 65536) : putB x = [c, c1, c2] ↔ 2048 ≤ x ∧ (¬ (55296 ≤ x ∧ x < 57344) ∧ c.toNat = 224 + x / 4096 ∧ c1.toNat = 128 + x / 64 % 64 ∧ c2.toNat = 128 + x % 64 ∨ (55296 ≤ x ∧ x < 57344) ∧ c.toNat = 239 ∧ c1.toNat = 191 ∧ c2.toNat = 189) := by
 unfold putB
 by_cases h : x < 128
 · rw [if_pos h]; simp; omega
 · rw [if_neg h]
   by_cases h2 : x < 2048
   · rw [if_pos h2]; simp; omega
   · rw [if_neg h2]
     by_cases hs : 55296 ≤ x ∧ x < 57344 ∨ 1114111 < x
     · rw [if_pos hs]
       simp only [List.cons.injEq, and_true]
       rw [show (239 : UInt8) = UInt8.ofNat 239 by rfl, show (191 : UInt8) = UInt8.ofNat 191 by rfl, show (189 : UInt8) = UInt8.ofNat 189 by rfl, zIl (by omega), zIl (by omega), zIl (by omega)]
       omega
     · rw [if_neg hs, if_pos hx]
       simp only [List.cons.injEq, and_true]
       rw [zIl (by omega), zIl (by omega), zIl (by omega)]
       omega
theorem put4 {x : Nat} {c c1 c2 c3 : UInt8} (hx : x < 2097152) : putB x = [c, c1, c2, c3] ↔ 65536 ≤ x ∧ x ≤ 1114111 ∧ c.toNat = 240 + x / 262144 ∧ c1.toNat = 128 + x / 4096 % 64 ∧ c2.toNat = 128 + x / 64 % 64 ∧ c3.toNat = 128 + x % 64 := by
 unfold putB
 by_cases h : x < 128
 · rw [if_pos h]; simp; omega
 · rw [if_neg h]
   by_cases h2 : x < 2048
   · rw [if_pos h2]; simp; omega
   · rw [if_neg h2]
     by_cases hs : 55296 ≤ x ∧ x < 57344 ∨ 1114111 < x
     · rw [if_pos hs]; simp; omega
     · rw [if_neg hs]
       by_cases h3 : x < 65536
       · rw [if_pos h3]; simp; omega
       · rw [if_neg h3]
         simp only [List.cons.injEq, and_true]
         rw [zIl (by omega), zIl (by omega), zIl (by omega), zIl (by omega)]
         omega
theorem point_2 (c : UInt8) (t : B8) (hc : 192 ≤ c.toNat) (hc2 : c.toNat < 224) : ∃ v : Int, Pu tree.getF 232 [.str (c :: t)] (.tup [.int .u32 v, .int .i64 (ptF (c :: t) : Int)]) := by
 have hcl := c.toNat_lt
 have k1 : ¬ c.toNat < 128 := by omega
 have k2 : c.toNat / 32 = 6 := by omega
 match t with
 | [] =>
  have e : ptF (c :: []) = 0 := by simp only [ptF]; rw [if_neg k1, if_pos k2]
  rw [e]; exact ⟨_, rp_2s c _ hc hc2 (by simp)⟩
 | c1 :: t =>
  have hcl1 := c1.toNat_lt
  obtain ⟨x, hx⟩ : ∃ x, (c.toNat % 32) * 64 + c1.toNat % 64 = x := ⟨_, rfl⟩
  have P := put2 (x := x) (c := c) (c1 := c1) (by omega)
  have ef : ptF (c :: c1 :: t) = if putB x = [c, c1] then 2 else 0 := by
   rw [← hx]; simp only [ptF]; rw [if_neg k1, if_pos k2]
  have eno : ¬ putB x = [c, c1] → ptF (c :: c1 :: t) = 0 := fun h => by rw [ef, if_neg h]
  have eyes : putB x = [c, c1] → ptF (c :: c1 :: t) = 2 := fun h => by rw [ef, if_pos h]
  by_cases l1 : c1.toNat < 128
  · rw [eno (by rw [P]; omega)]; exact ⟨_, rp_2l1 c c1 (t) hc hc2 (by simp)  l1⟩
  by_cases h1 : 191 < c1.toNat
  · rw [eno (by rw [P]; omega)]; exact ⟨_, rp_2h1 c c1 (t) hc hc2 (by simp)  h1⟩
  have a1 : 128 ≤ c1.toNat ∧ c1.toNat ≤ 191 := by omega
  have hv : (((c.toNat : Int) - 192) * 64 + ((c1.toNat : Int) - 128)) = (x : Int) := by omega
  by_cases w1 : x < 128
  · rw [eno (by rw [P]; omega)]; exact ⟨_, rp_2least c c1 t hc hc2 a1 (by rw [hv]; omega)⟩
  rw [eyes (by rw [P]; omega)]; exact ⟨_, rp_2ok1 c c1 t hc hc2 a1 (by rw [hv]; omega)⟩
theorem point_3 (c : UInt8) (t : B8) (hc : 224 ≤ c.toNat) (hc2 : c.toNat < 240) : ∃ v : Int, Pu tree.getF 232 [.str (c :: t)] (.tup [.int .u32 v, .int .i64 (ptF (c :: t) : Int)]) := by
 have hcl := c.toNat_lt
 have k1 : ¬ c.toNat < 128 := by omega
 have k2 : ¬ c.toNat / 32 = 6 := by omega
 have k3 : c.toNat / 16 = 14 := by omega
 match t with
 | [] =>
  have e : ptF (c :: []) = 0 := by simp only [ptF]; rw [if_neg k1, if_neg k2, if_pos k3]
  rw [e]; exact ⟨_, rp_3s c _ hc hc2 (by simp)⟩
 | [c1] =>
  have e : ptF (c :: [c1]) = 0 := by simp only [ptF]; rw [if_neg k1, if_neg k2, if_pos k3]
  rw [e]; exact ⟨_, rp_3s c _ hc hc2 (by simp)⟩
 | c1 :: c2 :: t =>
  have hcl1 := c1.toNat_lt
  have hcl2 := c2.toNat_lt
  obtain ⟨x, hx⟩ : ∃ x, ((c.toNat % 16) * 64 + c1.toNat % 64) * 64 + c2.toNat % 64 = x := ⟨_, rfl⟩
  have P := put3 (x := x) (c := c) (c1 := c1) (c2 := c2) (by omega)
  have ef : ptF (c :: c1 :: c2 :: t) = if putB x = [c, c1, c2] then 3 else 0 := by
   rw [← hx]; simp only [ptF]; rw [if_neg k1, if_neg k2, if_pos k3]
  have eno : ¬ putB x = [c, c1, c2] → ptF (c :: c1 :: c2 :: t) = 0 := fun h => by rw [ef, if_neg h]
  have eyes : putB x = [c, c1, c2] → ptF (c :: c1 :: c2 :: t) = 3 := fun h => by rw [ef, if_pos h]
  by_cases l1 : c1.toNat < 128
  · rw [eno (by rw [P]; omega)]; exact ⟨_, rp_3l1 c c1 (c2 :: t) hc hc2 (by simp)  l1⟩
  by_cases h1 : 191 < c1.toNat
  · rw [eno (by rw [P]; omega)]; exact ⟨_, rp_3h1 c c1 (c2 :: t) hc hc2 (by simp)  h1⟩
  have a1 : 128 ≤ c1.toNat ∧ c1.toNat ≤ 191 := by omega
  by_cases l2 : c2.toNat < 128
  · rw [eno (by rw [P]; omega)]; exact ⟨_, rp_3l2 c c1 c2 (t) hc hc2 (by simp) a1 l2⟩
  by_cases h2 : 191 < c2.toNat
  · rw [eno (by rw [P]; omega)]; exact ⟨_, rp_3h2 c c1 c2 (t) hc hc2 (by simp) a1 h2⟩
  have a2 : 128 ≤ c2.toNat ∧ c2.toNat ≤ 191 := by omega
  have hv : ((((c.toNat : Int) - 224) * 64 + ((c1.toNat : Int) - 128)) * 64 + ((c2.toNat : Int) - 128)) = (x : Int) := by omega
  by_cases w1 : x < 2048
  · rw [eno (by rw [P]; omega)]; exact ⟨_, rp_3least c c1 c2 t hc hc2 a1 a2 (by rw [hv]; omega)⟩
  by_cases w2 : x < 55296
  · rw [eyes (by rw [P]; omega)]; exact ⟨_, rp_3ok1 c c1 c2 t hc hc2 a1 a2 (by rw [hv]; omega)⟩
  by_cases w3 : x ≤ 57343
  · rw [eno (by rw [P]; omega)]; exact ⟨_, rp_3sur c c1 c2 t hc hc2 a1 a2 (by rw [hv]; omega)⟩
  rw [eyes (by rw [P]; omega)]; exact ⟨_, rp_3ok2 c c1 c2 t hc hc2 a1 a2 (by rw [hv]; omega)⟩
theorem point_4 (c : UInt8) (t : B8) (hc : 240 ≤ c.toNat) (hc2 : c.toNat < 248) : ∃ v : Int, Pu tree.getF 232 [.str (c :: t)] (.tup [.int .u32 v, .int .i64 (ptF (c :: t) : Int)]) := by
 have hcl := c.toNat_lt
 have k1 : ¬ c.toNat < 128 := by omega
 have k2 : ¬ c.toNat / 32 = 6 := by omega
 have k3 : ¬ c.toNat / 16 = 14 := by omega
 have k4 : c.toNat / 8 = 30 := by omega
 match t with
 | [] =>
  have e : ptF (c :: []) = 0 := by simp only [ptF]; rw [if_neg k1, if_neg k2, if_neg k3, if_pos k4]
  rw [e]; exact ⟨_, rp_4s c _ hc hc2 (by simp)⟩
 | [c1] =>
  have e : ptF (c :: [c1]) = 0 := by simp only [ptF]; rw [if_neg k1, if_neg k2, if_neg k3, if_pos k4]
  rw [e]; exact ⟨_, rp_4s c _ hc hc2 (by simp)⟩
 | [c1, c2] =>
  have e : ptF (c :: [c1, c2]) = 0 := by simp only [ptF]; rw [if_neg k1, if_neg k2, if_neg k3, if_pos k4]
  rw [e]; exact ⟨_, rp_4s c _ hc hc2 (by simp)⟩
 | c1 :: c2 :: c3 :: t =>
  have hcl1 := c1.toNat_lt
  have hcl2 := c2.toNat_lt
  have hcl3 := c3.toNat_lt
  obtain ⟨x, hx⟩ : ∃ x, (((c.toNat % 8) * 64 + c1.toNat % 64) * 64 + c2.toNat % 64) * 64 + c3.toNat % 64 = x := ⟨_, rfl⟩
  have P := put4 (x := x) (c := c) (c1 := c1) (c2 := c2) (c3 := c3) (by omega)
  have ef : ptF (c :: c1 :: c2 :: c3 :: t) = if putB x = [c, c1, c2, c3] then 4 else 0 := by
   rw [← hx]; simp only [ptF]; rw [if_neg k1, if_neg k2, if_neg k3, if_pos k4]
  have eno : ¬ putB x = [c, c1, c2, c3] → ptF (c :: c1 :: c2 :: c3 :: t) = 0 := fun h => by rw [ef, if_neg h]
  have eyes : putB x = [c, c1, c2, c3] → ptF (c :: c1 :: c2 :: c3 :: t) = 4 := fun h => by rw [ef, if_pos h]
  by_cases l1 : c1.toNat < 128
  · rw [eno (by rw [P]; omega)]; exact ⟨_, rp_4l1 c c1 (c2 :: c3 :: t) hc hc2 (by simp)  l1⟩
  by_cases h1 : 191 < c1.toNat
  · rw [eno (by rw [P]; omega)]; exact ⟨_, rp_4h1 c c1 (c2 :: c3 :: t) hc hc2 (by simp)  h1⟩
  have a1 : 128 ≤ c1.toNat ∧ c1.toNat ≤ 191 := by omega
  by_cases l2 : c2.toNat < 128
  · rw [eno (by rw [P]; omega)]; exact ⟨_, rp_4l2 c c1 c2 (c3 :: t) hc hc2 (by simp) a1 l2⟩
  by_cases h2 : 191 < c2.toNat
  · rw [eno (by rw [P]; omega)]; exact ⟨_, rp_4h2 c c1 c2 (c3 :: t) hc hc2 (by simp) a1 h2⟩
  have a2 : 128 ≤ c2.toNat ∧ c2.toNat ≤ 191 := by omega
  by_cases l3 : c3.toNat < 128
  · rw [eno (by rw [P]; omega)]; exact ⟨_, rp_4l3 c c1 c2 c3 (t) hc hc2 (by simp) a1 a2 l3⟩
  by_cases h3 : 191 < c3.toNat
  · rw [eno (by rw [P]; omega)]; exact ⟨_, rp_4h3 c c1 c2 c3 (t) hc hc2 (by simp) a1 a2 h3⟩
  have a3 : 128 ≤ c3.toNat ∧ c3.toNat ≤ 191 := by omega
  have hv : (((((c.toNat : Int) - 240) * 64 + ((c1.toNat : Int) - 128)) * 64 + ((c2.toNat : Int) - 128)) * 64 + ((c3.toNat : Int) - 128)) = (x : Int) := by omega
  by_cases w1 : x < 65536
  · rw [eno (by rw [P]; omega)]; exact ⟨_, rp_4least c c1 c2 c3 t hc hc2 a1 a2 a3 (by rw [hv]; omega)⟩
  by_cases w2 : 1114111 < x
  · rw [eno (by rw [P]; omega)]; exact ⟨_, rp_4most c c1 c2 c3 t hc hc2 a1 a2 a3 (by rw [hv]; omega)⟩
  rw [eyes (by rw [P]; omega)]; exact ⟨_, rp_4ok2 c c1 c2 c3 t hc hc2 a1 a2 a3 (by rw [hv]; omega)⟩
theorem point_R (s : B8) : ∃ v : Int, Pu tree.getF 232 [.str s] (.tup [.int .u32 v, .int .i64 (ptF s : Int)]) := by
 cases s with
 | nil => exact ⟨_, rp_nil⟩
 | cons c t =>
  by_cases h1 : c.toNat < 128
  · have e : ptF (c :: t) = 1 := by simp only [ptF]; rw [if_pos h1]
    rw [e]; exact ⟨_, rp_1 c t h1⟩
  by_cases h2 : c.toNat < 192
  · have e : ptF (c :: t) = 0 := by simp only [ptF]; rw [if_neg h1, if_neg (by omega), if_neg (by omega), if_neg (by omega)]
    rw [e]; exact ⟨_, rp_lo c t (by omega) h2⟩
  by_cases h3 : c.toNat < 224
  · exact point_2 c t (by omega) h3
  by_cases h4 : c.toNat < 240
  · exact point_3 c t (by omega) h4
  by_cases h5 : c.toNat < 248
  · exact point_4 c t (by omega) h5
  have e : ptF (c :: t) = 0 := by simp only [ptF]; rw [if_neg h1, if_neg (by omega), if_neg (by omega), if_neg (by omega)]
  rw [e]; exact ⟨_, rp_hi c t (by omega)⟩
abbrev zL4 : CCode := (.loop true (.seq (.seq (.R [.v 0, .g (.len true (.loc 0)), .x .gtr 0 (.k 0)] [(1, 2)]) (.cond (.var 1) .skip (.exit 0))) (.block 1 (.seq (.R [.v 0, .c 232 [(.loc 0)], .m (.loc 0), .e 0 0, .e 1 1, .m (.loc 1), .m (.loc 1)] [(2, 6)]) (.seq (.seq (.R [.v 2, .x .eql 0 (.k 0)] [(3, 1)]) (.cond (.var 3) (.seq (.R [.m (.b false)] [(4, 0)]) .ret) .skip)) (.R [.v 0, .v 2, .g (.slc 0 (.loc 1) (some (.loc 0)) none), .m (.loc 0)] [(0, 3)]))))))
theorem rvalid_loop (Q : QT) : ∀ (m : Nat) (s : B8), s.length ≤ m → s.length ≤ 70000 → ∀ (h : CHeap) (v1 v2 v3 v4 : CVal), Fit h →
    (∀ n' ty v0 v1 v2 v3, h.next ≤ n' → zA7 ty n' → zB7 s = false → Q .ret ⟨[v0, v1, v2, v3, .bool false], ⟨h.ents, n', ty⟩, []⟩) →
    (∀ n' ty v0 v1 v2 v3 v4, h.next ≤ n' → zA7 ty n' → zB7 s = true → Q (.exit 0) ⟨[v0, v1, v2, v3, v4], ⟨h.ents, n', ty⟩, []⟩) →
    W tree.getF zL4 ⟨[.str s, v1, v2, v3, v4], h, []⟩ Q := by
 intro m
 induction m with
 | zero =>
  intro s hm hl h v1 v2 v3 v4 hf hk1 hk2
  obtain rfl : s = [] := List.length_eq_zero_iff.1 (by omega)
  obtain ⟨hu, hut, hX⟩ := fx4 hf
  refine W.loop ?_
  try refine wx_ ?_
  exact hk2 _ _ _ _ _ _ _ (by omega) ut_ (by rw [zB7]; rfl)
 | succ m ih =>
  intro s hm hl h v1 v2 v3 v4 hf hk1 hk2
  obtain ⟨hu, hut, hX⟩ := fx4 hf
  cases s with
  | nil =>
   refine W.loop ?_
   try refine wx_ ?_
   exact hk2 _ _ _ _ _ _ _ (by omega) ut_ (by rw [zB7]; rfl)
  | cons c t =>
   obtain ⟨rv, P⟩ := point_R (c :: t)
   have hle := ptF_le (c :: t)
   simp only [List.length_cons] at hm hl hle
   have htk : (c :: t).take (t.length + 1) = c :: t := List.take_of_length_le (by simp)
   by_cases hz : ptF (c :: t) = 0
   · rw [hz] at P
     refine W.loop ?_
     repeat (first | refine wx_ ?_ | (refine P _ ?_ _ fun n1 tyn1 hn1 hun1 => ⟨rfl, ?_⟩; exact fit_; (try dsimp only at hn1)) | (refine W.ret ?_; (try simp only [zAd, zA3, zAa]); refine hk1 _ _ _ _ _ _ ?_ ?_ ?_; omega; exact ut_; rw [zB7, dif_pos hz]; rfl))
   · obtain ⟨n, hn⟩ : ∃ n, ptF (c :: t) = n := ⟨_, rfl⟩
     have hvd : zB7 (c :: t) = zB7 ((c :: t).drop n) := by
      conv => lhs; rw [zB7]
      rw [dif_neg hz, hn]
     rw [hvd] at hk1 hk2
     rw [hn] at P hz hle
     have hn0 : ¬ ((n : Int) = 0) := by omega
     refine W.loop ?_
     have hZ := j3_ hX htk hn0
     repeat (first | refine wk_ ?_ | (refine P _ ?_ _ fun n1 tyn1 hn1 hun1 => ⟨rfl, ?_⟩; exact fit_; (try dsimp only at hn1)))
     show W tree.getF zL4 (dropped true _ _) Q
     generalize e : dropped .. = r9
     simp (disch := omega) [hX] at e
     subst e
     refine ih ((c :: t).drop n) (by rw [List.length_drop]; simp; omega) (by rw [List.length_drop]; simp; omega) _ _ _ _ _ ?_ ?_ ?_
     · exact fit_
     · intro n' ty w0 w1 w2 w3 g1 g3 g2; exact hk1 n' ty w0 w1 w2 w3 (by dsimp only at g1; omega) g3 g2
     · intro n' ty w0 w1 w2 w3 w4 g1 g3 g2; exact hk2 n' ty w0 w1 w2 w3 w4 (by dsimp only at g1; omega) g3 g2
theorem valid_R (s : B8) (hl : s.length < 70000) : Pu tree.getF 163 [.str s] (.bool (zB7 s)) := by
 intro h hf K hk
 obtain ⟨hu, hut, hX⟩ := fx4 hf
 refine mk_ 163 c163 (s_ ?_)
 try refine wx_ ?_
 refine rvalid_loop _ s.length s (Nat.le_refl _) (by omega) _ _ _ _ _ ?_ ?_ ?_
 · exact fit_
 · intro n' ty w0 w1 w2 w3 g1 g3 g2
   try dsimp only at g1
   rw [g2] at hk
   try simp only [zAd, zA3, zAa]
   refine endW.of (.inl rfl) rfl ?_
   generalize e : zB2 .. = r
   simp (disch := omega) [hX] at e
   subst e
   (try dsimp only)
   refine hk _ _ ?_ ?_
   omega
   exact ut_
 · intro n' ty w0 w1 w2 w3 w4 g1 g3 g2
   try dsimp only at g1
   rw [g2] at hk
   repeat (first | refine wx_ ?_ | (refine rx_ ?_; (refine hk _ _ ?_ ?_; omega; exact ut_)))
theorem textF_shift (q : UInt8) (m : Nat) : ∀ (n : Nat) (r acc : B8) (k : Nat), r.length ≤ n → zBe q r acc (k + m) = (zBe q r acc k).map (fun x => (x.1, x.2 + m)) := by
 intro n
 induction n with
 | zero =>
  intro r acc k h
  obtain rfl : r = [] := List.length_eq_zero_iff.1 (by omega)
  simp [zBe]
 | succ n ih =>
  intro r acc k h
  cases r with
  | nil => simp [zBe]
  | cons c t =>
   simp only [List.length_cons] at h
   unfold zBe
   by_cases h1 : c = q
   · rw [if_pos h1, if_pos h1]; simp; omega
   rw [if_neg h1, if_neg h1]
   by_cases h2 : c = 10
   · rw [if_pos h2, if_pos h2]; rfl
   rw [if_neg h2, if_neg h2]
   by_cases h3 : c = 92
   · rw [if_pos h3, if_pos h3]
     cases t with
     | nil => rfl
     | cons x u =>
      dsimp only
      cases meantF x with
      | none => rfl
      | some w =>
       dsimp only
       have := ih u (acc ++ [w]) (k + 2) (by simp only [List.length_cons] at h; omega)
       rw [← this]
       congr 1
       omega
   · rw [if_neg h3, if_neg h3]
     have := ih t (acc ++ [c]) (k + 1) (by omega)
     rw [← this]
     congr 1
     omega
theorem wQU1 {P : Prop} (h : P := by repeat (first | refine st_ rfl ?_ | ((first | refine rg_ ?_ | refine go_ ?_); refine gw_ (by simp (disch := omega) [hX, hg, hY, hce, hc0, hsl, hto, hcut, hto9]; rfl) ?_) | ((first | (refine W.ret ?_; (try simp only [zAd, zA3, zAa]); refine endW.of (.inl rfl) rfl ?_) | refine endW.of (.inr rfl) rfl ?_); generalize e : zB2 .. = r; simp (disch := omega) [hX, hg, hY, hce, hc0, hsl, hto, hcut, hto9] at e; subst e; (refine hk _ _ ?_ ?_; omega; exact ut_)))) : P := h
theorem wQU2 {P : Prop} (h : P := by repeat (first | refine st_ rfl ?_ | ((first | refine rg_ ?_ | refine go_ ?_); refine gw_ (by simp (disch := omega) [hX, hg, hY, hce, hc0, hsl, hto]; rfl) ?_) | ((first | (refine W.ret ?_; (try simp only [zAd, zA3, zAa]); refine endW.of (.inl rfl) rfl ?_) | refine endW.of (.inr rfl) rfl ?_); generalize e : zB2 .. = r; simp (disch := omega) [hX, hg, hY, hce, hc0, hsl, hto] at e; subst e; (refine hk1 _ _ ?_ ?_; omega; exact ut_)))) : P := h
theorem wQU3 {P : Prop} (h : P := by repeat (first | refine st_ rfl ?_ | ((first | refine rg_ ?_ | refine go_ ?_); refine gw_ (by simp (disch := omega) [hX, hg, hY, hce, hc0, hsl, hto]; rfl) ?_) | ((first | (refine W.ret ?_; (try simp only [zAd, zA3, zAa]); refine endW.of (.inl rfl) rfl ?_) | refine endW.of (.inr rfl) rfl ?_); generalize e : zB2 .. = r; simp (disch := omega) [hX, hg, hY, hce, hc0, hsl, hto] at e; subst e; (refine hk2 _ _ ?_ ?_; omega; exact ut_)))) : P := h
theorem nmR_le (s : B8) : nmR s ≤ s.length := by
 induction s with
 | nil => exact Nat.le_refl _
 | cons c r ih =>
  unfold nmR
  split
  · simp only [List.length_cons]; omega
  · exact Nat.zero_le _
theorem word_e (s : B8) (hs : s.length < 60000) (i : Nat) (hi : i = s.length) (t : Int) (h : CHeap) (p d : Nat) (hf : Fit h) (hg : zA1 h.ents p = some (lx s (i : Int) 0 t)) (hp : p < h.next) (K : KT)
    (hk : ∀ n' ty, h.next ≤ n' → zA7 ty n' → K (.agg [.int .i64 5, .str [], .int .u64 0, .int .i64 (i : Int)]) ⟨h.ents, n', ty⟩) : Wc tree.getF 139 [.ptr p d 0] h K := by
 obtain ⟨hu, hut, hX⟩ := fx4 hf
 have hY := fx5 hf hg
 have hie : (i : Int) = (s.length : Int) := by omega
 refine mk_ 139 c139 (s_ ?_)
 have hZ := j3_ hX hg hY
 repeat (first | refine wk_ ?_ | (refine rk_ ?_; (refine hk _ _ ?_ ?_; omega; exact ut_)))
theorem word_nm (s : B8) (hs : s.length < 60000) (i : Nat) (c : UInt8) (r : B8) (hd : s.drop i = c :: r) (hlen : i + (c :: r).length = s.length) (t : Int) (hl : letB c = true) (h : CHeap) (p d : Nat) (hf : Fit h) (hg : zA1 h.ents p = some (lx s (i : Int) 0 t)) (hp : p < h.next) (K : KT) (hk : ∀ n' ty, h.next ≤ n' → zA7 ty n' → K (.agg [.int .i64 1, .str ((c :: r).take (1 + nmR r)), .int .u64 0, .int .i64 (i : Int)]) ⟨zA2 h.ents p (lx s ((i + 1 + nmR r : Nat) : Int) 0 t), n', ty⟩) : Wc tree.getF 139 [.ptr p d 0] h K := by
 obtain ⟨hu, hut, hX⟩ := fx4 hf
 have hY := fx5 hf hg; have ⟨hG, hD2, hC2, hN2⟩ := hY
 have hc0 := zAz hd
 obtain ⟨hi, hce⟩ := List.getElem?_eq_some_iff.1 hc0
 have hcl := c.toNat_lt
 have hine : ¬ ((i : Int) = (s.length : Int)) := by omega
 have LF := zB3 c
 have DF := zBs c
 have hsl : (s.take (i + 1)).drop i = [c] := by rw [List.drop_take, show i + 1 - i = 1 by omega, hd]; rfl
 have hto : ((i : Int) + 1).toNat = i + 1 := by omega
 rw [hl] at LF
 refine mk_ 139 c139 (s_ ?_)
 have hZ := j7_ hX hg hY hce hc0 hsl hto
 repeat (first | refine wk_ ?_ | (refine LF _ ?_ _ fun n1 tyn1 hn1 hun1 => ⟨rfl, ?_⟩; exact fit_; (try dsimp only at hn1)) | (refine DF _ ?_ _ fun n1 tyn1 hn1 hun1 => ⟨rfl, ?_⟩; exact fit_; (try dsimp only at hn1)))
 refine ref_name s hs p d t _ _ _ _ _ _ _ _ _ _ _ r (i + 1) (zBa hd) (by simp only [List.length_cons] at hlen; omega) _ _ ?_ ?_ ?_ ?_
 · (simp (disch := omega) [zA1, zA2, zBi, zBg, zA4, hg, hG])
 · exact fit_
 · exact om_
 · intro n' ty w6 g1 g2
   try dsimp only at g1
   have hnl := nmR_le r
   have hlen1 := hlen
   simp only [List.length_cons] at hlen1
   have hcut : (s.take (i + 1 + nmR r)).drop i = (c :: r).take (1 + nmR r) := by rw [List.drop_take, hd]; congr 1; omega
   obtain ⟨e9, he9⟩ : ∃ e9, i + 1 + nmR r = e9 := ⟨_, rfl⟩
   have hto9 : ((e9 : Nat) : Int).toNat = e9 := by omega
   simp only [he9] at hk hcut ⊢
   exact wQU1
theorem word_dot (s : B8) (hs : s.length < 60000) (i : Nat) (c x : UInt8) (r0 r : B8) (hr : r = x :: r0) (hd : s.drop i = c :: r) (hlen : i + (c :: r).length = s.length) (t : Int) (hl : letB c = false) (h46 : c.toNat = 46) (hx : letB x = true) (h : CHeap) (p d : Nat) (hf : Fit h) (hg : zA1 h.ents p = some (lx s (i : Int) 0 t)) (hp : p < h.next) (K : KT) (hk : ∀ n' ty, h.next ≤ n' → zA7 ty n' → K (.agg [.int .i64 1, .str ((c :: r).take (1 + nmR r)), .int .u64 0, .int .i64 (i : Int)]) ⟨zA2 h.ents p (lx s ((i + 1 + nmR r : Nat) : Int) 0 t), n', ty⟩) : Wc tree.getF 139 [.ptr p d 0] h K := by
 obtain ⟨hu, hut, hX⟩ := fx4 hf
 have hY := fx5 hf hg; have ⟨hG, hD2, hC2, hN2⟩ := hY
 have hc0 := zAz hd
 obtain ⟨hi, hce⟩ := List.getElem?_eq_some_iff.1 hc0
 have hcl := c.toNat_lt
 have hine : ¬ ((i : Int) = (s.length : Int)) := by omega
 have LF := zB3 c
 have DF := zBs c
 have hsl : (s.take (i + 1)).drop i = [c] := by rw [List.drop_take, show i + 1 - i = 1 by omega, hd]; rfl
 have hto : ((i : Int) + 1).toNat = i + 1 := by omega
 have hx1 : s[i + 1]? = some x := by have := zBa hd; rw [hr] at this; exact zAz this
 have B1 : ∀ (h : CHeap) (hf : Fit h) (hg : zA1 h.ents p = some (lx s (i : Int) 0 t)) (hp : p < h.next) (K : KT) (hk : ∀ n' ty, h.next ≤ n' → zA7 ty n' → K (.int .u8 (x.toNat : Int)) ⟨h.ents, n', ty⟩), Wc tree.getF 189 [.ptr p d 0, .int .i64 1] h K := fun h hf hg hp K hk => zId s i 1 0 t x hs (by omega) hx1 h p d hf hg hp K hk
 have LX := zB3 x
 rw [hl] at LF
 rw [hx] at LX
 refine mk_ 139 c139 (s_ ?_)
 have hZ := j7_ hX hg hY hce hc0 hsl hto
 repeat (first | refine wk_ ?_ | (refine LF _ ?_ _ fun n1 tyn1 hn1 hun1 => ⟨rfl, ?_⟩; exact fit_; (try dsimp only at hn1)) | (refine B1 _ ?_ ?_ ?_ _ fun n1 tyn1 hn1 hun1 => ⟨rfl, ?_⟩; exact fit_; exact ge_; exact om_; (try dsimp only at hn1)) | (refine LX _ ?_ _ fun n1 tyn1 hn1 hun1 => ⟨rfl, ?_⟩; exact fit_; (try dsimp only at hn1)) | (refine DF _ ?_ _ fun n1 tyn1 hn1 hun1 => ⟨rfl, ?_⟩; exact fit_; (try dsimp only at hn1)))
 refine ref_name s hs p d t _ _ _ _ _ _ _ _ _ _ _ r (i + 1) (zBa hd) (by simp only [List.length_cons] at hlen; omega) _ _ ?_ ?_ ?_ ?_
 · (simp (disch := omega) [zA1, zA2, zBi, zBg, zA4, hg, hG])
 · exact fit_
 · exact om_
 · intro n' ty w6 g1 g2
   try dsimp only at g1
   have hnl := nmR_le r
   have hlen1 := hlen
   simp only [List.length_cons] at hlen1
   have hcut : (s.take (i + 1 + nmR r)).drop i = (c :: r).take (1 + nmR r) := by rw [List.drop_take, hd]; congr 1; omega
   obtain ⟨e9, he9⟩ : ∃ e9, i + 1 + nmR r = e9 := ⟨_, rfl⟩
   have hto9 : ((e9 : Nat) : Int).toNat = e9 := by omega
   simp only [he9] at hk hcut ⊢
   exact wQU1
theorem word_num (s : B8) (hs : s.length < 60000) (i : Nat) (c : UInt8) (r : B8) (hd : s.drop i = c :: r) (hlen : i + (c :: r).length = s.length) (t : Int) (hl : letB c = false) (hdg : digB c = true) (hne : ¬ c.toNat = 46) (h : CHeap) (p d : Nat) (hf : Fit h) (hg : zA1 h.ents p = some (lx s (i : Int) 0 t)) (hp : p < h.next) (K : KT)
    (hk1 : ∀ n' ty (v len : Nat), h.next ≤ n' → zA7 ty n' → zK6 (c :: r) = .inr (v, len) → K (.agg [.int .i64 2, .str [], .int .u64 (v : Int), .int .i64 (i : Int)]) ⟨zA2 h.ents p (lx s ((i + len : Nat) : Int) 0 t), n', ty⟩)
    (hk2 : ∀ n' ty (e : Nat) (j : Int), h.next ≤ n' → zA7 ty n' → zK6 (c :: r) = .inl e → K (.agg [.int .i64 0, .str [], .int .u64 0, .int .i64 0]) ⟨zA2 h.ents p (lx s j (e : Int) (i : Int)), n', ty⟩) : Wc tree.getF 139 [.ptr p d 0] h K := by
 obtain ⟨hu, hut, hX⟩ := fx4 hf
 have hY := fx5 hf hg
 have hc0 := zAz hd
 obtain ⟨hi, hce⟩ := List.getElem?_eq_some_iff.1 hc0
 have hcl := c.toNat_lt
 have hine : ¬ ((i : Int) = (s.length : Int)) := by omega
 have LF := zB3 c
 have DF := zBs c
 have hsl : (s.take (i + 1)).drop i = [c] := by rw [List.drop_take, show i + 1 - i = 1 by omega, hd]; rfl
 have hto : ((i : Int) + 1).toNat = i + 1 := by omega
 rw [hl] at LF
 rw [hdg] at DF
 refine mk_ 139 c139 (s_ ?_)
 have hZ := j7_ hX hg hY hce hc0 hsl hto
 repeat (first | refine wk_ ?_ | (refine LF _ ?_ _ fun n1 tyn1 hn1 hun1 => ⟨rfl, ?_⟩; exact fit_; (try dsimp only at hn1)) | (refine DF _ ?_ _ fun n1 tyn1 hn1 hun1 => ⟨rfl, ?_⟩; exact fit_; (try dsimp only at hn1)))
 refine number_L s hs i c r hd hlen t _ p d ?_ ?_ ?_ _ (fun n1 ty1 v len h1 h2 e1 => ⟨rfl, ?_⟩) (fun n1 ty1 e j h1 h2 e1 => ⟨rfl, ?_⟩); exact fit_; exact ge_; exact om_; all_goals (try dsimp only at h1)
 · obtain ⟨e9, he9⟩ : ∃ e9, i + len = e9 := ⟨_, rfl⟩
   replace hk1 := fun n' ty g1 g2 => hk1 n' ty v len g1 g2 e1
   simp only [he9] at hk1 ⊢
   exact wQU2
 · replace hk2 := fun n' ty g1 g2 => hk2 n' ty e j g1 g2 e1
   exact wQU3
theorem word_txt (s : B8) (hs : s.length < 60000) (i : Nat) (c : UInt8) (r : B8) (hd : s.drop i = c :: r) (hlen : i + (c :: r).length = s.length) (t : Int) (hl : letB c = false) (hdg : digB c = false) (hq : c.toNat = 34 ∨ c.toNat = 39) (h : CHeap) (p d : Nat) (hf : Fit h) (hg : zA1 h.ents p = some (lx s (i : Int) 0 t)) (hp : p < h.next) (K : KT)
    (hk1 : ∀ n' ty txt (k : Nat), h.next ≤ n' → zA7 ty n' → zBe c r [] (i + 1) = some (txt, k) → zB7 txt = true → K (.agg [.int .i64 3, .str txt, .int .u64 0, .int .i64 (i : Int)]) ⟨zA2 h.ents p (lx s (k : Int) 0 t), n', ty⟩)
    (hk2 : ∀ n' ty (j : Int), h.next ≤ n' → zA7 ty n' → (zBe c r [] (i + 1) = none ∨ ∃ txt k, zBe c r [] (i + 1) = some (txt, k) ∧ zB7 txt = false) → K (.agg [.int .i64 0, .str [], .int .u64 0, .int .i64 0]) ⟨zA2 h.ents p (lx s j 2 (i : Int)), n', ty⟩) : Wc tree.getF 139 [.ptr p d 0] h K := by
 obtain ⟨hu, hut, hX⟩ := fx4 hf
 have hY := fx5 hf hg
 have hc0 := zAz hd
 obtain ⟨hi, hce⟩ := List.getElem?_eq_some_iff.1 hc0
 have hcl := c.toNat_lt
 have hine : ¬ ((i : Int) = (s.length : Int)) := by omega
 have LF := zB3 c
 have DF := zBs c
 have hsl : (s.take (i + 1)).drop i = [c] := by rw [List.drop_take, show i + 1 - i = 1 by omega, hd]; rfl
 have hto : ((i : Int) + 1).toNat = i + 1 := by omega
 rw [hl] at LF
 rw [hdg] at DF
 rcases hq with hq | hq
 · refine mk_ 139 c139 ?_
   generalize e : zDn .. = r
   simp (disch := omega) [hX, hg, hY] at e
   subst e
   have hZ := j7_ hX hg hY hce hc0 hsl hto
   repeat (first | refine wk_ ?_ | (refine LF _ ?_ _ fun n1 tyn1 hn1 hun1 => ⟨rfl, ?_⟩; exact fit_; (try dsimp only at hn1)) | (refine DF _ ?_ _ fun n1 tyn1 hn1 hun1 => ⟨rfl, ?_⟩; exact fit_; (try dsimp only at hn1)))
   refine text_L zB7 valid_R s hs i c r hd hlen t _ p d ?_ ?_ ?_ _ (fun n1 ty1 txt k h1 h2 e1 e2 => ⟨rfl, ?_⟩) (fun n1 ty1 j h1 h2 e1 => ⟨rfl, ?_⟩); exact fit_; exact ge_; exact om_; all_goals (try dsimp only at h1)
   · replace hk1 := fun n' ty g1 g2 => hk1 n' ty txt k g1 g2 e1 e2
     exact wQU2
   · replace hk2 := fun n' ty g1 g2 => hk2 n' ty j g1 g2 e1
     exact wQU3
 · refine mk_ 139 c139 ?_
   generalize e : zDn .. = r
   simp (disch := omega) [hX, hg, hY] at e
   subst e
   have hZ := j7_ hX hg hY hce hc0 hsl hto
   repeat (first | refine wk_ ?_ | (refine LF _ ?_ _ fun n1 tyn1 hn1 hun1 => ⟨rfl, ?_⟩; exact fit_; (try dsimp only at hn1)) | (refine DF _ ?_ _ fun n1 tyn1 hn1 hun1 => ⟨rfl, ?_⟩; exact fit_; (try dsimp only at hn1)))
   refine text_L zB7 valid_R s hs i c r hd hlen t _ p d ?_ ?_ ?_ _ (fun n1 ty1 txt k h1 h2 e1 e2 => ⟨rfl, ?_⟩) (fun n1 ty1 j h1 h2 e1 => ⟨rfl, ?_⟩); exact fit_; exact ge_; exact om_; all_goals (try dsimp only at h1)
   · replace hk1 := fun n' ty g1 g2 => hk1 n' ty txt k g1 g2 e1 e2
     exact wQU2
   · replace hk2 := fun n' ty g1 g2 => hk2 n' ty j g1 g2 e1
     exact wQU3
theorem wQV1 {P : Prop} (h : P := by refine mk_ 139 c139 (s_ ?_); repeat (first | refine st_ rfl ?_ | ((first | refine rg_ ?_ | refine go_ ?_); refine gw_ (by simp (disch := omega) [hX, hg, hY, hce, hc0, hsl, hto, zLk, zLi, tn40, tn41, tn91, tn93, tn61, tn59, tn44, tn60, tn62, tn45, sg0, sg1, sg2, sg3, sg4, sg5, sg6, sg7, sg8, sg9, sg10, sg11]; rfl) ?_) | (refine W.loop ?_; try (generalize e : dropped .. = r; simp (disch := omega) [hX, hg, hY, hce, hc0, hsl, hto, zLk, zLi, tn40, tn41, tn91, tn93, tn61, tn59, tn44, tn60, tn62, tn45, sg0, sg1, sg2, sg3, sg4, sg5, sg6, sg7, sg8, sg9, sg10, sg11] at e; subst e; try dsimp only)) | (refine LF _ ?_ _ fun n1 tyn1 hn1 hun1 => ⟨rfl, ?_⟩; exact fit_; (try dsimp only at hn1)) | (refine DF _ ?_ _ fun n1 tyn1 hn1 hun1 => ⟨rfl, ?_⟩; exact fit_; (try dsimp only at hn1)) | ((first | (refine W.ret ?_; (try simp only [zAd, zA3, zAa]); refine endW.of (.inl rfl) rfl ?_) | refine endW.of (.inr rfl) rfl ?_); generalize e : zB2 .. = r; simp (disch := omega) [hX, hg, hY, hce, hc0, hsl, hto, zLk, zLi, tn40, tn41, tn91, tn93, tn61, tn59, tn44, tn60, tn62, tn45, sg0, sg1, sg2, sg3, sg4, sg5, sg6, sg7, sg8, sg9, sg10, sg11] at e; subst e; (refine hk _ _ ?_ ?_; omega; exact ut_)))) : P := h
theorem wQV2 {P : Prop} (h : P := by refine mk_ 139 c139 (s_ ?_); repeat (first | refine st_ rfl ?_ | ((first | refine rg_ ?_ | refine go_ ?_); refine gw_ (by simp (disch := omega) [hX, hg, hY, hce, hc0, hsl, hto, zLk, zLi, tn40, tn41, tn91, tn93, tn61, tn59, tn44, tn60, tn62, tn45, sg0, sg1, sg2, sg3, sg4, sg5, sg6, sg7, sg8, sg9, sg10, sg11]; rfl) ?_) | (refine W.loop ?_; try (generalize e : dropped .. = r; simp (disch := omega) [hX, hg, hY, hce, hc0, hsl, hto, zLk, zLi, tn40, tn41, tn91, tn93, tn61, tn59, tn44, tn60, tn62, tn45, sg0, sg1, sg2, sg3, sg4, sg5, sg6, sg7, sg8, sg9, sg10, sg11] at e; subst e; try dsimp only)) | (refine LF _ ?_ _ fun n1 tyn1 hn1 hun1 => ⟨rfl, ?_⟩; exact fit_; (try dsimp only at hn1)) | (refine B1 _ ?_ ?_ ?_ _ fun n1 tyn1 hn1 hun1 => ⟨rfl, ?_⟩; exact fit_; exact ge_; exact om_; (try dsimp only at hn1)) | (refine LX _ ?_ _ fun n1 tyn1 hn1 hun1 => ⟨rfl, ?_⟩; exact fit_; (try dsimp only at hn1)) | (refine DF _ ?_ _ fun n1 tyn1 hn1 hun1 => ⟨rfl, ?_⟩; exact fit_; (try dsimp only at hn1)) | (refine zE8 s (i : Int) 0 t _ _ _ p d ?_ ?_ ?_ _ fun n3 tyn3 hn3 hun3 => ⟨rfl, ?_⟩; exact fit_; exact ge_; exact om_; (try dsimp only at hn3)) | ((first | (refine W.ret ?_; (try simp only [zAd, zA3, zAa]); refine endW.of (.inl rfl) rfl ?_) | refine endW.of (.inr rfl) rfl ?_); generalize e : zB2 .. = r; simp (disch := omega) [hX, hg, hY, hce, hc0, hsl, hto, zLk, zLi, tn40, tn41, tn91, tn93, tn61, tn59, tn44, tn60, tn62, tn45, sg0, sg1, sg2, sg3, sg4, sg5, sg6, sg7, sg8, sg9, sg10, sg11] at e; subst e; (refine hk _ _ ?_ ?_; omega; exact ut_)))) : P := h
theorem zLk : UInt8.toNat 123 = 123 := rfl
theorem zLi : UInt8.toNat 125 = 125 := rfl
theorem tn40 : UInt8.toNat 40 = 40 := rfl
theorem tn41 : UInt8.toNat 41 = 41 := rfl
theorem tn91 : UInt8.toNat 91 = 91 := rfl
theorem tn93 : UInt8.toNat 93 = 93 := rfl
theorem tn61 : UInt8.toNat 61 = 61 := rfl
theorem tn59 : UInt8.toNat 59 = 59 := rfl
theorem tn44 : UInt8.toNat 44 = 44 := rfl
theorem tn60 : UInt8.toNat 60 = 60 := rfl
theorem tn62 : UInt8.toNat 62 = 62 := rfl
theorem tn45 : UInt8.toNat 45 = 45 := rfl
theorem sg0 : ([123, 125, 40, 41, 91, 93, 61, 59, 44, 60, 62, 45] : B8)[0]? = some 123 := rfl
theorem sg1 : ([125, 40, 41, 91, 93, 61, 59, 44, 60, 62, 45] : B8)[0]? = some 125 := rfl
theorem sg2 : ([40, 41, 91, 93, 61, 59, 44, 60, 62, 45] : B8)[0]? = some 40 := rfl
theorem sg3 : ([41, 91, 93, 61, 59, 44, 60, 62, 45] : B8)[0]? = some 41 := rfl
theorem sg4 : ([91, 93, 61, 59, 44, 60, 62, 45] : B8)[0]? = some 91 := rfl
theorem sg5 : ([93, 61, 59, 44, 60, 62, 45] : B8)[0]? = some 93 := rfl
theorem sg6 : ([61, 59, 44, 60, 62, 45] : B8)[0]? = some 61 := rfl
theorem sg7 : ([59, 44, 60, 62, 45] : B8)[0]? = some 59 := rfl
theorem sg8 : ([44, 60, 62, 45] : B8)[0]? = some 44 := rfl
theorem sg9 : ([60, 62, 45] : B8)[0]? = some 60 := rfl
theorem sg10 : ([62, 45] : B8)[0]? = some 62 := rfl
theorem sg11 : ([45] : B8)[0]? = some 45 := rfl
theorem word_s123 (s : B8) (hs : s.length < 60000) (i : Nat) (c : UInt8) (r : B8) (hd : s.drop i = c :: r) (hlen : i + (c :: r).length = s.length) (t : Int) (hl : letB c = false) (hdg : digB c = false) (hcg : c.toNat = 123) (h : CHeap) (p d : Nat) (hf : Fit h) (hg : zA1 h.ents p = some (lx s (i : Int) 0 t)) (hp : p < h.next) (K : KT) (hk : ∀ n' ty, h.next ≤ n' → zA7 ty n' → K (.agg [.int .i64 4, .str [c], .int .u64 0, .int .i64 (i : Int)]) ⟨zA2 h.ents p (lx s ((i + 1 : Nat) : Int) 0 t), n', ty⟩) : Wc tree.getF 139 [.ptr p d 0] h K := by
 obtain ⟨hu, hut, hX⟩ := fx4 hf
 have hY := fx5 hf hg
 have hc0 := zAz hd
 obtain ⟨hi, hce⟩ := List.getElem?_eq_some_iff.1 hc0
 have hcl := c.toNat_lt
 have hine : ¬ ((i : Int) = (s.length : Int)) := by omega
 have LF := zB3 c
 have DF := zBs c
 have hsl : (s.take (i + 1)).drop i = [c] := by rw [List.drop_take, show i + 1 - i = 1 by omega, hd]; rfl
 have hto : ((i : Int) + 1).toNat = i + 1 := by omega
 rw [hl] at LF
 rw [hdg] at DF
 have e1 : ((i + 1 : Nat) : Int) = (i : Int) + 1 := by omega
 rw [e1] at hk
 exact wQV1
theorem word_s125 (s : B8) (hs : s.length < 60000) (i : Nat) (c : UInt8) (r : B8) (hd : s.drop i = c :: r) (hlen : i + (c :: r).length = s.length) (t : Int) (hl : letB c = false) (hdg : digB c = false) (hcg : c.toNat = 125) (h : CHeap) (p d : Nat) (hf : Fit h) (hg : zA1 h.ents p = some (lx s (i : Int) 0 t)) (hp : p < h.next) (K : KT) (hk : ∀ n' ty, h.next ≤ n' → zA7 ty n' → K (.agg [.int .i64 4, .str [c], .int .u64 0, .int .i64 (i : Int)]) ⟨zA2 h.ents p (lx s ((i + 1 : Nat) : Int) 0 t), n', ty⟩) : Wc tree.getF 139 [.ptr p d 0] h K := by
 obtain ⟨hu, hut, hX⟩ := fx4 hf
 have hY := fx5 hf hg
 have hc0 := zAz hd
 obtain ⟨hi, hce⟩ := List.getElem?_eq_some_iff.1 hc0
 have hcl := c.toNat_lt
 have hine : ¬ ((i : Int) = (s.length : Int)) := by omega
 have LF := zB3 c
 have DF := zBs c
 have hsl : (s.take (i + 1)).drop i = [c] := by rw [List.drop_take, show i + 1 - i = 1 by omega, hd]; rfl
 have hto : ((i : Int) + 1).toNat = i + 1 := by omega
 rw [hl] at LF
 rw [hdg] at DF
 have e1 : ((i + 1 : Nat) : Int) = (i : Int) + 1 := by omega
 rw [e1] at hk
 exact wQV1
theorem word_s40 (s : B8) (hs : s.length < 60000) (i : Nat) (c : UInt8) (r : B8) (hd : s.drop i = c :: r) (hlen : i + (c :: r).length = s.length) (t : Int) (hl : letB c = false) (hdg : digB c = false) (hcg : c.toNat = 40) (h : CHeap) (p d : Nat) (hf : Fit h) (hg : zA1 h.ents p = some (lx s (i : Int) 0 t)) (hp : p < h.next) (K : KT) (hk : ∀ n' ty, h.next ≤ n' → zA7 ty n' → K (.agg [.int .i64 4, .str [c], .int .u64 0, .int .i64 (i : Int)]) ⟨zA2 h.ents p (lx s ((i + 1 : Nat) : Int) 0 t), n', ty⟩) : Wc tree.getF 139 [.ptr p d 0] h K := by
 obtain ⟨hu, hut, hX⟩ := fx4 hf
 have hY := fx5 hf hg
 have hc0 := zAz hd
 obtain ⟨hi, hce⟩ := List.getElem?_eq_some_iff.1 hc0
 have hcl := c.toNat_lt
 have hine : ¬ ((i : Int) = (s.length : Int)) := by omega
 have LF := zB3 c
 have DF := zBs c
 have hsl : (s.take (i + 1)).drop i = [c] := by rw [List.drop_take, show i + 1 - i = 1 by omega, hd]; rfl
 have hto : ((i : Int) + 1).toNat = i + 1 := by omega
 rw [hl] at LF
 rw [hdg] at DF
 have e1 : ((i + 1 : Nat) : Int) = (i : Int) + 1 := by omega
 rw [e1] at hk
 exact wQV1
theorem word_s41 (s : B8) (hs : s.length < 60000) (i : Nat) (c : UInt8) (r : B8) (hd : s.drop i = c :: r) (hlen : i + (c :: r).length = s.length) (t : Int) (hl : letB c = false) (hdg : digB c = false) (hcg : c.toNat = 41) (h : CHeap) (p d : Nat) (hf : Fit h) (hg : zA1 h.ents p = some (lx s (i : Int) 0 t)) (hp : p < h.next) (K : KT) (hk : ∀ n' ty, h.next ≤ n' → zA7 ty n' → K (.agg [.int .i64 4, .str [c], .int .u64 0, .int .i64 (i : Int)]) ⟨zA2 h.ents p (lx s ((i + 1 : Nat) : Int) 0 t), n', ty⟩) : Wc tree.getF 139 [.ptr p d 0] h K := by
 obtain ⟨hu, hut, hX⟩ := fx4 hf
 have hY := fx5 hf hg
 have hc0 := zAz hd
 obtain ⟨hi, hce⟩ := List.getElem?_eq_some_iff.1 hc0
 have hcl := c.toNat_lt
 have hine : ¬ ((i : Int) = (s.length : Int)) := by omega
 have LF := zB3 c
 have DF := zBs c
 have hsl : (s.take (i + 1)).drop i = [c] := by rw [List.drop_take, show i + 1 - i = 1 by omega, hd]; rfl
 have hto : ((i : Int) + 1).toNat = i + 1 := by omega
 rw [hl] at LF
 rw [hdg] at DF
 have e1 : ((i + 1 : Nat) : Int) = (i : Int) + 1 := by omega
 rw [e1] at hk
 exact wQV1
theorem word_s91 (s : B8) (hs : s.length < 60000) (i : Nat) (c : UInt8) (r : B8) (hd : s.drop i = c :: r) (hlen : i + (c :: r).length = s.length) (t : Int) (hl : letB c = false) (hdg : digB c = false) (hcg : c.toNat = 91) (h : CHeap) (p d : Nat) (hf : Fit h) (hg : zA1 h.ents p = some (lx s (i : Int) 0 t)) (hp : p < h.next) (K : KT) (hk : ∀ n' ty, h.next ≤ n' → zA7 ty n' → K (.agg [.int .i64 4, .str [c], .int .u64 0, .int .i64 (i : Int)]) ⟨zA2 h.ents p (lx s ((i + 1 : Nat) : Int) 0 t), n', ty⟩) : Wc tree.getF 139 [.ptr p d 0] h K := by
 obtain ⟨hu, hut, hX⟩ := fx4 hf
 have hY := fx5 hf hg
 have hc0 := zAz hd
 obtain ⟨hi, hce⟩ := List.getElem?_eq_some_iff.1 hc0
 have hcl := c.toNat_lt
 have hine : ¬ ((i : Int) = (s.length : Int)) := by omega
 have LF := zB3 c
 have DF := zBs c
 have hsl : (s.take (i + 1)).drop i = [c] := by rw [List.drop_take, show i + 1 - i = 1 by omega, hd]; rfl
 have hto : ((i : Int) + 1).toNat = i + 1 := by omega
 rw [hl] at LF
 rw [hdg] at DF
 have e1 : ((i + 1 : Nat) : Int) = (i : Int) + 1 := by omega
 rw [e1] at hk
 exact wQV1
theorem word_s93 (s : B8) (hs : s.length < 60000) (i : Nat) (c : UInt8) (r : B8) (hd : s.drop i = c :: r) (hlen : i + (c :: r).length = s.length) (t : Int) (hl : letB c = false) (hdg : digB c = false) (hcg : c.toNat = 93) (h : CHeap) (p d : Nat) (hf : Fit h) (hg : zA1 h.ents p = some (lx s (i : Int) 0 t)) (hp : p < h.next) (K : KT) (hk : ∀ n' ty, h.next ≤ n' → zA7 ty n' → K (.agg [.int .i64 4, .str [c], .int .u64 0, .int .i64 (i : Int)]) ⟨zA2 h.ents p (lx s ((i + 1 : Nat) : Int) 0 t), n', ty⟩) : Wc tree.getF 139 [.ptr p d 0] h K := by
 obtain ⟨hu, hut, hX⟩ := fx4 hf
 have hY := fx5 hf hg
 have hc0 := zAz hd
 obtain ⟨hi, hce⟩ := List.getElem?_eq_some_iff.1 hc0
 have hcl := c.toNat_lt
 have hine : ¬ ((i : Int) = (s.length : Int)) := by omega
 have LF := zB3 c
 have DF := zBs c
 have hsl : (s.take (i + 1)).drop i = [c] := by rw [List.drop_take, show i + 1 - i = 1 by omega, hd]; rfl
 have hto : ((i : Int) + 1).toNat = i + 1 := by omega
 rw [hl] at LF
 rw [hdg] at DF
 have e1 : ((i + 1 : Nat) : Int) = (i : Int) + 1 := by omega
 rw [e1] at hk
 exact wQV1
theorem word_s61 (s : B8) (hs : s.length < 60000) (i : Nat) (c : UInt8) (r : B8) (hd : s.drop i = c :: r) (hlen : i + (c :: r).length = s.length) (t : Int) (hl : letB c = false) (hdg : digB c = false) (hcg : c.toNat = 61) (h : CHeap) (p d : Nat) (hf : Fit h) (hg : zA1 h.ents p = some (lx s (i : Int) 0 t)) (hp : p < h.next) (K : KT) (hk : ∀ n' ty, h.next ≤ n' → zA7 ty n' → K (.agg [.int .i64 4, .str [c], .int .u64 0, .int .i64 (i : Int)]) ⟨zA2 h.ents p (lx s ((i + 1 : Nat) : Int) 0 t), n', ty⟩) : Wc tree.getF 139 [.ptr p d 0] h K := by
 obtain ⟨hu, hut, hX⟩ := fx4 hf
 have hY := fx5 hf hg
 have hc0 := zAz hd
 obtain ⟨hi, hce⟩ := List.getElem?_eq_some_iff.1 hc0
 have hcl := c.toNat_lt
 have hine : ¬ ((i : Int) = (s.length : Int)) := by omega
 have LF := zB3 c
 have DF := zBs c
 have hsl : (s.take (i + 1)).drop i = [c] := by rw [List.drop_take, show i + 1 - i = 1 by omega, hd]; rfl
 have hto : ((i : Int) + 1).toNat = i + 1 := by omega
 rw [hl] at LF
 rw [hdg] at DF
 have e1 : ((i + 1 : Nat) : Int) = (i : Int) + 1 := by omega
 rw [e1] at hk
 exact wQV1
theorem word_s59 (s : B8) (hs : s.length < 60000) (i : Nat) (c : UInt8) (r : B8) (hd : s.drop i = c :: r) (hlen : i + (c :: r).length = s.length) (t : Int) (hl : letB c = false) (hdg : digB c = false) (hcg : c.toNat = 59) (h : CHeap) (p d : Nat) (hf : Fit h) (hg : zA1 h.ents p = some (lx s (i : Int) 0 t)) (hp : p < h.next) (K : KT) (hk : ∀ n' ty, h.next ≤ n' → zA7 ty n' → K (.agg [.int .i64 4, .str [c], .int .u64 0, .int .i64 (i : Int)]) ⟨zA2 h.ents p (lx s ((i + 1 : Nat) : Int) 0 t), n', ty⟩) : Wc tree.getF 139 [.ptr p d 0] h K := by
 obtain ⟨hu, hut, hX⟩ := fx4 hf
 have hY := fx5 hf hg
 have hc0 := zAz hd
 obtain ⟨hi, hce⟩ := List.getElem?_eq_some_iff.1 hc0
 have hcl := c.toNat_lt
 have hine : ¬ ((i : Int) = (s.length : Int)) := by omega
 have LF := zB3 c
 have DF := zBs c
 have hsl : (s.take (i + 1)).drop i = [c] := by rw [List.drop_take, show i + 1 - i = 1 by omega, hd]; rfl
 have hto : ((i : Int) + 1).toNat = i + 1 := by omega
 rw [hl] at LF
 rw [hdg] at DF
 have e1 : ((i + 1 : Nat) : Int) = (i : Int) + 1 := by omega
 rw [e1] at hk
 exact wQV1
theorem word_s44 (s : B8) (hs : s.length < 60000) (i : Nat) (c : UInt8) (r : B8) (hd : s.drop i = c :: r) (hlen : i + (c :: r).length = s.length) (t : Int) (hl : letB c = false) (hdg : digB c = false) (hcg : c.toNat = 44) (h : CHeap) (p d : Nat) (hf : Fit h) (hg : zA1 h.ents p = some (lx s (i : Int) 0 t)) (hp : p < h.next) (K : KT) (hk : ∀ n' ty, h.next ≤ n' → zA7 ty n' → K (.agg [.int .i64 4, .str [c], .int .u64 0, .int .i64 (i : Int)]) ⟨zA2 h.ents p (lx s ((i + 1 : Nat) : Int) 0 t), n', ty⟩) : Wc tree.getF 139 [.ptr p d 0] h K := by
 obtain ⟨hu, hut, hX⟩ := fx4 hf
 have hY := fx5 hf hg
 have hc0 := zAz hd
 obtain ⟨hi, hce⟩ := List.getElem?_eq_some_iff.1 hc0
 have hcl := c.toNat_lt
 have hine : ¬ ((i : Int) = (s.length : Int)) := by omega
 have LF := zB3 c
 have DF := zBs c
 have hsl : (s.take (i + 1)).drop i = [c] := by rw [List.drop_take, show i + 1 - i = 1 by omega, hd]; rfl
 have hto : ((i : Int) + 1).toNat = i + 1 := by omega
 rw [hl] at LF
 rw [hdg] at DF
 have e1 : ((i + 1 : Nat) : Int) = (i : Int) + 1 := by omega
 rw [e1] at hk
 exact wQV1
theorem word_s60 (s : B8) (hs : s.length < 60000) (i : Nat) (c : UInt8) (r : B8) (hd : s.drop i = c :: r) (hlen : i + (c :: r).length = s.length) (t : Int) (hl : letB c = false) (hdg : digB c = false) (hcg : c.toNat = 60) (h : CHeap) (p d : Nat) (hf : Fit h) (hg : zA1 h.ents p = some (lx s (i : Int) 0 t)) (hp : p < h.next) (K : KT) (hk : ∀ n' ty, h.next ≤ n' → zA7 ty n' → K (.agg [.int .i64 4, .str [c], .int .u64 0, .int .i64 (i : Int)]) ⟨zA2 h.ents p (lx s ((i + 1 : Nat) : Int) 0 t), n', ty⟩) : Wc tree.getF 139 [.ptr p d 0] h K := by
 obtain ⟨hu, hut, hX⟩ := fx4 hf
 have hY := fx5 hf hg
 have hc0 := zAz hd
 obtain ⟨hi, hce⟩ := List.getElem?_eq_some_iff.1 hc0
 have hcl := c.toNat_lt
 have hine : ¬ ((i : Int) = (s.length : Int)) := by omega
 have LF := zB3 c
 have DF := zBs c
 have hsl : (s.take (i + 1)).drop i = [c] := by rw [List.drop_take, show i + 1 - i = 1 by omega, hd]; rfl
 have hto : ((i : Int) + 1).toNat = i + 1 := by omega
 rw [hl] at LF
 rw [hdg] at DF
 have e1 : ((i + 1 : Nat) : Int) = (i : Int) + 1 := by omega
 rw [e1] at hk
 exact wQV1
theorem word_s62 (s : B8) (hs : s.length < 60000) (i : Nat) (c : UInt8) (r : B8) (hd : s.drop i = c :: r) (hlen : i + (c :: r).length = s.length) (t : Int) (hl : letB c = false) (hdg : digB c = false) (hcg : c.toNat = 62) (h : CHeap) (p d : Nat) (hf : Fit h) (hg : zA1 h.ents p = some (lx s (i : Int) 0 t)) (hp : p < h.next) (K : KT) (hk : ∀ n' ty, h.next ≤ n' → zA7 ty n' → K (.agg [.int .i64 4, .str [c], .int .u64 0, .int .i64 (i : Int)]) ⟨zA2 h.ents p (lx s ((i + 1 : Nat) : Int) 0 t), n', ty⟩) : Wc tree.getF 139 [.ptr p d 0] h K := by
 obtain ⟨hu, hut, hX⟩ := fx4 hf
 have hY := fx5 hf hg
 have hc0 := zAz hd
 obtain ⟨hi, hce⟩ := List.getElem?_eq_some_iff.1 hc0
 have hcl := c.toNat_lt
 have hine : ¬ ((i : Int) = (s.length : Int)) := by omega
 have LF := zB3 c
 have DF := zBs c
 have hsl : (s.take (i + 1)).drop i = [c] := by rw [List.drop_take, show i + 1 - i = 1 by omega, hd]; rfl
 have hto : ((i : Int) + 1).toNat = i + 1 := by omega
 rw [hl] at LF
 rw [hdg] at DF
 have e1 : ((i + 1 : Nat) : Int) = (i : Int) + 1 := by omega
 rw [e1] at hk
 exact wQV1
theorem word_s45 (s : B8) (hs : s.length < 60000) (i : Nat) (c : UInt8) (r : B8) (hd : s.drop i = c :: r) (hlen : i + (c :: r).length = s.length) (t : Int) (hl : letB c = false) (hdg : digB c = false) (hcg : c.toNat = 45) (h : CHeap) (p d : Nat) (hf : Fit h) (hg : zA1 h.ents p = some (lx s (i : Int) 0 t)) (hp : p < h.next) (K : KT) (hk : ∀ n' ty, h.next ≤ n' → zA7 ty n' → K (.agg [.int .i64 4, .str [c], .int .u64 0, .int .i64 (i : Int)]) ⟨zA2 h.ents p (lx s ((i + 1 : Nat) : Int) 0 t), n', ty⟩) : Wc tree.getF 139 [.ptr p d 0] h K := by
 obtain ⟨hu, hut, hX⟩ := fx4 hf
 have hY := fx5 hf hg
 have hc0 := zAz hd
 obtain ⟨hi, hce⟩ := List.getElem?_eq_some_iff.1 hc0
 have hcl := c.toNat_lt
 have hine : ¬ ((i : Int) = (s.length : Int)) := by omega
 have LF := zB3 c
 have DF := zBs c
 have hsl : (s.take (i + 1)).drop i = [c] := by rw [List.drop_take, show i + 1 - i = 1 by omega, hd]; rfl
 have hto : ((i : Int) + 1).toNat = i + 1 := by omega
 rw [hl] at LF
 rw [hdg] at DF
 have e1 : ((i + 1 : Nat) : Int) = (i : Int) + 1 := by omega
 rw [e1] at hk
 exact wQV1
theorem word_bad (s : B8) (hs : s.length < 60000) (i : Nat) (c : UInt8) (r : B8) (hd : s.drop i = c :: r) (hlen : i + (c :: r).length = s.length) (t : Int) (hl : letB c = false) (hdg : digB c = false) (hno : ¬ (c.toNat = 34 ∨ c.toNat = 39 ∨ c.toNat = 123 ∨ c.toNat = 125 ∨ c.toNat = 40 ∨ c.toNat = 41 ∨ c.toNat = 91 ∨ c.toNat = 93 ∨ c.toNat = 61 ∨ c.toNat = 59 ∨ c.toNat = 44 ∨ c.toNat = 60 ∨ c.toNat = 62 ∨ c.toNat = 45)) (hne : ¬ c.toNat = 46) (h : CHeap) (p d : Nat) (hf : Fit h) (hg : zA1 h.ents p = some (lx s (i : Int) 0 t)) (hp : p < h.next) (K : KT) (hk : ∀ n' ty, h.next ≤ n' → zA7 ty n' → K (.agg [.int .i64 0, .str [], .int .u64 0, .int .i64 0]) ⟨zA2 h.ents p (lx s (i : Int) 2 (i : Int)), n', ty⟩) : Wc tree.getF 139 [.ptr p d 0] h K := by
 obtain ⟨hu, hut, hX⟩ := fx4 hf
 have hY := fx5 hf hg
 have hc0 := zAz hd
 obtain ⟨hi, hce⟩ := List.getElem?_eq_some_iff.1 hc0
 have hcl := c.toNat_lt
 have hine : ¬ ((i : Int) = (s.length : Int)) := by omega
 have LF := zB3 c
 have DF := zBs c
 have hsl : (s.take (i + 1)).drop i = [c] := by rw [List.drop_take, show i + 1 - i = 1 by omega, hd]; rfl
 have hto : ((i : Int) + 1).toNat = i + 1 := by omega
 rw [hl] at LF
 rw [hdg] at DF
 refine mk_ 139 c139 (s_ ?_)
 repeat (first | refine st_ rfl ?_ | ((first | refine rg_ ?_ | refine go_ ?_); refine gw_ (by simp (disch := omega) [hX, hg, hY, hce, hc0, hsl, hto, zLk, zLi, tn40, tn41, tn91, tn93, tn61, tn59, tn44, tn60, tn62, tn45, sg0, sg1, sg2, sg3, sg4, sg5, sg6, sg7, sg8, sg9, sg10, sg11]; rfl) ?_) | (refine W.loop ?_; try (generalize e : dropped .. = r; simp (disch := omega) [hX, hg, hY, hce, hc0, hsl, hto, zLk, zLi, tn40, tn41, tn91, tn93, tn61, tn59, tn44, tn60, tn62, tn45, sg0, sg1, sg2, sg3, sg4, sg5, sg6, sg7, sg8, sg9, sg10, sg11] at e; subst e; try dsimp only)) | (refine LF _ ?_ _ fun n1 tyn1 hn1 hun1 => ⟨rfl, ?_⟩; exact fit_; (try dsimp only at hn1)) | (refine DF _ ?_ _ fun n1 tyn1 hn1 hun1 => ⟨rfl, ?_⟩; exact fit_; (try dsimp only at hn1)) | (refine zE8 s (i : Int) 0 t _ _ _ p d ?_ ?_ ?_ _ fun n3 tyn3 hn3 hun3 => ⟨rfl, ?_⟩; exact fit_; exact ge_; exact om_; (try dsimp only at hn3)) | ((first | (refine W.ret ?_; (try simp only [zAd, zA3, zAa]); refine endW.of (.inl rfl) rfl ?_) | refine endW.of (.inr rfl) rfl ?_); generalize e : zB2 .. = r; simp (disch := omega) [hX, hg, hY, hce, hc0, hsl, hto, zLk, zLi, tn40, tn41, tn91, tn93, tn61, tn59, tn44, tn60, tn62, tn45, sg0, sg1, sg2, sg3, sg4, sg5, sg6, sg7, sg8, sg9, sg10, sg11] at e; subst e; (refine hk _ _ ?_ ?_; omega; exact ut_)))
theorem word_dot0 (s : B8) (hs : s.length < 60000) (i : Nat) (c : UInt8) (r : B8) (hr : r = []) (hd : s.drop i = c :: r) (hlen : i + (c :: r).length = s.length) (t : Int) (hl : letB c = false) (hdg : digB c = false) (hno : ¬ (c.toNat = 34 ∨ c.toNat = 39 ∨ c.toNat = 123 ∨ c.toNat = 125 ∨ c.toNat = 40 ∨ c.toNat = 41 ∨ c.toNat = 91 ∨ c.toNat = 93 ∨ c.toNat = 61 ∨ c.toNat = 59 ∨ c.toNat = 44 ∨ c.toNat = 60 ∨ c.toNat = 62 ∨ c.toNat = 45)) (h46 : c.toNat = 46) (h : CHeap) (p d : Nat) (hf : Fit h) (hg : zA1 h.ents p = some (lx s (i : Int) 0 t)) (hp : p < h.next) (K : KT) (hk : ∀ n' ty, h.next ≤ n' → zA7 ty n' → K (.agg [.int .i64 0, .str [], .int .u64 0, .int .i64 0]) ⟨zA2 h.ents p (lx s (i : Int) 2 (i : Int)), n', ty⟩) : Wc tree.getF 139 [.ptr p d 0] h K := by
 obtain ⟨hu, hut, hX⟩ := fx4 hf
 have hY := fx5 hf hg
 have hc0 := zAz hd
 obtain ⟨hi, hce⟩ := List.getElem?_eq_some_iff.1 hc0
 have hcl := c.toNat_lt
 have hine : ¬ ((i : Int) = (s.length : Int)) := by omega
 have LF := zB3 c
 have DF := zBs c
 have hsl : (s.take (i + 1)).drop i = [c] := by rw [List.drop_take, show i + 1 - i = 1 by omega, hd]; rfl
 have hto : ((i : Int) + 1).toNat = i + 1 := by omega
 have hlen1 : i + 1 = s.length := by rw [hr] at hlen; simpa using hlen
 have B1 : ∀ (h : CHeap) (hf : Fit h) (hg : zA1 h.ents p = some (lx s (i : Int) 0 t)) (hp : p < h.next) (K : KT) (hk : ∀ n' ty, h.next ≤ n' → zA7 ty n' → K (.int .u8 0) ⟨h.ents, n', ty⟩), Wc tree.getF 189 [.ptr p d 0, .int .i64 1] h K := fun h hf hg hp K hk => zJt s i 1 0 t hs (by omega) (by omega) (by omega) h p d hf hg hp K hk
 rw [hl] at LF
 rw [hdg] at DF
 have LX := zIu
 exact wQV2
theorem word_dotn (s : B8) (hs : s.length < 60000) (i : Nat) (c x : UInt8) (r0 r : B8) (hr : r = x :: r0) (hd : s.drop i = c :: r) (hlen : i + (c :: r).length = s.length) (t : Int) (hl : letB c = false) (hdg : digB c = false) (hno : ¬ (c.toNat = 34 ∨ c.toNat = 39 ∨ c.toNat = 123 ∨ c.toNat = 125 ∨ c.toNat = 40 ∨ c.toNat = 41 ∨ c.toNat = 91 ∨ c.toNat = 93 ∨ c.toNat = 61 ∨ c.toNat = 59 ∨ c.toNat = 44 ∨ c.toNat = 60 ∨ c.toNat = 62 ∨ c.toNat = 45)) (h46 : c.toNat = 46) (hx : letB x = false) (h : CHeap) (p d : Nat) (hf : Fit h) (hg : zA1 h.ents p = some (lx s (i : Int) 0 t)) (hp : p < h.next) (K : KT) (hk : ∀ n' ty, h.next ≤ n' → zA7 ty n' → K (.agg [.int .i64 0, .str [], .int .u64 0, .int .i64 0]) ⟨zA2 h.ents p (lx s (i : Int) 2 (i : Int)), n', ty⟩) : Wc tree.getF 139 [.ptr p d 0] h K := by
 obtain ⟨hu, hut, hX⟩ := fx4 hf
 have hY := fx5 hf hg
 have hc0 := zAz hd
 obtain ⟨hi, hce⟩ := List.getElem?_eq_some_iff.1 hc0
 have hcl := c.toNat_lt
 have hine : ¬ ((i : Int) = (s.length : Int)) := by omega
 have LF := zB3 c
 have DF := zBs c
 have hsl : (s.take (i + 1)).drop i = [c] := by rw [List.drop_take, show i + 1 - i = 1 by omega, hd]; rfl
 have hto : ((i : Int) + 1).toNat = i + 1 := by omega
 have hx1 : s[i + 1]? = some x := by have := zBa hd; rw [hr] at this; exact zAz this
 have B1 : ∀ (h : CHeap) (hf : Fit h) (hg : zA1 h.ents p = some (lx s (i : Int) 0 t)) (hp : p < h.next) (K : KT) (hk : ∀ n' ty, h.next ≤ n' → zA7 ty n' → K (.int .u8 (x.toNat : Int)) ⟨h.ents, n', ty⟩), Wc tree.getF 189 [.ptr p d 0, .int .i64 1] h K := fun h hf hg hp K hk => zId s i 1 0 t x hs (by omega) hx1 h p d hf hg hp K hk
 have LX := zB3 x
 rw [hl] at LF
 rw [hdg] at DF
 rw [hx] at LX
 exact wQV2
theorem dig_eq (c : UInt8) : D10.contains c = digB c := by
 have := zDl (p := fun c => D10.contains c == digB c) (by decide +kernel) c
 simpa using this
theorem eq_of_n {c : UInt8} {n : Nat} (hn : n < 256) (h : c.toNat = n) : c = UInt8.ofNat n := by
 apply UInt8.toNat_inj.1
 rw [h, UInt8.toNat_ofNat', Nat.mod_eq_of_lt hn]
theorem nameF_let (c : UInt8) (r : B8) (h : letB c = true) : zEb (c :: r) = 1 + nmR r := by
 have h46 : ¬ c = 46 := by intro e; subst e; exact absurd h (by decide)
 have hw : zEs (c :: r) = (fr zB0 (c :: r)).length := by rw [zG7, if_pos h]
 have hf : fr zB0 (c :: r) = c :: fr zB0 r := by unfold fr; rw [List.takeWhile_cons, if_pos (by rw [nam_eq, h]; rfl)]
 simp only [zEb]
 rw [if_neg h46, hw, if_neg (by rw [hf]; simp), nmR_eq _ r (Nat.le_refl _), drop_bk]
 have : bk zB0 (c :: r) = bk zB0 r := by unfold bk; rw [List.dropWhile_cons, if_pos (by rw [nam_eq, h]; rfl)]
 rw [this, hf, List.length_cons]
 omega
theorem nameF_dot (x : UInt8) (r : B8) (h : letB x = true) : zEb (46 :: x :: r) = 1 + nmR (x :: r) := by
 have hw : zEs (x :: r) = (fr zB0 (x :: r)).length := by rw [zG7, if_pos h]
 have h1 := nam_fr (r := r) h
 simp only [zEb]
 rw [if_pos trivial, zHq, if_pos rfl, hw, if_neg (by omega), nmR_eq _ (x :: r) (Nat.le_refl _), drop_bk]
 omega
theorem zKy (r : B8) (h : letB (r.headD 0) = false) : zEb (46 :: r) = 0 := by
 simp only [zEb]
 have hw : zEs r = 0 := by rw [zL6, h]; rfl
 rw [if_pos trivial, zHq, if_pos rfl, hw, if_pos rfl]
theorem nameF_no (c : UInt8) (r : B8) (h : letB c = false) (h46 : ¬ c.toNat = 46) : zEb (c :: r) = 0 := by
 simp only [zEb]
 have hw : zEs (c :: r) = 0 := by rw [zG7, h]; rfl
 rw [if_neg (fun e => h46 (by rw [e]; rfl)), hw, if_pos rfl]
theorem zKp (v : B8 → Bool) (c : UInt8) (r : B8) (n : Nat) (h : zEb (c :: r) = n + 1) : zCl v (c :: r) = .tok 1 ((c :: r).take (n + 1)) 0 (n + 1) := by
 simp only [zCl]
 rw [h, if_pos (by omega)]
theorem wordW_num (v : B8 → Bool) (c : UInt8) (r : B8) (h : zEb (c :: r) = 0) (hd : digB c = true) : zCl v (c :: r) = numW (c :: r) := by
 simp only [zCl]
 rw [h, if_neg (by omega), if_pos (by rw [dig_eq]; exact hd)]
theorem wordW_txt (v : B8 → Bool) (c : UInt8) (r : B8) (h : zEb (c :: r) = 0) (hd : digB c = false) (hq : c = 34 ∨ c = 39) : zCl v (c :: r) = match zBe c r [] 0 with
      | none => .err 2
      | some (t, k) => if v t then .tok 3 t 0 (k + 1) else .err 2 := by
 simp only [zCl]
 rw [h, if_neg (by omega), if_neg (by rw [dig_eq, hd]; decide), if_pos hq]
 cases zBe c r [] 0 <;> rfl
theorem wordW_sign (v : B8 → Bool) (c : UInt8) (r : B8) (h : zEb (c :: r) = 0) (hd : digB c = false) (hq : ¬ (c = 34 ∨ c = 39)) (hg : zIg.contains c = true) : zCl v (c :: r) = .tok 4 [c] 0 1 := by
 simp only [zCl]
 rw [h, if_neg (by omega), if_neg (by rw [dig_eq, hd]; decide), if_neg hq, if_pos hg]
theorem wordW_bad (v : B8 → Bool) (c : UInt8) (r : B8) (h : zEb (c :: r) = 0) (hd : digB c = false) (hq : ¬ (c = 34 ∨ c = 39)) (hg : zIg.contains c = false) : zCl v (c :: r) = .err 2 := by
 simp only [zCl]
 rw [h, if_neg (by omega), if_neg (by rw [dig_eq, hd]; decide), if_neg hq, if_neg (by rw [hg]; decide)]
theorem zLu (c : UInt8) : zIg.contains c = true ↔ (c.toNat = 123 ∨ c.toNat = 125 ∨ c.toNat = 40 ∨ c.toNat = 41 ∨ c.toNat = 91 ∨ c.toNat = 93 ∨ c.toNat = 61 ∨ c.toNat = 59 ∨ c.toNat = 44 ∨ c.toNat = 60 ∨ c.toNat = 62 ∨ c.toNat = 45) := by
 have := zDl (p := fun c => zIg.contains c == decide (c.toNat = 123 ∨ c.toNat = 125 ∨ c.toNat = 40 ∨ c.toNat = 41 ∨ c.toNat = 91 ∨ c.toNat = 93 ∨ c.toNat = 61 ∨ c.toNat = 59 ∨ c.toNat = 44 ∨ c.toNat = 60 ∨ c.toNat = 62 ∨ c.toNat = 45)) (by decide +kernel) c
 rw [beq_iff_eq] at this
 rw [this]; exact decide_eq_true_iff
theorem word_L (s : B8) (hs : s.length < 60000) (i : Nat) (c : UInt8) (r : B8) (hd : s.drop i = c :: r) (hlen : i + (c :: r).length = s.length) (t : Int) (h : CHeap) (p d : Nat) (hf : Fit h) (hg : zA1 h.ents p = some (lx s (i : Int) 0 t)) (hp : p < h.next) (K : KT)
    (hk1 : ∀ n' ty (k : Nat) (txt : B8) (n len : Nat), h.next ≤ n' → zA7 ty n' → zCl zB7 (c :: r) = .tok k txt n len → K (.agg [.int .i64 (k : Int), .str txt, .int .u64 (n : Int), .int .i64 (i : Int)]) ⟨zA2 h.ents p (lx s ((i + len : Nat) : Int) 0 t), n', ty⟩)
    (hk2 : ∀ n' ty (e : Nat) (j : Int), h.next ≤ n' → zA7 ty n' → zCl zB7 (c :: r) = .err e → K (.agg [.int .i64 0, .str [], .int .u64 0, .int .i64 0]) ⟨zA2 h.ents p (lx s j (e : Int) (i : Int)), n', ty⟩) : Wc tree.getF 139 [.ptr p d 0] h K := by
 by_cases hl : letB c = true
 · have e1 := nameF_let c r hl
   have e2 := zKp zB7 c r (nmR r) (by omega)
   refine word_nm s hs i c r hd hlen t hl h p d hf hg hp K ?_
   intro n' ty g1 g2
   have := hk1 n' ty 1 _ 0 _ g1 g2 e2
   rw [show nmR r + 1 = 1 + nmR r by omega, show i + (1 + nmR r) = i + 1 + nmR r by omega] at this
   exact this
 rw [Bool.not_eq_true] at hl
 have bad : ∀ (h0 : zEb (c :: r) = 0) (hdg : digB c = false) (hno : ¬ (c.toNat = 34 ∨ c.toNat = 39 ∨ c.toNat = 123 ∨ c.toNat = 125 ∨ c.toNat = 40 ∨ c.toNat = 41 ∨ c.toNat = 91 ∨ c.toNat = 93 ∨ c.toNat = 61 ∨ c.toNat = 59 ∨ c.toNat = 44 ∨ c.toNat = 60 ∨ c.toNat = 62 ∨ c.toNat = 45)), zCl zB7 (c :: r) = .err 2 := by
  intro h0 hdg hno
  refine wordW_bad _ _ _ h0 hdg ?_ ?_
  · rintro (e | e)
    · exact hno (.inl (by rw [e]; rfl))
    · exact hno (.inr (.inl (by rw [e]; rfl)))
  · rw [← Bool.not_eq_true, zLu]
    exact fun e => hno (.inr (.inr e))
 by_cases h46 : c.toNat = 46
 · have hc : c = 46 := eq_of_n (by decide) h46
   have hdg : digB c = false := by rw [hc]; decide
   have hno : ¬ (c.toNat = 34 ∨ c.toNat = 39 ∨ c.toNat = 123 ∨ c.toNat = 125 ∨ c.toNat = 40 ∨ c.toNat = 41 ∨ c.toNat = 91 ∨ c.toNat = 93 ∨ c.toNat = 61 ∨ c.toNat = 59 ∨ c.toNat = 44 ∨ c.toNat = 60 ∨ c.toNat = 62 ∨ c.toNat = 45) := by omega
   cases hr : r with
   | nil =>
    refine word_dot0 s hs i c r hr hd hlen t hl hdg hno h46 h p d hf hg hp K ?_
    intro n' ty g1 g2
    exact hk2 n' ty 2 _ g1 g2 (bad (by rw [hc, hr]; exact zKy [] (by decide)) hdg hno)
   | cons x r0 =>
    by_cases hx : letB x = true
    · have e2 := zKp zB7 c r (nmR r) (by rw [hc, hr, nameF_dot x r0 hx]; omega)
      refine word_dot s hs i c x r0 r hr hd hlen t hl h46 hx h p d hf hg hp K ?_
      intro n' ty g1 g2
      have := hk1 n' ty 1 _ 0 _ g1 g2 e2
      rw [show nmR r + 1 = 1 + nmR r by omega, show i + (1 + nmR r) = i + 1 + nmR r by omega] at this
      exact this
    · rw [Bool.not_eq_true] at hx
      refine word_dotn s hs i c x r0 r hr hd hlen t hl hdg hno h46 hx h p d hf hg hp K ?_
      intro n' ty g1 g2
      exact hk2 n' ty 2 _ g1 g2 (bad (by rw [hc, hr]; exact zKy (x :: r0) hx) hdg hno)
 have h0 := nameF_no c r hl h46
 by_cases hdg : digB c = true
 · have e1 := wordW_num zB7 c r h0 hdg
   rw [numW_eq] at e1
   refine word_num s hs i c r hd hlen t hl hdg h46 h p d hf hg hp K ?_ ?_
   · intro n' ty v len g1 g2 g3
     rw [g3] at e1
     exact hk1 n' ty 2 _ _ _ g1 g2 e1
   · intro n' ty e j g1 g2 g3
     rw [g3] at e1
     exact hk2 n' ty e j g1 g2 e1
 rw [Bool.not_eq_true] at hdg
 by_cases hq : c.toNat = 34 ∨ c.toNat = 39
 · have hq' : c = 34 ∨ c = 39 := by
    rcases hq with e | e
    · exact .inl (eq_of_n (by decide) e)
    · exact .inr (eq_of_n (by decide) e)
   have e1 := wordW_txt zB7 c r h0 hdg hq'
   have e2 := textF_shift c (i + 1) _ r [] 0 (Nat.le_refl _)
   rw [Nat.zero_add] at e2
   refine word_txt s hs i c r hd hlen t hl hdg hq h p d hf hg hp K ?_ ?_
   · intro n' ty txt k g1 g2 g3 g4
     rw [g3] at e2
     cases hz : zBe c r [] 0 with
     | none => rw [hz] at e2; cases e2
     | some y =>
      obtain ⟨t0, k0⟩ := y
      rw [hz] at e2 e1
      simp only [Option.map_some, Option.some.injEq, Prod.mk.injEq] at e2
      obtain ⟨rfl, rfl⟩ := e2
      dsimp only at e1
      rw [g4, if_pos rfl] at e1
      have := hk1 n' ty 3 _ 0 _ g1 g2 e1
      rw [show i + (k0 + 1) = k0 + (i + 1) by omega] at this
      exact this
   · intro n' ty j g1 g2 g3
     refine hk2 n' ty 2 j g1 g2 ?_
     rw [e1]
     cases hz : zBe c r [] 0 with
     | none => rfl
     | some y =>
      obtain ⟨t0, k0⟩ := y
      rw [hz] at e2
      rcases g3 with g3 | ⟨txt, k, g3, g4⟩
      · rw [g3] at e2; cases e2
      · rw [g3] at e2
        simp only [Option.map_some, Option.some.injEq, Prod.mk.injEq] at e2
        obtain ⟨rfl, rfl⟩ := e2
        dsimp only
        rw [g4]; rfl
 have hq' : ¬ (c = 34 ∨ c = 39) := by
  rintro (e | e)
  · exact hq (.inl (by rw [e]; rfl))
  · exact hq (.inr (by rw [e]; rfl))
 by_cases hsg : zIg.contains c = true
 · have e1 := wordW_sign zB7 c r h0 hdg hq' hsg
   have hk : ∀ n' ty, h.next ≤ n' → zA7 ty n' → K (.agg [.int .i64 4, .str [c], .int .u64 0, .int .i64 (i : Int)]) ⟨zA2 h.ents p (lx s ((i + 1 : Nat) : Int) 0 t), n', ty⟩ := fun n' ty g1 g2 => hk1 n' ty 4 _ 0 _ g1 g2 e1
   rcases (zLu c).1 hsg with e | e | e | e | e | e | e | e | e | e | e | e
   · exact word_s123 s hs i c r hd hlen t hl hdg e h p d hf hg hp K hk
   · exact word_s125 s hs i c r hd hlen t hl hdg e h p d hf hg hp K hk
   · exact word_s40 s hs i c r hd hlen t hl hdg e h p d hf hg hp K hk
   · exact word_s41 s hs i c r hd hlen t hl hdg e h p d hf hg hp K hk
   · exact word_s91 s hs i c r hd hlen t hl hdg e h p d hf hg hp K hk
   · exact word_s93 s hs i c r hd hlen t hl hdg e h p d hf hg hp K hk
   · exact word_s61 s hs i c r hd hlen t hl hdg e h p d hf hg hp K hk
   · exact word_s59 s hs i c r hd hlen t hl hdg e h p d hf hg hp K hk
   · exact word_s44 s hs i c r hd hlen t hl hdg e h p d hf hg hp K hk
   · exact word_s60 s hs i c r hd hlen t hl hdg e h p d hf hg hp K hk
   · exact word_s62 s hs i c r hd hlen t hl hdg e h p d hf hg hp K hk
   · exact word_s45 s hs i c r hd hlen t hl hdg e h p d hf hg hp K hk
 · have hno : ¬ (c.toNat = 34 ∨ c.toNat = 39 ∨ c.toNat = 123 ∨ c.toNat = 125 ∨ c.toNat = 40 ∨ c.toNat = 41 ∨ c.toNat = 91 ∨ c.toNat = 93 ∨ c.toNat = 61 ∨ c.toNat = 59 ∨ c.toNat = 44 ∨ c.toNat = 60 ∨ c.toNat = 62 ∨ c.toNat = 45) := by
    rw [zLu] at hsg
    omega
   refine word_bad s hs i c r hd hlen t hl hdg hno h46 h p d hf hg hp K ?_
   intro n' ty g1 g2
   exact hk2 n' ty 2 _ g1 g2 (bad h0 hdg hno)
structure Sr (n0 : Nat) (E0 : EE) (p : Nat) (o : CObj) (L : CVal) (ts : List CVal) (h : CHeap) : Prop where
 g : zA1 h.ents p = some o
 l : L = .nils ∧ ts = [] ∨ ∃ i v, L = .imm (.own i v) 4 ts ∧ zA1 h.ents i = some (.tok v) ∧ i ≠ p ∧ n0 ≤ i ∧ i < h.next
 d : Over n0 E0 h.ents
 n : n0 ≤ p
 lt : p < h.next
 f : Fit h
theorem Sr.upd {n0 : Nat} {E0 : EE} {p : Nat} {o o' : CObj} {L : CVal} {ts : List CVal} {h : CHeap} {n' : Nat} {ty : NN} (S : Sr n0 E0 p o L ts h) (hn : h.next ≤ n') (ht : zA7 ty n') :
    Sr n0 E0 p o' L ts ⟨zA2 h.ents p o', n', ty⟩ where
 g := zA8 S.g
 l := by
  rcases S.l with h1 | ⟨i, v, h1, h2, h3, h4, h5⟩
  · exact .inl h1
  · exact .inr ⟨i, v, h1, (zA0 h3).trans h2, h3, h4, om_⟩
 d := S.d.set S.n
 n := S.n
 lt := by have := S.lt; exact om_
 f := ⟨S.f.1.set.le hn, ht⟩
theorem Sr.app0 {n0 : Nat} {E0 : EE} {p : Nat} {o : CObj} {h : CHeap} {n' i : Nat} {ty : NN} {x : CVal} {ts : List CVal} (S : Sr n0 E0 p o .nils ts h) (hi : h.next ≤ i) (hn : i < n') (ht : zA7 ty n') :
    Sr n0 E0 p o (.imm (.own i 0) 4 [x]) [x] ⟨(i, .tok 0) :: h.ents, n', ty⟩ := by
 have hlt := S.lt
 have hn0 := S.n
 have hip : (i == p) = false := by simp; omega
 exact {
  g := by simp only [zA1, hip, Bool.false_eq_true, if_false]; exact S.g
  l := .inr ⟨i, 0, rfl, by simp [zA1], by omega, by omega, hn⟩
  d := S.d.cons (by omega)
  n := S.n
  lt := om_
  f := ⟨Under.cons hn (S.f.1.le om_), ht⟩ }
theorem Sr.app1 {n0 : Nat} {E0 : EE} {p : Nat} {o : CObj} {h : CHeap} {n' i v : Nat} {ty : NN} {x : CVal} {ts : List CVal} {L : CVal} (S : Sr n0 E0 p o L ts h) (ht : zA1 h.ents i = some (.tok v)) (hip : i ≠ p) (hi0 : n0 ≤ i) (hin : i < h.next) (hn : h.next ≤ n') (hty : zA7 ty n') :
    Sr n0 E0 p o (.imm (.own i (v + 1)) 4 (ts ++ [x])) (ts ++ [x]) ⟨zA2 h.ents i (.tok (v + 1)), n', ty⟩ := by
 have hlt := S.lt
 exact {
  g := (zA0 (Ne.symm hip)).trans S.g
  l := .inr ⟨i, v + 1, rfl, zA8 ht, hip, hi0, om_⟩
  d := S.d.set hi0
  n := S.n
  lt := om_
  f := ⟨S.f.1.set.le hn, hty⟩ }
theorem wordW_kind {c : UInt8} {r : B8} {k n len : Nat} {t : B8} (h : zCl zB7 (c :: r) = .tok k t n len) : k ≤ 4 := by
 unfold zCl at h
 dsimp only at h
 split at h
 · cases h; omega
 · split at h
   · have := numW_tok (by assumption) h; omega
   · split at h
     · cases ht : zBe c r [] 0 with
       | none => rw [ht] at h; cases h
       | some x =>
        obtain ⟨tt, kk⟩ := x
        rw [ht] at h
        dsimp only at h
        split at h
        · cases h; omega
        · cases h
     · split at h
       · cases h; omega
       · cases h
def zHb (total m : Nat) (r : B8) : Except (Nat × Nat) (List Tok) := match zBq r with
 | (w, false) => .error (2, total - w.length)
 | (w, true) => lexW total m w
abbrev zCf : CCode := (.loop true (.block 1 (.seq (.R [.v 2, .c 138 [(.loc 0)]] []) (.seq (.R [.g (.build [(.int .i64 0), (.str []), (.int .u64 0), (.int .i64 0)] []), .o 142606340, .u 4 0 1] [(4, 1)]) (.seq (.seq (.R [.v 2, .n 0, .f 2 0, .l 0, .x .eql 0 (.k 0)] [(3, 4)]) (.cond (.var 3) (.R [.v 2, .c 139 [(.loc 0)], .t 4 4 0] []) .skip)) (.seq (.seq (.R [.v 2, .n 0, .f 2 0, .l 0, .x .neq 0 (.k 0)] [(5, 4)]) (.cond (.var 5) (.seq (.R [.v 2, .n 0, .f 2 0, .l 0, .v 2, .n 0, .f 3 0, .l 0, .m (.const .nils), .m (.loc 5), .m (.loc 2)] [(8, 8), (9, 9), (10, 10)]) .ret) .skip)) (.seq (.R [.v 6, .y 4 4, .g (.lit .imm true [(.int .i64 0), (.str []), (.int .u64 0), (.int .i64 0)] 1 [(0, (.loc 0))]), .d 0 4 2 0, .m (.loc 0)] [(6, 4)]) (.seq (.R [.k 0 4, .l 0, .x .eql 0 (.k 5)] [(7, 2)]) (.cond (.var 7) (.seq (.R [.v 6, .m (.loc 0), .m (.k 0), .m (.k 0)] [(8, 1), (9, 2), (10, 3)]) .ret) .skip)))))))))
theorem rl_sp_n {n0 : Nat} {E0 : EE} (p d : Nat) (s : B8) (hs : s.length < 60000) (t : Int) (v1 v3 v4 v5 v7 v8 v9 v10 : CVal) (Q : QT) (h : CHeap) (hf : Fit h) (i : Nat) (hg : zA1 h.ents p = some (lx s (i : Int) 0 t)) (hp : p < h.next) (hov : Over n0 E0 h.ents) (hn0 : n0 ≤ p)  (j : Nat) (SP : ∀ (h : CHeap) (hf : Fit h) (hg : zA1 h.ents p = some (lx s (i : Int) 0 t)) (hp : p < h.next) (K : KT) (hk : ∀ n' ty, h.next ≤ n' → zA7 ty n' → K (.tup []) ⟨zA2 h.ents p (lx s (s.length : Int) 2 (j : Int)), n', ty⟩), Wc tree.getF 138 [.ptr p d 0] h K)
    (hk : ∀ w3 w4 w5 w6 w7 h', Over n0 E0 h'.ents → zA7 h'.tys h'.next → h.next ≤ h'.next → Q .ret ⟨[.str s, v1, .ptr p d 0, w3, w4, w5, w6, w7, .nils, .int .i64 2, .int .i64 (j : Int)], h', []⟩) : W tree.getF zCf ⟨[.str s, v1, .ptr p d 0, v3, v4, v5, .nils, v7, v8, v9, v10], h, []⟩ Q := by
 obtain ⟨hu, hut, hX⟩ := fx4 hf
 have hY := fx5 hf hg
 refine W.loop ?_
 have hZ := j3_ hX hg hY
 repeat (first | refine wk_ ?_ | (refine SP _ ?_ ?_ ?_ _ fun n1 tyn1 hn1 hun1 => ⟨rfl, ?_⟩; exact fit_; exact ge_; exact om_; (try dsimp only at hn1)))
 all_goals ((try refine W.ret ?_); (try simp only [zAd, zA3, zAa]); refine hk _ _ _ _ _ _ ?_ ?_ ?_; ((repeat (first | exact hov | refine Over.set ?_ (by omega) | refine Over.cons ?_ (by omega)))); exact ut_; (exact om_))
theorem rl_end_n {n0 : Nat} {E0 : EE} (p d : Nat) (s : B8) (hs : s.length < 60000) (t : Int) (v1 v3 v4 v5 v7 v8 v9 v10 : CVal) (Q : QT) (h : CHeap) (hf : Fit h) (i : Nat) (hg : zA1 h.ents p = some (lx s (i : Int) 0 t)) (hp : p < h.next) (hov : Over n0 E0 h.ents) (hn0 : n0 ≤ p)  (j : Nat) (SP : ∀ (h : CHeap) (hf : Fit h) (hg : zA1 h.ents p = some (lx s (i : Int) 0 t)) (hp : p < h.next) (K : KT) (hk : ∀ n' ty, h.next ≤ n' → zA7 ty n' → K (.tup []) ⟨zA2 h.ents p (lx s (j : Int) 0 t), n', ty⟩), Wc tree.getF 138 [.ptr p d 0] h K) (WD : ∀ (h : CHeap) (hf : Fit h) (hg : zA1 h.ents p = some (lx s (j : Int) 0 t)) (hp : p < h.next) (K : KT) (hk : ∀ n' ty, h.next ≤ n' → zA7 ty n' → K (.agg [.int .i64 5, .str [], .int .u64 0, .int .i64 (j : Int)]) ⟨h.ents, n', ty⟩), Wc tree.getF 139 [.ptr p d 0] h K)
    (hk : ∀ w3 w4 w5 w6 w7 h' q v, Over n0 E0 h'.ents → zA1 h'.ents q = some (.tok v) → n0 ≤ q → zA7 h'.tys h'.next → h.next ≤ h'.next → Q .ret ⟨[.str s, v1, .ptr p d 0, w3, w4, w5, w6, w7, .imm (.own q v) 4 ([] ++ [.agg [.int .i64 5, .str [], .int .u64 0, .int .i64 (j : Int)]]), .int .i64 0, .int .i64 0], h', []⟩) : W tree.getF zCf ⟨[.str s, v1, .ptr p d 0, v3, v4, v5, .nils, v7, v8, v9, v10], h, []⟩ Q := by
 obtain ⟨hu, hut, hX⟩ := fx4 hf
 have hY := fx5 hf hg
 refine W.loop ?_
 have hZ := j3_ hX hg hY
 repeat (first | refine wk_ ?_ | (refine SP _ ?_ ?_ ?_ _ fun n1 tyn1 hn1 hun1 => ⟨rfl, ?_⟩; exact fit_; exact ge_; exact om_; (try dsimp only at hn1)) | (refine WD _ ?_ ?_ ?_ _ fun n2 tyn2 hn2 hun2 => ⟨rfl, ?_⟩; exact fit_; exact ge_; exact om_; (try dsimp only at hn2)))
 all_goals ((try refine W.ret ?_); (try simp only [zAd, zA3, zAa]); refine hk _ _ _ _ _ _ _ _ ?_ ?_ ?_ ?_ ?_; ((repeat (first | exact hov | refine Over.set ?_ (by omega) | refine Over.cons ?_ (by omega)))); (simp (disch := omega) [hX, hg, hY]); omega; exact ut_; (exact om_))
theorem rl_bad_n {n0 : Nat} {E0 : EE} (p d : Nat) (s : B8) (hs : s.length < 60000) (t : Int) (v1 v3 v4 v5 v7 v8 v9 v10 : CVal) (Q : QT) (h : CHeap) (hf : Fit h) (i : Nat) (hg : zA1 h.ents p = some (lx s (i : Int) 0 t)) (hp : p < h.next) (hov : Over n0 E0 h.ents) (hn0 : n0 ≤ p)  (j e : Nat) (he : 0 < e) (SP : ∀ (h : CHeap) (hf : Fit h) (hg : zA1 h.ents p = some (lx s (i : Int) 0 t)) (hp : p < h.next) (K : KT) (hk : ∀ n' ty, h.next ≤ n' → zA7 ty n' → K (.tup []) ⟨zA2 h.ents p (lx s (j : Int) 0 t), n', ty⟩), Wc tree.getF 138 [.ptr p d 0] h K) (WD : ∀ (h : CHeap) (hf : Fit h) (hg : zA1 h.ents p = some (lx s (j : Int) 0 t)) (hp : p < h.next) (K : KT) (hk : ∀ n' ty (x : Int), h.next ≤ n' → zA7 ty n' → K (.agg [.int .i64 0, .str [], .int .u64 0, .int .i64 0]) ⟨zA2 h.ents p (lx s x (e : Int) (j : Int)), n', ty⟩), Wc tree.getF 139 [.ptr p d 0] h K)
    (hk : ∀ w3 w4 w5 w6 w7 h', Over n0 E0 h'.ents → zA7 h'.tys h'.next → h.next ≤ h'.next → Q .ret ⟨[.str s, v1, .ptr p d 0, w3, w4, w5, w6, w7, .nils, .int .i64 (e : Int), .int .i64 (j : Int)], h', []⟩) : W tree.getF zCf ⟨[.str s, v1, .ptr p d 0, v3, v4, v5, .nils, v7, v8, v9, v10], h, []⟩ Q := by
 obtain ⟨hu, hut, hX⟩ := fx4 hf
 have hY := fx5 hf hg
 have hez : ¬ (e : Int) = 0 := by omega
 refine W.loop ?_
 have hZ := j4_ hX hg hY hez
 repeat (first | refine wk_ ?_ | (refine SP _ ?_ ?_ ?_ _ fun n1 tyn1 hn1 hun1 => ⟨rfl, ?_⟩; exact fit_; exact ge_; exact om_; (try dsimp only at hn1)) | (refine WD _ ?_ ?_ ?_ _ fun n2 tyn2 x2 hn2 hun2 => ⟨rfl, ?_⟩; exact fit_; exact ge_; exact om_; (try dsimp only at hn2)))
 all_goals ((try refine W.ret ?_); (try simp only [zAd, zA3, zAa]); refine hk _ _ _ _ _ _ ?_ ?_ ?_; ((repeat (first | exact hov | refine Over.set ?_ (by omega) | refine Over.cons ?_ (by omega)))); exact ut_; (exact om_))
theorem rl_tok_n {n0 : Nat} {E0 : EE} (p d : Nat) (s : B8) (hs : s.length < 60000) (t : Int) (v1 v3 v4 v5 v7 v8 v9 v10 : CVal) (Q : QT) (h : CHeap) (hf : Fit h) (i : Nat) (hg : zA1 h.ents p = some (lx s (i : Int) 0 t)) (hp : p < h.next) (hov : Over n0 E0 h.ents) (hn0 : n0 ≤ p)  (j k n j2 : Nat) (tx : B8) (hk5 : k ≤ 4) (SP : ∀ (h : CHeap) (hf : Fit h) (hg : zA1 h.ents p = some (lx s (i : Int) 0 t)) (hp : p < h.next) (K : KT) (hk : ∀ n' ty, h.next ≤ n' → zA7 ty n' → K (.tup []) ⟨zA2 h.ents p (lx s (j : Int) 0 t), n', ty⟩), Wc tree.getF 138 [.ptr p d 0] h K) (WD : ∀ (h : CHeap) (hf : Fit h) (hg : zA1 h.ents p = some (lx s (j : Int) 0 t)) (hp : p < h.next) (K : KT) (hk : ∀ n' ty, h.next ≤ n' → zA7 ty n' → K (.agg [.int .i64 (k : Int), .str tx, .int .u64 (n : Int), .int .i64 (j : Int)]) ⟨zA2 h.ents p (lx s (j2 : Int) 0 t), n', ty⟩), Wc tree.getF 139 [.ptr p d 0] h K)
    (hk : ∀ q n' ty w3 w4 w5 w7, h.next ≤ q → q < n' → zA7 ty n' → W tree.getF zCf ⟨[.str s, v1, .ptr p d 0, w3, w4, w5, .imm (.own q 0) 4 [.agg [.int .i64 (k : Int), .str tx, .int .u64 (n : Int), .int .i64 (j : Int)]], w7, v8, v9, v10], ⟨(q, .tok 0) :: zA2 h.ents p (lx s (j2 : Int) 0 t), n', ty⟩, []⟩ Q) : W tree.getF zCf ⟨[.str s, v1, .ptr p d 0, v3, v4, v5, .nils, v7, v8, v9, v10], h, []⟩ Q := by
 obtain ⟨hu, hut, hX⟩ := fx4 hf
 have hY := fx5 hf hg
 refine W.loop ?_
 have hZ := j3_ hX hg hY
 repeat (first | refine wk_ ?_ | (refine SP _ ?_ ?_ ?_ _ fun n1 tyn1 hn1 hun1 => ⟨rfl, ?_⟩; exact fit_; exact ge_; exact om_; (try dsimp only at hn1)) | (refine WD _ ?_ ?_ ?_ _ fun n2 tyn2 hn2 hun2 => ⟨rfl, ?_⟩; exact fit_; exact ge_; exact om_; (try dsimp only at hn2)))
 show W tree.getF zCf (dropped true _ _) Q
 generalize e : dropped .. = r0
 simp (disch := omega) [hX, hg, hY] at e
 subst e
 try dsimp only
 refine hk _ _ _ _ _ _ _ ?_ ?_ ?_
 · exact om_
 · exact om_
 · exact ut_
theorem rl_sp_o {n0 : Nat} {E0 : EE} (p d : Nat) (s : B8) (hs : s.length < 60000) (t : Int) (v1 v3 v4 v5 v7 v8 v9 v10 : CVal) (Q : QT) (h : CHeap) (hf : Fit h) (i : Nat) (hg : zA1 h.ents p = some (lx s (i : Int) 0 t)) (hp : p < h.next) (hov : Over n0 E0 h.ents) (hn0 : n0 ≤ p) (iq vq : Nat) (ts : List CVal) (hts : ts.length < 100000) (hti : zA1 h.ents iq = some (.tok vq)) (hip : iq ≠ p) (hi0 : n0 ≤ iq) (hin : iq < h.next) (j : Nat) (SP : ∀ (h : CHeap) (hf : Fit h) (hg : zA1 h.ents p = some (lx s (i : Int) 0 t)) (hp : p < h.next) (K : KT) (hk : ∀ n' ty, h.next ≤ n' → zA7 ty n' → K (.tup []) ⟨zA2 h.ents p (lx s (s.length : Int) 2 (j : Int)), n', ty⟩), Wc tree.getF 138 [.ptr p d 0] h K)
    (hk : ∀ w3 w4 w5 w6 w7 h', Over n0 E0 h'.ents → zA7 h'.tys h'.next → h.next ≤ h'.next → Q .ret ⟨[.str s, v1, .ptr p d 0, w3, w4, w5, w6, w7, .nils, .int .i64 2, .int .i64 (j : Int)], h', []⟩) : W tree.getF zCf ⟨[.str s, v1, .ptr p d 0, v3, v4, v5, .imm (.own iq vq) 4 ts, v7, v8, v9, v10], h, []⟩ Q := by
 obtain ⟨hu, hut, hX⟩ := fx4 hf
 have hY := fx5 hf hg; have ⟨hG, hD2, hC2, hN2⟩ := hY
 have hti2 : ∀ x, zA1 (zA2 h.ents p x) iq = some (.tok vq) := fun x => (zA0 hip).trans hti
 have hip2 : ¬ p = iq := fun e => hip e.symm
 have hti3 : ∀ x y, zA1 (zA2 (zA2 h.ents p x) iq y) iq = some y := fun x y => zA8 (hti2 x)
 have hpg : ∀ x y, zA1 (zA2 (zA2 h.ents p x) iq y) p = some x := fun x y => (zA0 hip2).trans (hG x)
 have hC3 : ∀ x y m, h.next ≤ m → zAb (zA2 (zA2 h.ents p x) iq y) m = zA2 (zA2 h.ents p x) iq y := fun x y m hm => zAk (hu.set.set.le hm)
 refine W.loop ?_
 have hZ := j10_ hX hg hY hti hti2 hti3 hip hip2 hpg hC3
 repeat (first | refine wk_ ?_ | (refine SP _ ?_ ?_ ?_ _ fun n1 tyn1 hn1 hun1 => ⟨rfl, ?_⟩; exact fit_; exact ge_; exact om_; (try dsimp only at hn1)))
 all_goals ((try refine W.ret ?_); (try simp only [zAd, zA3, zAa]); refine hk _ _ _ _ _ _ ?_ ?_ ?_; ((repeat (first | exact hov | refine Over.set ?_ (by omega) | refine Over.cons ?_ (by omega)))); exact ut_; (exact om_))
theorem rl_end_o {n0 : Nat} {E0 : EE} (p d : Nat) (s : B8) (hs : s.length < 60000) (t : Int) (v1 v3 v4 v5 v7 v8 v9 v10 : CVal) (Q : QT) (h : CHeap) (hf : Fit h) (i : Nat) (hg : zA1 h.ents p = some (lx s (i : Int) 0 t)) (hp : p < h.next) (hov : Over n0 E0 h.ents) (hn0 : n0 ≤ p) (iq vq : Nat) (ts : List CVal) (hts : ts.length < 100000) (hti : zA1 h.ents iq = some (.tok vq)) (hip : iq ≠ p) (hi0 : n0 ≤ iq) (hin : iq < h.next) (j : Nat) (SP : ∀ (h : CHeap) (hf : Fit h) (hg : zA1 h.ents p = some (lx s (i : Int) 0 t)) (hp : p < h.next) (K : KT) (hk : ∀ n' ty, h.next ≤ n' → zA7 ty n' → K (.tup []) ⟨zA2 h.ents p (lx s (j : Int) 0 t), n', ty⟩), Wc tree.getF 138 [.ptr p d 0] h K) (WD : ∀ (h : CHeap) (hf : Fit h) (hg : zA1 h.ents p = some (lx s (j : Int) 0 t)) (hp : p < h.next) (K : KT) (hk : ∀ n' ty, h.next ≤ n' → zA7 ty n' → K (.agg [.int .i64 5, .str [], .int .u64 0, .int .i64 (j : Int)]) ⟨h.ents, n', ty⟩), Wc tree.getF 139 [.ptr p d 0] h K)
    (hk : ∀ w3 w4 w5 w6 w7 h' q v, Over n0 E0 h'.ents → zA1 h'.ents q = some (.tok v) → n0 ≤ q → zA7 h'.tys h'.next → h.next ≤ h'.next → Q .ret ⟨[.str s, v1, .ptr p d 0, w3, w4, w5, w6, w7, .imm (.own q v) 4 (ts ++ [.agg [.int .i64 5, .str [], .int .u64 0, .int .i64 (j : Int)]]), .int .i64 0, .int .i64 0], h', []⟩) : W tree.getF zCf ⟨[.str s, v1, .ptr p d 0, v3, v4, v5, .imm (.own iq vq) 4 ts, v7, v8, v9, v10], h, []⟩ Q := by
 obtain ⟨hu, hut, hX⟩ := fx4 hf
 have hY := fx5 hf hg; have ⟨hG, hD2, hC2, hN2⟩ := hY
 have hti2 : ∀ x, zA1 (zA2 h.ents p x) iq = some (.tok vq) := fun x => (zA0 hip).trans hti
 have hip2 : ¬ p = iq := fun e => hip e.symm
 have hti3 : ∀ x y, zA1 (zA2 (zA2 h.ents p x) iq y) iq = some y := fun x y => zA8 (hti2 x)
 have hpg : ∀ x y, zA1 (zA2 (zA2 h.ents p x) iq y) p = some x := fun x y => (zA0 hip2).trans (hG x)
 have hC3 : ∀ x y m, h.next ≤ m → zAb (zA2 (zA2 h.ents p x) iq y) m = zA2 (zA2 h.ents p x) iq y := fun x y m hm => zAk (hu.set.set.le hm)
 refine W.loop ?_
 have hZ := j10_ hX hg hY hti hti2 hti3 hip hip2 hpg hC3
 repeat (first | refine wk_ ?_ | (refine SP _ ?_ ?_ ?_ _ fun n1 tyn1 hn1 hun1 => ⟨rfl, ?_⟩; exact fit_; exact ge_; exact om_; (try dsimp only at hn1)) | (refine WD _ ?_ ?_ ?_ _ fun n2 tyn2 hn2 hun2 => ⟨rfl, ?_⟩; exact fit_; exact ge_; exact om_; (try dsimp only at hn2)))
 all_goals ((try refine W.ret ?_); (try simp only [zAd, zA3, zAa]); refine hk _ _ _ _ _ _ _ _ ?_ ?_ ?_ ?_ ?_; ((repeat (first | exact hov | refine Over.set ?_ (by omega) | refine Over.cons ?_ (by omega)))); (simp (disch := omega) [hX, hg, hY, hti, hti2, hti3, hip, hip2, hpg, hC3]); omega; exact ut_; (exact om_))
theorem rl_bad_o {n0 : Nat} {E0 : EE} (p d : Nat) (s : B8) (hs : s.length < 60000) (t : Int) (v1 v3 v4 v5 v7 v8 v9 v10 : CVal) (Q : QT) (h : CHeap) (hf : Fit h) (i : Nat) (hg : zA1 h.ents p = some (lx s (i : Int) 0 t)) (hp : p < h.next) (hov : Over n0 E0 h.ents) (hn0 : n0 ≤ p) (iq vq : Nat) (ts : List CVal) (hts : ts.length < 100000) (hti : zA1 h.ents iq = some (.tok vq)) (hip : iq ≠ p) (hi0 : n0 ≤ iq) (hin : iq < h.next) (j e : Nat) (he : 0 < e) (SP : ∀ (h : CHeap) (hf : Fit h) (hg : zA1 h.ents p = some (lx s (i : Int) 0 t)) (hp : p < h.next) (K : KT) (hk : ∀ n' ty, h.next ≤ n' → zA7 ty n' → K (.tup []) ⟨zA2 h.ents p (lx s (j : Int) 0 t), n', ty⟩), Wc tree.getF 138 [.ptr p d 0] h K) (WD : ∀ (h : CHeap) (hf : Fit h) (hg : zA1 h.ents p = some (lx s (j : Int) 0 t)) (hp : p < h.next) (K : KT) (hk : ∀ n' ty (x : Int), h.next ≤ n' → zA7 ty n' → K (.agg [.int .i64 0, .str [], .int .u64 0, .int .i64 0]) ⟨zA2 h.ents p (lx s x (e : Int) (j : Int)), n', ty⟩), Wc tree.getF 139 [.ptr p d 0] h K)
    (hk : ∀ w3 w4 w5 w6 w7 h', Over n0 E0 h'.ents → zA7 h'.tys h'.next → h.next ≤ h'.next → Q .ret ⟨[.str s, v1, .ptr p d 0, w3, w4, w5, w6, w7, .nils, .int .i64 (e : Int), .int .i64 (j : Int)], h', []⟩) : W tree.getF zCf ⟨[.str s, v1, .ptr p d 0, v3, v4, v5, .imm (.own iq vq) 4 ts, v7, v8, v9, v10], h, []⟩ Q := by
 obtain ⟨hu, hut, hX⟩ := fx4 hf
 have hY := fx5 hf hg; have ⟨hG, hD2, hC2, hN2⟩ := hY
 have hti2 : ∀ x, zA1 (zA2 h.ents p x) iq = some (.tok vq) := fun x => (zA0 hip).trans hti
 have hip2 : ¬ p = iq := fun e => hip e.symm
 have hti3 : ∀ x y, zA1 (zA2 (zA2 h.ents p x) iq y) iq = some y := fun x y => zA8 (hti2 x)
 have hpg : ∀ x y, zA1 (zA2 (zA2 h.ents p x) iq y) p = some x := fun x y => (zA0 hip2).trans (hG x)
 have hC3 : ∀ x y m, h.next ≤ m → zAb (zA2 (zA2 h.ents p x) iq y) m = zA2 (zA2 h.ents p x) iq y := fun x y m hm => zAk (hu.set.set.le hm)
 have hez : ¬ (e : Int) = 0 := by omega
 refine W.loop ?_
 have hZ := j11_ hX hg hY hti hti2 hti3 hip hip2 hpg hC3 hez
 repeat (first | refine wk_ ?_ | (refine SP _ ?_ ?_ ?_ _ fun n1 tyn1 hn1 hun1 => ⟨rfl, ?_⟩; exact fit_; exact ge_; exact om_; (try dsimp only at hn1)) | (refine WD _ ?_ ?_ ?_ _ fun n2 tyn2 x2 hn2 hun2 => ⟨rfl, ?_⟩; exact fit_; exact ge_; exact om_; (try dsimp only at hn2)))
 all_goals ((try refine W.ret ?_); (try simp only [zAd, zA3, zAa]); refine hk _ _ _ _ _ _ ?_ ?_ ?_; ((repeat (first | exact hov | refine Over.set ?_ (by omega) | refine Over.cons ?_ (by omega)))); exact ut_; (exact om_))
theorem rl_tok_o {n0 : Nat} {E0 : EE} (p d : Nat) (s : B8) (hs : s.length < 60000) (t : Int) (v1 v3 v4 v5 v7 v8 v9 v10 : CVal) (Q : QT) (h : CHeap) (hf : Fit h) (i : Nat) (hg : zA1 h.ents p = some (lx s (i : Int) 0 t)) (hp : p < h.next) (hov : Over n0 E0 h.ents) (hn0 : n0 ≤ p) (iq vq : Nat) (ts : List CVal) (hts : ts.length < 100000) (hti : zA1 h.ents iq = some (.tok vq)) (hip : iq ≠ p) (hi0 : n0 ≤ iq) (hin : iq < h.next) (j k n j2 : Nat) (tx : B8) (hk5 : k ≤ 4) (SP : ∀ (h : CHeap) (hf : Fit h) (hg : zA1 h.ents p = some (lx s (i : Int) 0 t)) (hp : p < h.next) (K : KT) (hk : ∀ n' ty, h.next ≤ n' → zA7 ty n' → K (.tup []) ⟨zA2 h.ents p (lx s (j : Int) 0 t), n', ty⟩), Wc tree.getF 138 [.ptr p d 0] h K) (WD : ∀ (h : CHeap) (hf : Fit h) (hg : zA1 h.ents p = some (lx s (j : Int) 0 t)) (hp : p < h.next) (K : KT) (hk : ∀ n' ty, h.next ≤ n' → zA7 ty n' → K (.agg [.int .i64 (k : Int), .str tx, .int .u64 (n : Int), .int .i64 (j : Int)]) ⟨zA2 h.ents p (lx s (j2 : Int) 0 t), n', ty⟩), Wc tree.getF 139 [.ptr p d 0] h K)
    (hk : ∀ n' ty w3 w4 w5 w7, h.next ≤ n' → zA7 ty n' → W tree.getF zCf ⟨[.str s, v1, .ptr p d 0, w3, w4, w5, .imm (.own iq (vq + 1)) 4 (ts ++ [.agg [.int .i64 (k : Int), .str tx, .int .u64 (n : Int), .int .i64 (j : Int)]]), w7, v8, v9, v10], ⟨zA2 (zA2 h.ents p (lx s (j2 : Int) 0 t)) iq (.tok (vq + 1)), n', ty⟩, []⟩ Q) : W tree.getF zCf ⟨[.str s, v1, .ptr p d 0, v3, v4, v5, .imm (.own iq vq) 4 ts, v7, v8, v9, v10], h, []⟩ Q := by
 obtain ⟨hu, hut, hX⟩ := fx4 hf
 have hY := fx5 hf hg; have ⟨hG, hD2, hC2, hN2⟩ := hY
 have hti2 : ∀ x, zA1 (zA2 h.ents p x) iq = some (.tok vq) := fun x => (zA0 hip).trans hti
 have hip2 : ¬ p = iq := fun e => hip e.symm
 have hti3 : ∀ x y, zA1 (zA2 (zA2 h.ents p x) iq y) iq = some y := fun x y => zA8 (hti2 x)
 have hpg : ∀ x y, zA1 (zA2 (zA2 h.ents p x) iq y) p = some x := fun x y => (zA0 hip2).trans (hG x)
 have hC3 : ∀ x y m, h.next ≤ m → zAb (zA2 (zA2 h.ents p x) iq y) m = zA2 (zA2 h.ents p x) iq y := fun x y m hm => zAk (hu.set.set.le hm)
 refine W.loop ?_
 have hZ := j10_ hX hg hY hti hti2 hti3 hip hip2 hpg hC3
 repeat (first | refine wk_ ?_ | (refine SP _ ?_ ?_ ?_ _ fun n1 tyn1 hn1 hun1 => ⟨rfl, ?_⟩; exact fit_; exact ge_; exact om_; (try dsimp only at hn1)) | (refine WD _ ?_ ?_ ?_ _ fun n2 tyn2 hn2 hun2 => ⟨rfl, ?_⟩; exact fit_; exact ge_; exact om_; (try dsimp only at hn2)))
 show W tree.getF zCf (dropped true _ _) Q
 generalize e : dropped .. = r0
 simp (disch := omega) [hX, hg, hY, hti, hti2, hti3, hip, hip2, hpg, hC3] at e
 subst e
 try dsimp only
 refine hk _ _ _ _ _ _ ?_ ?_
 · exact om_
 · exact ut_
theorem rlex_loop {n0 : Nat} {E0 : EE} (p d : Nat) (s : B8) (hs : s.length < 60000) (t : Int) (v1 v8 v9 v10 : CVal) (Q : QT) : ∀ (m i : Nat) (r : B8), r.length < m → s.drop i = r → i + r.length = s.length → ∀ (L : CVal) (ts : List CVal) (v3 v4 v5 v7 : CVal) (h : CHeap), ts.length + r.length < 90000 → Sr n0 E0 p (lx s (i : Int) 0 t) L ts h →
    (hk1 : ∀ l w3 w4 w5 w6 w7 h' q v, zHb s.length m r = .ok l → Over n0 E0 h'.ents → zA1 h'.ents q = some (.tok v) → n0 ≤ q → zA7 h'.tys h'.next → h.next ≤ h'.next → Q .ret ⟨[.str s, v1, .ptr p d 0, w3, w4, w5, w6, w7, .imm (.own q v) 4 (ts ++ l.map tokV ++ [tokC 5 [] 0 s.length]), .int .i64 0, .int .i64 0], h', []⟩) →
    (hk2 : ∀ (e k : Nat) w3 w4 w5 w6 w7 h', zHb s.length m r = .error (e, k) → Over n0 E0 h'.ents → zA7 h'.tys h'.next → h.next ≤ h'.next → Q .ret ⟨[.str s, v1, .ptr p d 0, w3, w4, w5, w6, w7, .nils, .int .i64 (e : Int), .int .i64 (k : Int)], h', []⟩) →
    W tree.getF zCf ⟨[.str s, v1, .ptr p d 0, v3, v4, v5, L, v7, v8, v9, v10], h, []⟩ Q := by
 intro m
 induction m with
 | zero => intro i r hm; omega
 | succ m ih =>
  intro i r hm hd hlen L ts v3 v4 v5 v7 h hts S hk1 hk2
  have hg := S.g
  have hf := S.f
  have hp := S.lt
  have hov := S.d
  have hn0 := S.n
  cases hsk : zBq r with
  | mk w b =>
   obtain ⟨j, hj⟩ : ∃ j, s.length - w.length = j := ⟨_, rfl⟩
   have hwl := zIs _ r (Nat.le_refl _)
   rw [hsk] at hwl
   dsimp only at hwl
   have hdj := skip_suffix s i r w b hd hlen hsk
   rw [hj] at hdj
   have hlj : j + w.length = s.length := by omega
   have hrr : zHb s.length (m + 1) r = if b then lexW s.length (m + 1) w else .error (2, j) := by unfold zHb; rw [hsk]; cases b <;> simp [hj]
   cases b with
   | false =>
    rw [show (if false = true then lexW s.length (m + 1) w else Except.error (2, j)) = .error (2, j) from rfl] at hrr
    have SP : ∀ (h : CHeap) (hf : Fit h) (hg : zA1 h.ents p = some (lx s (i : Int) 0 t)) (hp : p < h.next) (K : KT) (hk : ∀ n' ty, h.next ≤ n' → zA7 ty n' → K (.tup []) ⟨zA2 h.ents p (lx s (s.length : Int) 2 (j : Int)), n', ty⟩), Wc tree.getF 138 [.ptr p d 0] h K := fun h hf hg hp K hk => space_L s hs i r hd hlen t h p d hf hg hp K (fun n' ty g1 g2 g3 => by rw [hsk] at g3; cases g3) (fun n' ty g1 g2 _ => by rw [hsk]; dsimp only; rw [hj]; exact hk n' ty g1 g2)
    rcases S.l with ⟨rfl, rfl⟩ | ⟨iq, vq, rfl, hti, hip, hi0, hin⟩
    · exact rl_sp_n p d s hs t v1 v3 v4 v5 v7 v8 v9 v10 Q h hf i hg hp hov hn0 j SP (fun w3 w4 w5 w6 w7 h' e1 e2 e3 => hk2 2 j w3 w4 w5 w6 w7 h' hrr e1 e2 e3)
    · exact rl_sp_o p d s hs t v1 v3 v4 v5 v7 v8 v9 v10 Q h hf i hg hp hov hn0 iq vq ts (by omega) hti hip hi0 hin j SP (fun w3 w4 w5 w6 w7 h' e1 e2 e3 => hk2 2 j w3 w4 w5 w6 w7 h' hrr e1 e2 e3)
   | true =>
    rw [if_pos rfl] at hrr
    have SP : ∀ (h : CHeap) (hf : Fit h) (hg : zA1 h.ents p = some (lx s (i : Int) 0 t)) (hp : p < h.next) (K : KT) (hk : ∀ n' ty, h.next ≤ n' → zA7 ty n' → K (.tup []) ⟨zA2 h.ents p (lx s (j : Int) 0 t), n', ty⟩), Wc tree.getF 138 [.ptr p d 0] h K := fun h hf hg hp K hk => space_L s hs i r hd hlen t h p d hf hg hp K (fun n' ty g1 g2 _ => by rw [hsk]; dsimp only; rw [hj]; exact hk n' ty g1 g2) (fun n' ty g1 g2 g3 => by rw [hsk] at g3; cases g3)
    cases w with
    | nil =>
        have hje : j = s.length := by simpa using hlj
        have hrr' : zHb s.length (m + 1) r = .ok [] := by rw [hrr]; simp [lexW]
        have WD : ∀ (h : CHeap) (hf : Fit h) (hg : zA1 h.ents p = some (lx s (j : Int) 0 t)) (hp : p < h.next) (K : KT) (hk : ∀ n' ty, h.next ≤ n' → zA7 ty n' → K (.agg [.int .i64 5, .str [], .int .u64 0, .int .i64 (j : Int)]) ⟨h.ents, n', ty⟩), Wc tree.getF 139 [.ptr p d 0] h K := fun h hf hg hp K hk => word_e s hs j hje t h p d hf hg hp K hk
        rcases S.l with ⟨rfl, rfl⟩ | ⟨iq, vq, rfl, hti, hip, hi0, hin⟩
        · exact rl_end_n p d s hs t v1 v3 v4 v5 v7 v8 v9 v10 Q h hf i hg hp hov hn0 j SP WD (fun w3 w4 w5 w6 w7 h' q v e1 e2 e3 e4 e5 => by have := hk1 [] w3 w4 w5 w6 w7 h' q v hrr' e1 e2 e3 e4 e5; rw [hje]; exact this)
        · exact rl_end_o p d s hs t v1 v3 v4 v5 v7 v8 v9 v10 Q h hf i hg hp hov hn0 iq vq ts (by omega) hti hip hi0 hin j SP WD (fun w3 w4 w5 w6 w7 h' q v e1 e2 e3 e4 e5 => by have := hk1 [] w3 w4 w5 w6 w7 h' q v hrr' e1 e2 e3 e4 e5; rw [hje]; rw [List.map_nil, List.append_nil] at this; exact this)
    | cons c u =>
        have hposn : s.length - (c :: u).length = j := hj
        cases hw : zCl zB7 (c :: u) with
        | err e =>
         have he := wordW_err hw
         have hrr' : zHb s.length (m + 1) r = .error (e, j) := by rw [hrr]; simp only [lexW, hw, hposn]
         have WD : ∀ (h : CHeap) (hf : Fit h) (hg : zA1 h.ents p = some (lx s (j : Int) 0 t)) (hp : p < h.next) (K : KT) (hk : ∀ n' ty (x : Int), h.next ≤ n' → zA7 ty n' → K (.agg [.int .i64 0, .str [], .int .u64 0, .int .i64 0]) ⟨zA2 h.ents p (lx s x (e : Int) (j : Int)), n', ty⟩), Wc tree.getF 139 [.ptr p d 0] h K := fun h hf hg hp K hk => word_L s hs j c u hdj hlj t h p d hf hg hp K (fun n' ty k tx n len g1 g2 g3 => by rw [hw] at g3; cases g3) (fun n' ty e' x g1 g2 g3 => by rw [hw] at g3; cases g3; exact hk n' ty x g1 g2)
         rcases S.l with ⟨rfl, rfl⟩ | ⟨iq, vq, rfl, hti, hip, hi0, hin⟩
         · exact rl_bad_n p d s hs t v1 v3 v4 v5 v7 v8 v9 v10 Q h hf i hg hp hov hn0 j e (by omega) SP WD (fun w3 w4 w5 w6 w7 h' e1 e2 e3 => hk2 e j w3 w4 w5 w6 w7 h' hrr' e1 e2 e3)
         · exact rl_bad_o p d s hs t v1 v3 v4 v5 v7 v8 v9 v10 Q h hf i hg hp hov hn0 iq vq ts (by omega) hti hip hi0 hin j e (by omega) SP WD (fun w3 w4 w5 w6 w7 h' e1 e2 e3 => hk2 e j w3 w4 w5 w6 w7 h' hrr' e1 e2 e3)
        | tok k tx n len =>
         obtain ⟨j2, hj2⟩ : ∃ j2, j + len = j2 := ⟨_, rfl⟩
         have hl := wordW_tok hw
         have hkk := wordW_kind hw
         simp only [List.length_cons] at hl hlj hwl
         have hd2 : s.drop j2 = (c :: u).drop len := by rw [← hj2, ← hdj, List.drop_drop]
         have hl2 : j2 + ((c :: u).drop len).length = s.length := by rw [List.length_drop]; simp only [List.length_cons]; omega
         have hm2 : ((c :: u).drop len).length < m := by rw [List.length_drop]; simp only [List.length_cons]; omega
         have hrE : ∀ x, zHb s.length m ((c :: u).drop len) = .error x → zHb s.length (m + 1) r = .error x := by
          intro x hx
          rw [hrr]
          unfold zHb at hx
          simp only [lexW, hw]
          cases hsk2 : zBq ((c :: u).drop len) with
          | mk w2 b2 =>
           rw [hsk2] at hx
           cases b2 with
           | false => exact hx
           | true => dsimp only at hx ⊢; rw [hx]
         have hrO : ∀ l, zHb s.length m ((c :: u).drop len) = .ok l → zHb s.length (m + 1) r = .ok ((k, tx, n, j) :: l) := by
          intro l hx
          rw [hrr]
          unfold zHb at hx
          simp only [lexW, hw]
          cases hsk2 : zBq ((c :: u).drop len) with
          | mk w2 b2 =>
           rw [hsk2] at hx
           cases b2 with
           | false => cases hx
           | true => dsimp only at hx ⊢; rw [hx]; dsimp only; rw [hposn]
         have hlj : j + (c :: u).length = s.length := by simp only [List.length_cons]; omega
         have WD : ∀ (h : CHeap) (hf : Fit h) (hg : zA1 h.ents p = some (lx s (j : Int) 0 t)) (hp : p < h.next) (K : KT) (hk : ∀ n' ty, h.next ≤ n' → zA7 ty n' → K (.agg [.int .i64 (k : Int), .str tx, .int .u64 (n : Int), .int .i64 (j : Int)]) ⟨zA2 h.ents p (lx s (j2 : Int) 0 t), n', ty⟩), Wc tree.getF 139 [.ptr p d 0] h K := fun h hf hg hp K hk => word_L s hs j c u hdj hlj t h p d hf hg hp K (fun n' ty k' tx' n'' len' g1 g2 g3 => by rw [hw] at g3; cases g3; have := hk n' ty g1 g2; rw [← hj2] at this; exact this) (fun n' ty e' x g1 g2 g3 => by rw [hw] at g3; cases g3)
         rcases S.l with ⟨rfl, rfl⟩ | ⟨iq, vq, rfl, hti, hip, hi0, hin⟩
         · refine rl_tok_n p d s hs t v1 v3 v4 v5 v7 v8 v9 v10 Q h hf i hg hp hov hn0 j k n j2 tx hkk SP WD ?_
           intro q n' ty w3 w4 w5 w7 g1 g2 g3
           refine ih j2 _ hm2 hd2 hl2 _ _ _ _ _ _ _ ?_ ((S.upd (o' := lx s (j2 : Int) 0 t) (Nat.le_refl _) S.f.2).app0 (x := .agg [.int .i64 (k : Int), .str tx, .int .u64 (n : Int), .int .i64 (j : Int)]) (i := q) (n' := n') (ty := ty) g1 g2 g3) ?_ ?_
           · simp only [List.length_cons, List.length_nil]; omega
           · intro l w3 w4 w5 w6 w7 h' q v e0 e1 e2 e3 e4 e5
             exact hk1 _ w3 w4 w5 w6 w7 h' q v (hrO l e0) e1 e2 e3 e4 (by (try dsimp only at e5); omega)
           · intro e k2 w3 w4 w5 w6 w7 h' e0 e1 e2 e3
             exact hk2 e k2 w3 w4 w5 w6 w7 h' (hrE _ e0) e1 e2 (by (try dsimp only at e3); omega)
         · refine rl_tok_o p d s hs t v1 v3 v4 v5 v7 v8 v9 v10 Q h hf i hg hp hov hn0 iq vq ts (by omega) hti hip hi0 hin j k n j2 tx hkk SP WD ?_
           intro n' ty w3 w4 w5 w7 g1 g3
           have Su := S.upd (o' := lx s (j2 : Int) 0 t) (n' := h.next) (ty := h.tys) (Nat.le_refl _) S.f.2
           refine ih j2 _ hm2 hd2 hl2 _ _ _ _ _ _ _ ?_ (Su.app1 (x := .agg [.int .i64 (k : Int), .str tx, .int .u64 (n : Int), .int .i64 (j : Int)]) (n' := n') (ty := ty) ((zA0 hip).trans hti) hip hi0 hin g1 g3) ?_ ?_
           · rw [List.length_append]; simp only [List.length_cons, List.length_nil]; omega
           · intro l w3 w4 w5 w6 w7 h' q v e0 e1 e2 e3 e4 e5
             have := hk1 _ w3 w4 w5 w6 w7 h' q v (hrO l e0) e1 e2 e3 e4 (by (try dsimp only at e5); omega)
             simpa [List.append_assoc] using this
           · intro e k2 w3 w4 w5 w6 w7 h' e0 e1 e2 e3
             exact hk2 e k2 w3 w4 w5 w6 w7 h' (hrE _ e0) e1 e2 (by (try dsimp only at e3); omega)
end Go.Proofs.YtcokdlfmnhjngaaGreat.IrE
