/- What the functions of the law 'PfileMost' do: part 4 of 8. -/
import Derived.Test.YtjecpdnjpggcoaaGreatDoorLx3
namespace Go.Proofs.YtjecpdnjpggcoaaGreatDoor.IrM
open Go Go.CI
open Go.LexF hiding spacesB lettersB
set_option maxRecDepth 100000
set_option linter.unusedVariables false
set_option linter.unusedSimpArgs false
attribute [local irreducible] W Wo Wc WoR
attribute [local simp] goR regOut checkOne swapOne sameAt nthOp CVal.beq beqs CVal.block storesTo zAa zAe zBg evalE evalP evalL zAy nth setNth COp.cls COp.isStore CVal.isUndef CVal.whole CVal.cells CHeap.put CHeap.get CHeap.set wantedC zA2 zA0 partOf zB9 evalBin evalInt evalStr zB8 initVar descOf List.take List.drop CVal.lenOf CVal.isStr CVal.bare CVal.strip CVal.flat zAo zBm zB6 finishC cut fillCells setCells szOf szOf_desc elems bytesOf evalAppend fillElems mkElem setElem List.replicate sy_nbeq sy_neqF sy_leT sy_leF zAj dropped sy_wrap64 zAx zAc zBb sy_ibeqF sy_ieqF sy_ileT sy_ileF sy_iltT sy_iltF sy_ltT sy_ltF zAg zA8 eqVal extL extE keyIs findKV nthKV setKV CHeap.ty lookupN CHeap.note CHeap.tyOk dropAll freezeVal freezeAll freezeFlat cellsEq cellEq zAk zAq pMakeNoZero zBi pClone pIndex hasPair rowOf byteVals idxFrom hasFront idxSub
theorem wUR1 {P : Prop} (h : P := by refine Wc.mkG 69 c69 (by kernel_rfl) rfl ?_; generalize e : zAa _ _ _ = r; simp (disch := omega) [hX, g5, am, i1_0, i1_1, ab1, o1, hcmp, zAn, zAi, zB2, hbits8, c69] at e; subst e; repeat (first | refine sq_ ?_ | refine bl_ ?_ | ((first | refine rg_ ?_ | refine go_ ?_); generalize e : goR _ _ _ _ _ _ _ _ = r; simp (disch := omega) [hX, g5, am, i1_0, i1_1, ab1, o1, hcmp, zAn, zAi, zB2, hbits8, c69] at e; replace e : some _ = _ := e; subst e; (try dsimp only [goW])) | refine ct_ rfl ?_ | refine cf_ rfl ?_ | refine sk_ ?_ | refine ex_ ?_ | (refine W.loop ?_; try (generalize e : dropped _ _ _ = r; simp (disch := omega) [hX, g5, am, i1_0, i1_1, ab1, o1, hcmp, zAn, zAi, zB2, hbits8, c69] at e; subst e; try dsimp only)) | (refine put_F x1 (by omega) _ ?_ _ fun n1 hn1 => ⟨rfl, ?_⟩; exact fit_; (try dsimp only at hn1)) | ((first | (refine W.ret ?_; (try simp only [zAl, zA3, zAf]); refine endW.of (.inl rfl) rfl ?_) | refine endW.of (.inr rfl) rfl ?_); generalize e : zAo _ _ _ = r; simp (disch := omega) [hX, g5, am, i1_0, i1_1, ab1, o1, hcmp, zAn, zAi, zB2, hbits8, c69] at e; subst e; (try dsimp only [goW]); (refine hk _ ?_; omega)))) : P := h
theorem wUR2 {P : Prop} (h : P := by refine Wc.mkG 69 c69 (by kernel_rfl) rfl ?_; generalize e : zAa _ _ _ = r; simp (disch := omega) [hX, g5, e5, g4, am, zAn, zAi, zB2, hbits8, c69] at e; subst e; repeat (first | refine sq_ ?_ | refine bl_ ?_ | ((first | refine rg_ ?_ | refine go_ ?_); generalize e : goR _ _ _ _ _ _ _ _ = r; simp (disch := omega) [hX, g5, e5, g4, am, zAn, zAi, zB2, hbits8, c69] at e; replace e : some _ = _ := e; subst e; (try dsimp only [goW])) | refine ct_ rfl ?_ | refine cf_ rfl ?_ | refine sk_ ?_ | refine ex_ ?_ | (refine W.loop ?_; try (generalize e : dropped _ _ _ = r; simp (disch := omega) [hX, g5, e5, g4, am, zAn, zAi, zB2, hbits8, c69] at e; subst e; try dsimp only)) | ((first | (refine W.ret ?_; (try simp only [zAl, zA3, zAf]); refine endW.of (.inl rfl) rfl ?_) | refine endW.of (.inr rfl) rfl ?_); generalize e : zAo _ _ _ = r; simp (disch := omega) [hX, g5, e5, g4, am, zAn, zAi, zB2, hbits8, c69] at e; subst e; (try dsimp only [goW]); (refine hk _ ?_; omega)))) : P := h
theorem wUR3 {P : Prop} (h : P := by refine Wc.mkG 69 c69 (by kernel_rfl) rfl ?_; generalize e : zAa _ _ _ = r; simp (disch := omega) [hX, g5, e5, g4, am, i1_0, i1_1, ab1, o1, i2_0, i2_1, i2_2, ab2, o2, hcmp, zAn, zAi, zB2, hbits8, c69] at e; subst e; repeat (first | refine sq_ ?_ | refine bl_ ?_ | ((first | refine rg_ ?_ | refine go_ ?_); generalize e : goR _ _ _ _ _ _ _ _ = r; simp (disch := omega) [hX, g5, e5, g4, am, i1_0, i1_1, ab1, o1, i2_0, i2_1, i2_2, ab2, o2, hcmp, zAn, zAi, zB2, hbits8, c69] at e; replace e : some _ = _ := e; subst e; (try dsimp only [goW])) | refine ct_ rfl ?_ | refine cf_ rfl ?_ | refine sk_ ?_ | refine ex_ ?_ | (refine W.loop ?_; try (generalize e : dropped _ _ _ = r; simp (disch := omega) [hX, g5, e5, g4, am, i1_0, i1_1, ab1, o1, i2_0, i2_1, i2_2, ab2, o2, hcmp, zAn, zAi, zB2, hbits8, c69] at e; subst e; try dsimp only)) | (refine put_F x2 (by omega) _ ?_ _ fun n1 hn1 => ⟨rfl, ?_⟩; exact fit_; (try dsimp only at hn1)) | ((first | (refine W.ret ?_; (try simp only [zAl, zA3, zAf]); refine endW.of (.inl rfl) rfl ?_) | refine endW.of (.inr rfl) rfl ?_); generalize e : zAo _ _ _ = r; simp (disch := omega) [hX, g5, e5, g4, am, i1_0, i1_1, ab1, o1, i2_0, i2_1, i2_2, ab2, o2, hcmp, zAn, zAi, zB2, hbits8, c69] at e; subst e; (try dsimp only [goW]); (refine hk _ ?_; omega)))) : P := h
theorem wUR4 {P : Prop} (h : P := by refine Wc.mkG 69 c69 (by kernel_rfl) rfl ?_; generalize e : zAa _ _ _ = r; simp (disch := omega) [hX, g5, e5, g4, e4, g3, am, zAn, zAi, zB2, hbits8, c69] at e; subst e; repeat (first | refine sq_ ?_ | refine bl_ ?_ | ((first | refine rg_ ?_ | refine go_ ?_); generalize e : goR _ _ _ _ _ _ _ _ = r; simp (disch := omega) [hX, g5, e5, g4, e4, g3, am, zAn, zAi, zB2, hbits8, c69] at e; replace e : some _ = _ := e; subst e; (try dsimp only [goW])) | refine ct_ rfl ?_ | refine cf_ rfl ?_ | refine sk_ ?_ | refine ex_ ?_ | (refine W.loop ?_; try (generalize e : dropped _ _ _ = r; simp (disch := omega) [hX, g5, e5, g4, e4, g3, am, zAn, zAi, zB2, hbits8, c69] at e; subst e; try dsimp only)) | ((first | (refine W.ret ?_; (try simp only [zAl, zA3, zAf]); refine endW.of (.inl rfl) rfl ?_) | refine endW.of (.inr rfl) rfl ?_); generalize e : zAo _ _ _ = r; simp (disch := omega) [hX, g5, e5, g4, e4, g3, am, zAn, zAi, zB2, hbits8, c69] at e; subst e; (try dsimp only [goW]); (refine hk _ ?_; omega)))) : P := h
theorem wUR5 {P : Prop} (h : P := by refine Wc.mkG 69 c69 (by kernel_rfl) rfl ?_; generalize e : zAa _ _ _ = r; simp (disch := omega) [hX, g5, e5, g4, e4, g3, am, i1_0, i1_1, ab1, o1, i2_0, i2_1, i2_2, ab2, o2, i3_0, i3_1, i3_2, i3_3, ab3, o3, hcmp, zAn, zAi, zB2, hbits8, c69] at e; subst e; repeat (first | refine sq_ ?_ | refine bl_ ?_ | ((first | refine rg_ ?_ | refine go_ ?_); generalize e : goR _ _ _ _ _ _ _ _ = r; simp (disch := omega) [hX, g5, e5, g4, e4, g3, am, i1_0, i1_1, ab1, o1, i2_0, i2_1, i2_2, ab2, o2, i3_0, i3_1, i3_2, i3_3, ab3, o3, hcmp, zAn, zAi, zB2, hbits8, c69] at e; replace e : some _ = _ := e; subst e; (try dsimp only [goW])) | refine ct_ rfl ?_ | refine cf_ rfl ?_ | refine sk_ ?_ | refine ex_ ?_ | (refine W.loop ?_; try (generalize e : dropped _ _ _ = r; simp (disch := omega) [hX, g5, e5, g4, e4, g3, am, i1_0, i1_1, ab1, o1, i2_0, i2_1, i2_2, ab2, o2, i3_0, i3_1, i3_2, i3_3, ab3, o3, hcmp, zAn, zAi, zB2, hbits8, c69] at e; subst e; try dsimp only)) | (refine put_F x3 (by omega) _ ?_ _ fun n1 hn1 => ⟨rfl, ?_⟩; exact fit_; (try dsimp only at hn1)) | ((first | (refine W.ret ?_; (try simp only [zAl, zA3, zAf]); refine endW.of (.inl rfl) rfl ?_) | refine endW.of (.inr rfl) rfl ?_); generalize e : zAo _ _ _ = r; simp (disch := omega) [hX, g5, e5, g4, e4, g3, am, i1_0, i1_1, ab1, o1, i2_0, i2_1, i2_2, ab2, o2, i3_0, i3_1, i3_2, i3_3, ab3, o3, hcmp, zAn, zAi, zB2, hbits8, c69] at e; subst e; (try dsimp only [goW]); (refine hk _ ?_; omega)))) : P := h
def ptF : List UInt8 → Nat
 | [] => 0
 | c :: t => if c.toNat < 128 then 1
  else if c.toNat / 32 = 6 then (match t with
   | c1 :: _ => if putB (c.toNat % 32 * 64 + c1.toNat % 64) = [c, c1] then 2 else 0
   | _ => 0)
  else if c.toNat / 16 = 14 then (match t with
   | c1 :: c2 :: _ => if putB ((c.toNat % 16 * 64 + c1.toNat % 64) * 64 + c2.toNat % 64) = [c, c1, c2] then 3 else 0
   | _ => 0)
  else if c.toNat / 8 = 30 then (match t with
   | c1 :: c2 :: c3 :: _ => if putB (((c.toNat % 8 * 64 + c1.toNat % 64) * 64 + c2.toNat % 64) * 64 + c3.toNat % 64) = [c, c1, c2, c3] then 4 else 0
   | _ => 0)
  else 0
theorem pt_1 (c : UInt8) (t : List UInt8) (hc : c.toNat < 128) : Pe 69 [.str (c :: t)] (.tup [.int .u32 (c.toNat : Int), .int .i64 1]) := by
 intro h hf K hk
 obtain ⟨hu, hut, hX⟩ := fx4 hf
 refine Wc.mkG 69 c69 (by kernel_rfl) rfl ?_
 generalize e : zAa _ _ _ = r
 simp (disch := omega) [hX, zAn, zAi, zB2, hbits8, c69] at e
 subst e
 repeat (first | refine sq_ ?_ | refine bl_ ?_ | ((first | refine rg_ ?_ | refine go_ ?_); generalize e : goR _ _ _ _ _ _ _ _ = r; simp (disch := omega) [hX, zAn, zAi, zB2, hbits8, c69] at e; replace e : some _ = _ := e; subst e; (try dsimp only [goW])) | refine ct_ rfl ?_ | refine cf_ rfl ?_ | refine sk_ ?_ | refine ex_ ?_ | (refine W.loop ?_; try (generalize e : dropped _ _ _ = r; simp (disch := omega) [hX, zAn, zAi, zB2, hbits8, c69] at e; subst e; try dsimp only)) | ((first | (refine W.ret ?_; (try simp only [zAl, zA3, zAf]); refine endW.of (.inl rfl) rfl ?_) | refine endW.of (.inr rfl) rfl ?_); generalize e : zAo _ _ _ = r; simp (disch := omega) [hX, zAn, zAi, zB2, hbits8, c69] at e; subst e; (try dsimp only [goW]); (refine hk _ ?_; omega)))
theorem pt_none (c : UInt8) (t : List UInt8) (h1 : 128 ≤ c.toNat) (h2 : ¬ c.toNat / 32 = 6) (h3 : ¬ c.toNat / 16 = 14) (h4 : ¬ c.toNat / 8 = 30) : Pe 69 [.str (c :: t)] (.tup [.int .u32 0, .int .i64 0]) := by
 intro h hf K hk
 obtain ⟨hu, hut, hX⟩ := fx4 hf
 have hcl := c.toNat_lt
 obtain ⟨k5, hk5⟩ : ∃ q : Nat, c.toNat / 32 = q := ⟨_, rfl⟩
 have g5 : Int.fdiv (c.toNat : Int) 32 = (k5 : Int) := zB0 hk5
 have e5 : ¬ ((k5 : Int) = 6) := by omega
 obtain ⟨k4, hk4⟩ : ∃ q : Nat, c.toNat / 16 = q := ⟨_, rfl⟩
 have g4 : Int.fdiv (c.toNat : Int) 16 = (k4 : Int) := zB0 hk4
 have e4 : ¬ ((k4 : Int) = 14) := by omega
 obtain ⟨k3, hk3⟩ : ∃ q : Nat, c.toNat / 8 = q := ⟨_, rfl⟩
 have g3 : Int.fdiv (c.toNat : Int) 8 = (k3 : Int) := zB0 hk3
 have e3 : ¬ ((k3 : Int) = 30) := by omega
 refine Wc.mkG 69 c69 (by kernel_rfl) rfl ?_
 generalize e : zAa _ _ _ = r
 simp (disch := omega) [hX, g5, e5, g4, e4, g3, e3, zAn, zAi, zB2, hbits8, c69] at e
 subst e
 repeat (first | refine sq_ ?_ | refine bl_ ?_ | ((first | refine rg_ ?_ | refine go_ ?_); generalize e : goR _ _ _ _ _ _ _ _ = r; simp (disch := omega) [hX, g5, e5, g4, e4, g3, e3, zAn, zAi, zB2, hbits8, c69] at e; replace e : some _ = _ := e; subst e; (try dsimp only [goW])) | refine ct_ rfl ?_ | refine cf_ rfl ?_ | refine sk_ ?_ | refine ex_ ?_ | (refine W.loop ?_; try (generalize e : dropped _ _ _ = r; simp (disch := omega) [hX, g5, e5, g4, e4, g3, e3, zAn, zAi, zB2, hbits8, c69] at e; subst e; try dsimp only)) | ((first | (refine W.ret ?_; (try simp only [zAl, zA3, zAf]); refine endW.of (.inl rfl) rfl ?_) | refine endW.of (.inr rfl) rfl ?_); generalize e : zAo _ _ _ = r; simp (disch := omega) [hX, g5, e5, g4, e4, g3, e3, zAn, zAi, zB2, hbits8, c69] at e; subst e; (try dsimp only [goW]); (refine hk _ ?_; omega)))
theorem pt_2s0 (c : UInt8)  (hc : c.toNat / 32 = 6) : Pe 69 [.str (c :: [])] (.tup [.int .u32 0, .int .i64 0]) := by
 intro h hf K hk
 obtain ⟨hu, hut, hX⟩ := fx4 hf
 have hcl := c.toNat_lt
 have g5 : Int.fdiv (c.toNat : Int) 32 = 6 := zB0 (y := 6) hc
 obtain ⟨m0, hm0⟩ : ∃ q : Nat, c.toNat % 32 = q := ⟨_, rfl⟩
 have am : zAp .and .u8 (c.toNat : Int) 31 = some (.int .u8 (m0 : Int)) := and8 5 31 rfl (by decide) hcl hm0
 refine Wc.mkG 69 c69 (by kernel_rfl) rfl ?_
 generalize e : zAa _ _ _ = r
 simp (disch := omega) [hX, g5, am, zAn, zAi, zB2, hbits8, c69] at e
 subst e
 repeat (first | refine sq_ ?_ | refine bl_ ?_ | ((first | refine rg_ ?_ | refine go_ ?_); generalize e : goR _ _ _ _ _ _ _ _ = r; simp (disch := omega) [hX, g5, am, zAn, zAi, zB2, hbits8, c69] at e; replace e : some _ = _ := e; subst e; (try dsimp only [goW])) | refine ct_ rfl ?_ | refine cf_ rfl ?_ | refine sk_ ?_ | refine ex_ ?_ | (refine W.loop ?_; try (generalize e : dropped _ _ _ = r; simp (disch := omega) [hX, g5, am, zAn, zAi, zB2, hbits8, c69] at e; subst e; try dsimp only)) | ((first | (refine W.ret ?_; (try simp only [zAl, zA3, zAf]); refine endW.of (.inl rfl) rfl ?_) | refine endW.of (.inr rfl) rfl ?_); generalize e : zAo _ _ _ = r; simp (disch := omega) [hX, g5, am, zAn, zAi, zB2, hbits8, c69] at e; subst e; (try dsimp only [goW]); (refine hk _ ?_; omega)))
set_option maxHeartbeats 2000000 in
theorem pt_2true (c : UInt8) (c1 : UInt8) (t : List UInt8) (hc : c.toNat / 32 = 6) (hcmp : (putB (c.toNat % 32 * 64 + c1.toNat % 64) == [c, c1]) = true) : Pe 69 [.str (c :: c1 :: t)] (.tup [.int .u32 (((c.toNat % 32 * 64 + c1.toNat % 64) : Nat) : Int), .int .i64 2]) := by
 intro h hf K hk
 obtain ⟨hu, hut, hX⟩ := fx4 hf
 have hcl := c.toNat_lt
 have g5 : Int.fdiv (c.toNat : Int) 32 = 6 := zB0 (y := 6) hc
 obtain ⟨m0, hm0⟩ : ∃ q : Nat, c.toNat % 32 = q := ⟨_, rfl⟩
 have am : zAp .and .u8 (c.toNat : Int) 31 = some (.int .u8 (m0 : Int)) := and8 5 31 rfl (by decide) hcl hm0
 have hcl1 := c1.toNat_lt
 obtain ⟨b1, hb1⟩ : ∃ q : Nat, c1.toNat % 64 = q := ⟨_, rfl⟩
 have ab1 : zAp .and .u8 (c1.toNat : Int) 63 = some (.int .u8 (b1 : Int)) := and8 6 63 rfl (by decide) hcl1 hb1
 obtain ⟨x1, hx1⟩ : ∃ q : Nat, m0 * 2 ^ 6 + b1 = q := ⟨_, rfl⟩
 have o1 : zAp .or .u32 ((m0 : Int) * 64) (b1 : Int) = some (.int .u32 (x1 : Int)) := or32 (c := m0) (s := 6) _ (by omega) (by omega) (by omega) (by decide) hx1
 have i1_0 : (c :: c1 :: t)[1]? = some c1 := rfl
 have i1_1 : (c1 :: t)[0]? = some c1 := rfl
 have hxe : (c.toNat % 32 * 64 + c1.toNat % 64) = x1 := by omega
 rw [hxe] at hcmp
 rw [hxe] at hk
 exact wUR1
set_option maxHeartbeats 2000000 in
theorem pt_2false (c : UInt8) (c1 : UInt8) (t : List UInt8) (hc : c.toNat / 32 = 6) (hcmp : (putB (c.toNat % 32 * 64 + c1.toNat % 64) == [c, c1]) = false) : Pe 69 [.str (c :: c1 :: t)] (.tup [.int .u32 0, .int .i64 0]) := by
 intro h hf K hk
 obtain ⟨hu, hut, hX⟩ := fx4 hf
 have hcl := c.toNat_lt
 have g5 : Int.fdiv (c.toNat : Int) 32 = 6 := zB0 (y := 6) hc
 obtain ⟨m0, hm0⟩ : ∃ q : Nat, c.toNat % 32 = q := ⟨_, rfl⟩
 have am : zAp .and .u8 (c.toNat : Int) 31 = some (.int .u8 (m0 : Int)) := and8 5 31 rfl (by decide) hcl hm0
 have hcl1 := c1.toNat_lt
 obtain ⟨b1, hb1⟩ : ∃ q : Nat, c1.toNat % 64 = q := ⟨_, rfl⟩
 have ab1 : zAp .and .u8 (c1.toNat : Int) 63 = some (.int .u8 (b1 : Int)) := and8 6 63 rfl (by decide) hcl1 hb1
 obtain ⟨x1, hx1⟩ : ∃ q : Nat, m0 * 2 ^ 6 + b1 = q := ⟨_, rfl⟩
 have o1 : zAp .or .u32 ((m0 : Int) * 64) (b1 : Int) = some (.int .u32 (x1 : Int)) := or32 (c := m0) (s := 6) _ (by omega) (by omega) (by omega) (by decide) hx1
 have i1_0 : (c :: c1 :: t)[1]? = some c1 := rfl
 have i1_1 : (c1 :: t)[0]? = some c1 := rfl
 have hxe : (c.toNat % 32 * 64 + c1.toNat % 64) = x1 := by omega
 rw [hxe] at hcmp
 exact wUR1
theorem pt_3s0 (c : UInt8)  (hc : c.toNat / 16 = 14) : Pe 69 [.str (c :: [])] (.tup [.int .u32 0, .int .i64 0]) := by
 intro h hf K hk
 obtain ⟨hu, hut, hX⟩ := fx4 hf
 have hcl := c.toNat_lt
 obtain ⟨k5, hk5⟩ : ∃ q : Nat, c.toNat / 32 = q := ⟨_, rfl⟩
 have g5 : Int.fdiv (c.toNat : Int) 32 = (k5 : Int) := zB0 hk5
 have e5 : ¬ ((k5 : Int) = 6) := by omega
 have g4 : Int.fdiv (c.toNat : Int) 16 = 14 := zB0 (y := 14) hc
 obtain ⟨m0, hm0⟩ : ∃ q : Nat, c.toNat % 16 = q := ⟨_, rfl⟩
 have am : zAp .and .u8 (c.toNat : Int) 15 = some (.int .u8 (m0 : Int)) := and8 4 15 rfl (by decide) hcl hm0
 exact wUR2
theorem pt_3s1 (c : UInt8) (c1 : UInt8) (hc : c.toNat / 16 = 14) : Pe 69 [.str (c :: c1 :: [])] (.tup [.int .u32 0, .int .i64 0]) := by
 intro h hf K hk
 obtain ⟨hu, hut, hX⟩ := fx4 hf
 have hcl := c.toNat_lt
 obtain ⟨k5, hk5⟩ : ∃ q : Nat, c.toNat / 32 = q := ⟨_, rfl⟩
 have g5 : Int.fdiv (c.toNat : Int) 32 = (k5 : Int) := zB0 hk5
 have e5 : ¬ ((k5 : Int) = 6) := by omega
 have g4 : Int.fdiv (c.toNat : Int) 16 = 14 := zB0 (y := 14) hc
 obtain ⟨m0, hm0⟩ : ∃ q : Nat, c.toNat % 16 = q := ⟨_, rfl⟩
 have am : zAp .and .u8 (c.toNat : Int) 15 = some (.int .u8 (m0 : Int)) := and8 4 15 rfl (by decide) hcl hm0
 exact wUR2
set_option maxHeartbeats 2000000 in
theorem pt_3true (c : UInt8) (c1 : UInt8) (c2 : UInt8) (t : List UInt8) (hc : c.toNat / 16 = 14) (hcmp : (putB ((c.toNat % 16 * 64 + c1.toNat % 64) * 64 + c2.toNat % 64) == [c, c1, c2]) = true) : Pe 69 [.str (c :: c1 :: c2 :: t)] (.tup [.int .u32 ((((c.toNat % 16 * 64 + c1.toNat % 64) * 64 + c2.toNat % 64) : Nat) : Int), .int .i64 3]) := by
 intro h hf K hk
 obtain ⟨hu, hut, hX⟩ := fx4 hf
 have hcl := c.toNat_lt
 obtain ⟨k5, hk5⟩ : ∃ q : Nat, c.toNat / 32 = q := ⟨_, rfl⟩
 have g5 : Int.fdiv (c.toNat : Int) 32 = (k5 : Int) := zB0 hk5
 have e5 : ¬ ((k5 : Int) = 6) := by omega
 have g4 : Int.fdiv (c.toNat : Int) 16 = 14 := zB0 (y := 14) hc
 obtain ⟨m0, hm0⟩ : ∃ q : Nat, c.toNat % 16 = q := ⟨_, rfl⟩
 have am : zAp .and .u8 (c.toNat : Int) 15 = some (.int .u8 (m0 : Int)) := and8 4 15 rfl (by decide) hcl hm0
 have hcl1 := c1.toNat_lt
 obtain ⟨b1, hb1⟩ : ∃ q : Nat, c1.toNat % 64 = q := ⟨_, rfl⟩
 have ab1 : zAp .and .u8 (c1.toNat : Int) 63 = some (.int .u8 (b1 : Int)) := and8 6 63 rfl (by decide) hcl1 hb1
 obtain ⟨x1, hx1⟩ : ∃ q : Nat, m0 * 2 ^ 6 + b1 = q := ⟨_, rfl⟩
 have o1 : zAp .or .u32 ((m0 : Int) * 64) (b1 : Int) = some (.int .u32 (x1 : Int)) := or32 (c := m0) (s := 6) _ (by omega) (by omega) (by omega) (by decide) hx1
 have i1_0 : (c :: c1 :: c2 :: t)[1]? = some c1 := rfl
 have i1_1 : (c1 :: c2 :: t)[0]? = some c1 := rfl
 have hcl2 := c2.toNat_lt
 obtain ⟨b2, hb2⟩ : ∃ q : Nat, c2.toNat % 64 = q := ⟨_, rfl⟩
 have ab2 : zAp .and .u8 (c2.toNat : Int) 63 = some (.int .u8 (b2 : Int)) := and8 6 63 rfl (by decide) hcl2 hb2
 obtain ⟨x2, hx2⟩ : ∃ q : Nat, x1 * 2 ^ 6 + b2 = q := ⟨_, rfl⟩
 have o2 : zAp .or .u32 ((x1 : Int) * 64) (b2 : Int) = some (.int .u32 (x2 : Int)) := or32 (c := x1) (s := 6) _ (by omega) (by omega) (by omega) (by decide) hx2
 have i2_0 : (c :: c1 :: c2 :: t)[2]? = some c2 := rfl
 have i2_1 : (c1 :: c2 :: t)[1]? = some c2 := rfl
 have i2_2 : (c2 :: t)[0]? = some c2 := rfl
 have hxe : ((c.toNat % 16 * 64 + c1.toNat % 64) * 64 + c2.toNat % 64) = x2 := by omega
 rw [hxe] at hcmp
 rw [hxe] at hk
 exact wUR3
set_option maxHeartbeats 2000000 in
theorem pt_3false (c : UInt8) (c1 : UInt8) (c2 : UInt8) (t : List UInt8) (hc : c.toNat / 16 = 14) (hcmp : (putB ((c.toNat % 16 * 64 + c1.toNat % 64) * 64 + c2.toNat % 64) == [c, c1, c2]) = false) : Pe 69 [.str (c :: c1 :: c2 :: t)] (.tup [.int .u32 0, .int .i64 0]) := by
 intro h hf K hk
 obtain ⟨hu, hut, hX⟩ := fx4 hf
 have hcl := c.toNat_lt
 obtain ⟨k5, hk5⟩ : ∃ q : Nat, c.toNat / 32 = q := ⟨_, rfl⟩
 have g5 : Int.fdiv (c.toNat : Int) 32 = (k5 : Int) := zB0 hk5
 have e5 : ¬ ((k5 : Int) = 6) := by omega
 have g4 : Int.fdiv (c.toNat : Int) 16 = 14 := zB0 (y := 14) hc
 obtain ⟨m0, hm0⟩ : ∃ q : Nat, c.toNat % 16 = q := ⟨_, rfl⟩
 have am : zAp .and .u8 (c.toNat : Int) 15 = some (.int .u8 (m0 : Int)) := and8 4 15 rfl (by decide) hcl hm0
 have hcl1 := c1.toNat_lt
 obtain ⟨b1, hb1⟩ : ∃ q : Nat, c1.toNat % 64 = q := ⟨_, rfl⟩
 have ab1 : zAp .and .u8 (c1.toNat : Int) 63 = some (.int .u8 (b1 : Int)) := and8 6 63 rfl (by decide) hcl1 hb1
 obtain ⟨x1, hx1⟩ : ∃ q : Nat, m0 * 2 ^ 6 + b1 = q := ⟨_, rfl⟩
 have o1 : zAp .or .u32 ((m0 : Int) * 64) (b1 : Int) = some (.int .u32 (x1 : Int)) := or32 (c := m0) (s := 6) _ (by omega) (by omega) (by omega) (by decide) hx1
 have i1_0 : (c :: c1 :: c2 :: t)[1]? = some c1 := rfl
 have i1_1 : (c1 :: c2 :: t)[0]? = some c1 := rfl
 have hcl2 := c2.toNat_lt
 obtain ⟨b2, hb2⟩ : ∃ q : Nat, c2.toNat % 64 = q := ⟨_, rfl⟩
 have ab2 : zAp .and .u8 (c2.toNat : Int) 63 = some (.int .u8 (b2 : Int)) := and8 6 63 rfl (by decide) hcl2 hb2
 obtain ⟨x2, hx2⟩ : ∃ q : Nat, x1 * 2 ^ 6 + b2 = q := ⟨_, rfl⟩
 have o2 : zAp .or .u32 ((x1 : Int) * 64) (b2 : Int) = some (.int .u32 (x2 : Int)) := or32 (c := x1) (s := 6) _ (by omega) (by omega) (by omega) (by decide) hx2
 have i2_0 : (c :: c1 :: c2 :: t)[2]? = some c2 := rfl
 have i2_1 : (c1 :: c2 :: t)[1]? = some c2 := rfl
 have i2_2 : (c2 :: t)[0]? = some c2 := rfl
 have hxe : ((c.toNat % 16 * 64 + c1.toNat % 64) * 64 + c2.toNat % 64) = x2 := by omega
 rw [hxe] at hcmp
 exact wUR3
theorem pt_4s0 (c : UInt8)  (hc : c.toNat / 8 = 30) : Pe 69 [.str (c :: [])] (.tup [.int .u32 0, .int .i64 0]) := by
 intro h hf K hk
 obtain ⟨hu, hut, hX⟩ := fx4 hf
 have hcl := c.toNat_lt
 obtain ⟨k5, hk5⟩ : ∃ q : Nat, c.toNat / 32 = q := ⟨_, rfl⟩
 have g5 : Int.fdiv (c.toNat : Int) 32 = (k5 : Int) := zB0 hk5
 have e5 : ¬ ((k5 : Int) = 6) := by omega
 obtain ⟨k4, hk4⟩ : ∃ q : Nat, c.toNat / 16 = q := ⟨_, rfl⟩
 have g4 : Int.fdiv (c.toNat : Int) 16 = (k4 : Int) := zB0 hk4
 have e4 : ¬ ((k4 : Int) = 14) := by omega
 have g3 : Int.fdiv (c.toNat : Int) 8 = 30 := zB0 (y := 30) hc
 obtain ⟨m0, hm0⟩ : ∃ q : Nat, c.toNat % 8 = q := ⟨_, rfl⟩
 have am : zAp .and .u8 (c.toNat : Int) 7 = some (.int .u8 (m0 : Int)) := and8 3 7 rfl (by decide) hcl hm0
 exact wUR4
theorem pt_4s1 (c : UInt8) (c1 : UInt8) (hc : c.toNat / 8 = 30) : Pe 69 [.str (c :: c1 :: [])] (.tup [.int .u32 0, .int .i64 0]) := by
 intro h hf K hk
 obtain ⟨hu, hut, hX⟩ := fx4 hf
 have hcl := c.toNat_lt
 obtain ⟨k5, hk5⟩ : ∃ q : Nat, c.toNat / 32 = q := ⟨_, rfl⟩
 have g5 : Int.fdiv (c.toNat : Int) 32 = (k5 : Int) := zB0 hk5
 have e5 : ¬ ((k5 : Int) = 6) := by omega
 obtain ⟨k4, hk4⟩ : ∃ q : Nat, c.toNat / 16 = q := ⟨_, rfl⟩
 have g4 : Int.fdiv (c.toNat : Int) 16 = (k4 : Int) := zB0 hk4
 have e4 : ¬ ((k4 : Int) = 14) := by omega
 have g3 : Int.fdiv (c.toNat : Int) 8 = 30 := zB0 (y := 30) hc
 obtain ⟨m0, hm0⟩ : ∃ q : Nat, c.toNat % 8 = q := ⟨_, rfl⟩
 have am : zAp .and .u8 (c.toNat : Int) 7 = some (.int .u8 (m0 : Int)) := and8 3 7 rfl (by decide) hcl hm0
 exact wUR4
theorem pt_4s2 (c : UInt8) (c1 : UInt8) (c2 : UInt8) (hc : c.toNat / 8 = 30) : Pe 69 [.str (c :: c1 :: c2 :: [])] (.tup [.int .u32 0, .int .i64 0]) := by
 intro h hf K hk
 obtain ⟨hu, hut, hX⟩ := fx4 hf
 have hcl := c.toNat_lt
 obtain ⟨k5, hk5⟩ : ∃ q : Nat, c.toNat / 32 = q := ⟨_, rfl⟩
 have g5 : Int.fdiv (c.toNat : Int) 32 = (k5 : Int) := zB0 hk5
 have e5 : ¬ ((k5 : Int) = 6) := by omega
 obtain ⟨k4, hk4⟩ : ∃ q : Nat, c.toNat / 16 = q := ⟨_, rfl⟩
 have g4 : Int.fdiv (c.toNat : Int) 16 = (k4 : Int) := zB0 hk4
 have e4 : ¬ ((k4 : Int) = 14) := by omega
 have g3 : Int.fdiv (c.toNat : Int) 8 = 30 := zB0 (y := 30) hc
 obtain ⟨m0, hm0⟩ : ∃ q : Nat, c.toNat % 8 = q := ⟨_, rfl⟩
 have am : zAp .and .u8 (c.toNat : Int) 7 = some (.int .u8 (m0 : Int)) := and8 3 7 rfl (by decide) hcl hm0
 exact wUR4
set_option maxHeartbeats 2000000 in
theorem pt_4true (c : UInt8) (c1 : UInt8) (c2 : UInt8) (c3 : UInt8) (t : List UInt8) (hc : c.toNat / 8 = 30) (hcmp : (putB (((c.toNat % 8 * 64 + c1.toNat % 64) * 64 + c2.toNat % 64) * 64 + c3.toNat % 64) == [c, c1, c2, c3]) = true) : Pe 69 [.str (c :: c1 :: c2 :: c3 :: t)] (.tup [.int .u32 (((((c.toNat % 8 * 64 + c1.toNat % 64) * 64 + c2.toNat % 64) * 64 + c3.toNat % 64) : Nat) : Int), .int .i64 4]) := by
 intro h hf K hk
 obtain ⟨hu, hut, hX⟩ := fx4 hf
 have hcl := c.toNat_lt
 obtain ⟨k5, hk5⟩ : ∃ q : Nat, c.toNat / 32 = q := ⟨_, rfl⟩
 have g5 : Int.fdiv (c.toNat : Int) 32 = (k5 : Int) := zB0 hk5
 have e5 : ¬ ((k5 : Int) = 6) := by omega
 obtain ⟨k4, hk4⟩ : ∃ q : Nat, c.toNat / 16 = q := ⟨_, rfl⟩
 have g4 : Int.fdiv (c.toNat : Int) 16 = (k4 : Int) := zB0 hk4
 have e4 : ¬ ((k4 : Int) = 14) := by omega
 have g3 : Int.fdiv (c.toNat : Int) 8 = 30 := zB0 (y := 30) hc
 obtain ⟨m0, hm0⟩ : ∃ q : Nat, c.toNat % 8 = q := ⟨_, rfl⟩
 have am : zAp .and .u8 (c.toNat : Int) 7 = some (.int .u8 (m0 : Int)) := and8 3 7 rfl (by decide) hcl hm0
 have hcl1 := c1.toNat_lt
 obtain ⟨b1, hb1⟩ : ∃ q : Nat, c1.toNat % 64 = q := ⟨_, rfl⟩
 have ab1 : zAp .and .u8 (c1.toNat : Int) 63 = some (.int .u8 (b1 : Int)) := and8 6 63 rfl (by decide) hcl1 hb1
 obtain ⟨x1, hx1⟩ : ∃ q : Nat, m0 * 2 ^ 6 + b1 = q := ⟨_, rfl⟩
 have o1 : zAp .or .u32 ((m0 : Int) * 64) (b1 : Int) = some (.int .u32 (x1 : Int)) := or32 (c := m0) (s := 6) _ (by omega) (by omega) (by omega) (by decide) hx1
 have i1_0 : (c :: c1 :: c2 :: c3 :: t)[1]? = some c1 := rfl
 have i1_1 : (c1 :: c2 :: c3 :: t)[0]? = some c1 := rfl
 have hcl2 := c2.toNat_lt
 obtain ⟨b2, hb2⟩ : ∃ q : Nat, c2.toNat % 64 = q := ⟨_, rfl⟩
 have ab2 : zAp .and .u8 (c2.toNat : Int) 63 = some (.int .u8 (b2 : Int)) := and8 6 63 rfl (by decide) hcl2 hb2
 obtain ⟨x2, hx2⟩ : ∃ q : Nat, x1 * 2 ^ 6 + b2 = q := ⟨_, rfl⟩
 have o2 : zAp .or .u32 ((x1 : Int) * 64) (b2 : Int) = some (.int .u32 (x2 : Int)) := or32 (c := x1) (s := 6) _ (by omega) (by omega) (by omega) (by decide) hx2
 have i2_0 : (c :: c1 :: c2 :: c3 :: t)[2]? = some c2 := rfl
 have i2_1 : (c1 :: c2 :: c3 :: t)[1]? = some c2 := rfl
 have i2_2 : (c2 :: c3 :: t)[0]? = some c2 := rfl
 have hcl3 := c3.toNat_lt
 obtain ⟨b3, hb3⟩ : ∃ q : Nat, c3.toNat % 64 = q := ⟨_, rfl⟩
 have ab3 : zAp .and .u8 (c3.toNat : Int) 63 = some (.int .u8 (b3 : Int)) := and8 6 63 rfl (by decide) hcl3 hb3
 obtain ⟨x3, hx3⟩ : ∃ q : Nat, x2 * 2 ^ 6 + b3 = q := ⟨_, rfl⟩
 have o3 : zAp .or .u32 ((x2 : Int) * 64) (b3 : Int) = some (.int .u32 (x3 : Int)) := or32 (c := x2) (s := 6) _ (by omega) (by omega) (by omega) (by decide) hx3
 have i3_0 : (c :: c1 :: c2 :: c3 :: t)[3]? = some c3 := rfl
 have i3_1 : (c1 :: c2 :: c3 :: t)[2]? = some c3 := rfl
 have i3_2 : (c2 :: c3 :: t)[1]? = some c3 := rfl
 have i3_3 : (c3 :: t)[0]? = some c3 := rfl
 have hxe : (((c.toNat % 8 * 64 + c1.toNat % 64) * 64 + c2.toNat % 64) * 64 + c3.toNat % 64) = x3 := by omega
 rw [hxe] at hcmp
 rw [hxe] at hk
 exact wUR5
set_option maxHeartbeats 2000000 in
theorem pt_4false (c : UInt8) (c1 : UInt8) (c2 : UInt8) (c3 : UInt8) (t : List UInt8) (hc : c.toNat / 8 = 30) (hcmp : (putB (((c.toNat % 8 * 64 + c1.toNat % 64) * 64 + c2.toNat % 64) * 64 + c3.toNat % 64) == [c, c1, c2, c3]) = false) : Pe 69 [.str (c :: c1 :: c2 :: c3 :: t)] (.tup [.int .u32 0, .int .i64 0]) := by
 intro h hf K hk
 obtain ⟨hu, hut, hX⟩ := fx4 hf
 have hcl := c.toNat_lt
 obtain ⟨k5, hk5⟩ : ∃ q : Nat, c.toNat / 32 = q := ⟨_, rfl⟩
 have g5 : Int.fdiv (c.toNat : Int) 32 = (k5 : Int) := zB0 hk5
 have e5 : ¬ ((k5 : Int) = 6) := by omega
 obtain ⟨k4, hk4⟩ : ∃ q : Nat, c.toNat / 16 = q := ⟨_, rfl⟩
 have g4 : Int.fdiv (c.toNat : Int) 16 = (k4 : Int) := zB0 hk4
 have e4 : ¬ ((k4 : Int) = 14) := by omega
 have g3 : Int.fdiv (c.toNat : Int) 8 = 30 := zB0 (y := 30) hc
 obtain ⟨m0, hm0⟩ : ∃ q : Nat, c.toNat % 8 = q := ⟨_, rfl⟩
 have am : zAp .and .u8 (c.toNat : Int) 7 = some (.int .u8 (m0 : Int)) := and8 3 7 rfl (by decide) hcl hm0
 have hcl1 := c1.toNat_lt
 obtain ⟨b1, hb1⟩ : ∃ q : Nat, c1.toNat % 64 = q := ⟨_, rfl⟩
 have ab1 : zAp .and .u8 (c1.toNat : Int) 63 = some (.int .u8 (b1 : Int)) := and8 6 63 rfl (by decide) hcl1 hb1
 obtain ⟨x1, hx1⟩ : ∃ q : Nat, m0 * 2 ^ 6 + b1 = q := ⟨_, rfl⟩
 have o1 : zAp .or .u32 ((m0 : Int) * 64) (b1 : Int) = some (.int .u32 (x1 : Int)) := or32 (c := m0) (s := 6) _ (by omega) (by omega) (by omega) (by decide) hx1
 have i1_0 : (c :: c1 :: c2 :: c3 :: t)[1]? = some c1 := rfl
 have i1_1 : (c1 :: c2 :: c3 :: t)[0]? = some c1 := rfl
 have hcl2 := c2.toNat_lt
 obtain ⟨b2, hb2⟩ : ∃ q : Nat, c2.toNat % 64 = q := ⟨_, rfl⟩
 have ab2 : zAp .and .u8 (c2.toNat : Int) 63 = some (.int .u8 (b2 : Int)) := and8 6 63 rfl (by decide) hcl2 hb2
 obtain ⟨x2, hx2⟩ : ∃ q : Nat, x1 * 2 ^ 6 + b2 = q := ⟨_, rfl⟩
 have o2 : zAp .or .u32 ((x1 : Int) * 64) (b2 : Int) = some (.int .u32 (x2 : Int)) := or32 (c := x1) (s := 6) _ (by omega) (by omega) (by omega) (by decide) hx2
 have i2_0 : (c :: c1 :: c2 :: c3 :: t)[2]? = some c2 := rfl
 have i2_1 : (c1 :: c2 :: c3 :: t)[1]? = some c2 := rfl
 have i2_2 : (c2 :: c3 :: t)[0]? = some c2 := rfl
 have hcl3 := c3.toNat_lt
 obtain ⟨b3, hb3⟩ : ∃ q : Nat, c3.toNat % 64 = q := ⟨_, rfl⟩
 have ab3 : zAp .and .u8 (c3.toNat : Int) 63 = some (.int .u8 (b3 : Int)) := and8 6 63 rfl (by decide) hcl3 hb3
 obtain ⟨x3, hx3⟩ : ∃ q : Nat, x2 * 2 ^ 6 + b3 = q := ⟨_, rfl⟩
 have o3 : zAp .or .u32 ((x2 : Int) * 64) (b3 : Int) = some (.int .u32 (x3 : Int)) := or32 (c := x2) (s := 6) _ (by omega) (by omega) (by omega) (by decide) hx3
 have i3_0 : (c :: c1 :: c2 :: c3 :: t)[3]? = some c3 := rfl
 have i3_1 : (c1 :: c2 :: c3 :: t)[2]? = some c3 := rfl
 have i3_2 : (c2 :: c3 :: t)[1]? = some c3 := rfl
 have i3_3 : (c3 :: t)[0]? = some c3 := rfl
 have hxe : (((c.toNat % 8 * 64 + c1.toNat % 64) * 64 + c2.toNat % 64) * 64 + c3.toNat % 64) = x3 := by omega
 rw [hxe] at hcmp
 exact wUR5
theorem point_F (c : UInt8) (t : List UInt8) : ∃ rv : Nat, Pe 69 [.str (c :: t)] (.tup [.int .u32 (rv : Int), .int .i64 (ptF (c :: t) : Int)]) := by
 simp only [ptF]
 by_cases h1 : c.toNat < 128
 · rw [if_pos h1]; exact ⟨_, pt_1 c t h1⟩
 · rw [if_neg h1]
   by_cases h2 : c.toNat / 32 = 6
   · rw [if_pos h2]
     match t with
     | [] => exact ⟨0, pt_2s0 c h2⟩
     | c1 :: t =>
      dsimp only
      split
      · rename_i h; exact ⟨_, pt_2true c c1 t h2 (by rw [h]; simp)⟩
      · rename_i h; exact ⟨0, pt_2false c c1 t h2 (by simpa using h)⟩
   · rw [if_neg h2]
     by_cases h3 : c.toNat / 16 = 14
     · rw [if_pos h3]
       match t with
       | [] => exact ⟨0, pt_3s0 c h3⟩
       | [c1] => exact ⟨0, pt_3s1 c c1 h3⟩
       | c1 :: c2 :: t =>
        dsimp only
        split
        · rename_i h; exact ⟨_, pt_3true c c1 c2 t h3 (by rw [h]; simp)⟩
        · rename_i h; exact ⟨0, pt_3false c c1 c2 t h3 (by simpa using h)⟩
     · rw [if_neg h3]
       by_cases h4 : c.toNat / 8 = 30
       · rw [if_pos h4]
         match t with
         | [] => exact ⟨0, pt_4s0 c h4⟩
         | [c1] => exact ⟨0, pt_4s1 c c1 h4⟩
         | [c1, c2] => exact ⟨0, pt_4s2 c c1 c2 h4⟩
         | c1 :: c2 :: c3 :: t =>
          dsimp only
          split
          · rename_i h; exact ⟨_, pt_4true c c1 c2 c3 t h4 (by rw [h]; simp)⟩
          · rename_i h; exact ⟨0, pt_4false c c1 c2 c3 t h4 (by simpa using h)⟩
       · rw [if_neg h4]; exact ⟨0, pt_none c t (by omega) h2 h3 h4⟩
theorem ptF_le (s : List UInt8) : ptF s ≤ s.length := by
 rcases s with _ | ⟨c, _ | ⟨c1, _ | ⟨c2, _ | ⟨c3, t⟩⟩⟩⟩
 · exact Nat.le_refl _
 all_goals
  simp only [ptF, List.length_cons]
  repeat' split
  all_goals omega
def validF (s : List UInt8) : Bool := if h : ptF s = 0 then s.isEmpty else validF (s.drop (ptF s))
 termination_by s.length
 decreasing_by have := ptF_le s; simp; omega
abbrev validLoop : CCode := (.loop true (.seq (.seq (.region [.v 0, .g (.bin .neq (.loc 0) (.const (.str [])))] [(1, 1)] [] []) (.cond (.var 1) .skip (.exit 0))) (.block 1 (.seq (.region [.v 0, .g (.call false 69 [(.loc 0)]), .m (.loc 0), .g (.extract 0 (.loc 0)), .g (.extract 1 (.loc 1)), .m (.loc 1), .m (.loc 1)] [(2, 6)] [] []) (.seq (.seq (.region [.v 2, .g (.bin .eql (.loc 0) (.const (.int .i64 0)))] [(3, 1)] [] []) (.cond (.var 3) (.seq (.region [.m (.const (.bool false))] [(4, 0)] [] []) .ret) .skip)) (.region [.v 0, .v 2, .g (.slc 0 (.loc 1) (some (.loc 0)) none), .m (.loc 0)] [(0, 3)] [] []))))))
theorem valid_loop (Q : CExit → CSt → Prop) : ∀ (m : Nat) (s : List UInt8), s.length ≤ m → s.length ≤ 60000 → ∀ (h : CHeap) (v1 v2 v3 v4 : CVal), Fit h →
    (∀ n' v0 v1 v2 v3, h.next ≤ n' → validF s = false → Q .ret ⟨[v0, v1, v2, v3, .bool false], ⟨h.ents, n', h.tys⟩, []⟩) →
    (∀ n' v0 v1 v2 v3 v4, h.next ≤ n' → validF s = true → Q (.exit 0) ⟨[v0, v1, v2, v3, v4], ⟨h.ents, n', h.tys⟩, []⟩) →
    W tree.getF validLoop ⟨[.str s, v1, v2, v3, v4], h, []⟩ Q := by
 intro m
 induction m with
 | zero =>
  intro s hm hl h v1 v2 v3 v4 hf hk1 hk2
  obtain rfl : s = [] := List.length_eq_zero_iff.1 (by omega)
  obtain ⟨hu, hut, hX⟩ := fx4 hf
  refine W.loop ?_
  repeat (first | refine sq_ ?_ | refine bl_ ?_ | ((first | refine rg_ ?_ | refine go_ ?_); generalize e : goR _ _ _ _ _ _ _ _ = r; simp (disch := omega) [hX] at e; replace e : some _ = _ := e; subst e; (try dsimp only [goW])) | refine ct_ rfl ?_ | refine cf_ rfl ?_ | refine sk_ ?_ | refine ex_ ?_)
  exact hk2 _ _ _ _ _ _ (by omega) (by rw [validF]; rfl)
 | succ m ih =>
  intro s hm hl h v1 v2 v3 v4 hf hk1 hk2
  obtain ⟨hu, hut, hX⟩ := fx4 hf
  cases s with
  | nil =>
   refine W.loop ?_
   repeat (first | refine sq_ ?_ | refine bl_ ?_ | ((first | refine rg_ ?_ | refine go_ ?_); generalize e : goR _ _ _ _ _ _ _ _ = r; simp (disch := omega) [hX] at e; replace e : some _ = _ := e; subst e; (try dsimp only [goW])) | refine ct_ rfl ?_ | refine cf_ rfl ?_ | refine sk_ ?_ | refine ex_ ?_)
   exact hk2 _ _ _ _ _ _ (by omega) (by rw [validF]; rfl)
  | cons c t =>
   obtain ⟨rv, P⟩ := point_F c t
   have hle := ptF_le (c :: t)
   simp only [List.length_cons] at hm hl hle
   have htk : (c :: t).take (t.length + 1) = c :: t := List.take_of_length_le (by simp)
   by_cases hz : ptF (c :: t) = 0
   · rw [hz] at P
     refine W.loop ?_
     repeat (first | refine sq_ ?_ | refine bl_ ?_ | ((first | refine rg_ ?_ | refine go_ ?_); generalize e : goR _ _ _ _ _ _ _ _ = r; simp (disch := omega) [hX] at e; replace e : some _ = _ := e; subst e; (try dsimp only [goW])) | refine ct_ rfl ?_ | refine cf_ rfl ?_ | refine sk_ ?_ | refine ex_ ?_ | (refine P _ ?_ _ fun n1 hn1 => ⟨rfl, ?_⟩; exact fit_; (try dsimp only at hn1)) | (refine W.ret ?_; (try simp only [zAl, zA3, zAf]); refine hk1 _ _ _ _ _ ?_ ?_; omega; rw [validF, dif_pos hz]; rfl))
   · obtain ⟨n, hn⟩ : ∃ n, ptF (c :: t) = n := ⟨_, rfl⟩
     have hvd : validF (c :: t) = validF ((c :: t).drop n) := by
      conv => lhs; rw [validF]
      rw [dif_neg hz, hn]
     rw [hvd] at hk1 hk2
     rw [hn] at P hz hle
     have hn0 : ¬ ((n : Int) = 0) := by omega
     refine W.loop ?_
     repeat (first | refine sq_ ?_ | refine bl_ ?_ | ((first | refine rg_ ?_ | refine go_ ?_); generalize e : goR _ _ _ _ _ _ _ _ = r; simp (disch := omega) [hX, htk, hn0] at e; replace e : some _ = _ := e; subst e; (try dsimp only [goW])) | refine ct_ rfl ?_ | refine cf_ rfl ?_ | refine sk_ ?_ | refine ex_ ?_ | (refine P _ ?_ _ fun n1 hn1 => ⟨rfl, ?_⟩; exact fit_; (try dsimp only at hn1)))
     show W tree.getF validLoop (dropped true _ _) Q
     generalize e : dropped _ _ _ = r9
     simp (disch := omega) [hX] at e
     subst e
     refine ih ((c :: t).drop n) (by rw [List.length_drop]; simp; omega) (by rw [List.length_drop]; simp; omega) _ _ _ _ _ ⟨hu.le (by (try dsimp only); omega), zAb.le hut (by (try dsimp only); omega)⟩ ?_ ?_
     · intro n' w0 w1 w2 w3 g1 g2; exact hk1 n' w0 w1 w2 w3 (by dsimp only at g1; omega) g2
     · intro n' w0 w1 w2 w3 w4 g1 g2; exact hk2 n' w0 w1 w2 w3 w4 (by dsimp only at g1; omega) g2
theorem valid_F (s : List UInt8) (hl : s.length ≤ 60000) : Pe 50 [.str s] (.bool (validF s)) := by
 intro h hf K hk
 obtain ⟨hu, hut, hX⟩ := fx4 hf
 refine Wc.mkG 50 c50 (by kernel_rfl) rfl ?_
 generalize e : zAa _ _ _ = r
 simp (disch := omega) [hX, c50] at e
 subst e
 repeat (first | refine sq_ ?_ | refine bl_ ?_ | ((first | refine rg_ ?_ | refine go_ ?_); generalize e : goR _ _ _ _ _ _ _ _ = r; simp (disch := omega) [hX, c50] at e; replace e : some _ = _ := e; subst e; (try dsimp only [goW])) | refine ct_ rfl ?_ | refine cf_ rfl ?_ | refine sk_ ?_ | refine ex_ ?_)
 refine valid_loop _ s.length s (Nat.le_refl _) hl _ _ _ _ _ ⟨hu.le (by (try dsimp only); omega), zAb.le hut (by (try dsimp only); omega)⟩ ?_ ?_
 · intro n' w0 w1 w2 w3 g1 g2
   try dsimp only at g1
   rw [g2] at hk
   try simp only [zAl, zA3, zAf]
   refine endW.of (.inl rfl) rfl ?_
   generalize e : zAo _ _ _ = r
   simp (disch := omega) [hX, c50] at e
   subst e
   (try dsimp only)
   refine hk _ ?_
   omega
 · intro n' w0 w1 w2 w3 w4 g1 g2
   try dsimp only at g1
   rw [g2] at hk
   repeat (first | refine sq_ ?_ | refine bl_ ?_ | ((first | refine rg_ ?_ | refine go_ ?_); generalize e : goR _ _ _ _ _ _ _ _ = r; simp (disch := omega) [hX, c50] at e; replace e : some _ = _ := e; subst e; (try dsimp only [goW])) | refine ct_ rfl ?_ | refine cf_ rfl ?_ | refine sk_ ?_ | refine ex_ ?_ | ((first | (refine W.ret ?_; (try simp only [zAl, zA3, zAf]); refine endW.of (.inl rfl) rfl ?_) | refine endW.of (.inr rfl) rfl ?_); generalize e : zAo _ _ _ = r; simp (disch := omega) [hX, c50] at e; subst e; (try dsimp only [goW]); (refine hk _ ?_; omega)))
theorem wUS1 {P : Prop} (h : P := by repeat (first | refine sq_ ?_ | refine bl_ ?_ | ((first | refine rg_ ?_ | refine go_ ?_); generalize e : goR _ _ _ _ _ _ _ _ = r; simp (disch := omega) [hX, hg, hY, htk, hda, htr, h00, c17] at e; replace e : some _ = _ := e; subst e; (try dsimp only [goW])) | refine ct_ rfl ?_ | refine cf_ rfl ?_ | refine sk_ ?_ | refine ex_ ?_ | ((first | (refine W.ret ?_; (try simp only [zAl, zA3, zAf]); refine endW.of (.inl rfl) rfl ?_) | refine endW.of (.inr rfl) rfl ?_); generalize e : zAo _ _ _ = r; simp (disch := omega) [hX, hg, hY, htk, hda, htr, h00, c17] at e; subst e; (try dsimp only [goW]); (refine hk1 txt kk e1 e2 _ L' (S'.drop (by (try dsimp only); omega) (by (try dsimp only); omega)) ?_; (try dsimp only); omega)))) : P := h
theorem wUS2 {P : Prop} (h : P := by repeat (first | refine sq_ ?_ | refine bl_ ?_ | ((first | refine rg_ ?_ | refine go_ ?_); generalize e : goR _ _ _ _ _ _ _ _ = r; simp (disch := omega) [hX, hg, hY, htk, hda, htr, h00, c17] at e; replace e : some _ = _ := e; subst e; (try dsimp only [goW])) | refine ct_ rfl ?_ | refine cf_ rfl ?_ | refine sk_ ?_ | refine ex_ ?_ | ((first | (refine W.ret ?_; (try simp only [zAl, zA3, zAf]); refine endW.of (.inl rfl) rfl ?_) | refine endW.of (.inr rfl) rfl ?_); generalize e : zAo _ _ _ = r; simp (disch := omega) [hX, hg, hY, htk, hda, htr, h00, c17] at e; subst e; (try dsimp only [goW]); (refine hk2 he _ at' L' ts' (S'.drop (by (try dsimp only); omega) (by (try dsimp only); omega)) ?_; (try dsimp only); omega)))) : P := h
theorem dropCells_get : ∀ {l : List (Nat × CObj)} {n q : Nat} {o : CObj}, zA2 l q = some o → (q < n ∨ ∀ cs, o ≠ .cells cs) → zA2 (zAc l n) q = some o
 | [], _, _, _, h, _ => by cases h
 | (i, x) :: r, n, q, o, h, hq => by
  unfold zAc
  by_cases hn : n ≤ i
  · rw [if_pos hn]
    by_cases hi : i = q
    · subst hi
      simp [zA2] at h
      subst h
      rcases hq with hq | hq
      · omega
      · cases x with
        | cells cs => exact absurd rfl (hq cs)
        | _ => simp [zA2]
    · have h2 : zA2 r q = some o := by simpa [zA2, hi] using h
      have ih := dropCells_get (n := n) h2 hq
      cases x with
      | cells cs => exact ih
      | _ => simp [zA2, hi]; exact ih
  · rw [if_neg hn]; exact h
theorem dropCells_sub : ∀ {l : List (Nat × CObj)} {n : Nat} {x : Nat × CObj}, x ∈ zAc l n → x ∈ l
 | [], _, _, h => h
 | (i, o) :: r, n, x, h => by
  unfold zAc at h
  by_cases hn : n ≤ i
  · rw [if_pos hn] at h
    cases o with
    | cells cs => exact List.mem_cons_of_mem _ (dropCells_sub h)
    | _ => rcases List.mem_cons.1 h with rfl | h
           · simp
           · exact List.mem_cons_of_mem _ (dropCells_sub h)
  · rw [if_neg hn] at h; exact h
theorem dropCells_app : ∀ {pre E0 : List (Nat × CObj)} {n0 n : Nat}, Under E0 n0 → n0 ≤ n → zAc (pre ++ E0) n = zAc pre n ++ E0
 | [], E0, n0, n, h, hn => zAh (h.le hn)
 | (i, o) :: r, E0, n0, n, h, hn => by
  have ih := dropCells_app (pre := r) h hn
  simp only [List.cons_append, zAc]
  split
  · cases o <;> simp [ih]
  · rfl
theorem Over.dropC {n0 n : Nat} {E0 l : List (Nat × CObj)} (h : Over n0 E0 l) (hn : n0 ≤ n) : Over n0 E0 (zAc l n) := by
 obtain ⟨pre, rfl, h1, h2⟩ := h
 exact ⟨zAc pre n, dropCells_app h2 hn, fun x hx => h1 x (dropCells_sub hx), h2⟩
theorem St.drop {n0 : Nat} {E0 : List (Nat × CObj)} {p : Nat} {s : List UInt8} {a : Int} {L : CVal} {ts : List CVal} {e to : Int} {h : CHeap} {n : Nat} (S : St n0 E0 p s a L ts e to h) (hn : n0 ≤ n) (hp : p < n) : St n0 E0 p s a L ts e to ⟨zAc h.ents n, h.next, h.tys⟩ where
 g := dropCells_get S.g (.inl hp)
 l := by
  rcases S.l with h1 | ⟨i, v, h1, h2, h3, h4, h5⟩
  · exact .inl h1
  · exact .inr ⟨i, v, h1, dropCells_get h2 (.inr (by simp)), h3, h4, h5⟩
 d := S.d.dropC hn
 n := S.n
 lt := S.lt
 f := ⟨fun x hx => S.f.1 x (dropCells_sub hx), S.f.2⟩
theorem contains_D (c : UInt8) (b : Bool) (hb : D10.contains c = b) : Pu tree.getF 15 [.str [48, 49, 50, 51, 52, 53, 54, 55, 56, 57], .str [c]] (.bool b) := by
 rw [← hb]; exact contains_F D10 c (by decide)
theorem contains_S (c : UInt8) (b : Bool) (hb : signsB.contains c = b) : Pu tree.getF 15 [.str [123, 125, 40, 41, 91, 93, 61, 59, 44, 60, 62, 45], .str [c]] (.bool b) := by
 rw [← hb]; exact contains_F signsB c (by decide)
theorem next_name0 {n0 : Nat} {E0 : List (Nat × CObj)} (p d : Nat) (s r0 : List UInt8) (c0 : UInt8) (a : Nat) (ts : List CVal) (hts : ts.length ≤ 50000) (to : Int) (hs : s.length < 50000) (hda : s.drop a = c0 :: r0) (hlen : a + (c0 :: r0).length = s.length) (hN : 0 < nameF (c0 :: r0)) (h : CHeap) (S : St n0 E0 p s (a : Int) (.nils) [] 0 to h) (K : CVal → CHeap → Prop)
    (hk : ∀ h' L', St n0 E0 p s ((a + nameF (c0 :: r0) : Nat) : Int) L' ([] ++ [tokC 1 ((c0 :: r0).take (nameF (c0 :: r0))) 0 a]) 0 to h' → h.next ≤ h'.next → K (.tup []) h') : Wc tree.getF 17 [.ptr p d 0] h K := by
 have hg := S.g
 have hf := S.f
 have hp := S.lt
 have hn0 := S.n
 have hll : r0.length + 1 ≤ s.length := by simp at hlen; omega
 have htk : s.take s.length = s := List.take_length
 have htr : (c0 :: r0).take (r0.length + 1) = c0 :: r0 := List.take_of_length_le (by simp)
 have h00 : (c0 :: r0)[0]? = some c0 := rfl
 obtain ⟨nn, hnn⟩ : ∃ nn, nameF (c0 :: r0) = nn := ⟨_, rfl⟩
 have hnl := nameF_le (c0 :: r0)
 have N0 := name_F (c0 :: r0) (by simp at hlen ⊢; omega)
 rw [hnn] at N0 hnl
 rw [hnn] at hN
 rw [hnn] at hk
 obtain ⟨hu, hut, hX⟩ := fx4 hf; have ⟨hD, hC, hN, hT⟩ := hX
 have hY := fx5 hf hg
 push_cast at hk
 have hnp : (0 : Int) < (nn : Int) := by omega
 have hnl2 : nn ≤ r0.length + 1 := by simpa using hnl
 refine Wc.mkG 17 c17 (by kernel_rfl) rfl ?_
 generalize e : zAa _ _ _ = r
 simp (disch := omega) [hX, hg, hY, htk, hda, htr, h00, zAd, c17] at e
 subst e
 repeat (first | refine sq_ ?_ | refine bl_ ?_ | ((first | refine rg_ ?_ | refine go_ ?_); generalize e : goR _ _ _ _ _ _ _ _ = r; simp (disch := omega) [hX, hg, hY, htk, hda, htr, h00, zAd, c17] at e; replace e : some _ = _ := e; subst e; (try dsimp only [goW])) | refine ct_ rfl ?_ | refine cf_ rfl ?_ | refine sk_ ?_ | refine ex_ ?_ | (refine N0 _ ?_ _ fun n1 tyn1 hn1 hun1 => ⟨rfl, ?_⟩; exact fit_; (try dsimp only at hn1)) | ((first | (refine W.ret ?_; (try simp only [zAl, zA3, zAf]); refine endW.of (.inl rfl) rfl ?_) | refine endW.of (.inr rfl) rfl ?_); generalize e : zAo _ _ _ = r; simp (disch := omega) [hX, hg, hY, htk, hda, htr, h00, zAd, c17] at e; subst e; (try dsimp only [goW]); (refine hk _ _ (S.app0 ?_ ?_ ?_) ?_; (try dsimp only); omega; (try dsimp only); omega; exact ut_; (try dsimp only); omega)))
theorem next_name1 {n0 : Nat} {E0 : List (Nat × CObj)} (p d : Nat) (s r0 : List UInt8) (c0 : UInt8) (a : Nat) (ts : List CVal) (hts : ts.length ≤ 50000) (to : Int) (hs : s.length < 50000) (hda : s.drop a = c0 :: r0) (hlen : a + (c0 :: r0).length = s.length) (hN : 0 < nameF (c0 :: r0)) (h : CHeap) (i v : Nat) (ht : zA2 h.ents i = some (.tok v)) (hip : i ≠ p) (hi0 : n0 ≤ i) (hin : i < h.next) (S : St n0 E0 p s (a : Int) (.imm (.own i v) 4 ts) ts 0 to h) (K : CVal → CHeap → Prop)
    (hk : ∀ h' L', St n0 E0 p s ((a + nameF (c0 :: r0) : Nat) : Int) L' (ts ++ [tokC 1 ((c0 :: r0).take (nameF (c0 :: r0))) 0 a]) 0 to h' → h.next ≤ h'.next → K (.tup []) h') : Wc tree.getF 17 [.ptr p d 0] h K := by
 have hg := S.g
 have hf := S.f
 have hp := S.lt
 have hn0 := S.n
 have hll : r0.length + 1 ≤ s.length := by simp at hlen; omega
 have htk : s.take s.length = s := List.take_length
 have htr : (c0 :: r0).take (r0.length + 1) = c0 :: r0 := List.take_of_length_le (by simp)
 have h00 : (c0 :: r0)[0]? = some c0 := rfl
 obtain ⟨nn, hnn⟩ : ∃ nn, nameF (c0 :: r0) = nn := ⟨_, rfl⟩
 have hnl := nameF_le (c0 :: r0)
 have N0 := name_F (c0 :: r0) (by simp at hlen ⊢; omega)
 rw [hnn] at N0 hnl
 rw [hnn] at hN
 rw [hnn] at hk
 obtain ⟨hu, hut, hX⟩ := fx4 hf; have ⟨hD, hC, hN, hT⟩ := hX
 have hY := fx5 hf hg
 have htP : ∀ x, zA2 (zA0 h.ents p x) i = some (.tok v) := fun x => (zA1 hip).trans ht
 have hPt : ∀ x y, zA2 (zA0 (zA0 h.ents i x) p y) p = some y := fun x y => zA7 ((zA1 (Ne.symm hip)).trans hg)
 have hTT : ∀ x y, zA2 (zA0 (zA0 h.ents i x) p y) i = some x := fun x y => (zA1 hip).trans (zA7 ht)
 have hiP : ∀ x, zA2 (zA0 h.ents i x) p = _ := fun x => (zA1 (Ne.symm hip)).trans hg
 have hcomm : ∀ x y, zA0 (zA0 h.ents p y) i x = zA0 (zA0 h.ents i x) p y := fun x y => zAw (Ne.symm hip)
 have hC3 : ∀ x y m, h.next ≤ m → zAc (zA0 (zA0 h.ents i x) p y) m = zA0 (zA0 h.ents i x) p y := fun x y m hm => zAh (hu.set.set.le hm)
 have hD3 : ∀ x y m, h.next ≤ m → zAx (zA0 (zA0 h.ents i x) p y) m = zA0 (zA0 h.ents i x) p y := fun x y m hm => zAr (hu.set.set.le hm)
 push_cast at hk
 have hnp : (0 : Int) < (nn : Int) := by omega
 have hnl2 : nn ≤ r0.length + 1 := by simpa using hnl
 refine Wc.mkG 17 c17 (by kernel_rfl) rfl ?_
 generalize e : zAa _ _ _ = r
 simp (disch := omega) [hX, hg, hY, ht, htP, hPt, hTT, hiP, hcomm, hC3, hD3, htk, hda, htr, h00, zAd, c17] at e
 subst e
 repeat (first | refine sq_ ?_ | refine bl_ ?_ | ((first | refine rg_ ?_ | refine go_ ?_); generalize e : goR _ _ _ _ _ _ _ _ = r; simp (disch := omega) [hX, hg, hY, ht, htP, hPt, hTT, hiP, hcomm, hC3, hD3, htk, hda, htr, h00, zAd, c17] at e; replace e : some _ = _ := e; subst e; (try dsimp only [goW])) | refine ct_ rfl ?_ | refine cf_ rfl ?_ | refine sk_ ?_ | refine ex_ ?_ | (refine N0 _ ?_ _ fun n1 tyn1 hn1 hun1 => ⟨rfl, ?_⟩; exact fit_; (try dsimp only at hn1)) | ((first | (refine W.ret ?_; (try simp only [zAl, zA3, zAf]); refine endW.of (.inl rfl) rfl ?_) | refine endW.of (.inr rfl) rfl ?_); generalize e : zAo _ _ _ = r; simp (disch := omega) [hX, hg, hY, ht, htP, hPt, hTT, hiP, hcomm, hC3, hD3, htk, hda, htr, h00, zAd, c17] at e; subst e; (try dsimp only [goW]); (refine hk _ _ (S.app1 ht hip hi0 hin ?_ ?_) ?_; (try dsimp only); omega; exact ut_; (try dsimp only); omega)))
theorem next_sign0 {n0 : Nat} {E0 : List (Nat × CObj)} (p d : Nat) (s r0 : List UInt8) (c0 : UInt8) (a : Nat) (ts : List CVal) (hts : ts.length ≤ 50000) (to : Int) (hs : s.length < 50000) (hda : s.drop a = c0 :: r0) (hlen : a + (c0 :: r0).length = s.length) (hN : ¬ 0 < nameF (c0 :: r0)) (hD0 : D10.contains c0 = false) (hq : ¬ (c0 = 34 ∨ c0 = 39)) (hS : signsB.contains c0 = true) (h : CHeap) (S : St n0 E0 p s (a : Int) (.nils) [] 0 to h) (K : CVal → CHeap → Prop)
    (hk : ∀ h' L', St n0 E0 p s ((a + 1 : Nat) : Int) L' ([] ++ [tokC 4 [c0] 0 a]) 0 to h' → h.next ≤ h'.next → K (.tup []) h') : Wc tree.getF 17 [.ptr p d 0] h K := by
 have hg := S.g
 have hf := S.f
 have hp := S.lt
 have hn0 := S.n
 have hll : r0.length + 1 ≤ s.length := by simp at hlen; omega
 have htk : s.take s.length = s := List.take_length
 have htr : (c0 :: r0).take (r0.length + 1) = c0 :: r0 := List.take_of_length_le (by simp)
 have h00 : (c0 :: r0)[0]? = some c0 := rfl
 obtain ⟨nn, hnn⟩ : ∃ nn, nameF (c0 :: r0) = nn := ⟨_, rfl⟩
 have hnl := nameF_le (c0 :: r0)
 have N0 := name_F (c0 :: r0) (by simp at hlen ⊢; omega)
 rw [hnn] at N0 hnl
 rw [hnn] at hN
 obtain ⟨hu, hut, hX⟩ := fx4 hf; have ⟨hD, hC, hN, hT⟩ := hX
 have hY := fx5 hf hg
 push_cast at hk
 obtain rfl : nn = 0 := by omega
 have hc1 : ¬ ((c0.toNat : Int) = 34) := fun e => hq (.inl (UInt8.toNat_inj.1 (by
  have h9 : c0.toNat = 34 := by omega
  rw [h9]; rfl)))
 have hc2 : ¬ ((c0.toNat : Int) = 39) := fun e => hq (.inr (UInt8.toNat_inj.1 (by
  have h9 : c0.toNat = 39 := by omega
  rw [h9]; rfl)))
 refine Wc.mkG 17 c17 (by kernel_rfl) rfl ?_
 generalize e : zAa _ _ _ = r
 simp (disch := omega) [hX, hg, hY, htk, hda, htr, h00, zAd, hc1, hc2, c17] at e
 subst e
 repeat (first | refine sq_ ?_ | refine bl_ ?_ | ((first | refine rg_ ?_ | refine go_ ?_); generalize e : goR _ _ _ _ _ _ _ _ = r; simp (disch := omega) [hX, hg, hY, htk, hda, htr, h00, zAd, hc1, hc2, c17] at e; replace e : some _ = _ := e; subst e; (try dsimp only [goW])) | refine ct_ rfl ?_ | refine cf_ rfl ?_ | refine sk_ ?_ | refine ex_ ?_ | (refine N0 _ ?_ _ fun n1 tyn1 hn1 hun1 => ⟨rfl, ?_⟩; exact fit_; (try dsimp only at hn1)) | (refine (contains_D c0 _ hD0) _ ?_ _ fun n2 tyn2 hn2 hun2 => ⟨rfl, ?_⟩; exact fit_; (try dsimp only at hn2)) | (refine (contains_S c0 _ hS) _ ?_ _ fun n3 tyn3 hn3 hun3 => ⟨rfl, ?_⟩; exact fit_; (try dsimp only at hn3)) | ((first | (refine W.ret ?_; (try simp only [zAl, zA3, zAf]); refine endW.of (.inl rfl) rfl ?_) | refine endW.of (.inr rfl) rfl ?_); generalize e : zAo _ _ _ = r; simp (disch := omega) [hX, hg, hY, htk, hda, htr, h00, zAd, hc1, hc2, c17] at e; subst e; (try dsimp only [goW]); (refine hk _ _ (S.app0 ?_ ?_ ?_) ?_; (try dsimp only); omega; (try dsimp only); omega; exact ut_; (try dsimp only); omega)))
theorem next_sign1 {n0 : Nat} {E0 : List (Nat × CObj)} (p d : Nat) (s r0 : List UInt8) (c0 : UInt8) (a : Nat) (ts : List CVal) (hts : ts.length ≤ 50000) (to : Int) (hs : s.length < 50000) (hda : s.drop a = c0 :: r0) (hlen : a + (c0 :: r0).length = s.length) (hN : ¬ 0 < nameF (c0 :: r0)) (hD0 : D10.contains c0 = false) (hq : ¬ (c0 = 34 ∨ c0 = 39)) (hS : signsB.contains c0 = true) (h : CHeap) (i v : Nat) (ht : zA2 h.ents i = some (.tok v)) (hip : i ≠ p) (hi0 : n0 ≤ i) (hin : i < h.next) (S : St n0 E0 p s (a : Int) (.imm (.own i v) 4 ts) ts 0 to h) (K : CVal → CHeap → Prop)
    (hk : ∀ h' L', St n0 E0 p s ((a + 1 : Nat) : Int) L' (ts ++ [tokC 4 [c0] 0 a]) 0 to h' → h.next ≤ h'.next → K (.tup []) h') : Wc tree.getF 17 [.ptr p d 0] h K := by
 have hg := S.g
 have hf := S.f
 have hp := S.lt
 have hn0 := S.n
 have hll : r0.length + 1 ≤ s.length := by simp at hlen; omega
 have htk : s.take s.length = s := List.take_length
 have htr : (c0 :: r0).take (r0.length + 1) = c0 :: r0 := List.take_of_length_le (by simp)
 have h00 : (c0 :: r0)[0]? = some c0 := rfl
 obtain ⟨nn, hnn⟩ : ∃ nn, nameF (c0 :: r0) = nn := ⟨_, rfl⟩
 have hnl := nameF_le (c0 :: r0)
 have N0 := name_F (c0 :: r0) (by simp at hlen ⊢; omega)
 rw [hnn] at N0 hnl
 rw [hnn] at hN
 obtain ⟨hu, hut, hX⟩ := fx4 hf; have ⟨hD, hC, hN, hT⟩ := hX
 have hY := fx5 hf hg
 have htP : ∀ x, zA2 (zA0 h.ents p x) i = some (.tok v) := fun x => (zA1 hip).trans ht
 have hPt : ∀ x y, zA2 (zA0 (zA0 h.ents i x) p y) p = some y := fun x y => zA7 ((zA1 (Ne.symm hip)).trans hg)
 have hTT : ∀ x y, zA2 (zA0 (zA0 h.ents i x) p y) i = some x := fun x y => (zA1 hip).trans (zA7 ht)
 have hiP : ∀ x, zA2 (zA0 h.ents i x) p = _ := fun x => (zA1 (Ne.symm hip)).trans hg
 have hcomm : ∀ x y, zA0 (zA0 h.ents p y) i x = zA0 (zA0 h.ents i x) p y := fun x y => zAw (Ne.symm hip)
 have hC3 : ∀ x y m, h.next ≤ m → zAc (zA0 (zA0 h.ents i x) p y) m = zA0 (zA0 h.ents i x) p y := fun x y m hm => zAh (hu.set.set.le hm)
 have hD3 : ∀ x y m, h.next ≤ m → zAx (zA0 (zA0 h.ents i x) p y) m = zA0 (zA0 h.ents i x) p y := fun x y m hm => zAr (hu.set.set.le hm)
 push_cast at hk
 obtain rfl : nn = 0 := by omega
 have hc1 : ¬ ((c0.toNat : Int) = 34) := fun e => hq (.inl (UInt8.toNat_inj.1 (by
  have h9 : c0.toNat = 34 := by omega
  rw [h9]; rfl)))
 have hc2 : ¬ ((c0.toNat : Int) = 39) := fun e => hq (.inr (UInt8.toNat_inj.1 (by
  have h9 : c0.toNat = 39 := by omega
  rw [h9]; rfl)))
 refine Wc.mkG 17 c17 (by kernel_rfl) rfl ?_
 generalize e : zAa _ _ _ = r
 simp (disch := omega) [hX, hg, hY, ht, htP, hPt, hTT, hiP, hcomm, hC3, hD3, htk, hda, htr, h00, zAd, hc1, hc2, c17] at e
 subst e
 repeat (first | refine sq_ ?_ | refine bl_ ?_ | ((first | refine rg_ ?_ | refine go_ ?_); generalize e : goR _ _ _ _ _ _ _ _ = r; simp (disch := omega) [hX, hg, hY, ht, htP, hPt, hTT, hiP, hcomm, hC3, hD3, htk, hda, htr, h00, zAd, hc1, hc2, c17] at e; replace e : some _ = _ := e; subst e; (try dsimp only [goW])) | refine ct_ rfl ?_ | refine cf_ rfl ?_ | refine sk_ ?_ | refine ex_ ?_ | (refine N0 _ ?_ _ fun n1 tyn1 hn1 hun1 => ⟨rfl, ?_⟩; exact fit_; (try dsimp only at hn1)) | (refine (contains_D c0 _ hD0) _ ?_ _ fun n2 tyn2 hn2 hun2 => ⟨rfl, ?_⟩; exact fit_; (try dsimp only at hn2)) | (refine (contains_S c0 _ hS) _ ?_ _ fun n3 tyn3 hn3 hun3 => ⟨rfl, ?_⟩; exact fit_; (try dsimp only at hn3)) | ((first | (refine W.ret ?_; (try simp only [zAl, zA3, zAf]); refine endW.of (.inl rfl) rfl ?_) | refine endW.of (.inr rfl) rfl ?_); generalize e : zAo _ _ _ = r; simp (disch := omega) [hX, hg, hY, ht, htP, hPt, hTT, hiP, hcomm, hC3, hD3, htk, hda, htr, h00, zAd, hc1, hc2, c17] at e; subst e; (try dsimp only [goW]); (refine hk _ _ (S.app1 ht hip hi0 hin ?_ ?_) ?_; (try dsimp only); omega; exact ut_; (try dsimp only); omega)))
theorem next_bad {n0 : Nat} {E0 : List (Nat × CObj)} (p d : Nat) (s r0 : List UInt8) (c0 : UInt8) (a : Nat) (ts : List CVal) (hts : ts.length ≤ 50000) (to : Int) (hs : s.length < 50000) (hda : s.drop a = c0 :: r0) (hlen : a + (c0 :: r0).length = s.length) (hN : ¬ 0 < nameF (c0 :: r0)) (hD0 : D10.contains c0 = false) (hq : ¬ (c0 = 34 ∨ c0 = 39)) (hS : signsB.contains c0 = false) (L : CVal) (h : CHeap) (S : St n0 E0 p s (a : Int) L ts 0 to h) (K : CVal → CHeap → Prop)
    (hk : ∀ h' at' L' ts', St n0 E0 p s at' L' ts' 2 (a : Int) h' → h.next ≤ h'.next → K (.tup []) h') : Wc tree.getF 17 [.ptr p d 0] h K := by
 have hL := S.whole
 have hg := S.g
 have hf := S.f
 have hp := S.lt
 have hn0 := S.n
 have hll : r0.length + 1 ≤ s.length := by simp at hlen; omega
 have htk : s.take s.length = s := List.take_length
 have htr : (c0 :: r0).take (r0.length + 1) = c0 :: r0 := List.take_of_length_le (by simp)
 have h00 : (c0 :: r0)[0]? = some c0 := rfl
 obtain ⟨nn, hnn⟩ : ∃ nn, nameF (c0 :: r0) = nn := ⟨_, rfl⟩
 have hnl := nameF_le (c0 :: r0)
 have N0 := name_F (c0 :: r0) (by simp at hlen ⊢; omega)
 rw [hnn] at N0 hnl
 obtain ⟨hu, hut, hX⟩ := fx4 hf; have ⟨hD, hC, hN, hT⟩ := hX
 have hY := fx5 hf hg
 obtain rfl : nn = 0 := by omega
 have hc1 : ¬ ((c0.toNat : Int) = 34) := fun e => hq (.inl (UInt8.toNat_inj.1 (by
  have h9 : c0.toNat = 34 := by omega
  rw [h9]; rfl)))
 have hc2 : ¬ ((c0.toNat : Int) = 39) := fun e => hq (.inr (UInt8.toNat_inj.1 (by
  have h9 : c0.toNat = 39 := by omega
  rw [h9]; rfl)))
 refine Wc.mkG 17 c17 (by kernel_rfl) rfl ?_
 generalize e : zAa _ _ _ = r
 simp (disch := omega) [hX, hg, hY, htk, hda, htr, h00, hc1, hc2, hL, c17] at e
 subst e
 repeat (first | refine sq_ ?_ | refine bl_ ?_ | ((first | refine rg_ ?_ | refine go_ ?_); generalize e : goR _ _ _ _ _ _ _ _ = r; simp (disch := omega) [hX, hg, hY, htk, hda, htr, h00, hc1, hc2, hL, c33, c17] at e; replace e : some _ = _ := e; subst e; (try dsimp only [goW])) | refine ct_ rfl ?_ | refine cf_ rfl ?_ | refine sk_ ?_ | refine ex_ ?_ | (refine N0 _ ?_ _ fun n1 tyn1 hn1 hun1 => ⟨rfl, ?_⟩; exact fit_; (try dsimp only at hn1)) | (refine (contains_D c0 _ hD0) _ ?_ _ fun n2 tyn2 hn2 hun2 => ⟨rfl, ?_⟩; exact fit_; (try dsimp only at hn2)) | (refine (contains_S c0 _ hS) _ ?_ _ fun n3 tyn3 hn3 hun3 => ⟨rfl, ?_⟩; exact fit_; (try dsimp only at hn3)) | (refine Wc.mkG 33 c33 (by kernel_rfl) rfl ?_; generalize e : zAa _ _ _ = r; simp (disch := omega) [hX, hg, hY, htk, hda, htr, h00, hc1, hc2, hL, c33, c17] at e; subst e) | ((first | (refine W.ret ?_; (try simp only [zAl, zA3, zAf]); refine endW.of (.inl rfl) rfl ?_) | refine endW.of (.inr rfl) rfl ?_); generalize e : zAo _ _ _ = r; simp (disch := omega) [hX, hg, hY, htk, hda, htr, h00, hc1, hc2, hL, c33, c17] at e; subst e; (try dsimp only [goW]); (first | refine ⟨rfl, ?_⟩ | (refine hk _ _ _ _ (S.upd ?_ ?_) ?_; (try dsimp only); omega; exact ut_; (try dsimp only); omega))))
theorem next_num {n0 : Nat} {E0 : List (Nat × CObj)} (p d : Nat) (s r0 : List UInt8) (c0 : UInt8) (a : Nat) (ts : List CVal) (hts : ts.length ≤ 50000) (to : Int) (hs : s.length < 50000) (hda : s.drop a = c0 :: r0) (hlen : a + (c0 :: r0).length = s.length) (hN : ¬ 0 < nameF (c0 :: r0)) (hD0 : D10.contains c0 = true) (L : CVal) (h : CHeap) (S : St n0 E0 p s (a : Int) L ts 0 to h) (K : CVal → CHeap → Prop)
    (hk1 : ∀ v len, numW (c0 :: r0) = .tok 2 [] v len → ∀ h' L', St n0 E0 p s ((a + len : Nat) : Int) L' (ts ++ [tokC 2 [] v a]) 0 to h' → h.next ≤ h'.next → K (.tup []) h')
    (hk2 : ∀ e, numW (c0 :: r0) = .err e → ∀ h' at' L' ts', St n0 E0 p s at' L' ts' (e : Int) (a : Int) h' → h.next ≤ h'.next → K (.tup []) h') : Wc tree.getF 17 [.ptr p d 0] h K := by
 have hL := S.whole
 have hg := S.g
 have hf := S.f
 have hp := S.lt
 have hn0 := S.n
 have hll : r0.length + 1 ≤ s.length := by simp at hlen; omega
 have htk : s.take s.length = s := List.take_length
 have htr : (c0 :: r0).take (r0.length + 1) = c0 :: r0 := List.take_of_length_le (by simp)
 have h00 : (c0 :: r0)[0]? = some c0 := rfl
 obtain ⟨nn, hnn⟩ : ∃ nn, nameF (c0 :: r0) = nn := ⟨_, rfl⟩
 have hnl := nameF_le (c0 :: r0)
 have N0 := name_F (c0 :: r0) (by simp at hlen ⊢; omega)
 rw [hnn] at N0 hnl
 obtain ⟨hu, hut, hX⟩ := fx4 hf; have ⟨hD, hC, hN, hT⟩ := hX
 have hY := fx5 hf hg
 obtain rfl : nn = 0 := by omega
 refine Wc.mkG 17 c17 (by kernel_rfl) rfl ?_
 generalize e : zAa _ _ _ = r
 simp (disch := omega) [hX, hg, hY, htk, hda, htr, h00, c17] at e
 subst e
 repeat (first | refine sq_ ?_ | refine bl_ ?_ | ((first | refine rg_ ?_ | refine go_ ?_); generalize e : goR _ _ _ _ _ _ _ _ = r; simp (disch := omega) [hX, hg, hY, htk, hda, htr, h00, hL, c17] at e; replace e : some _ = _ := e; subst e; (try dsimp only [goW])) | refine ct_ rfl ?_ | refine cf_ rfl ?_ | refine sk_ ?_ | refine ex_ ?_ | (refine N0 _ ?_ _ fun n1 tyn1 hn1 hun1 => ⟨rfl, ?_⟩; exact fit_; (try dsimp only at hn1)) | (refine (contains_D c0 _ hD0) _ ?_ _ fun n2 tyn2 hn2 hun2 => ⟨rfl, ?_⟩; exact fit_; (try dsimp only at hn2)))
 refine number_F p d s r0 c0 a L ts (by omega) to (by omega) hda hlen hD0 _ (S.mv ?_ ?_) _ (fun v len e h' L' S' g => ⟨rfl, ?_⟩) (fun e he h' at' L' ts' S' g => ⟨rfl, ?_⟩)
 · (try dsimp only); omega
 · exact ut_
 · (try dsimp only at g)
   repeat (first | refine sq_ ?_ | refine bl_ ?_ | ((first | refine rg_ ?_ | refine go_ ?_); generalize e : goR _ _ _ _ _ _ _ _ = r; simp (disch := omega) [hX, hg, hY, htk, hda, htr, h00, c17] at e; replace e : some _ = _ := e; subst e; (try dsimp only [goW])) | refine ct_ rfl ?_ | refine cf_ rfl ?_ | refine sk_ ?_ | refine ex_ ?_ | ((first | (refine W.ret ?_; (try simp only [zAl, zA3, zAf]); refine endW.of (.inl rfl) rfl ?_) | refine endW.of (.inr rfl) rfl ?_); generalize e : zAo _ _ _ = r; simp (disch := omega) [hX, hg, hY, htk, hda, htr, h00, c17] at e; subst e; (try dsimp only [goW]); (refine hk1 v len e _ L' (S'.drop (by (try dsimp only); omega) (by (try dsimp only); omega)) ?_; (try dsimp only); omega)))
 · (try dsimp only at g)
   repeat (first | refine sq_ ?_ | refine bl_ ?_ | ((first | refine rg_ ?_ | refine go_ ?_); generalize e : goR _ _ _ _ _ _ _ _ = r; simp (disch := omega) [hX, hg, hY, htk, hda, htr, h00, c17] at e; replace e : some _ = _ := e; subst e; (try dsimp only [goW])) | refine ct_ rfl ?_ | refine cf_ rfl ?_ | refine sk_ ?_ | refine ex_ ?_ | ((first | (refine W.ret ?_; (try simp only [zAl, zA3, zAf]); refine endW.of (.inl rfl) rfl ?_) | refine endW.of (.inr rfl) rfl ?_); generalize e : zAo _ _ _ = r; simp (disch := omega) [hX, hg, hY, htk, hda, htr, h00, c17] at e; subst e; (try dsimp only [goW]); (refine hk2 e he _ at' L' ts' (S'.drop (by (try dsimp only); omega) (by (try dsimp only); omega)) ?_; (try dsimp only); omega)))
theorem next_text {n0 : Nat} {E0 : List (Nat × CObj)} (p d : Nat) (s r0 : List UInt8) (c0 : UInt8) (a : Nat) (ts : List CVal) (hts : ts.length ≤ 50000) (to : Int) (hs : s.length < 50000) (hda : s.drop a = c0 :: r0) (hlen : a + (c0 :: r0).length = s.length) (hN : ¬ 0 < nameF (c0 :: r0)) (hD0 : D10.contains c0 = false) (hq : c0 = 34 ∨ c0 = 39) (L : CVal) (h : CHeap) (S : St n0 E0 p s (a : Int) L ts 0 to h) (K : CVal → CHeap → Prop)
    (hk1 : ∀ txt kk, textF c0 r0 [] 0 = some (txt, kk) → validF txt = true → ∀ h' L', St n0 E0 p s ((a + (kk + 1) : Nat) : Int) L' (ts ++ [tokC 3 txt 0 a]) 0 to h' → h.next ≤ h'.next → K (.tup []) h')
    (hk2 : (textF c0 r0 [] 0 = none ∨ ∃ txt kk, textF c0 r0 [] 0 = some (txt, kk) ∧ validF txt = false) → ∀ h' at' L' ts', St n0 E0 p s at' L' ts' 2 (a : Int) h' → h.next ≤ h'.next → K (.tup []) h') : Wc tree.getF 17 [.ptr p d 0] h K := by
 have hL := S.whole
 have hg := S.g
 have hf := S.f
 have hp := S.lt
 have hn0 := S.n
 have hll : r0.length + 1 ≤ s.length := by simp at hlen; omega
 have htk : s.take s.length = s := List.take_length
 have htr : (c0 :: r0).take (r0.length + 1) = c0 :: r0 := List.take_of_length_le (by simp)
 have h00 : (c0 :: r0)[0]? = some c0 := rfl
 obtain ⟨nn, hnn⟩ : ∃ nn, nameF (c0 :: r0) = nn := ⟨_, rfl⟩
 have hnl := nameF_le (c0 :: r0)
 have N0 := name_F (c0 :: r0) (by simp at hlen ⊢; omega)
 rw [hnn] at N0 hnl
 obtain ⟨hu, hut, hX⟩ := fx4 hf; have ⟨hD, hC, hN, hT⟩ := hX
 have hY := fx5 hf hg
 obtain rfl : nn = 0 := by omega
 rcases hq with rfl | rfl
 ·
  refine Wc.mkG 17 c17 (by kernel_rfl) rfl ?_
  generalize e : zAa _ _ _ = r
  simp (disch := omega) [hX, hg, hY, htk, hda, htr, h00, c17] at e
  subst e
  repeat (first | refine sq_ ?_ | refine bl_ ?_ | ((first | refine rg_ ?_ | refine go_ ?_); generalize e : goR _ _ _ _ _ _ _ _ = r; simp (disch := omega) [hX, hg, hY, htk, hda, htr, h00, hL, c17] at e; replace e : some _ = _ := e; subst e; (try dsimp only [goW])) | refine ct_ rfl ?_ | refine cf_ rfl ?_ | refine sk_ ?_ | refine ex_ ?_ | (refine N0 _ ?_ _ fun n1 tyn1 hn1 hun1 => ⟨rfl, ?_⟩; exact fit_; (try dsimp only at hn1)) | (refine (contains_D 34 _ hD0) _ ?_ _ fun n2 tyn2 hn2 hun2 => ⟨rfl, ?_⟩; exact fit_; (try dsimp only at hn2)))
  refine text_F validF (fun t ht => valid_F t ht) p d s 34 r0 a L ts (by omega) to (by omega) hda hlen _ (S.mv ?_ ?_) _ (fun txt kk e1 e2 h' L' S' g => ⟨rfl, ?_⟩) (fun he h' at' L' ts' S' g => ⟨rfl, ?_⟩)
  · (try dsimp only); omega
  · exact ut_
  · (try dsimp only at g)
    exact wUS1
  · (try dsimp only at g)
    exact wUS2
 ·
  refine Wc.mkG 17 c17 (by kernel_rfl) rfl ?_
  generalize e : zAa _ _ _ = r
  simp (disch := omega) [hX, hg, hY, htk, hda, htr, h00, c17] at e
  subst e
  repeat (first | refine sq_ ?_ | refine bl_ ?_ | ((first | refine rg_ ?_ | refine go_ ?_); generalize e : goR _ _ _ _ _ _ _ _ = r; simp (disch := omega) [hX, hg, hY, htk, hda, htr, h00, hL, c17] at e; replace e : some _ = _ := e; subst e; (try dsimp only [goW])) | refine ct_ rfl ?_ | refine cf_ rfl ?_ | refine sk_ ?_ | refine ex_ ?_ | (refine N0 _ ?_ _ fun n1 tyn1 hn1 hun1 => ⟨rfl, ?_⟩; exact fit_; (try dsimp only at hn1)) | (refine (contains_D 39 _ hD0) _ ?_ _ fun n2 tyn2 hn2 hun2 => ⟨rfl, ?_⟩; exact fit_; (try dsimp only at hn2)))
  refine text_F validF (fun t ht => valid_F t ht) p d s 39 r0 a L ts (by omega) to (by omega) hda hlen _ (S.mv ?_ ?_) _ (fun txt kk e1 e2 h' L' S' g => ⟨rfl, ?_⟩) (fun he h' at' L' ts' S' g => ⟨rfl, ?_⟩)
  · (try dsimp only); omega
  · exact ut_
  · (try dsimp only at g)
    exact wUS1
  · (try dsimp only at g)
    exact wUS2
theorem next_F {n0 : Nat} {E0 : List (Nat × CObj)} (p d : Nat) (s r0 : List UInt8) (c0 : UInt8) (a : Nat) (ts : List CVal) (hts : ts.length ≤ 50000) (to : Int) (hs : s.length < 50000) (hda : s.drop a = c0 :: r0) (hlen : a + (c0 :: r0).length = s.length) (L : CVal) (h : CHeap) (S : St n0 E0 p s (a : Int) L ts 0 to h) (K : CVal → CHeap → Prop)
    (hk1 : ∀ k t n len, wordW validF (c0 :: r0) = .tok k t n len → ∀ h' L', St n0 E0 p s ((a + len : Nat) : Int) L' (ts ++ [tokC k t n a]) 0 to h' → h.next ≤ h'.next → K (.tup []) h') (hk2 : ∀ e, wordW validF (c0 :: r0) = .err e → ∀ h' at' L' ts', St n0 E0 p s at' L' ts' (e : Int) (a : Int) h' → h.next ≤ h'.next → K (.tup []) h') : Wc tree.getF 17 [.ptr p d 0] h K := by
 have hSL := S.l
 by_cases hN : 0 < nameF (c0 :: r0)
 · have hw : wordW validF (c0 :: r0) = .tok 1 ((c0 :: r0).take (nameF (c0 :: r0))) 0 (nameF (c0 :: r0)) := by unfold wordW; dsimp only; rw [if_pos hN]
   rcases hSL with ⟨rfl, rfl⟩ | ⟨i, v, rfl, ht, hip, hi0, hin⟩
   · exact next_name0 p d s r0 c0 a [] (by simp) to hs hda hlen hN h S K (hk1 _ _ _ _ hw)
   · exact next_name1 p d s r0 c0 a ts hts to hs hda hlen hN h i v ht hip hi0 hin S K (hk1 _ _ _ _ hw)
 · cases hD0 : D10.contains c0 with
   | true =>
    have hw : wordW validF (c0 :: r0) = numW (c0 :: r0) := by unfold wordW; dsimp only; rw [if_neg hN, if_pos hD0]
    exact next_num p d s r0 c0 a ts hts to hs hda hlen hN hD0 L h S K (fun v len e => hk1 _ _ _ _ (hw.trans e)) (fun e he => hk2 e (hw.trans he))
   | false =>
    have hD1 : ¬ D10.contains c0 = true := by rw [hD0]; simp
    by_cases hq : c0 = 34 ∨ c0 = 39
    · refine next_text p d s r0 c0 a ts hts to hs hda hlen hN hD0 hq L h S K (fun txt kk e1 e2 => hk1 3 txt 0 (kk + 1) ?_) (fun he => hk2 2 ?_)
      · unfold wordW; dsimp only; rw [if_neg hN, if_neg hD1, if_pos hq, e1]; dsimp only; rw [if_pos e2]
      · unfold wordW; dsimp only; rw [if_neg hN, if_neg hD1, if_pos hq]
        rcases he with e1 | ⟨txt, kk, e1, e2⟩
        · rw [e1]
        · rw [e1]; dsimp only; rw [if_neg (by rw [e2]; simp)]
    · cases hS : signsB.contains c0 with
      | true =>
       have hw : wordW validF (c0 :: r0) = .tok 4 [c0] 0 1 := by unfold wordW; dsimp only; rw [if_neg hN, if_neg hD1, if_neg hq, if_pos hS]
       rcases hSL with ⟨rfl, rfl⟩ | ⟨i, v, rfl, ht, hip, hi0, hin⟩
       · exact next_sign0 p d s r0 c0 a [] (by simp) to hs hda hlen hN hD0 hq hS h S K (hk1 _ _ _ _ hw)
       · exact next_sign1 p d s r0 c0 a ts hts to hs hda hlen hN hD0 hq hS h i v ht hip hi0 hin S K (hk1 _ _ _ _ hw)
      | false =>
       have hw : wordW validF (c0 :: r0) = .err 2 := by unfold wordW; dsimp only; rw [if_neg hN, if_neg hD1, if_neg hq, if_neg (by rw [hS]; simp)]
       exact next_bad p d s r0 c0 a ts hts to hs hda hlen hN hD0 hq hS L h S K (hk2 2 hw)
abbrev Tok : Type := Nat × List UInt8 × Nat × Nat
abbrev tokV (t : Tok) : CVal := tokC t.1 t.2.1 t.2.2.1 t.2.2.2
def lexW (total : Nat) : Nat → List UInt8 → Except (Nat × Nat) (List Tok)
 | _, [] => .ok []
 | 0, _ :: _ => .error (2, 0)
 | m + 1, c :: u => match wordW validF (c :: u) with
  | .err e => .error (e, total - (c :: u).length)
  | .tok k t n len => match skipF ((c :: u).drop len) with
   | (w, false) => .error (2, total - w.length)
   | (w, true) => match lexW total m w with
    | .error x => .error x
    | .ok l => .ok ((k, t, n, total - (c :: u).length) :: l)
def lexF (s : List UInt8) : Except (Nat × Nat) (List Tok) := if 3000 < s.length then .error (3, 0) else match skipF s with
 | (w, false) => .error (2, s.length - w.length)
 | (w, true) => match lexW s.length (s.length + 1) w with
  | .error x => .error x
  | .ok l => .ok (l ++ [(5, [], 0, s.length)])
theorem numF_len {c : UInt8} {r : List UInt8} {B n : Nat} {ds : List UInt8} (hc : D10.contains c = true) (h : numF (c :: r) = (B, n, ds)) : 1 ≤ n + ds.length ∧ n + ds.length ≤ (c :: r).length := by
 unfold numF at h
 split at h
 · rename_i hP
   cases h
   have := fr_len hexesB ((c :: r).drop 2)
   rw [List.length_drop] at this
   have h2 := hP.2
   omega
 · split at h
   · rename_i h48
     cases h
     simp at h48
     have := fr_len D8 (c :: r)
     have h2 : fr D8 (c :: r) = c :: fr D8 r := by unfold fr; rw [List.takeWhile_cons, if_pos (by rw [h48]; decide)]
     rw [h2] at this ⊢
     simp only [List.length_cons] at this ⊢
     omega
   · cases h
     have := fr_len D10 (c :: r)
     have h2 : fr D10 (c :: r) = c :: fr D10 r := by unfold fr; rw [List.takeWhile_cons, if_pos hc]
     rw [h2] at this ⊢
     simp only [List.length_cons] at this ⊢
     omega
theorem numW_tok {c : UInt8} {r : List UInt8} {k n len : Nat} {t : List UInt8} (hc : D10.contains c = true) (h : numW (c :: r) = .tok k t n len) : 1 ≤ len ∧ len ≤ (c :: r).length ∧ k = 2 ∧ t = [] := by
 unfold numW at h
 cases hF : numF (c :: r) with
 | mk B q =>
  obtain ⟨m, ds⟩ := q
  have hl := numF_len hc hF
  rw [hF] at h
  dsimp only at h
  split at h
  · cases h
  · split at h
    · cases h; exact ⟨hl.1, hl.2, rfl, rfl⟩
    · split at h
      · cases h
      · cases h; exact ⟨hl.1, hl.2, rfl, rfl⟩
theorem numW_err {s : List UInt8} {e : Nat} (h : numW s = .err e) : e = 2 ∨ e = 3 := by
 unfold numW at h
 cases hF : numF s with
 | mk B q =>
  obtain ⟨m, ds⟩ := q
  rw [hF] at h
  dsimp only at h
  split at h
  · cases h; exact .inr rfl
  · split at h
    · cases h
    · split at h
      · cases h; exact .inl rfl
      · cases h
theorem textF_len {q : UInt8} : ∀ (m : Nat) (r acc : List UInt8) (k : Nat) (t : List UInt8) (kk : Nat), r.length ≤ m → textF q r acc k = some (t, kk) → kk ≤ k + r.length
 | _, [], acc, k, t, kk, _, h => by simp [textF] at h
 | 0, c :: r, acc, k, t, kk, hm, h => by simp at hm
 | m + 1, c :: r, acc, k, t, kk, hm, h => by
  simp only [List.length_cons] at hm ⊢
  unfold textF at h
  split at h
  · cases h; omega
  · split at h
    · cases h
    · split at h
      · cases r with
        | nil => cases h
        | cons x u =>
         dsimp only at h
         simp only [List.length_cons] at hm ⊢
         split at h
         · cases h
         · have := textF_len m u _ _ _ _ (by omega) h; omega
      · have := textF_len m r _ _ _ _ (by omega) h; omega
theorem wordW_tok {c : UInt8} {r : List UInt8} {k n len : Nat} {t : List UInt8} (h : wordW validF (c :: r) = .tok k t n len) : 1 ≤ len ∧ len ≤ (c :: r).length := by
 unfold wordW at h
 dsimp only at h
 split at h
 · cases h; exact ⟨by omega, nameF_le _⟩
 · split at h
   · have := numW_tok (by assumption) h; exact ⟨this.1, this.2.1⟩
   · split at h
     · cases ht : textF c r [] 0 with
       | none => rw [ht] at h; cases h
       | some x =>
        obtain ⟨tt, kk⟩ := x
        rw [ht] at h
        dsimp only at h
        split at h
        · cases h
          have := textF_len r.length r _ _ _ _ (Nat.le_refl _) ht
          simp only [List.length_cons]; omega
        · cases h
     · split at h
       · cases h; simp
       · cases h
theorem wordW_err {c : UInt8} {r : List UInt8} {e : Nat} (h : wordW validF (c :: r) = .err e) : e = 2 ∨ e = 3 := by
 unfold wordW at h
 dsimp only at h
 split at h
 · cases h
 · split at h
   · exact numW_err h
   · split at h
     · cases ht : textF c r [] 0 with
       | none => rw [ht] at h; cases h; exact .inl rfl
       | some x =>
        obtain ⟨tt, kk⟩ := x
        rw [ht] at h
        dsimp only at h
        split at h
        · cases h
        · cases h; exact .inl rfl
     · split at h
       · cases h
       · cases h; exact .inl rfl
theorem skip_bk : ∀ (m : Nat) (r w : List UInt8) (b : Bool), r.length ≤ m → skipF r = (w, b) → ∃ x, r = x ++ w
 | _, [], w, b, _, h => by rw [skipF_nil] at h; cases h; exact ⟨[], rfl⟩
 | 0, c :: r, w, b, hm, h => by simp at hm
 | m + 1, c :: r, w, b, hm, h => by
  simp only [List.length_cons] at hm
  have back : ∀ (q y : List UInt8), c :: r = y ++ q → q.length ≤ m → skipF q = (w, b) → ∃ x, c :: r = x ++ w := by
   intro q y h1 h2 h4
   obtain ⟨x, hx⟩ := skip_bk m q w b h2 h4
   exact ⟨y ++ x, by rw [h1, hx, List.append_assoc]⟩
  rw [skipF_eq] at h
  split at h
  · exact back r [c] rfl (by omega) h
  · split at h
    · cases r with
      | nil => cases h; exact ⟨[], rfl⟩
      | cons d r' =>
       simp only [List.length_cons] at hm
       dsimp only at h
       split at h
       · have hl := dropLine_le r'
         refine back (zB5 r') (c :: d :: r'.take (r'.length - (zB5 r').length)) ?_ (by omega) h
         have := List.take_append_drop (r'.length - (zB5 r').length) r'
         rw [drop_line] at this
         simp only [List.cons_append, this]
       · split at h
         · cases hd : dropCmt r' with
           | none => rw [hd] at h; cases h; exact ⟨[], rfl⟩
           | some u =>
            rw [hd] at h
            have hl := dropCmt_lt hd
            have hi := idx_cmt r' 0
            rw [hd] at hi
            refine back u (c :: d :: r'.take (r'.length - u.length)) ?_ (by omega) h
            have := List.take_append_drop (r'.length - u.length) r'
            rw [hi.2] at this
            simp only [List.cons_append, this]
         · cases h; exact ⟨[], rfl⟩
    · cases h; exact ⟨[], rfl⟩
theorem skip_suffix (s : List UInt8) (a : Nat) (r w : List UInt8) (b : Bool) (hd : s.drop a = r) (hl : a + r.length = s.length) (h : skipF r = (w, b)) : s.drop (s.length - w.length) = w := by
 obtain ⟨x, hx⟩ := skip_bk _ r w b (Nat.le_refl _) h
 have h1 := List.take_append_drop a s
 rw [hd, hx, ← List.append_assoc] at h1
 have h2 : ∀ t y z : List UInt8, t = y ++ z → t.drop (t.length - z.length) = z := by intro t y z e; subst e; simp
 exact h2 _ _ _ h1.symm
abbrev lexLoop : CCode := (.loop true (.seq (.seq (.region [.v 2, .n 0, .f 3 0, .l 0, .g (.bin .eql (.loc 0) (.const (.int .i64 0))), .m (.loc 0), ⟨.mv (.var 2), (some (0, true))⟩, ⟨.nilck (.loc 0), (some (1, true))⟩, ⟨.fieldAddr 1 (.loc 0), (some (2, true))⟩, ⟨.load none (.loc 0), (some (3, true))⟩, ⟨.mv (.var 0), (some (4, true))⟩, ⟨.len true (.loc 0), (some (5, true))⟩, ⟨.bin .lss (.loc 2) (.loc 0), (some (6, true))⟩, .g (.pick (.loc 7) (.loc 0) (.const (.bool false)))] [(3, 13)] [] []) (.cond (.var 3) .skip (.exit 0))) (.block 1 (.seq (.region [.v 2, .g (.call false 17 [(.loc 0)])] [] [] []) (.seq (.region [.v 2, .n 0, .f 3 0, .l 0, .g (.bin .eql (.loc 0) (.const (.int .i64 0)))] [(4, 4)] [] []) (.cond (.var 4) (.region [.v 2, .g (.call false 16 [(.loc 0)])] [] [] []) .skip))))))
set_option maxHeartbeats 1000000 in
theorem lex_loop {n0 : Nat} {E0 : List (Nat × CObj)} (p d : Nat) (s : List UInt8) (hs : s.length ≤ 3000) (to : Int) (v1 v5 v6 v7 v8 : CVal) (Q : CExit → CSt → Prop) : ∀ (m : Nat) (u : List UInt8) (a : Nat), u.length ≤ m → s.drop a = u → a + u.length = s.length → ∀ (L : CVal) (ts : List CVal) (v3 v4 : CVal) (h : CHeap), ts.length ≤ a → St n0 E0 p s (a : Int) L ts 0 to h →
    (∀ l w3 w4 h' L' (at' : Int), lexW s.length m u = .ok l → St n0 E0 p s at' L' (ts ++ l.map tokV) 0 to h' → h.next ≤ h'.next → Q (.exit 0) ⟨[.str s, v1, .ptr p d 0, w3, w4, v5, v6, v7, v8], h', []⟩) →
    (∀ (e k : Nat) w3 w4 h' L' ts' (at' : Int), lexW s.length m u = .error (e, k) → 0 < e → St n0 E0 p s at' L' ts' (e : Int) (k : Int) h' → h.next ≤ h'.next → Q (.exit 0) ⟨[.str s, v1, .ptr p d 0, w3, w4, v5, v6, v7, v8], h', []⟩) →
    W tree.getF lexLoop ⟨[.str s, v1, .ptr p d 0, v3, v4, v5, v6, v7, v8], h, []⟩ Q := by
 intro m
 induction m with
 | zero =>
  intro u a hm hda hlen L ts v3 v4 h hta S hk1 hk2
  obtain rfl : u = [] := List.length_eq_zero_iff.1 (by omega)
  have hg := S.g
  have hae : s.length = a := by simpa using hlen.symm
  refine W.loop ?_
  repeat (first | refine sq_ ?_ | refine bl_ ?_ | ((first | refine rg_ ?_ | refine go_ ?_); generalize e : goR _ _ _ _ _ _ _ _ = r; simp (disch := omega) [hg, hae] at e; replace e : some _ = _ := e; subst e; (try dsimp only [goW])) | refine ct_ rfl ?_ | refine cf_ rfl ?_ | refine sk_ ?_ | refine ex_ ?_ | (refine hk1 [] _ _ _ L (a : Int) (by simp [lexW]) ?_ ?_; (focus ((rw [List.map_nil, List.append_nil]; exact S.mv (by omega) (zAb.le S.f.2 (by (try dsimp only); omega))); done)); (try dsimp only); omega))
 | succ m ih =>
  intro u a hm hda hlen L ts v3 v4 h hta S hk1 hk2
  have hg := S.g
  have hf := S.f
  have hp := S.lt
  have hn0 := S.n
  cases u with
  | nil =>
   have hae : s.length = a := by simpa using hlen.symm
   refine W.loop ?_
   repeat (first | refine sq_ ?_ | refine bl_ ?_ | ((first | refine rg_ ?_ | refine go_ ?_); generalize e : goR _ _ _ _ _ _ _ _ = r; simp (disch := omega) [hg, hae] at e; replace e : some _ = _ := e; subst e; (try dsimp only [goW])) | refine ct_ rfl ?_ | refine cf_ rfl ?_ | refine sk_ ?_ | refine ex_ ?_ | (refine hk1 [] _ _ _ L (a : Int) (by simp [lexW]) ?_ ?_; (focus ((rw [List.map_nil, List.append_nil]; exact S.mv (by omega) (zAb.le S.f.2 (by (try dsimp only); omega))); done)); (try dsimp only); omega))
  | cons c u =>
   have hlt : a < s.length := by simp at hlen; omega
   have hpos : s.length - (c :: u).length = a := by omega
   refine W.loop ?_
   repeat (first | refine sq_ ?_ | refine bl_ ?_ | ((first | refine rg_ ?_ | refine go_ ?_); generalize e : goR _ _ _ _ _ _ _ _ = r; simp (disch := omega) [hg, hlt] at e; replace e : some _ = _ := e; subst e; (try dsimp only [goW])) | refine ct_ rfl ?_ | refine cf_ rfl ?_ | refine sk_ ?_ | refine ex_ ?_)
   refine next_F p d s u c a ts (by omega) to (by omega) hda hlen L _ (S.mv ?_ ?_) _ (fun k t n len he h' L' S' g => ⟨rfl, ?_⟩) (fun e he h' at' L' ts' S' g => ⟨rfl, ?_⟩)
   · (try dsimp only); omega
   · exact zAb.le hf.2 (by (try dsimp only); omega)
   · try dsimp only at g
     have hw := wordW_tok he
     simp only [List.length_cons] at hlen hm hw
     have hg1 := S'.g
     have hdl : s.drop (a + len) = (c :: u).drop len := by rw [← hda, List.drop_drop]
     have hll : a + len + ((c :: u).drop len).length = s.length := by rw [List.length_drop]; simp; omega
     repeat (first | refine sq_ ?_ | refine bl_ ?_ | ((first | refine rg_ ?_ | refine go_ ?_); generalize e : goR _ _ _ _ _ _ _ _ = r; simp (disch := omega) [hg1] at e; replace e : some _ = _ := e; subst e; (try dsimp only [goW])) | refine ct_ rfl ?_ | refine cf_ rfl ?_ | refine sk_ ?_ | refine ex_ ?_)
     refine skip_F p d s _ (a + len) L' _ to (by omega) hdl hll _ (S'.mv ?_ ?_) _ (fun h2 hok S2 g2 => ⟨rfl, ?_⟩) (fun h2 hok S2 g2 => ⟨rfl, ?_⟩)
     · (try dsimp only); omega
     · exact zAb.le S'.f.2 (by (try dsimp only); omega)
     · try dsimp only at g2
       have hsl := skipF_le _ _ (Nat.le_refl ((c :: u).drop len).length)
       cases hsk : skipF ((c :: u).drop len) with
       | mk w b =>
        rw [hsk] at hok S2 hsl
        dsimp only at hok S2 hsl
        subst hok
        repeat (first | refine sq_ ?_ | refine bl_ ?_ | ((first | refine rg_ ?_ | refine go_ ?_); generalize e : goR _ _ _ _ _ _ _ _ = r; simp (disch := omega) [hg1] at e; replace e : some _ = _ := e; subst e; (try dsimp only [goW])) | refine ct_ rfl ?_ | refine cf_ rfl ?_ | refine sk_ ?_ | refine ex_ ?_)
        show W tree.getF lexLoop (dropped true _ _) Q
        generalize e : dropped _ _ _ = r9
        simp only [dropped, if_true] at e
        subst e
        have hwd : s.drop (s.length - w.length) = w := skip_suffix s (a + len) _ w true hdl hll hsk
        have hwl : w.length ≤ (c :: u).length - len := by rw [List.length_drop] at hsl; exact hsl
        simp only [List.length_cons] at hwl
        refine ih w (s.length - w.length) (by omega) hwd (by omega) L' _ _ _ _ (by rw [List.length_append]; simp; omega) (S2.drop (by (try dsimp only); omega) (by (try dsimp only); omega)) ?_ ?_
        · intro l w3 w4 h' L2 at' e1 e2 e3
          refine hk1 _ w3 w4 h' L2 at' (by simp only [lexW, he, hsk, e1]; rfl) ?_ (by (try dsimp only at e3); omega)
          rw [hpos]
          simpa [List.append_assoc] using e2
        · intro e k2 w3 w4 h' L2 ts2 at' e1 e2 e3 e4
          exact hk2 e k2 w3 w4 h' L2 ts2 at' (by simp only [lexW, he, hsk, e1]) e2 e3 (by (try dsimp only at e4); omega)
     · try dsimp only at g2
       cases hsk : skipF ((c :: u).drop len) with
       | mk w b =>
        rw [hsk] at hok S2
        dsimp only at hok S2
        subst hok
        have hg2 := S2.g
        repeat (first | refine sq_ ?_ | refine bl_ ?_ | ((first | refine rg_ ?_ | refine go_ ?_); generalize e : goR _ _ _ _ _ _ _ _ = r; simp (disch := omega) [hg2] at e; replace e : some _ = _ := e; subst e; (try dsimp only [goW])) | refine ct_ rfl ?_ | refine cf_ rfl ?_ | refine sk_ ?_ | refine ex_ ?_)
        show W tree.getF lexLoop (dropped true _ _) Q
        generalize e9 : dropped _ _ _ = r9
        simp only [dropped, if_true] at e9
        subst e9
        have S9 := S2.drop (n := h.next) (by omega) (by omega)
        have hg9 := S9.g
        refine W.loop ?_
        repeat (first | refine sq_ ?_ | refine bl_ ?_ | ((first | refine rg_ ?_ | refine go_ ?_); generalize e : goR _ _ _ _ _ _ _ _ = r; simp (disch := omega) [hg9] at e; replace e : some _ = _ := e; subst e; (try dsimp only [goW])) | refine ct_ rfl ?_ | refine cf_ rfl ?_ | refine sk_ ?_ | refine ex_ ?_ | (refine hk2 2 (s.length - w.length) _ _ _ L' _ _ (by simp only [lexW, he, hsk]) (by decide) (S9.mv (by (try dsimp only); omega) (zAb.le S9.f.2 (by (try dsimp only); omega))) ?_; (try dsimp only); omega))
   · try dsimp only at g
     have hw := wordW_err he
     have hg1 := S'.g
     have he0 : ¬ ((e : Int) = 0) := by omega
     repeat (first | refine sq_ ?_ | refine bl_ ?_ | ((first | refine rg_ ?_ | refine go_ ?_); generalize e : goR _ _ _ _ _ _ _ _ = r; simp (disch := omega) [hg1, he0] at e; replace e : some _ = _ := e; subst e; (try dsimp only [goW])) | refine ct_ rfl ?_ | refine cf_ rfl ?_ | refine sk_ ?_ | refine ex_ ?_)
     show W tree.getF lexLoop (dropped true _ _) Q
     generalize e9 : dropped _ _ _ = r9
     simp only [dropped, if_true] at e9
     subst e9
     have S9 := S'.drop (n := h.next) (by omega) (by omega)
     have hg9 := S9.g
     refine W.loop ?_
     repeat (first | refine sq_ ?_ | refine bl_ ?_ | ((first | refine rg_ ?_ | refine go_ ?_); generalize e : goR _ _ _ _ _ _ _ _ = r; simp (disch := omega) [hg9, he0] at e; replace e : some _ = _ := e; subst e; (try dsimp only [goW])) | refine ct_ rfl ?_ | refine cf_ rfl ?_ | refine sk_ ?_ | refine ex_ ?_ | (refine hk2 e a _ _ _ L' ts' at' (by simp only [lexW, he, hpos]) (by omega) (S9.mv (by (try dsimp only); omega) (zAb.le S9.f.2 (by (try dsimp only); omega))) ?_; (try dsimp only); omega))
def lexV (s : List UInt8) : CVal := match lexF s with
 | .error (e, k) => .tup [.nils, .int .i64 (e : Int), .int .i64 (k : Int)]
 | .ok l => .tup [.imm .none 4 (l.map tokV), .int .i64 0, .int .i64 0]
theorem lexW_len : ∀ (m : Nat) (total : Nat) (u : List UInt8) (l : List Tok), lexW total m u = .ok l → l.length ≤ m
 | m, _, [], l, h => by cases m <;> (simp only [lexW] at h; cases h; simp)
 | 0, _, _ :: _, l, h => by simp only [lexW] at h; cases h
 | m + 1, total, c :: u, l, h => by
  simp only [lexW] at h
  split at h
  · cases h
  · split at h
    · cases h
    · split at h
      · cases h
      · rename_i l2 e2
        cases h
        have := lexW_len m _ _ _ e2
        simp; omega
theorem St.mk0 {h : CHeap} {p n' : Nat} {s : List UInt8} {a to : Int} {ty : List (Nat × Nat)} (hf : Fit h) (hp : h.next ≤ p) (hn : p < n') (ht : zAb ty n') : St h.next h.ents p s a .nils [] 0 to ⟨(p, rdr s a .nils 0 to) :: h.ents, n', ty⟩ where
 g := by simp [zA2]
 l := .inl ⟨rfl, rfl⟩
 d := ⟨[(p, rdr s a .nils 0 to)], rfl, fun x hx => by simp at hx; subst hx; exact hp, hf.1⟩
 n := hp
 lt := hn
 f := ⟨Under.cons hn (hf.1.le (by (try dsimp only); omega)), ht⟩
theorem lex_long (s : List UInt8) (hl : 3000 < s.length) : Pu tree.getF 12 [.str s] (.tup [.nils, .int .i64 3, .int .i64 0]) := by
 intro h hf K hk
 obtain ⟨hu, hut, hX⟩ := fx4 hf
 refine Wc.mkG 12 c12 (by kernel_rfl) rfl ?_
 generalize e : zAa _ _ _ = r
 simp (disch := omega) [hX, c12] at e
 subst e
 repeat (first | refine sq_ ?_ | refine bl_ ?_ | ((first | refine rg_ ?_ | refine go_ ?_); generalize e : goR _ _ _ _ _ _ _ _ = r; simp (disch := omega) [hX, c12] at e; replace e : some _ = _ := e; subst e; (try dsimp only [goW])) | refine ct_ rfl ?_ | refine cf_ rfl ?_ | refine sk_ ?_ | refine ex_ ?_ | (refine W.loop ?_; try (generalize e : dropped _ _ _ = r; simp (disch := omega) [hX, c12] at e; subst e; try dsimp only)) | ((first | (refine W.ret ?_; (try simp only [zAl, zA3, zAf]); refine endW.of (.inl rfl) rfl ?_) | refine endW.of (.inr rfl) rfl ?_); generalize e : zAo _ _ _ = r; simp (disch := omega) [hX, c12] at e; subst e; (try dsimp only [goW]); (refine hk _ _ ?_ ?_; omega; exact ut_)))
theorem lex_F (s : List UInt8) (hl : s.length < 100000) : Pu tree.getF 12 [.str s] (lexV s) := by
 by_cases hlong : 3000 < s.length
 · have : lexV s = .tup [.nils, .int .i64 3, .int .i64 0] := by unfold lexV lexF; rw [if_pos hlong]; rfl
   rw [this]; exact lex_long s hlong
 · have hs : s.length ≤ 3000 := by omega
   have hV : lexV s = lexV s := rfl
   conv at hV => rhs; unfold lexV lexF
   rw [if_neg hlong] at hV
   intro h hf K hk
   obtain ⟨hu, hut, hX⟩ := fx4 hf
   refine Wc.mkG 12 c12 (by kernel_rfl) rfl ?_
   generalize e : zAa _ _ _ = r
   simp (disch := omega) [hX, c12] at e
   subst e
   repeat (first | refine sq_ ?_ | refine bl_ ?_ | ((first | refine rg_ ?_ | refine go_ ?_); generalize e : goR _ _ _ _ _ _ _ _ = r; simp (disch := omega) [hX, c12] at e; replace e : some _ = _ := e; subst e; (try dsimp only [goW])) | refine ct_ rfl ?_ | refine cf_ rfl ?_ | refine sk_ ?_ | refine ex_ ?_)
   refine skip_F _ _ s s 0 .nils [] 0 (by omega) rfl (by simp) _ (St.mk0 ⟨hu, hut⟩ ?_ ?_ ?_) _ (fun h2 hok S2 g2 => ⟨rfl, ?_⟩) (fun h2 hok S2 g2 => ⟨rfl, ?_⟩)
   · (try dsimp only); omega
   · (try dsimp only); omega
   · exact zAb.le hut (by (try dsimp only); omega)
   · try dsimp only at g2
     have hsl := skipF_le _ s (Nat.le_refl _)
     cases hsk : skipF s with
     | mk w b =>
      rw [hsk] at hok S2 hsl hV
      dsimp only at hok S2 hsl
      subst hok
      dsimp only at hV
      have hwd : s.drop (s.length - w.length) = w := skip_suffix s 0 s w true rfl (by simp) hsk
      repeat (first | refine sq_ ?_ | refine bl_ ?_ | ((first | refine rg_ ?_ | refine go_ ?_); generalize e : goR _ _ _ _ _ _ _ _ = r; simp (disch := omega) [S2.g] at e; replace e : some _ = _ := e; subst e; (try dsimp only [goW])) | refine ct_ rfl ?_ | refine cf_ rfl ?_ | refine sk_ ?_ | refine ex_ ?_)
      refine lex_loop _ _ s hs 0 _ _ _ _ _ _ (s.length + 1) w (s.length - w.length) (by omega) hwd (by omega) _ [] _ _ _ (by simp) (S2.mv ?_ ?_) ?_ ?_
      · (try dsimp only); omega
      · exact zAb.le S2.f.2 (by (try dsimp only); omega)
      · intro l w3 w4 h3 L3 at3 e1 S3 g3
        try dsimp only at g3
        rw [e1] at hV
        dsimp only at hV
        rw [hV] at hk
        have hg3 := S3.g
        have hn3 := S3.n
        have hL3 := S3.whole
        have hu3 := S3.f.1
        have ut3 := S3.f.2
        have hd3 := S3.d.drop
        have hts : l.length ≤ 100000 := by
         exact Nat.le_trans (lexW_len _ _ _ _ e1) (by omega)
        rcases S3.l with ⟨rfl, hnil⟩ | ⟨i, v, rfl, ht, hip, hi0, hin⟩
        · have hl0 : l = [] := by simpa using hnil
          subst hl0
          repeat (first | refine sq_ ?_ | refine bl_ ?_ | ((first | refine rg_ ?_ | refine go_ ?_); generalize e : goR _ _ _ _ _ _ _ _ = r; simp (disch := omega) [hg3, hd3, c12] at e; replace e : some _ = _ := e; subst e; (try dsimp only [goW])) | refine ct_ rfl ?_ | refine cf_ rfl ?_ | refine sk_ ?_ | refine ex_ ?_ | ((first | (refine W.ret ?_; (try simp only [zAl, zA3, zAf]); refine endW.of (.inl rfl) rfl ?_) | refine endW.of (.inr rfl) rfl ?_); generalize e : zAo _ _ _ = r; simp (disch := omega) [hg3, hd3, c12] at e; subst e; (try dsimp only [goW]); (refine hk _ _ ?_ ?_; (try dsimp only); omega; (focus ((repeat (first | refine zAb.cons (by (try dsimp only); omega) ?_ | exact zAb.le ut3 (by (try dsimp only); omega))); done)))))
        · have hd4 : ∀ x, zAx (zA0 h3.ents i x) h.next = h.ents := fun x => (S3.d.set hi0).drop
          have hgi : ∀ x, zA2 (zA0 h3.ents i x) _ = _ := fun x => (zA1 (Ne.symm hip)).trans hg3
          rw [List.nil_append] at *
          rw [List.map_append] at hk
          repeat (first | refine sq_ ?_ | refine bl_ ?_ | ((first | refine rg_ ?_ | refine go_ ?_); generalize e : goR _ _ _ _ _ _ _ _ = r; simp (disch := omega) [hg3, hd3, hd4, hgi, ht, hts, zAd, List.length_map, c12] at e; replace e : some _ = _ := e; subst e; (try dsimp only [goW])) | refine ct_ rfl ?_ | refine cf_ rfl ?_ | refine sk_ ?_ | refine ex_ ?_ | ((first | (refine W.ret ?_; (try simp only [zAl, zA3, zAf]); refine endW.of (.inl rfl) rfl ?_) | refine endW.of (.inr rfl) rfl ?_); generalize e : zAo _ _ _ = r; simp (disch := omega) [hg3, hd3, hd4, hgi, ht, hts, zAd, List.length_map, c12] at e; subst e; (try dsimp only [goW]); (refine hk _ _ ?_ ?_; (try dsimp only); omega; (focus ((repeat (first | refine zAb.cons (by (try dsimp only); omega) ?_ | exact zAb.le ut3 (by (try dsimp only); omega))); done)))))
      · intro e k w3 w4 h3 L3 ts3 at3 e1 e0 S3 g3
        try dsimp only at g3
        rw [e1] at hV
        dsimp only at hV
        rw [hV] at hk
        have hg3 := S3.g
        have hn3 := S3.n
        have hd3 := S3.d.drop
        have ut3 := S3.f.2
        have he0 : ¬ ((e : Int) = 0) := by omega
        have he1 : ¬ (e = 0) := by omega
        have hbe : ((e : Int) != 0) = true := by simpa using he1
        have hbe2 : (e != 0) = true := by simpa using he1
        repeat (first | refine sq_ ?_ | refine bl_ ?_ | ((first | refine rg_ ?_ | refine go_ ?_); generalize e : goR _ _ _ _ _ _ _ _ = r; simp (disch := omega) [hg3, hd3, he0, he1, hbe, hbe2, c12] at e; replace e : some _ = _ := e; subst e; (try dsimp only [goW])) | refine ct_ rfl ?_ | refine cf_ rfl ?_ | refine sk_ ?_ | refine ex_ ?_ | ((first | (refine W.ret ?_; (try simp only [zAl, zA3, zAf]); refine endW.of (.inl rfl) rfl ?_) | refine endW.of (.inr rfl) rfl ?_); generalize e : zAo _ _ _ = r; simp (disch := omega) [hg3, hd3, he0, he1, hbe, hbe2, c12] at e; subst e; (try dsimp only [goW]); (refine hk _ _ ?_ ?_; (try dsimp only); omega; (focus ((repeat (first | refine zAb.cons (by (try dsimp only); omega) ?_ | exact zAb.le ut3 (by (try dsimp only); omega))); done)))))
   · try dsimp only at g2
     cases hsk : skipF s with
     | mk w b =>
      rw [hsk] at hok S2 hV
      dsimp only at hok S2
      subst hok
      dsimp only at hV
      rw [hV] at hk
      have hg2 := S2.g
      have hn2 := S2.n
      have hd2 := S2.d.drop
      have ut2 := S2.f.2
      repeat (first | refine sq_ ?_ | refine bl_ ?_ | ((first | refine rg_ ?_ | refine go_ ?_); generalize e : goR _ _ _ _ _ _ _ _ = r; simp (disch := omega) [hg2, hd2, c12] at e; replace e : some _ = _ := e; subst e; (try dsimp only [goW])) | refine ct_ rfl ?_ | refine cf_ rfl ?_ | refine sk_ ?_ | refine ex_ ?_ | (refine W.loop ?_; try (generalize e : dropped _ _ _ = r; simp (disch := omega) [hg2, hd2, c12] at e; subst e; try dsimp only)) | ((first | (refine W.ret ?_; (try simp only [zAl, zA3, zAf]); refine endW.of (.inl rfl) rfl ?_) | refine endW.of (.inr rfl) rfl ?_); generalize e : zAo _ _ _ = r; simp (disch := omega) [hg2, hd2, c12] at e; subst e; (try dsimp only [goW]); (refine hk _ _ ?_ ?_; (try dsimp only); omega; (focus ((repeat (first | refine zAb.cons (by (try dsimp only); omega) ?_ | exact zAb.le ut2 (by (try dsimp only); omega))); done)))))
end Go.Proofs.YtjecpdnjpggcoaaGreatDoor.IrM
namespace Go.Proofs.YtjecpdnjpggcoaaGreatDoor.IrM
open Go Go.CI
open Go.LexF hiding spacesB lettersB
set_option maxRecDepth 100000
set_option linter.unusedVariables false
set_option linter.unusedSimpArgs false
def brk (c : UInt8) : Bool := !(namesB ++ [46]).contains c
def Brk (R : List UInt8) : Prop := ∀ c r, R = c :: r → brk c = true
structure TokOk (x : List UInt8) (k : Nat) (tx : List UInt8) (n : Nat) (fr : Bool) : Prop where
 ne : x ≠ []
 w : ∀ R, fr = true ∨ Brk R → wordW validF (x ++ R) = .tok k tx n x.length
 s : ∀ R, skipF (x ++ R) = (x ++ R, true)
 kk : k ≤ 4
def GapOk (g : List UInt8) : Prop := ∀ T, skipF (g ++ T) = skipF T
structure Cel where
 x : List UInt8
 k : Nat
 tx : List UInt8
 n : Nat
 g : List UInt8
 fr : Bool
def rnd : List Cel → List UInt8
 | [] => []
 | p :: r => p.x ++ (p.g ++ rnd r)
def WF : List Cel → Prop
 | [] => True
 | p :: r => TokOk p.x p.k p.tx p.n p.fr ∧ GapOk p.g ∧ (p.fr = true ∨ Brk (p.g ++ rnd r)) ∧ WF r
def toks : Nat → List Cel → List Tok
 | _, [] => []
 | a, p :: r => (p.k, p.tx, p.n, a) :: toks (a + (p.x.length + p.g.length)) r
theorem skip_rnd : ∀ ps, WF ps → skipF (rnd ps) = (rnd ps, true)
 | [], _ => skipF_nil
 | p :: r, h => h.1.s _
theorem lex_cells : ∀ (ps : List Cel), WF ps → ∀ (total a m : Nat), total = a + (rnd ps).length → (rnd ps).length < m → lexW total m (rnd ps) = .ok (toks a ps)
 | [], _, total, a, m, _, _ => by cases m <;> rfl
 | p :: r, h, total, a, m, ht, hm => by
  obtain ⟨h1, h2, h3, h4⟩ := h
  cases m with
  | zero => omega
  | succ m =>
   have hs := skip_rnd r h4
   have hw := h1.w _ h3
   have hne := h1.ne
   have hlen : (rnd (p :: r)).length = p.x.length + (p.g.length + (rnd r).length) := by simp [rnd]
   have ih := lex_cells r h4 total (a + (p.x.length + p.g.length)) m (by omega) (by
    have : 1 ≤ p.x.length := by cases hx : p.x with
     | nil => exact absurd hx hne
     | cons c u => simp
    omega)
   have hg := h2 (rnd r)
   have hd : (p.x ++ (p.g ++ rnd r)).drop p.x.length = p.g ++ rnd r := List.drop_left
   show lexW total (m + 1) (p.x ++ (p.g ++ rnd r)) = _
   have htl : total - (p.x ++ (p.g ++ rnd r)).length = a := by
    have : (p.x ++ (p.g ++ rnd r)).length = (rnd (p :: r)).length := rfl
    omega
   cases hx : p.x ++ (p.g ++ rnd r) with
   | nil => exact absurd (List.append_eq_nil_iff.1 hx).1 hne
   | cons c u =>
    rw [hx] at hw hd htl
    simp only [lexW, hw]
    rw [hd, hg, hs]
    dsimp only
    rw [ih, htl]
    rfl
theorem lexF_cells (ps : List Cel) (h : WF ps) (hl : (rnd ps).length ≤ 3000) : lexF (rnd ps) = .ok (toks 0 ps ++ [(5, [], 0, (rnd ps).length)]) := by
 unfold lexF
 rw [if_neg (by omega), skip_rnd ps h]
 dsimp only
 rw [lex_cells ps h _ 0 _ (by omega) (by omega)]
theorem toks_len : ∀ (ps : List Cel) (a : Nat), (toks a ps).length = ps.length
 | [], _ => rfl
 | p :: r, a => by simp only [toks, List.length_cons, toks_len r]
def addS (sp : Nat → List UInt8) : Nat → List Cel → List Cel
 | _, [] => []
 | i, p :: r => { p with g := p.g ++ sp i } :: addS sp (i + 1) r
theorem Brk.of_head {a : UInt8} {r s : List UInt8} (h : Brk (a :: r)) : Brk (a :: s) := by
 intro c r' e
 cases e
 exact h a r rfl
theorem Brk.nil : Brk [] := fun c r e => by cases e
theorem gap_app {g s : List UInt8} (h1 : GapOk g) (h2 : GapOk s) : GapOk (g ++ s) := fun T => by rw [List.append_assoc, h1, h2]
theorem addS_head (sp : Nat → List UInt8) : ∀ (i : Nat) (ps : List Cel), WF ps → Brk (rnd ps) → Brk (rnd (addS sp i ps))
 | _, [], _, _ => Brk.nil
 | i, p :: r, hw, h => by
  have hne := hw.1.ne
  cases hx : p.x with
  | nil => exact absurd hx hne
  | cons c u =>
   have e1 : rnd (p :: r) = c :: (u ++ (p.g ++ rnd r)) := by simp [rnd, hx]
   have e2 : rnd (addS sp i (p :: r)) = c :: (u ++ ((p.g ++ sp i) ++ rnd (addS sp (i + 1) r))) := by simp [rnd, addS, hx]
   rw [e1] at h; rw [e2]; exact h.of_head
theorem addS_WF (sp : Nat → List UInt8) (hsp : ∀ i, GapOk (sp i) ∧ Brk (sp i)) : ∀ (i : Nat) (ps : List Cel), WF ps → WF (addS sp i ps)
 | _, [], _ => trivial
 | i, p :: r, h => by
  obtain ⟨h1, h2, h3, h4⟩ := h
  refine ⟨h1, gap_app h2 (hsp i).1, ?_, addS_WF sp hsp (i + 1) r h4⟩
  rcases h3 with h3 | h3
  · exact .inl h3
  refine .inr ?_
  show Brk ((p.g ++ sp i) ++ rnd (addS sp (i + 1) r))
  cases hg : p.g with
  | cons c u => rw [hg] at h3; exact Brk.of_head (a := c) h3
  | nil =>
   rw [hg] at h3
   have hb := (hsp i).2
   cases hs : sp i with
   | cons c u => rw [hs] at hb; exact Brk.of_head (a := c) hb
   | nil => exact addS_head sp (i + 1) r h4 h3
theorem addS_len (sp : Nat → List UInt8) : ∀ (i : Nat) (ps : List Cel), (addS sp i ps).length = ps.length
 | _, [] => rfl
 | i, p :: r => by simp only [addS, List.length_cons, addS_len sp (i + 1) r]
theorem toks_get : ∀ (ps : List Cel) (a i : Nat) (p : Cel), ps[i]? = some p → (toks a ps)[i]? = some (p.k, p.tx, p.n, a + (rnd (ps.take i)).length)
 | [], _, _, _, h => by simp at h
 | q :: r, a, 0, p, h => by simp at h; subst h; simp [toks, rnd]
 | q :: r, a, i + 1, p, h => by
  simp at h
  have := toks_get r (a + (q.x.length + q.g.length)) i p h
  simp only [toks, List.getElem?_cons_succ, this, List.take_succ_cons, rnd, List.length_append]
  congr 4
  omega
theorem addS_get (sp : Nat → List UInt8) : ∀ (ps : List Cel) (b i : Nat) (p : Cel), ps[i]? = some p → (addS sp b ps)[i]? = some { p with g := p.g ++ sp (b + i) }
 | [], _, _, _, h => by simp at h
 | q :: r, b, 0, p, h => by simp at h; subst h; simp [addS]
 | q :: r, b, i + 1, p, h => by
  simp at h
  have := addS_get sp r (b + 1) i p h
  simp only [addS, List.getElem?_cons_succ, this]
  rw [show b + 1 + i = b + (i + 1) by omega]
theorem rnd_app : ∀ (a b : List Cel), rnd (a ++ b) = rnd a ++ rnd b
 | [], _ => rfl
 | p :: r, b => by simp only [List.cons_append, rnd, rnd_app r b, List.append_assoc]
theorem rnd_take (ps : List Cel) (i : Nat) (p : Cel) (h : ps[i]? = some p) : rnd (ps.take (i + 1)) = rnd (ps.take i) ++ (p.x ++ p.g) := by
 rw [List.take_add_one, h]
 rw [rnd_app]
 simp [rnd]
theorem rnd_cut (ps : List Cel) (i : Nat) (p : Cel) (h : ps[i]? = some p) : ((rnd ps).take (rnd (ps.take (i + 1))).length).drop (rnd (ps.take i)).length = p.x ++ p.g := by
 have h1 : rnd ps = rnd (ps.take (i + 1)) ++ rnd (ps.drop (i + 1)) := by rw [← rnd_app, List.take_append_drop]
 rw [h1, List.take_left, rnd_take ps i p h, List.drop_left]
theorem addS_take (sp : Nat → List UInt8) : ∀ (ps : List Cel) (b i : Nat), addS sp b (ps.take i) = (addS sp b ps).take i
 | [], _, _ => by simp [addS]
 | q :: r, b, 0 => by simp [addS]
 | q :: r, b, i + 1 => by simp only [List.take_succ_cons, addS, addS_take sp r (b + 1) i]
theorem all256s {p : UInt8 → Bool} (h : (List.range 256).all (fun k => p (UInt8.ofNat k)) = true) (c : UInt8) : p c = true := by
 have h1 := List.all_eq_true.1 h c.toNat (List.mem_range.2 c.toNat_lt)
 rwa [show UInt8.ofNat c.toNat = c by simp] at h1
def nameB : List UInt8 → Bool
 | [] => false
 | c :: r => Go.LexF.lettersB.contains c && r.all (fun d => namesB.contains d)
def numB : List UInt8 → Bool
 | [] => false
 | c :: r => (D10.contains c && c != 48) && r.all (fun d => D10.contains d)
theorem fr_all (cs : List UInt8) : ∀ (x R : List UInt8), (∀ d ∈ x, cs.contains d = true) → (∀ c r, R = c :: r → cs.contains c = false) → fr cs (x ++ R) = x
 | [], R, _, h => by
  cases R with
  | nil => rfl
  | cons c r =>
   have := h c r rfl
   show fr cs (c :: r) = []
   unfold fr
   rw [List.takeWhile_cons, this]; rfl
 | d :: x, R, h, h2 => by
  have h1 := h d (by simp)
  have ih := fr_all cs x R (fun e he => h e (by simp [he])) h2
  show fr cs (d :: (x ++ R)) = d :: x
  unfold fr at ih ⊢
  rw [List.takeWhile_cons, h1, if_pos rfl, ih]
theorem brk_props {c : UInt8} (h : brk c = true) : namesB.contains c = false ∧ c ≠ 46 ∧ D10.contains c = false ∧ D8.contains c = false ∧ hexesB.contains c = false ∧ c ≠ 120 ∧ c ≠ 88 ∧ (namesB ++ [46]).contains c = false := by
 have := all256s (p := fun c => !(brk c) || (!(namesB.contains c) && c != 46 && !(D10.contains c) && !(D8.contains c) && !(hexesB.contains c) && c != 120 && c != 88 && !((namesB ++ [46]).contains c))) (by decide +kernel) c
 rw [h] at this
 simp only [Bool.not_true, Bool.false_or, Bool.and_eq_true, Bool.not_eq_true', bne_iff_ne, ne_eq] at this
 obtain ⟨⟨⟨⟨⟨⟨⟨h1, h2⟩, h3⟩, h4⟩, h5⟩, h6⟩, h7⟩, h8⟩ := this
 exact ⟨h1, h2, h3, h4, h5, h6, h7, h8⟩
theorem skip_no {c : UInt8} (h1 : Go.LexF.spacesB.contains c = false) (h2 : c ≠ 47) (r : List UInt8) : skipF (c :: r) = (c :: r, true) := by
 rw [skipF_eq, h1, if_neg h2]; rfl
theorem let_props {c : UInt8} (h : Go.LexF.lettersB.contains c = true) : Go.LexF.spacesB.contains c = false ∧ c ≠ 47 ∧ c ≠ 46 ∧ namesB.contains c = true := by
 have := all256s (p := fun c => !(Go.LexF.lettersB.contains c) || (!(Go.LexF.spacesB.contains c) && c != 47 && c != 46 && namesB.contains c)) (by decide +kernel) c
 rw [h] at this
 simp only [Bool.not_true, Bool.false_or, Bool.and_eq_true, Bool.not_eq_true', bne_iff_ne, ne_eq] at this
 obtain ⟨⟨⟨h1, h2⟩, h3⟩, h4⟩ := this
 exact ⟨h1, h2, h3, h4⟩
theorem tailF_brk {R : List UInt8} (h : Brk R) : tailF R = 0 := by
 cases R with
 | nil => rw [tailF]
 | cons c r => rw [tailF, if_neg (brk_props (h c r rfl)).2.1]
theorem zAv {x : List UInt8} (h : nameB x = true) : TokOk x 1 x 0 false := by
 cases x with
 | nil => cases h
 | cons c r =>
  simp only [nameB, Bool.and_eq_true] at h
  obtain ⟨h1, h2⟩ := h
  obtain ⟨p1, p2, p3, p4⟩ := let_props h1
  have hall : ∀ d ∈ c :: r, namesB.contains d = true := by
   intro d hd
   rcases List.mem_cons.1 hd with rfl | hd
   · exact p4
   · exact List.all_eq_true.1 h2 d hd
  refine ⟨by simp, fun R hR => ?_, fun R => skip_no p1 p2 _, by omega⟩
  replace hR := hR.resolve_left (by simp)
  have hf := fr_all namesB (c :: r) R hall (fun c r e => (brk_props (hR c r e)).1)
  have hw : wordF (c :: (r ++ R)) = (c :: r).length := by
   simp only [wordF, h1, if_true]
   exact congrArg List.length hf
  have hn : nameF (c :: (r ++ R)) = (c :: r).length := by
   simp only [nameF]
   rw [if_neg p3, hw, if_neg (by simp)]
   have : (c :: (r ++ R)).drop (c :: r).length = R := List.drop_left (l₁ := c :: r)
   rw [this, tailF_brk hR]
   rfl
  show wordW validF (c :: (r ++ R)) = _
  simp only [wordW]
  rw [hn, if_pos (by simp)]
  have : (c :: (r ++ R)).take (c :: r).length = c :: r := List.take_left (l₁ := c :: r)
  rw [this]
theorem dig_props {c : UInt8} (h : D10.contains c = true) : Go.LexF.spacesB.contains c = false ∧ c ≠ 47 ∧ c ≠ 46 ∧ Go.LexF.lettersB.contains c = false ∧ digF c ≤ 9 := by
 have := all256s (p := fun c => !(D10.contains c) || (!(Go.LexF.spacesB.contains c) && c != 47 && c != 46 && !(Go.LexF.lettersB.contains c) && decide (digF c ≤ 9))) (by decide +kernel) c
 rw [h] at this
 simp only [Bool.not_true, Bool.false_or, Bool.and_eq_true, Bool.not_eq_true', bne_iff_ne, ne_eq, decide_eq_true_eq] at this
 obtain ⟨⟨⟨⟨h1, h2⟩, h3⟩, h4⟩, h5⟩ := this
 exact ⟨h1, h2, h3, h4, h5⟩
theorem nameF_no {c : UInt8} {r : List UInt8} (h1 : c ≠ 46) (h2 : Go.LexF.lettersB.contains c = false) : nameF (c :: r) = 0 := by
 have hw : wordF (c :: r) = 0 := by simp only [wordF]; rw [h2]; rfl
 simp only [nameF]
 rw [if_neg h1, hw, if_pos rfl]
theorem valF_small : ∀ (x : List UInt8) (n : Nat), (∀ d ∈ x, D10.contains d = true) → valF 10 n x < (n + 1) * 10 ^ x.length
 | [], n, _ => by simp [valF]
 | d :: x, n, h => by
  have h1 := valF_small x (n * 10 + digF d) (fun e he => h e (by simp [he]))
  have h2 := (dig_props (h d (by simp))).2.2.2.2
  simp only [valF, List.length_cons]
  refine Nat.lt_of_lt_of_le h1 ?_
  rw [Nat.pow_succ, Nat.mul_comm (10 ^ x.length) 10, ← Nat.mul_assoc]
  exact Nat.mul_le_mul_right _ (by omega)
theorem num_ok {x : List UInt8} (h : numB x = true) (hl : x.length ≤ 3) : TokOk x 2 [] (valF 10 0 x) false := by
 cases x with
 | nil => cases h
 | cons c r =>
  simp only [numB, Bool.and_eq_true, bne_iff_ne, ne_eq] at h
  obtain ⟨⟨h1, h0⟩, h2⟩ := h
  obtain ⟨p1, p2, p3, p4, p5⟩ := dig_props h1
  have hall : ∀ d ∈ c :: r, D10.contains d = true := by
   intro d hd
   rcases List.mem_cons.1 hd with rfl | hd
   · exact h1
   · exact List.all_eq_true.1 h2 d hd
  refine ⟨by simp, fun R hR => ?_, fun R => skip_no p1 p2 _, by omega⟩
  replace hR := hR.resolve_left (by simp)
  have hf := fr_all D10 (c :: r) R hall (fun c r e => (brk_props (hR c r e)).2.2.1)
  have hnf : numF (c :: (r ++ R)) = (10, 0, c :: r) := by
   unfold numF
   rw [if_neg, if_neg]
   · exact congrArg (fun z => (10, 0, z)) hf
   · simpa using h0
   · rintro ⟨h | h, _⟩
     · simp at h; exact h0 h.1
     · simp at h; exact h0 h.1
  have hv := valF_small (c :: r) 0 hall
  have hv2 : valF 10 0 (c :: r) < 18446744073709551616 := by
   refine Nat.lt_of_lt_of_le hv ?_
   have : 10 ^ (c :: r).length ≤ 10 ^ 3 := Nat.pow_le_pow_right (by omega) hl
   omega
  have hd : (c :: (r ++ R)).drop (0 + (c :: r).length) = R := by rw [Nat.zero_add]; exact List.drop_left (l₁ := c :: r)
  show wordW validF (c :: (r ++ R)) = _
  simp only [wordW]
  rw [nameF_no p3 p4, if_neg (by omega), if_pos h1]
  unfold numW
  rw [hnf]
  dsimp only
  rw [if_neg (by omega), hd]
  cases R with
  | nil => simp
  | cons e u => dsimp only; rw [(brk_props (hR e u rfl)).2.2.2.2.2.2.2]; simp
theorem zero_ok : TokOk [48] 2 [] 0 false := by
 refine ⟨by simp, fun R hR => ?_, fun R => skip_no (by decide) (by decide) _, by omega⟩
 replace hR := hR.resolve_left (by simp)
 show wordW validF (48 :: R) = _
 have hnf : numF (48 :: R) = (8, 0, [48]) := by
  unfold numF
  rw [if_neg, if_pos (show (48 :: R).head? = some 48 from rfl)]
  · refine congrArg (fun z => (8, 0, z)) ?_
    exact fr_all D8 [48] R (by decide) (fun c r e => (brk_props (hR c r e)).2.2.2.1)
  · rintro ⟨h | h, _⟩
    · cases R with
      | nil => simp at h
      | cons e u => simp at h; exact (brk_props (hR e u rfl)).2.2.2.2.2.1 h
    · cases R with
      | nil => simp at h
      | cons e u => simp at h; exact (brk_props (hR e u rfl)).2.2.2.2.2.2.1 h
 simp only [wordW]
 rw [nameF_no (by decide) (by decide), if_neg (by omega), if_pos (by decide)]
 unfold numW
 rw [hnf]
 dsimp only
 rw [if_neg (by decide)]
 cases R with
 | nil => rfl
 | cons e u =>
  have hb := (brk_props (hR e u rfl)).2.2.2.2.2.2.2
  simp only [List.length_cons, List.length_nil, Nat.zero_add, List.drop_succ_cons, List.drop_zero, hb, Bool.false_eq_true, if_false]
  rfl
theorem zAt {c : UInt8} (h : signsB.contains c = true) : TokOk [c] 4 [c] 0 true := by
 have := all256s (p := fun c => !(signsB.contains c) || (!(Go.LexF.spacesB.contains c) && c != 47 && c != 46 && !(Go.LexF.lettersB.contains c) && !(D10.contains c) && c != 34 && c != 39)) (by decide +kernel) c
 rw [h] at this
 simp only [Bool.not_true, Bool.false_or, Bool.and_eq_true, Bool.not_eq_true', bne_iff_ne, ne_eq] at this
 obtain ⟨⟨⟨⟨⟨⟨h1, h2⟩, h3⟩, h4⟩, h5⟩, h6⟩, h7⟩ := this
 refine ⟨by simp, fun R hR => ?_, fun R => skip_no h1 h2 _, by omega⟩
 show wordW validF (c :: R) = _
 simp only [wordW]
 rw [nameF_no h3 h4, if_neg (by omega), h5, if_neg (by decide), if_neg (by rintro (e | e); exact h6 e; exact h7 e), if_pos h]
 rfl
theorem valid_ascii {c : UInt8} {r : List UInt8} (h : c.toNat < 128) : validF (c :: r) = validF r := by
 have e : ptF (c :: r) = 1 := by simp only [ptF]; rw [if_pos h]
 conv => lhs; rw [validF]
 rw [dif_neg (by rw [e]; decide), e]
 rfl
theorem proto_ok : TokOk [34, 112, 114, 111, 116, 111, 51, 34] 3 [112, 114, 111, 116, 111, 51] 0 true := by
 refine ⟨by simp, fun R hR => ?_, fun R => skip_no (by decide) (by decide) _, by omega⟩
 show wordW validF (34 :: 112 :: 114 :: 111 :: 116 :: 111 :: 51 :: 34 :: R) = _
 have ht : textF 34 (112 :: 114 :: 111 :: 116 :: 111 :: 51 :: 34 :: R) [] 0 = some ([112, 114, 111, 116, 111, 51], 7) := by
  have hl : textF 34 (34 :: R) [112, 114, 111, 116, 111, 51] 6 = some ([112, 114, 111, 116, 111, 51], 7) := by unfold textF; rw [if_pos rfl]
  simp [textF, hl]
 simp only [wordW]
 rw [nameF_no (by decide) (by decide), if_neg (by omega), if_neg (by decide), if_pos (by decide), ht]
 dsimp only
 have hv : validF [112, 114, 111, 116, 111, 51] = true := by
  rw [valid_ascii (by decide), valid_ascii (by decide), valid_ascii (by decide), valid_ascii (by decide), valid_ascii (by decide), valid_ascii (by decide), validF]
  rfl
 rw [hv]; rfl
theorem gap_nil : GapOk [] := fun T => rfl
theorem gap_sp {c : UInt8} (h : Go.LexF.spacesB.contains c = true) {g : List UInt8} (hg : GapOk g) : GapOk (c :: g) := fun T => by
 show skipF (c :: (g ++ T)) = _
 rw [skipF_eq, h, if_pos rfl, hg]
theorem gap_cmt {b g : List UInt8} (hb : ∀ T, dropCmt (b ++ T) = some T) (hg : GapOk g) : GapOk (47 :: 42 :: (b ++ g)) := fun T => by
 show skipF (47 :: 42 :: ((b ++ g) ++ T)) = _
 rw [skipF_eq, List.append_assoc]
 rw [if_neg (by decide), if_pos rfl]
 dsimp only
 rw [if_neg (by decide), if_pos rfl, hb]
 exact hg T
theorem gap_line {b g : List UInt8} (hb : ∀ T, zB5 (b ++ T) = T) (hg : GapOk g) : GapOk (47 :: 47 :: (b ++ g)) := fun T => by
 show skipF (47 :: 47 :: ((b ++ g) ++ T)) = _
 rw [skipF_eq, List.append_assoc]
 rw [if_neg (by decide), if_pos rfl]
 dsimp only
 rw [if_pos rfl, hb]
 exact hg T
def betw : List (List UInt8) := [[32], [10], [9, 13], [47, 42, 32, 97, 59, 32, 42, 47], [47, 47, 32, 98, 10], [47, 42, 42, 47, 32], [32, 47, 42, 32, 42, 32, 47, 32, 42, 47]]
theorem gap_line10 {b g : List UInt8} (hb : ∀ T, zB5 (b ++ (10 :: T)) = 10 :: T) (hg : GapOk g) : GapOk (47 :: 47 :: (b ++ (10 :: g))) := fun T => by
 show skipF (47 :: 47 :: ((b ++ (10 :: g)) ++ T)) = _
 rw [skipF_eq, List.append_assoc]
 rw [if_neg (by decide), if_pos rfl]
 dsimp only
 rw [if_pos rfl]
 show skipF (zB5 (b ++ (10 :: (g ++ T)))) = _
 rw [hb]
 exact gap_sp (c := 10) (by decide) hg T
theorem betw_ok : ∀ b ∈ betw, GapOk b ∧ Brk b := by
 intro b hb
 have br : ∀ {c : UInt8} {r : List UInt8}, brk c = true → Brk (c :: r) := fun h c' r' e => by cases e; exact h
 simp only [betw, List.mem_cons, List.not_mem_nil, or_false] at hb
 rcases hb with rfl | rfl | rfl | rfl | rfl | rfl | rfl
 · exact ⟨gap_sp (by decide) gap_nil, br (by decide)⟩
 · exact ⟨gap_sp (by decide) gap_nil, br (by decide)⟩
 · exact ⟨gap_sp (by decide) (gap_sp (by decide) gap_nil), br (by decide)⟩
 · exact ⟨gap_cmt (b := [32, 97, 59, 32, 42, 47]) (g := []) (fun T => by simp [dropCmt]) gap_nil, br (by decide)⟩
 · exact ⟨gap_line10 (b := [32, 98]) (g := []) (fun T => by simp [zB5]) gap_nil, br (by decide)⟩
 · exact ⟨gap_cmt (b := [42, 47]) (g := [32]) (fun T => by simp [dropCmt]) (gap_sp (by decide) gap_nil), br (by decide)⟩
 · exact ⟨gap_sp (by decide) (gap_cmt (b := [32, 42, 32, 47, 32, 42, 47]) (g := []) (fun T => by simp [dropCmt]) gap_nil), br (by decide)⟩
end Go.Proofs.YtjecpdnjpggcoaaGreatDoor.IrM
