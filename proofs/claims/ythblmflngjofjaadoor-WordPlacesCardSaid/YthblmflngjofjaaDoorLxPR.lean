/- What the functions of the law 'WordPlaces' do: part 18. -/
import Derived.Test.YthblmflngjofjaaDoorLxPQ
namespace Go.Proofs.YthblmflngjofjaaDoor.IrP
open Go Go.CI
open Go.LexF hiding spacesB lettersB
set_option maxRecDepth 100000
set_option linter.unusedVariables false
set_option linter.unusedSimpArgs false
attribute [local irreducible] W Wo Wc WoR
attribute [local simp] goR regOut checkOne swapOne sameAt nthOp CVal.beq beqs CVal.block storesTo entryC evalOps evalOper evalE evalP evalL evalOpnd nth setNth COp.cls COp.isStore CVal.isUndef CVal.whole CVal.cells CHeap.put CHeap.get CHeap.set wantedC getEnt setEnt partOf writeBack evalBin evalInt evalStr blockMost initVar descOf List.take List.drop CVal.lenOf CVal.isStr CVal.bare CVal.strip CVal.flat endsC resultsC oneOrTuple finishC cut fillCells setCells szOf szOf_desc elems bytesOf evalAppend fillElems mkElem setElem List.replicate sy_nbeq sy_neqF sy_leT sy_leF sy_setEnt_setEnt dropped sy_wrap64 dropEnts dropCells sizeMost sy_ibeqF sy_ieqF sy_ileT sy_ileF sy_iltT sy_iltF sy_ltT sy_ltF evalSlc optBound eqVal extL extE keyIs findKV nthKV setKV CHeap.ty lookupN CHeap.note CHeap.tyOk dropAll freezeVal freezeAll freezeFlat pCopyCheck pBString pMakeNoZero pIndexByte pClone pIndex hasPair rowOf byteVals idxFrom hasFront idxSub

def ptF : List UInt8 → Nat
  | [] => 0
  | c :: t => if c.toNat < 128 then 1
    else if c.toNat / 32 = 6 then (match t with
      | c1 :: _ => if putB (c.toNat % 32 * 64 + c1.toNat % 64) = [c, c1] then 2 else 0
      | _ => 0)
    else if c.toNat / 16 = 14 then (match t with
      | c1 :: c2 :: _ => if putB ((c.toNat % 16 * 64 + c1.toNat % 64) * 64 + c2.toNat % 64) = [c, c1, c2] then 3 else 0
      | _ => 0)
    else if c.toNat / 8 = 30 then (match t with
      | c1 :: c2 :: c3 :: _ => if putB (((c.toNat % 8 * 64 + c1.toNat % 64) * 64 + c2.toNat % 64) * 64 + c3.toNat % 64) = [c, c1, c2, c3] then 4 else 0
      | _ => 0)
    else 0

theorem pt_1 (c : UInt8) (t : List UInt8) (hc : c.toNat < 128) : Pe 50 [.str (c :: t)] (.tup [.int .u32 (c.toNat : Int), .int .i64 1]) := by
  intro h hf K hk
  obtain ⟨hu, hut⟩ := hf
  have hD : ∀ m, h.next ≤ m → dropEnts h.ents m = h.ents := fun m hm => dropEnts_under (hu.le hm)
  have hC : ∀ m, h.next ≤ m → dropCells h.ents m = h.ents := fun m hm => dropCells_under (hu.le hm)
  have hN : ∀ q, h.next ≤ q → getEnt h.ents q = none := fun q hq => getEnt_under hu hq
  have hT : ∀ q, h.next ≤ q → lookupN h.tys q = none := fun q hq => lookupN_under hut hq

  refine Wc.mkG 50 c50 (by kernel_rfl) rfl ?_
  generalize e : entryC _ _ _ = r
  simp (disch := omega) [hD, hC, hN, hT, sy_wrapu32, sy_wrapu8, hbits32, hbits8, c50] at e
  subst e
  repeat (first
    | refine W.seq ?_
    | refine W.block ?_
    | ((first | refine W.regG ?_ | refine WoR.go ?_); generalize e : goR _ _ _ _ _ _ _ _ = r; simp (disch := omega) [hD, hC, hN, hT, sy_wrapu32, sy_wrapu8, hbits32, hbits8, c50] at e; replace e : some _ = _ := e; subst e; (try dsimp only [goW]))
    | refine W.cond_true rfl ?_
    | refine W.cond_false rfl ?_
    | refine W.skip ?_
    | refine W.exit ?_
    | (refine W.loop ?_; try (generalize e : dropped _ _ _ = r; simp (disch := omega) [hD, hC, hN, hT, sy_wrapu32, sy_wrapu8, hbits32, hbits8, c50] at e; subst e; try dsimp only))
    | ((first | (refine W.ret ?_; (try simp only [outOf, thenW_ret, roundW]); refine endW.of (.inl rfl) rfl ?_) | refine endW.of (.inr rfl) rfl ?_); generalize e : endsC _ _ _ = r; simp (disch := omega) [hD, hC, hN, hT, sy_wrapu32, sy_wrapu8, hbits32, hbits8, c50] at e; subst e; (try dsimp only [goW]); (refine hk _ ?_; omega)))

theorem pt_none (c : UInt8) (t : List UInt8) (h1 : 128 ≤ c.toNat) (h2 : ¬ c.toNat / 32 = 6) (h3 : ¬ c.toNat / 16 = 14) (h4 : ¬ c.toNat / 8 = 30) : Pe 50 [.str (c :: t)] (.tup [.int .u32 0, .int .i64 0]) := by
  intro h hf K hk
  obtain ⟨hu, hut⟩ := hf
  have hD : ∀ m, h.next ≤ m → dropEnts h.ents m = h.ents := fun m hm => dropEnts_under (hu.le hm)
  have hC : ∀ m, h.next ≤ m → dropCells h.ents m = h.ents := fun m hm => dropCells_under (hu.le hm)
  have hN : ∀ q, h.next ≤ q → getEnt h.ents q = none := fun q hq => getEnt_under hu hq
  have hT : ∀ q, h.next ≤ q → lookupN h.tys q = none := fun q hq => lookupN_under hut hq
  have hcl := c.toNat_lt
  obtain ⟨k5, hk5⟩ : ∃ q : Nat, c.toNat / 32 = q := ⟨_, rfl⟩
  have g5 : Int.fdiv (c.toNat : Int) 32 = (k5 : Int) := fdiv_nat hk5
  have e5 : ¬ ((k5 : Int) = 6) := by omega
  obtain ⟨k4, hk4⟩ : ∃ q : Nat, c.toNat / 16 = q := ⟨_, rfl⟩
  have g4 : Int.fdiv (c.toNat : Int) 16 = (k4 : Int) := fdiv_nat hk4
  have e4 : ¬ ((k4 : Int) = 14) := by omega
  obtain ⟨k3, hk3⟩ : ∃ q : Nat, c.toNat / 8 = q := ⟨_, rfl⟩
  have g3 : Int.fdiv (c.toNat : Int) 8 = (k3 : Int) := fdiv_nat hk3
  have e3 : ¬ ((k3 : Int) = 30) := by omega

  refine Wc.mkG 50 c50 (by kernel_rfl) rfl ?_
  generalize e : entryC _ _ _ = r
  simp (disch := omega) [hD, hC, hN, hT, g5, e5, g4, e4, g3, e3, sy_wrapu32, sy_wrapu8, hbits32, hbits8, c50] at e
  subst e
  repeat (first
    | refine W.seq ?_
    | refine W.block ?_
    | ((first | refine W.regG ?_ | refine WoR.go ?_); generalize e : goR _ _ _ _ _ _ _ _ = r; simp (disch := omega) [hD, hC, hN, hT, g5, e5, g4, e4, g3, e3, sy_wrapu32, sy_wrapu8, hbits32, hbits8, c50] at e; replace e : some _ = _ := e; subst e; (try dsimp only [goW]))
    | refine W.cond_true rfl ?_
    | refine W.cond_false rfl ?_
    | refine W.skip ?_
    | refine W.exit ?_
    | (refine W.loop ?_; try (generalize e : dropped _ _ _ = r; simp (disch := omega) [hD, hC, hN, hT, g5, e5, g4, e4, g3, e3, sy_wrapu32, sy_wrapu8, hbits32, hbits8, c50] at e; subst e; try dsimp only))
    | ((first | (refine W.ret ?_; (try simp only [outOf, thenW_ret, roundW]); refine endW.of (.inl rfl) rfl ?_) | refine endW.of (.inr rfl) rfl ?_); generalize e : endsC _ _ _ = r; simp (disch := omega) [hD, hC, hN, hT, g5, e5, g4, e4, g3, e3, sy_wrapu32, sy_wrapu8, hbits32, hbits8, c50] at e; subst e; (try dsimp only [goW]); (refine hk _ ?_; omega)))

theorem pt_2s0 (c : UInt8)  (hc : c.toNat / 32 = 6) : Pe 50 [.str (c :: [])] (.tup [.int .u32 0, .int .i64 0]) := by
  intro h hf K hk
  obtain ⟨hu, hut⟩ := hf
  have hD : ∀ m, h.next ≤ m → dropEnts h.ents m = h.ents := fun m hm => dropEnts_under (hu.le hm)
  have hC : ∀ m, h.next ≤ m → dropCells h.ents m = h.ents := fun m hm => dropCells_under (hu.le hm)
  have hN : ∀ q, h.next ≤ q → getEnt h.ents q = none := fun q hq => getEnt_under hu hq
  have hT : ∀ q, h.next ≤ q → lookupN h.tys q = none := fun q hq => lookupN_under hut hq
  have hcl := c.toNat_lt
  have g5 : Int.fdiv (c.toNat : Int) 32 = 6 := fdiv_nat (y := 6) hc
  obtain ⟨m0, hm0⟩ : ∃ q : Nat, c.toNat % 32 = q := ⟨_, rfl⟩
  have am : evalBits .and .u8 (c.toNat : Int) 31 = some (.int .u8 (m0 : Int)) := and8 5 31 rfl (by decide) hcl hm0

  refine Wc.mkG 50 c50 (by kernel_rfl) rfl ?_
  generalize e : entryC _ _ _ = r
  simp (disch := omega) [hD, hC, hN, hT, g5, am, sy_wrapu32, sy_wrapu8, hbits32, hbits8, c50] at e
  subst e
  repeat (first
    | refine W.seq ?_
    | refine W.block ?_
    | ((first | refine W.regG ?_ | refine WoR.go ?_); generalize e : goR _ _ _ _ _ _ _ _ = r; simp (disch := omega) [hD, hC, hN, hT, g5, am, sy_wrapu32, sy_wrapu8, hbits32, hbits8, c50] at e; replace e : some _ = _ := e; subst e; (try dsimp only [goW]))
    | refine W.cond_true rfl ?_
    | refine W.cond_false rfl ?_
    | refine W.skip ?_
    | refine W.exit ?_
    | (refine W.loop ?_; try (generalize e : dropped _ _ _ = r; simp (disch := omega) [hD, hC, hN, hT, g5, am, sy_wrapu32, sy_wrapu8, hbits32, hbits8, c50] at e; subst e; try dsimp only))
    | ((first | (refine W.ret ?_; (try simp only [outOf, thenW_ret, roundW]); refine endW.of (.inl rfl) rfl ?_) | refine endW.of (.inr rfl) rfl ?_); generalize e : endsC _ _ _ = r; simp (disch := omega) [hD, hC, hN, hT, g5, am, sy_wrapu32, sy_wrapu8, hbits32, hbits8, c50] at e; subst e; (try dsimp only [goW]); (refine hk _ ?_; omega)))

set_option maxHeartbeats 2000000 in
theorem pt_2true (c : UInt8) (c1 : UInt8) (t : List UInt8) (hc : c.toNat / 32 = 6) (hcmp : (putB (c.toNat % 32 * 64 + c1.toNat % 64) == [c, c1]) = true) : Pe 50 [.str (c :: c1 :: t)] (.tup [.int .u32 (((c.toNat % 32 * 64 + c1.toNat % 64) : Nat) : Int), .int .i64 2]) := by
  intro h hf K hk
  obtain ⟨hu, hut⟩ := hf
  have hD : ∀ m, h.next ≤ m → dropEnts h.ents m = h.ents := fun m hm => dropEnts_under (hu.le hm)
  have hC : ∀ m, h.next ≤ m → dropCells h.ents m = h.ents := fun m hm => dropCells_under (hu.le hm)
  have hN : ∀ q, h.next ≤ q → getEnt h.ents q = none := fun q hq => getEnt_under hu hq
  have hT : ∀ q, h.next ≤ q → lookupN h.tys q = none := fun q hq => lookupN_under hut hq
  have hcl := c.toNat_lt
  have g5 : Int.fdiv (c.toNat : Int) 32 = 6 := fdiv_nat (y := 6) hc
  obtain ⟨m0, hm0⟩ : ∃ q : Nat, c.toNat % 32 = q := ⟨_, rfl⟩
  have am : evalBits .and .u8 (c.toNat : Int) 31 = some (.int .u8 (m0 : Int)) := and8 5 31 rfl (by decide) hcl hm0
  have hcl1 := c1.toNat_lt
  obtain ⟨b1, hb1⟩ : ∃ q : Nat, c1.toNat % 64 = q := ⟨_, rfl⟩
  have ab1 : evalBits .and .u8 (c1.toNat : Int) 63 = some (.int .u8 (b1 : Int)) := and8 6 63 rfl (by decide) hcl1 hb1
  obtain ⟨x1, hx1⟩ : ∃ q : Nat, m0 * 2 ^ 6 + b1 = q := ⟨_, rfl⟩
  have o1 : evalBits .or .u32 ((m0 : Int) * 64) (b1 : Int) = some (.int .u32 (x1 : Int)) := or32 (c := m0) (s := 6) _ (by omega) (by omega) (by omega) (by decide) hx1
  have i1_0 : (c :: c1 :: t)[1]? = some c1 := rfl
  have i1_1 : (c1 :: t)[0]? = some c1 := rfl
  have hxe : (c.toNat % 32 * 64 + c1.toNat % 64) = x1 := by omega
  rw [hxe] at hcmp
  rw [hxe] at hk

  refine Wc.mkG 50 c50 (by kernel_rfl) rfl ?_
  generalize e : entryC _ _ _ = r
  simp (disch := omega) [hD, hC, hN, hT, g5, am, i1_0, i1_1, ab1, o1, hcmp, sy_wrapu32, sy_wrapu8, hbits32, hbits8, c50] at e
  subst e
  repeat (first
    | refine W.seq ?_
    | refine W.block ?_
    | ((first | refine W.regG ?_ | refine WoR.go ?_); generalize e : goR _ _ _ _ _ _ _ _ = r; simp (disch := omega) [hD, hC, hN, hT, g5, am, i1_0, i1_1, ab1, o1, hcmp, sy_wrapu32, sy_wrapu8, hbits32, hbits8, c50] at e; replace e : some _ = _ := e; subst e; (try dsimp only [goW]))
    | refine W.cond_true rfl ?_
    | refine W.cond_false rfl ?_
    | refine W.skip ?_
    | refine W.exit ?_
    | (refine W.loop ?_; try (generalize e : dropped _ _ _ = r; simp (disch := omega) [hD, hC, hN, hT, g5, am, i1_0, i1_1, ab1, o1, hcmp, sy_wrapu32, sy_wrapu8, hbits32, hbits8, c50] at e; subst e; try dsimp only))
    | (refine put_F x1 (by omega) _ ?_ _ fun n1 hn1 => ⟨rfl, ?_⟩; (focus (((refine ⟨?_, ?_⟩; (focus ((repeat (first | exact hu.le (by (try dsimp only); omega) | exact hu.set.le (by (try dsimp only); omega) | refine Under.cons (by (try dsimp only); omega) ?_ | exact Under.nil)); done)); (focus ((repeat (first | exact hut.le (by (try dsimp only); omega) | refine UnderT.cons (by (try dsimp only); omega) ?_ | exact UnderT.nil | assumption | exact UnderT.le (by assumption) (by (try dsimp only); omega))); done)))); done)); (try dsimp only at hn1))
    | ((first | (refine W.ret ?_; (try simp only [outOf, thenW_ret, roundW]); refine endW.of (.inl rfl) rfl ?_) | refine endW.of (.inr rfl) rfl ?_); generalize e : endsC _ _ _ = r; simp (disch := omega) [hD, hC, hN, hT, g5, am, i1_0, i1_1, ab1, o1, hcmp, sy_wrapu32, sy_wrapu8, hbits32, hbits8, c50] at e; subst e; (try dsimp only [goW]); (refine hk _ ?_; omega)))

set_option maxHeartbeats 2000000 in
theorem pt_2false (c : UInt8) (c1 : UInt8) (t : List UInt8) (hc : c.toNat / 32 = 6) (hcmp : (putB (c.toNat % 32 * 64 + c1.toNat % 64) == [c, c1]) = false) : Pe 50 [.str (c :: c1 :: t)] (.tup [.int .u32 0, .int .i64 0]) := by
  intro h hf K hk
  obtain ⟨hu, hut⟩ := hf
  have hD : ∀ m, h.next ≤ m → dropEnts h.ents m = h.ents := fun m hm => dropEnts_under (hu.le hm)
  have hC : ∀ m, h.next ≤ m → dropCells h.ents m = h.ents := fun m hm => dropCells_under (hu.le hm)
  have hN : ∀ q, h.next ≤ q → getEnt h.ents q = none := fun q hq => getEnt_under hu hq
  have hT : ∀ q, h.next ≤ q → lookupN h.tys q = none := fun q hq => lookupN_under hut hq
  have hcl := c.toNat_lt
  have g5 : Int.fdiv (c.toNat : Int) 32 = 6 := fdiv_nat (y := 6) hc
  obtain ⟨m0, hm0⟩ : ∃ q : Nat, c.toNat % 32 = q := ⟨_, rfl⟩
  have am : evalBits .and .u8 (c.toNat : Int) 31 = some (.int .u8 (m0 : Int)) := and8 5 31 rfl (by decide) hcl hm0
  have hcl1 := c1.toNat_lt
  obtain ⟨b1, hb1⟩ : ∃ q : Nat, c1.toNat % 64 = q := ⟨_, rfl⟩
  have ab1 : evalBits .and .u8 (c1.toNat : Int) 63 = some (.int .u8 (b1 : Int)) := and8 6 63 rfl (by decide) hcl1 hb1
  obtain ⟨x1, hx1⟩ : ∃ q : Nat, m0 * 2 ^ 6 + b1 = q := ⟨_, rfl⟩
  have o1 : evalBits .or .u32 ((m0 : Int) * 64) (b1 : Int) = some (.int .u32 (x1 : Int)) := or32 (c := m0) (s := 6) _ (by omega) (by omega) (by omega) (by decide) hx1
  have i1_0 : (c :: c1 :: t)[1]? = some c1 := rfl
  have i1_1 : (c1 :: t)[0]? = some c1 := rfl
  have hxe : (c.toNat % 32 * 64 + c1.toNat % 64) = x1 := by omega
  rw [hxe] at hcmp

  refine Wc.mkG 50 c50 (by kernel_rfl) rfl ?_
  generalize e : entryC _ _ _ = r
  simp (disch := omega) [hD, hC, hN, hT, g5, am, i1_0, i1_1, ab1, o1, hcmp, sy_wrapu32, sy_wrapu8, hbits32, hbits8, c50] at e
  subst e
  repeat (first
    | refine W.seq ?_
    | refine W.block ?_
    | ((first | refine W.regG ?_ | refine WoR.go ?_); generalize e : goR _ _ _ _ _ _ _ _ = r; simp (disch := omega) [hD, hC, hN, hT, g5, am, i1_0, i1_1, ab1, o1, hcmp, sy_wrapu32, sy_wrapu8, hbits32, hbits8, c50] at e; replace e : some _ = _ := e; subst e; (try dsimp only [goW]))
    | refine W.cond_true rfl ?_
    | refine W.cond_false rfl ?_
    | refine W.skip ?_
    | refine W.exit ?_
    | (refine W.loop ?_; try (generalize e : dropped _ _ _ = r; simp (disch := omega) [hD, hC, hN, hT, g5, am, i1_0, i1_1, ab1, o1, hcmp, sy_wrapu32, sy_wrapu8, hbits32, hbits8, c50] at e; subst e; try dsimp only))
    | (refine put_F x1 (by omega) _ ?_ _ fun n1 hn1 => ⟨rfl, ?_⟩; (focus (((refine ⟨?_, ?_⟩; (focus ((repeat (first | exact hu.le (by (try dsimp only); omega) | exact hu.set.le (by (try dsimp only); omega) | refine Under.cons (by (try dsimp only); omega) ?_ | exact Under.nil)); done)); (focus ((repeat (first | exact hut.le (by (try dsimp only); omega) | refine UnderT.cons (by (try dsimp only); omega) ?_ | exact UnderT.nil | assumption | exact UnderT.le (by assumption) (by (try dsimp only); omega))); done)))); done)); (try dsimp only at hn1))
    | ((first | (refine W.ret ?_; (try simp only [outOf, thenW_ret, roundW]); refine endW.of (.inl rfl) rfl ?_) | refine endW.of (.inr rfl) rfl ?_); generalize e : endsC _ _ _ = r; simp (disch := omega) [hD, hC, hN, hT, g5, am, i1_0, i1_1, ab1, o1, hcmp, sy_wrapu32, sy_wrapu8, hbits32, hbits8, c50] at e; subst e; (try dsimp only [goW]); (refine hk _ ?_; omega)))

theorem pt_3s0 (c : UInt8)  (hc : c.toNat / 16 = 14) : Pe 50 [.str (c :: [])] (.tup [.int .u32 0, .int .i64 0]) := by
  intro h hf K hk
  obtain ⟨hu, hut⟩ := hf
  have hD : ∀ m, h.next ≤ m → dropEnts h.ents m = h.ents := fun m hm => dropEnts_under (hu.le hm)
  have hC : ∀ m, h.next ≤ m → dropCells h.ents m = h.ents := fun m hm => dropCells_under (hu.le hm)
  have hN : ∀ q, h.next ≤ q → getEnt h.ents q = none := fun q hq => getEnt_under hu hq
  have hT : ∀ q, h.next ≤ q → lookupN h.tys q = none := fun q hq => lookupN_under hut hq
  have hcl := c.toNat_lt
  obtain ⟨k5, hk5⟩ : ∃ q : Nat, c.toNat / 32 = q := ⟨_, rfl⟩
  have g5 : Int.fdiv (c.toNat : Int) 32 = (k5 : Int) := fdiv_nat hk5
  have e5 : ¬ ((k5 : Int) = 6) := by omega
  have g4 : Int.fdiv (c.toNat : Int) 16 = 14 := fdiv_nat (y := 14) hc
  obtain ⟨m0, hm0⟩ : ∃ q : Nat, c.toNat % 16 = q := ⟨_, rfl⟩
  have am : evalBits .and .u8 (c.toNat : Int) 15 = some (.int .u8 (m0 : Int)) := and8 4 15 rfl (by decide) hcl hm0

  refine Wc.mkG 50 c50 (by kernel_rfl) rfl ?_
  generalize e : entryC _ _ _ = r
  simp (disch := omega) [hD, hC, hN, hT, g5, e5, g4, am, sy_wrapu32, sy_wrapu8, hbits32, hbits8, c50] at e
  subst e
  repeat (first
    | refine W.seq ?_
    | refine W.block ?_
    | ((first | refine W.regG ?_ | refine WoR.go ?_); generalize e : goR _ _ _ _ _ _ _ _ = r; simp (disch := omega) [hD, hC, hN, hT, g5, e5, g4, am, sy_wrapu32, sy_wrapu8, hbits32, hbits8, c50] at e; replace e : some _ = _ := e; subst e; (try dsimp only [goW]))
    | refine W.cond_true rfl ?_
    | refine W.cond_false rfl ?_
    | refine W.skip ?_
    | refine W.exit ?_
    | (refine W.loop ?_; try (generalize e : dropped _ _ _ = r; simp (disch := omega) [hD, hC, hN, hT, g5, e5, g4, am, sy_wrapu32, sy_wrapu8, hbits32, hbits8, c50] at e; subst e; try dsimp only))
    | ((first | (refine W.ret ?_; (try simp only [outOf, thenW_ret, roundW]); refine endW.of (.inl rfl) rfl ?_) | refine endW.of (.inr rfl) rfl ?_); generalize e : endsC _ _ _ = r; simp (disch := omega) [hD, hC, hN, hT, g5, e5, g4, am, sy_wrapu32, sy_wrapu8, hbits32, hbits8, c50] at e; subst e; (try dsimp only [goW]); (refine hk _ ?_; omega)))

theorem pt_3s1 (c : UInt8) (c1 : UInt8) (hc : c.toNat / 16 = 14) : Pe 50 [.str (c :: c1 :: [])] (.tup [.int .u32 0, .int .i64 0]) := by
  intro h hf K hk
  obtain ⟨hu, hut⟩ := hf
  have hD : ∀ m, h.next ≤ m → dropEnts h.ents m = h.ents := fun m hm => dropEnts_under (hu.le hm)
  have hC : ∀ m, h.next ≤ m → dropCells h.ents m = h.ents := fun m hm => dropCells_under (hu.le hm)
  have hN : ∀ q, h.next ≤ q → getEnt h.ents q = none := fun q hq => getEnt_under hu hq
  have hT : ∀ q, h.next ≤ q → lookupN h.tys q = none := fun q hq => lookupN_under hut hq
  have hcl := c.toNat_lt
  obtain ⟨k5, hk5⟩ : ∃ q : Nat, c.toNat / 32 = q := ⟨_, rfl⟩
  have g5 : Int.fdiv (c.toNat : Int) 32 = (k5 : Int) := fdiv_nat hk5
  have e5 : ¬ ((k5 : Int) = 6) := by omega
  have g4 : Int.fdiv (c.toNat : Int) 16 = 14 := fdiv_nat (y := 14) hc
  obtain ⟨m0, hm0⟩ : ∃ q : Nat, c.toNat % 16 = q := ⟨_, rfl⟩
  have am : evalBits .and .u8 (c.toNat : Int) 15 = some (.int .u8 (m0 : Int)) := and8 4 15 rfl (by decide) hcl hm0

  refine Wc.mkG 50 c50 (by kernel_rfl) rfl ?_
  generalize e : entryC _ _ _ = r
  simp (disch := omega) [hD, hC, hN, hT, g5, e5, g4, am, sy_wrapu32, sy_wrapu8, hbits32, hbits8, c50] at e
  subst e
  repeat (first
    | refine W.seq ?_
    | refine W.block ?_
    | ((first | refine W.regG ?_ | refine WoR.go ?_); generalize e : goR _ _ _ _ _ _ _ _ = r; simp (disch := omega) [hD, hC, hN, hT, g5, e5, g4, am, sy_wrapu32, sy_wrapu8, hbits32, hbits8, c50] at e; replace e : some _ = _ := e; subst e; (try dsimp only [goW]))
    | refine W.cond_true rfl ?_
    | refine W.cond_false rfl ?_
    | refine W.skip ?_
    | refine W.exit ?_
    | (refine W.loop ?_; try (generalize e : dropped _ _ _ = r; simp (disch := omega) [hD, hC, hN, hT, g5, e5, g4, am, sy_wrapu32, sy_wrapu8, hbits32, hbits8, c50] at e; subst e; try dsimp only))
    | ((first | (refine W.ret ?_; (try simp only [outOf, thenW_ret, roundW]); refine endW.of (.inl rfl) rfl ?_) | refine endW.of (.inr rfl) rfl ?_); generalize e : endsC _ _ _ = r; simp (disch := omega) [hD, hC, hN, hT, g5, e5, g4, am, sy_wrapu32, sy_wrapu8, hbits32, hbits8, c50] at e; subst e; (try dsimp only [goW]); (refine hk _ ?_; omega)))

set_option maxHeartbeats 2000000 in
theorem pt_3true (c : UInt8) (c1 : UInt8) (c2 : UInt8) (t : List UInt8) (hc : c.toNat / 16 = 14) (hcmp : (putB ((c.toNat % 16 * 64 + c1.toNat % 64) * 64 + c2.toNat % 64) == [c, c1, c2]) = true) : Pe 50 [.str (c :: c1 :: c2 :: t)] (.tup [.int .u32 ((((c.toNat % 16 * 64 + c1.toNat % 64) * 64 + c2.toNat % 64) : Nat) : Int), .int .i64 3]) := by
  intro h hf K hk
  obtain ⟨hu, hut⟩ := hf
  have hD : ∀ m, h.next ≤ m → dropEnts h.ents m = h.ents := fun m hm => dropEnts_under (hu.le hm)
  have hC : ∀ m, h.next ≤ m → dropCells h.ents m = h.ents := fun m hm => dropCells_under (hu.le hm)
  have hN : ∀ q, h.next ≤ q → getEnt h.ents q = none := fun q hq => getEnt_under hu hq
  have hT : ∀ q, h.next ≤ q → lookupN h.tys q = none := fun q hq => lookupN_under hut hq
  have hcl := c.toNat_lt
  obtain ⟨k5, hk5⟩ : ∃ q : Nat, c.toNat / 32 = q := ⟨_, rfl⟩
  have g5 : Int.fdiv (c.toNat : Int) 32 = (k5 : Int) := fdiv_nat hk5
  have e5 : ¬ ((k5 : Int) = 6) := by omega
  have g4 : Int.fdiv (c.toNat : Int) 16 = 14 := fdiv_nat (y := 14) hc
  obtain ⟨m0, hm0⟩ : ∃ q : Nat, c.toNat % 16 = q := ⟨_, rfl⟩
  have am : evalBits .and .u8 (c.toNat : Int) 15 = some (.int .u8 (m0 : Int)) := and8 4 15 rfl (by decide) hcl hm0
  have hcl1 := c1.toNat_lt
  obtain ⟨b1, hb1⟩ : ∃ q : Nat, c1.toNat % 64 = q := ⟨_, rfl⟩
  have ab1 : evalBits .and .u8 (c1.toNat : Int) 63 = some (.int .u8 (b1 : Int)) := and8 6 63 rfl (by decide) hcl1 hb1
  obtain ⟨x1, hx1⟩ : ∃ q : Nat, m0 * 2 ^ 6 + b1 = q := ⟨_, rfl⟩
  have o1 : evalBits .or .u32 ((m0 : Int) * 64) (b1 : Int) = some (.int .u32 (x1 : Int)) := or32 (c := m0) (s := 6) _ (by omega) (by omega) (by omega) (by decide) hx1
  have i1_0 : (c :: c1 :: c2 :: t)[1]? = some c1 := rfl
  have i1_1 : (c1 :: c2 :: t)[0]? = some c1 := rfl
  have hcl2 := c2.toNat_lt
  obtain ⟨b2, hb2⟩ : ∃ q : Nat, c2.toNat % 64 = q := ⟨_, rfl⟩
  have ab2 : evalBits .and .u8 (c2.toNat : Int) 63 = some (.int .u8 (b2 : Int)) := and8 6 63 rfl (by decide) hcl2 hb2
  obtain ⟨x2, hx2⟩ : ∃ q : Nat, x1 * 2 ^ 6 + b2 = q := ⟨_, rfl⟩
  have o2 : evalBits .or .u32 ((x1 : Int) * 64) (b2 : Int) = some (.int .u32 (x2 : Int)) := or32 (c := x1) (s := 6) _ (by omega) (by omega) (by omega) (by decide) hx2
  have i2_0 : (c :: c1 :: c2 :: t)[2]? = some c2 := rfl
  have i2_1 : (c1 :: c2 :: t)[1]? = some c2 := rfl
  have i2_2 : (c2 :: t)[0]? = some c2 := rfl
  have hxe : ((c.toNat % 16 * 64 + c1.toNat % 64) * 64 + c2.toNat % 64) = x2 := by omega
  rw [hxe] at hcmp
  rw [hxe] at hk

  refine Wc.mkG 50 c50 (by kernel_rfl) rfl ?_
  generalize e : entryC _ _ _ = r
  simp (disch := omega) [hD, hC, hN, hT, g5, e5, g4, am, i1_0, i1_1, ab1, o1, i2_0, i2_1, i2_2, ab2, o2, hcmp, sy_wrapu32, sy_wrapu8, hbits32, hbits8, c50] at e
  subst e
  repeat (first
    | refine W.seq ?_
    | refine W.block ?_
    | ((first | refine W.regG ?_ | refine WoR.go ?_); generalize e : goR _ _ _ _ _ _ _ _ = r; simp (disch := omega) [hD, hC, hN, hT, g5, e5, g4, am, i1_0, i1_1, ab1, o1, i2_0, i2_1, i2_2, ab2, o2, hcmp, sy_wrapu32, sy_wrapu8, hbits32, hbits8, c50] at e; replace e : some _ = _ := e; subst e; (try dsimp only [goW]))
    | refine W.cond_true rfl ?_
    | refine W.cond_false rfl ?_
    | refine W.skip ?_
    | refine W.exit ?_
    | (refine W.loop ?_; try (generalize e : dropped _ _ _ = r; simp (disch := omega) [hD, hC, hN, hT, g5, e5, g4, am, i1_0, i1_1, ab1, o1, i2_0, i2_1, i2_2, ab2, o2, hcmp, sy_wrapu32, sy_wrapu8, hbits32, hbits8, c50] at e; subst e; try dsimp only))
    | (refine put_F x2 (by omega) _ ?_ _ fun n1 hn1 => ⟨rfl, ?_⟩; (focus (((refine ⟨?_, ?_⟩; (focus ((repeat (first | exact hu.le (by (try dsimp only); omega) | exact hu.set.le (by (try dsimp only); omega) | refine Under.cons (by (try dsimp only); omega) ?_ | exact Under.nil)); done)); (focus ((repeat (first | exact hut.le (by (try dsimp only); omega) | refine UnderT.cons (by (try dsimp only); omega) ?_ | exact UnderT.nil | assumption | exact UnderT.le (by assumption) (by (try dsimp only); omega))); done)))); done)); (try dsimp only at hn1))
    | ((first | (refine W.ret ?_; (try simp only [outOf, thenW_ret, roundW]); refine endW.of (.inl rfl) rfl ?_) | refine endW.of (.inr rfl) rfl ?_); generalize e : endsC _ _ _ = r; simp (disch := omega) [hD, hC, hN, hT, g5, e5, g4, am, i1_0, i1_1, ab1, o1, i2_0, i2_1, i2_2, ab2, o2, hcmp, sy_wrapu32, sy_wrapu8, hbits32, hbits8, c50] at e; subst e; (try dsimp only [goW]); (refine hk _ ?_; omega)))

set_option maxHeartbeats 2000000 in
theorem pt_3false (c : UInt8) (c1 : UInt8) (c2 : UInt8) (t : List UInt8) (hc : c.toNat / 16 = 14) (hcmp : (putB ((c.toNat % 16 * 64 + c1.toNat % 64) * 64 + c2.toNat % 64) == [c, c1, c2]) = false) : Pe 50 [.str (c :: c1 :: c2 :: t)] (.tup [.int .u32 0, .int .i64 0]) := by
  intro h hf K hk
  obtain ⟨hu, hut⟩ := hf
  have hD : ∀ m, h.next ≤ m → dropEnts h.ents m = h.ents := fun m hm => dropEnts_under (hu.le hm)
  have hC : ∀ m, h.next ≤ m → dropCells h.ents m = h.ents := fun m hm => dropCells_under (hu.le hm)
  have hN : ∀ q, h.next ≤ q → getEnt h.ents q = none := fun q hq => getEnt_under hu hq
  have hT : ∀ q, h.next ≤ q → lookupN h.tys q = none := fun q hq => lookupN_under hut hq
  have hcl := c.toNat_lt
  obtain ⟨k5, hk5⟩ : ∃ q : Nat, c.toNat / 32 = q := ⟨_, rfl⟩
  have g5 : Int.fdiv (c.toNat : Int) 32 = (k5 : Int) := fdiv_nat hk5
  have e5 : ¬ ((k5 : Int) = 6) := by omega
  have g4 : Int.fdiv (c.toNat : Int) 16 = 14 := fdiv_nat (y := 14) hc
  obtain ⟨m0, hm0⟩ : ∃ q : Nat, c.toNat % 16 = q := ⟨_, rfl⟩
  have am : evalBits .and .u8 (c.toNat : Int) 15 = some (.int .u8 (m0 : Int)) := and8 4 15 rfl (by decide) hcl hm0
  have hcl1 := c1.toNat_lt
  obtain ⟨b1, hb1⟩ : ∃ q : Nat, c1.toNat % 64 = q := ⟨_, rfl⟩
  have ab1 : evalBits .and .u8 (c1.toNat : Int) 63 = some (.int .u8 (b1 : Int)) := and8 6 63 rfl (by decide) hcl1 hb1
  obtain ⟨x1, hx1⟩ : ∃ q : Nat, m0 * 2 ^ 6 + b1 = q := ⟨_, rfl⟩
  have o1 : evalBits .or .u32 ((m0 : Int) * 64) (b1 : Int) = some (.int .u32 (x1 : Int)) := or32 (c := m0) (s := 6) _ (by omega) (by omega) (by omega) (by decide) hx1
  have i1_0 : (c :: c1 :: c2 :: t)[1]? = some c1 := rfl
  have i1_1 : (c1 :: c2 :: t)[0]? = some c1 := rfl
  have hcl2 := c2.toNat_lt
  obtain ⟨b2, hb2⟩ : ∃ q : Nat, c2.toNat % 64 = q := ⟨_, rfl⟩
  have ab2 : evalBits .and .u8 (c2.toNat : Int) 63 = some (.int .u8 (b2 : Int)) := and8 6 63 rfl (by decide) hcl2 hb2
  obtain ⟨x2, hx2⟩ : ∃ q : Nat, x1 * 2 ^ 6 + b2 = q := ⟨_, rfl⟩
  have o2 : evalBits .or .u32 ((x1 : Int) * 64) (b2 : Int) = some (.int .u32 (x2 : Int)) := or32 (c := x1) (s := 6) _ (by omega) (by omega) (by omega) (by decide) hx2
  have i2_0 : (c :: c1 :: c2 :: t)[2]? = some c2 := rfl
  have i2_1 : (c1 :: c2 :: t)[1]? = some c2 := rfl
  have i2_2 : (c2 :: t)[0]? = some c2 := rfl
  have hxe : ((c.toNat % 16 * 64 + c1.toNat % 64) * 64 + c2.toNat % 64) = x2 := by omega
  rw [hxe] at hcmp

  refine Wc.mkG 50 c50 (by kernel_rfl) rfl ?_
  generalize e : entryC _ _ _ = r
  simp (disch := omega) [hD, hC, hN, hT, g5, e5, g4, am, i1_0, i1_1, ab1, o1, i2_0, i2_1, i2_2, ab2, o2, hcmp, sy_wrapu32, sy_wrapu8, hbits32, hbits8, c50] at e
  subst e
  repeat (first
    | refine W.seq ?_
    | refine W.block ?_
    | ((first | refine W.regG ?_ | refine WoR.go ?_); generalize e : goR _ _ _ _ _ _ _ _ = r; simp (disch := omega) [hD, hC, hN, hT, g5, e5, g4, am, i1_0, i1_1, ab1, o1, i2_0, i2_1, i2_2, ab2, o2, hcmp, sy_wrapu32, sy_wrapu8, hbits32, hbits8, c50] at e; replace e : some _ = _ := e; subst e; (try dsimp only [goW]))
    | refine W.cond_true rfl ?_
    | refine W.cond_false rfl ?_
    | refine W.skip ?_
    | refine W.exit ?_
    | (refine W.loop ?_; try (generalize e : dropped _ _ _ = r; simp (disch := omega) [hD, hC, hN, hT, g5, e5, g4, am, i1_0, i1_1, ab1, o1, i2_0, i2_1, i2_2, ab2, o2, hcmp, sy_wrapu32, sy_wrapu8, hbits32, hbits8, c50] at e; subst e; try dsimp only))
    | (refine put_F x2 (by omega) _ ?_ _ fun n1 hn1 => ⟨rfl, ?_⟩; (focus (((refine ⟨?_, ?_⟩; (focus ((repeat (first | exact hu.le (by (try dsimp only); omega) | exact hu.set.le (by (try dsimp only); omega) | refine Under.cons (by (try dsimp only); omega) ?_ | exact Under.nil)); done)); (focus ((repeat (first | exact hut.le (by (try dsimp only); omega) | refine UnderT.cons (by (try dsimp only); omega) ?_ | exact UnderT.nil | assumption | exact UnderT.le (by assumption) (by (try dsimp only); omega))); done)))); done)); (try dsimp only at hn1))
    | ((first | (refine W.ret ?_; (try simp only [outOf, thenW_ret, roundW]); refine endW.of (.inl rfl) rfl ?_) | refine endW.of (.inr rfl) rfl ?_); generalize e : endsC _ _ _ = r; simp (disch := omega) [hD, hC, hN, hT, g5, e5, g4, am, i1_0, i1_1, ab1, o1, i2_0, i2_1, i2_2, ab2, o2, hcmp, sy_wrapu32, sy_wrapu8, hbits32, hbits8, c50] at e; subst e; (try dsimp only [goW]); (refine hk _ ?_; omega)))

theorem pt_4s0 (c : UInt8)  (hc : c.toNat / 8 = 30) : Pe 50 [.str (c :: [])] (.tup [.int .u32 0, .int .i64 0]) := by
  intro h hf K hk
  obtain ⟨hu, hut⟩ := hf
  have hD : ∀ m, h.next ≤ m → dropEnts h.ents m = h.ents := fun m hm => dropEnts_under (hu.le hm)
  have hC : ∀ m, h.next ≤ m → dropCells h.ents m = h.ents := fun m hm => dropCells_under (hu.le hm)
  have hN : ∀ q, h.next ≤ q → getEnt h.ents q = none := fun q hq => getEnt_under hu hq
  have hT : ∀ q, h.next ≤ q → lookupN h.tys q = none := fun q hq => lookupN_under hut hq
  have hcl := c.toNat_lt
  obtain ⟨k5, hk5⟩ : ∃ q : Nat, c.toNat / 32 = q := ⟨_, rfl⟩
  have g5 : Int.fdiv (c.toNat : Int) 32 = (k5 : Int) := fdiv_nat hk5
  have e5 : ¬ ((k5 : Int) = 6) := by omega
  obtain ⟨k4, hk4⟩ : ∃ q : Nat, c.toNat / 16 = q := ⟨_, rfl⟩
  have g4 : Int.fdiv (c.toNat : Int) 16 = (k4 : Int) := fdiv_nat hk4
  have e4 : ¬ ((k4 : Int) = 14) := by omega
  have g3 : Int.fdiv (c.toNat : Int) 8 = 30 := fdiv_nat (y := 30) hc
  obtain ⟨m0, hm0⟩ : ∃ q : Nat, c.toNat % 8 = q := ⟨_, rfl⟩
  have am : evalBits .and .u8 (c.toNat : Int) 7 = some (.int .u8 (m0 : Int)) := and8 3 7 rfl (by decide) hcl hm0

  refine Wc.mkG 50 c50 (by kernel_rfl) rfl ?_
  generalize e : entryC _ _ _ = r
  simp (disch := omega) [hD, hC, hN, hT, g5, e5, g4, e4, g3, am, sy_wrapu32, sy_wrapu8, hbits32, hbits8, c50] at e
  subst e
  repeat (first
    | refine W.seq ?_
    | refine W.block ?_
    | ((first | refine W.regG ?_ | refine WoR.go ?_); generalize e : goR _ _ _ _ _ _ _ _ = r; simp (disch := omega) [hD, hC, hN, hT, g5, e5, g4, e4, g3, am, sy_wrapu32, sy_wrapu8, hbits32, hbits8, c50] at e; replace e : some _ = _ := e; subst e; (try dsimp only [goW]))
    | refine W.cond_true rfl ?_
    | refine W.cond_false rfl ?_
    | refine W.skip ?_
    | refine W.exit ?_
    | (refine W.loop ?_; try (generalize e : dropped _ _ _ = r; simp (disch := omega) [hD, hC, hN, hT, g5, e5, g4, e4, g3, am, sy_wrapu32, sy_wrapu8, hbits32, hbits8, c50] at e; subst e; try dsimp only))
    | ((first | (refine W.ret ?_; (try simp only [outOf, thenW_ret, roundW]); refine endW.of (.inl rfl) rfl ?_) | refine endW.of (.inr rfl) rfl ?_); generalize e : endsC _ _ _ = r; simp (disch := omega) [hD, hC, hN, hT, g5, e5, g4, e4, g3, am, sy_wrapu32, sy_wrapu8, hbits32, hbits8, c50] at e; subst e; (try dsimp only [goW]); (refine hk _ ?_; omega)))

theorem pt_4s1 (c : UInt8) (c1 : UInt8) (hc : c.toNat / 8 = 30) : Pe 50 [.str (c :: c1 :: [])] (.tup [.int .u32 0, .int .i64 0]) := by
  intro h hf K hk
  obtain ⟨hu, hut⟩ := hf
  have hD : ∀ m, h.next ≤ m → dropEnts h.ents m = h.ents := fun m hm => dropEnts_under (hu.le hm)
  have hC : ∀ m, h.next ≤ m → dropCells h.ents m = h.ents := fun m hm => dropCells_under (hu.le hm)
  have hN : ∀ q, h.next ≤ q → getEnt h.ents q = none := fun q hq => getEnt_under hu hq
  have hT : ∀ q, h.next ≤ q → lookupN h.tys q = none := fun q hq => lookupN_under hut hq
  have hcl := c.toNat_lt
  obtain ⟨k5, hk5⟩ : ∃ q : Nat, c.toNat / 32 = q := ⟨_, rfl⟩
  have g5 : Int.fdiv (c.toNat : Int) 32 = (k5 : Int) := fdiv_nat hk5
  have e5 : ¬ ((k5 : Int) = 6) := by omega
  obtain ⟨k4, hk4⟩ : ∃ q : Nat, c.toNat / 16 = q := ⟨_, rfl⟩
  have g4 : Int.fdiv (c.toNat : Int) 16 = (k4 : Int) := fdiv_nat hk4
  have e4 : ¬ ((k4 : Int) = 14) := by omega
  have g3 : Int.fdiv (c.toNat : Int) 8 = 30 := fdiv_nat (y := 30) hc
  obtain ⟨m0, hm0⟩ : ∃ q : Nat, c.toNat % 8 = q := ⟨_, rfl⟩
  have am : evalBits .and .u8 (c.toNat : Int) 7 = some (.int .u8 (m0 : Int)) := and8 3 7 rfl (by decide) hcl hm0

  refine Wc.mkG 50 c50 (by kernel_rfl) rfl ?_
  generalize e : entryC _ _ _ = r
  simp (disch := omega) [hD, hC, hN, hT, g5, e5, g4, e4, g3, am, sy_wrapu32, sy_wrapu8, hbits32, hbits8, c50] at e
  subst e
  repeat (first
    | refine W.seq ?_
    | refine W.block ?_
    | ((first | refine W.regG ?_ | refine WoR.go ?_); generalize e : goR _ _ _ _ _ _ _ _ = r; simp (disch := omega) [hD, hC, hN, hT, g5, e5, g4, e4, g3, am, sy_wrapu32, sy_wrapu8, hbits32, hbits8, c50] at e; replace e : some _ = _ := e; subst e; (try dsimp only [goW]))
    | refine W.cond_true rfl ?_
    | refine W.cond_false rfl ?_
    | refine W.skip ?_
    | refine W.exit ?_
    | (refine W.loop ?_; try (generalize e : dropped _ _ _ = r; simp (disch := omega) [hD, hC, hN, hT, g5, e5, g4, e4, g3, am, sy_wrapu32, sy_wrapu8, hbits32, hbits8, c50] at e; subst e; try dsimp only))
    | ((first | (refine W.ret ?_; (try simp only [outOf, thenW_ret, roundW]); refine endW.of (.inl rfl) rfl ?_) | refine endW.of (.inr rfl) rfl ?_); generalize e : endsC _ _ _ = r; simp (disch := omega) [hD, hC, hN, hT, g5, e5, g4, e4, g3, am, sy_wrapu32, sy_wrapu8, hbits32, hbits8, c50] at e; subst e; (try dsimp only [goW]); (refine hk _ ?_; omega)))

theorem pt_4s2 (c : UInt8) (c1 : UInt8) (c2 : UInt8) (hc : c.toNat / 8 = 30) : Pe 50 [.str (c :: c1 :: c2 :: [])] (.tup [.int .u32 0, .int .i64 0]) := by
  intro h hf K hk
  obtain ⟨hu, hut⟩ := hf
  have hD : ∀ m, h.next ≤ m → dropEnts h.ents m = h.ents := fun m hm => dropEnts_under (hu.le hm)
  have hC : ∀ m, h.next ≤ m → dropCells h.ents m = h.ents := fun m hm => dropCells_under (hu.le hm)
  have hN : ∀ q, h.next ≤ q → getEnt h.ents q = none := fun q hq => getEnt_under hu hq
  have hT : ∀ q, h.next ≤ q → lookupN h.tys q = none := fun q hq => lookupN_under hut hq
  have hcl := c.toNat_lt
  obtain ⟨k5, hk5⟩ : ∃ q : Nat, c.toNat / 32 = q := ⟨_, rfl⟩
  have g5 : Int.fdiv (c.toNat : Int) 32 = (k5 : Int) := fdiv_nat hk5
  have e5 : ¬ ((k5 : Int) = 6) := by omega
  obtain ⟨k4, hk4⟩ : ∃ q : Nat, c.toNat / 16 = q := ⟨_, rfl⟩
  have g4 : Int.fdiv (c.toNat : Int) 16 = (k4 : Int) := fdiv_nat hk4
  have e4 : ¬ ((k4 : Int) = 14) := by omega
  have g3 : Int.fdiv (c.toNat : Int) 8 = 30 := fdiv_nat (y := 30) hc
  obtain ⟨m0, hm0⟩ : ∃ q : Nat, c.toNat % 8 = q := ⟨_, rfl⟩
  have am : evalBits .and .u8 (c.toNat : Int) 7 = some (.int .u8 (m0 : Int)) := and8 3 7 rfl (by decide) hcl hm0

  refine Wc.mkG 50 c50 (by kernel_rfl) rfl ?_
  generalize e : entryC _ _ _ = r
  simp (disch := omega) [hD, hC, hN, hT, g5, e5, g4, e4, g3, am, sy_wrapu32, sy_wrapu8, hbits32, hbits8, c50] at e
  subst e
  repeat (first
    | refine W.seq ?_
    | refine W.block ?_
    | ((first | refine W.regG ?_ | refine WoR.go ?_); generalize e : goR _ _ _ _ _ _ _ _ = r; simp (disch := omega) [hD, hC, hN, hT, g5, e5, g4, e4, g3, am, sy_wrapu32, sy_wrapu8, hbits32, hbits8, c50] at e; replace e : some _ = _ := e; subst e; (try dsimp only [goW]))
    | refine W.cond_true rfl ?_
    | refine W.cond_false rfl ?_
    | refine W.skip ?_
    | refine W.exit ?_
    | (refine W.loop ?_; try (generalize e : dropped _ _ _ = r; simp (disch := omega) [hD, hC, hN, hT, g5, e5, g4, e4, g3, am, sy_wrapu32, sy_wrapu8, hbits32, hbits8, c50] at e; subst e; try dsimp only))
    | ((first | (refine W.ret ?_; (try simp only [outOf, thenW_ret, roundW]); refine endW.of (.inl rfl) rfl ?_) | refine endW.of (.inr rfl) rfl ?_); generalize e : endsC _ _ _ = r; simp (disch := omega) [hD, hC, hN, hT, g5, e5, g4, e4, g3, am, sy_wrapu32, sy_wrapu8, hbits32, hbits8, c50] at e; subst e; (try dsimp only [goW]); (refine hk _ ?_; omega)))

set_option maxHeartbeats 2000000 in
theorem pt_4true (c : UInt8) (c1 : UInt8) (c2 : UInt8) (c3 : UInt8) (t : List UInt8) (hc : c.toNat / 8 = 30) (hcmp : (putB (((c.toNat % 8 * 64 + c1.toNat % 64) * 64 + c2.toNat % 64) * 64 + c3.toNat % 64) == [c, c1, c2, c3]) = true) : Pe 50 [.str (c :: c1 :: c2 :: c3 :: t)] (.tup [.int .u32 (((((c.toNat % 8 * 64 + c1.toNat % 64) * 64 + c2.toNat % 64) * 64 + c3.toNat % 64) : Nat) : Int), .int .i64 4]) := by
  intro h hf K hk
  obtain ⟨hu, hut⟩ := hf
  have hD : ∀ m, h.next ≤ m → dropEnts h.ents m = h.ents := fun m hm => dropEnts_under (hu.le hm)
  have hC : ∀ m, h.next ≤ m → dropCells h.ents m = h.ents := fun m hm => dropCells_under (hu.le hm)
  have hN : ∀ q, h.next ≤ q → getEnt h.ents q = none := fun q hq => getEnt_under hu hq
  have hT : ∀ q, h.next ≤ q → lookupN h.tys q = none := fun q hq => lookupN_under hut hq
  have hcl := c.toNat_lt
  obtain ⟨k5, hk5⟩ : ∃ q : Nat, c.toNat / 32 = q := ⟨_, rfl⟩
  have g5 : Int.fdiv (c.toNat : Int) 32 = (k5 : Int) := fdiv_nat hk5
  have e5 : ¬ ((k5 : Int) = 6) := by omega
  obtain ⟨k4, hk4⟩ : ∃ q : Nat, c.toNat / 16 = q := ⟨_, rfl⟩
  have g4 : Int.fdiv (c.toNat : Int) 16 = (k4 : Int) := fdiv_nat hk4
  have e4 : ¬ ((k4 : Int) = 14) := by omega
  have g3 : Int.fdiv (c.toNat : Int) 8 = 30 := fdiv_nat (y := 30) hc
  obtain ⟨m0, hm0⟩ : ∃ q : Nat, c.toNat % 8 = q := ⟨_, rfl⟩
  have am : evalBits .and .u8 (c.toNat : Int) 7 = some (.int .u8 (m0 : Int)) := and8 3 7 rfl (by decide) hcl hm0
  have hcl1 := c1.toNat_lt
  obtain ⟨b1, hb1⟩ : ∃ q : Nat, c1.toNat % 64 = q := ⟨_, rfl⟩
  have ab1 : evalBits .and .u8 (c1.toNat : Int) 63 = some (.int .u8 (b1 : Int)) := and8 6 63 rfl (by decide) hcl1 hb1
  obtain ⟨x1, hx1⟩ : ∃ q : Nat, m0 * 2 ^ 6 + b1 = q := ⟨_, rfl⟩
  have o1 : evalBits .or .u32 ((m0 : Int) * 64) (b1 : Int) = some (.int .u32 (x1 : Int)) := or32 (c := m0) (s := 6) _ (by omega) (by omega) (by omega) (by decide) hx1
  have i1_0 : (c :: c1 :: c2 :: c3 :: t)[1]? = some c1 := rfl
  have i1_1 : (c1 :: c2 :: c3 :: t)[0]? = some c1 := rfl
  have hcl2 := c2.toNat_lt
  obtain ⟨b2, hb2⟩ : ∃ q : Nat, c2.toNat % 64 = q := ⟨_, rfl⟩
  have ab2 : evalBits .and .u8 (c2.toNat : Int) 63 = some (.int .u8 (b2 : Int)) := and8 6 63 rfl (by decide) hcl2 hb2
  obtain ⟨x2, hx2⟩ : ∃ q : Nat, x1 * 2 ^ 6 + b2 = q := ⟨_, rfl⟩
  have o2 : evalBits .or .u32 ((x1 : Int) * 64) (b2 : Int) = some (.int .u32 (x2 : Int)) := or32 (c := x1) (s := 6) _ (by omega) (by omega) (by omega) (by decide) hx2
  have i2_0 : (c :: c1 :: c2 :: c3 :: t)[2]? = some c2 := rfl
  have i2_1 : (c1 :: c2 :: c3 :: t)[1]? = some c2 := rfl
  have i2_2 : (c2 :: c3 :: t)[0]? = some c2 := rfl
  have hcl3 := c3.toNat_lt
  obtain ⟨b3, hb3⟩ : ∃ q : Nat, c3.toNat % 64 = q := ⟨_, rfl⟩
  have ab3 : evalBits .and .u8 (c3.toNat : Int) 63 = some (.int .u8 (b3 : Int)) := and8 6 63 rfl (by decide) hcl3 hb3
  obtain ⟨x3, hx3⟩ : ∃ q : Nat, x2 * 2 ^ 6 + b3 = q := ⟨_, rfl⟩
  have o3 : evalBits .or .u32 ((x2 : Int) * 64) (b3 : Int) = some (.int .u32 (x3 : Int)) := or32 (c := x2) (s := 6) _ (by omega) (by omega) (by omega) (by decide) hx3
  have i3_0 : (c :: c1 :: c2 :: c3 :: t)[3]? = some c3 := rfl
  have i3_1 : (c1 :: c2 :: c3 :: t)[2]? = some c3 := rfl
  have i3_2 : (c2 :: c3 :: t)[1]? = some c3 := rfl
  have i3_3 : (c3 :: t)[0]? = some c3 := rfl
  have hxe : (((c.toNat % 8 * 64 + c1.toNat % 64) * 64 + c2.toNat % 64) * 64 + c3.toNat % 64) = x3 := by omega
  rw [hxe] at hcmp
  rw [hxe] at hk

  refine Wc.mkG 50 c50 (by kernel_rfl) rfl ?_
  generalize e : entryC _ _ _ = r
  simp (disch := omega) [hD, hC, hN, hT, g5, e5, g4, e4, g3, am, i1_0, i1_1, ab1, o1, i2_0, i2_1, i2_2, ab2, o2, i3_0, i3_1, i3_2, i3_3, ab3, o3, hcmp, sy_wrapu32, sy_wrapu8, hbits32, hbits8, c50] at e
  subst e
  repeat (first
    | refine W.seq ?_
    | refine W.block ?_
    | ((first | refine W.regG ?_ | refine WoR.go ?_); generalize e : goR _ _ _ _ _ _ _ _ = r; simp (disch := omega) [hD, hC, hN, hT, g5, e5, g4, e4, g3, am, i1_0, i1_1, ab1, o1, i2_0, i2_1, i2_2, ab2, o2, i3_0, i3_1, i3_2, i3_3, ab3, o3, hcmp, sy_wrapu32, sy_wrapu8, hbits32, hbits8, c50] at e; replace e : some _ = _ := e; subst e; (try dsimp only [goW]))
    | refine W.cond_true rfl ?_
    | refine W.cond_false rfl ?_
    | refine W.skip ?_
    | refine W.exit ?_
    | (refine W.loop ?_; try (generalize e : dropped _ _ _ = r; simp (disch := omega) [hD, hC, hN, hT, g5, e5, g4, e4, g3, am, i1_0, i1_1, ab1, o1, i2_0, i2_1, i2_2, ab2, o2, i3_0, i3_1, i3_2, i3_3, ab3, o3, hcmp, sy_wrapu32, sy_wrapu8, hbits32, hbits8, c50] at e; subst e; try dsimp only))
    | (refine put_F x3 (by omega) _ ?_ _ fun n1 hn1 => ⟨rfl, ?_⟩; (focus (((refine ⟨?_, ?_⟩; (focus ((repeat (first | exact hu.le (by (try dsimp only); omega) | exact hu.set.le (by (try dsimp only); omega) | refine Under.cons (by (try dsimp only); omega) ?_ | exact Under.nil)); done)); (focus ((repeat (first | exact hut.le (by (try dsimp only); omega) | refine UnderT.cons (by (try dsimp only); omega) ?_ | exact UnderT.nil | assumption | exact UnderT.le (by assumption) (by (try dsimp only); omega))); done)))); done)); (try dsimp only at hn1))
    | ((first | (refine W.ret ?_; (try simp only [outOf, thenW_ret, roundW]); refine endW.of (.inl rfl) rfl ?_) | refine endW.of (.inr rfl) rfl ?_); generalize e : endsC _ _ _ = r; simp (disch := omega) [hD, hC, hN, hT, g5, e5, g4, e4, g3, am, i1_0, i1_1, ab1, o1, i2_0, i2_1, i2_2, ab2, o2, i3_0, i3_1, i3_2, i3_3, ab3, o3, hcmp, sy_wrapu32, sy_wrapu8, hbits32, hbits8, c50] at e; subst e; (try dsimp only [goW]); (refine hk _ ?_; omega)))

set_option maxHeartbeats 2000000 in
theorem pt_4false (c : UInt8) (c1 : UInt8) (c2 : UInt8) (c3 : UInt8) (t : List UInt8) (hc : c.toNat / 8 = 30) (hcmp : (putB (((c.toNat % 8 * 64 + c1.toNat % 64) * 64 + c2.toNat % 64) * 64 + c3.toNat % 64) == [c, c1, c2, c3]) = false) : Pe 50 [.str (c :: c1 :: c2 :: c3 :: t)] (.tup [.int .u32 0, .int .i64 0]) := by
  intro h hf K hk
  obtain ⟨hu, hut⟩ := hf
  have hD : ∀ m, h.next ≤ m → dropEnts h.ents m = h.ents := fun m hm => dropEnts_under (hu.le hm)
  have hC : ∀ m, h.next ≤ m → dropCells h.ents m = h.ents := fun m hm => dropCells_under (hu.le hm)
  have hN : ∀ q, h.next ≤ q → getEnt h.ents q = none := fun q hq => getEnt_under hu hq
  have hT : ∀ q, h.next ≤ q → lookupN h.tys q = none := fun q hq => lookupN_under hut hq
  have hcl := c.toNat_lt
  obtain ⟨k5, hk5⟩ : ∃ q : Nat, c.toNat / 32 = q := ⟨_, rfl⟩
  have g5 : Int.fdiv (c.toNat : Int) 32 = (k5 : Int) := fdiv_nat hk5
  have e5 : ¬ ((k5 : Int) = 6) := by omega
  obtain ⟨k4, hk4⟩ : ∃ q : Nat, c.toNat / 16 = q := ⟨_, rfl⟩
  have g4 : Int.fdiv (c.toNat : Int) 16 = (k4 : Int) := fdiv_nat hk4
  have e4 : ¬ ((k4 : Int) = 14) := by omega
  have g3 : Int.fdiv (c.toNat : Int) 8 = 30 := fdiv_nat (y := 30) hc
  obtain ⟨m0, hm0⟩ : ∃ q : Nat, c.toNat % 8 = q := ⟨_, rfl⟩
  have am : evalBits .and .u8 (c.toNat : Int) 7 = some (.int .u8 (m0 : Int)) := and8 3 7 rfl (by decide) hcl hm0
  have hcl1 := c1.toNat_lt
  obtain ⟨b1, hb1⟩ : ∃ q : Nat, c1.toNat % 64 = q := ⟨_, rfl⟩
  have ab1 : evalBits .and .u8 (c1.toNat : Int) 63 = some (.int .u8 (b1 : Int)) := and8 6 63 rfl (by decide) hcl1 hb1
  obtain ⟨x1, hx1⟩ : ∃ q : Nat, m0 * 2 ^ 6 + b1 = q := ⟨_, rfl⟩
  have o1 : evalBits .or .u32 ((m0 : Int) * 64) (b1 : Int) = some (.int .u32 (x1 : Int)) := or32 (c := m0) (s := 6) _ (by omega) (by omega) (by omega) (by decide) hx1
  have i1_0 : (c :: c1 :: c2 :: c3 :: t)[1]? = some c1 := rfl
  have i1_1 : (c1 :: c2 :: c3 :: t)[0]? = some c1 := rfl
  have hcl2 := c2.toNat_lt
  obtain ⟨b2, hb2⟩ : ∃ q : Nat, c2.toNat % 64 = q := ⟨_, rfl⟩
  have ab2 : evalBits .and .u8 (c2.toNat : Int) 63 = some (.int .u8 (b2 : Int)) := and8 6 63 rfl (by decide) hcl2 hb2
  obtain ⟨x2, hx2⟩ : ∃ q : Nat, x1 * 2 ^ 6 + b2 = q := ⟨_, rfl⟩
  have o2 : evalBits .or .u32 ((x1 : Int) * 64) (b2 : Int) = some (.int .u32 (x2 : Int)) := or32 (c := x1) (s := 6) _ (by omega) (by omega) (by omega) (by decide) hx2
  have i2_0 : (c :: c1 :: c2 :: c3 :: t)[2]? = some c2 := rfl
  have i2_1 : (c1 :: c2 :: c3 :: t)[1]? = some c2 := rfl
  have i2_2 : (c2 :: c3 :: t)[0]? = some c2 := rfl
  have hcl3 := c3.toNat_lt
  obtain ⟨b3, hb3⟩ : ∃ q : Nat, c3.toNat % 64 = q := ⟨_, rfl⟩
  have ab3 : evalBits .and .u8 (c3.toNat : Int) 63 = some (.int .u8 (b3 : Int)) := and8 6 63 rfl (by decide) hcl3 hb3
  obtain ⟨x3, hx3⟩ : ∃ q : Nat, x2 * 2 ^ 6 + b3 = q := ⟨_, rfl⟩
  have o3 : evalBits .or .u32 ((x2 : Int) * 64) (b3 : Int) = some (.int .u32 (x3 : Int)) := or32 (c := x2) (s := 6) _ (by omega) (by omega) (by omega) (by decide) hx3
  have i3_0 : (c :: c1 :: c2 :: c3 :: t)[3]? = some c3 := rfl
  have i3_1 : (c1 :: c2 :: c3 :: t)[2]? = some c3 := rfl
  have i3_2 : (c2 :: c3 :: t)[1]? = some c3 := rfl
  have i3_3 : (c3 :: t)[0]? = some c3 := rfl
  have hxe : (((c.toNat % 8 * 64 + c1.toNat % 64) * 64 + c2.toNat % 64) * 64 + c3.toNat % 64) = x3 := by omega
  rw [hxe] at hcmp

  refine Wc.mkG 50 c50 (by kernel_rfl) rfl ?_
  generalize e : entryC _ _ _ = r
  simp (disch := omega) [hD, hC, hN, hT, g5, e5, g4, e4, g3, am, i1_0, i1_1, ab1, o1, i2_0, i2_1, i2_2, ab2, o2, i3_0, i3_1, i3_2, i3_3, ab3, o3, hcmp, sy_wrapu32, sy_wrapu8, hbits32, hbits8, c50] at e
  subst e
  repeat (first
    | refine W.seq ?_
    | refine W.block ?_
    | ((first | refine W.regG ?_ | refine WoR.go ?_); generalize e : goR _ _ _ _ _ _ _ _ = r; simp (disch := omega) [hD, hC, hN, hT, g5, e5, g4, e4, g3, am, i1_0, i1_1, ab1, o1, i2_0, i2_1, i2_2, ab2, o2, i3_0, i3_1, i3_2, i3_3, ab3, o3, hcmp, sy_wrapu32, sy_wrapu8, hbits32, hbits8, c50] at e; replace e : some _ = _ := e; subst e; (try dsimp only [goW]))
    | refine W.cond_true rfl ?_
    | refine W.cond_false rfl ?_
    | refine W.skip ?_
    | refine W.exit ?_
    | (refine W.loop ?_; try (generalize e : dropped _ _ _ = r; simp (disch := omega) [hD, hC, hN, hT, g5, e5, g4, e4, g3, am, i1_0, i1_1, ab1, o1, i2_0, i2_1, i2_2, ab2, o2, i3_0, i3_1, i3_2, i3_3, ab3, o3, hcmp, sy_wrapu32, sy_wrapu8, hbits32, hbits8, c50] at e; subst e; try dsimp only))
    | (refine put_F x3 (by omega) _ ?_ _ fun n1 hn1 => ⟨rfl, ?_⟩; (focus (((refine ⟨?_, ?_⟩; (focus ((repeat (first | exact hu.le (by (try dsimp only); omega) | exact hu.set.le (by (try dsimp only); omega) | refine Under.cons (by (try dsimp only); omega) ?_ | exact Under.nil)); done)); (focus ((repeat (first | exact hut.le (by (try dsimp only); omega) | refine UnderT.cons (by (try dsimp only); omega) ?_ | exact UnderT.nil | assumption | exact UnderT.le (by assumption) (by (try dsimp only); omega))); done)))); done)); (try dsimp only at hn1))
    | ((first | (refine W.ret ?_; (try simp only [outOf, thenW_ret, roundW]); refine endW.of (.inl rfl) rfl ?_) | refine endW.of (.inr rfl) rfl ?_); generalize e : endsC _ _ _ = r; simp (disch := omega) [hD, hC, hN, hT, g5, e5, g4, e4, g3, am, i1_0, i1_1, ab1, o1, i2_0, i2_1, i2_2, ab2, o2, i3_0, i3_1, i3_2, i3_3, ab3, o3, hcmp, sy_wrapu32, sy_wrapu8, hbits32, hbits8, c50] at e; subst e; (try dsimp only [goW]); (refine hk _ ?_; omega)))

theorem point_F (c : UInt8) (t : List UInt8) : ∃ rv : Nat, Pe 50 [.str (c :: t)] (.tup [.int .u32 (rv : Int), .int .i64 (ptF (c :: t) : Int)]) := by
  simp only [ptF]
  by_cases h1 : c.toNat < 128
  · rw [if_pos h1]; exact ⟨_, pt_1 c t h1⟩
  · rw [if_neg h1]
    by_cases h2 : c.toNat / 32 = 6
    · rw [if_pos h2]
      match t with
      | [] => exact ⟨0, pt_2s0 c h2⟩
      | c1 :: t =>
        dsimp only
        split
        · rename_i h; exact ⟨_, pt_2true c c1 t h2 (by rw [h]; simp)⟩
        · rename_i h; exact ⟨0, pt_2false c c1 t h2 (by simpa using h)⟩
    · rw [if_neg h2]
      by_cases h3 : c.toNat / 16 = 14
      · rw [if_pos h3]
        match t with
        | [] => exact ⟨0, pt_3s0 c h3⟩
        | [c1] => exact ⟨0, pt_3s1 c c1 h3⟩
        | c1 :: c2 :: t =>
          dsimp only
          split
          · rename_i h; exact ⟨_, pt_3true c c1 c2 t h3 (by rw [h]; simp)⟩
          · rename_i h; exact ⟨0, pt_3false c c1 c2 t h3 (by simpa using h)⟩
      · rw [if_neg h3]
        by_cases h4 : c.toNat / 8 = 30
        · rw [if_pos h4]
          match t with
          | [] => exact ⟨0, pt_4s0 c h4⟩
          | [c1] => exact ⟨0, pt_4s1 c c1 h4⟩
          | [c1, c2] => exact ⟨0, pt_4s2 c c1 c2 h4⟩
          | c1 :: c2 :: c3 :: t =>
            dsimp only
            split
            · rename_i h; exact ⟨_, pt_4true c c1 c2 c3 t h4 (by rw [h]; simp)⟩
            · rename_i h; exact ⟨0, pt_4false c c1 c2 c3 t h4 (by simpa using h)⟩
        · rw [if_neg h4]; exact ⟨0, pt_none c t (by omega) h2 h3 h4⟩
theorem ptF_le (s : List UInt8) : ptF s ≤ s.length := by
  rcases s with _ | ⟨c, _ | ⟨c1, _ | ⟨c2, _ | ⟨c3, t⟩⟩⟩⟩
  · exact Nat.le_refl _
  all_goals
    simp only [ptF, List.length_cons]
    repeat' split
    all_goals omega
/-- Is a text code points? -/
def validF (s : List UInt8) : Bool := if h : ptF s = 0 then s.isEmpty else validF (s.drop (ptF s))
  termination_by s.length
  decreasing_by have := ptF_le s; simp; omega

abbrev validLoop : CCode := (.loop true (.seq (.seq (.region [⟨.mv (.var 0), none⟩, ⟨.bin .neq (.loc 0) (.const (.str [])), none⟩] [(1, 1)] [] []) (.cond (.var 1) .skip (.exit 0))) (.block 1 (.seq (.region [⟨.mv (.var 0), none⟩, ⟨.call false 50 [(.loc 0)], none⟩, ⟨.mv (.loc 0), none⟩, ⟨.extract 0 (.loc 0), none⟩, ⟨.extract 1 (.loc 1), none⟩, ⟨.mv (.loc 1), none⟩, ⟨.mv (.loc 1), none⟩] [(2, 6)] [] []) (.seq (.seq (.region [⟨.mv (.var 2), none⟩, ⟨.bin .eql (.loc 0) (.const (.int .i64 0)), none⟩] [(3, 1)] [] []) (.cond (.var 3) (.seq (.region [⟨.mv (.const (.bool false)), none⟩] [(4, 0)] [] []) .ret) .skip)) (.region [⟨.mv (.var 0), none⟩, ⟨.mv (.var 2), none⟩, ⟨.slc 0 (.loc 1) (some (.loc 0)) none, none⟩, ⟨.mv (.loc 0), none⟩] [(0, 3)] [] []))))))
theorem valid_loop (Q : CExit → CSt → Prop) : ∀ (m : Nat) (s : List UInt8), s.length ≤ m → s.length ≤ 60000 → ∀ (h : CHeap) (v1 v2 v3 v4 : CVal), Fit h →
    (∀ n' v0 v1 v2 v3, h.next ≤ n' → validF s = false → Q .ret ⟨[v0, v1, v2, v3, .bool false], ⟨h.ents, n', h.tys⟩, []⟩) →
    (∀ n' v0 v1 v2 v3 v4, h.next ≤ n' → validF s = true → Q (.exit 0) ⟨[v0, v1, v2, v3, v4], ⟨h.ents, n', h.tys⟩, []⟩) →
    W tree.getF validLoop ⟨[.str s, v1, v2, v3, v4], h, []⟩ Q := by
  intro m
  induction m with
  | zero =>
    intro s hm hl h v1 v2 v3 v4 hf hk1 hk2
    obtain rfl : s = [] := List.length_eq_zero_iff.1 (by omega)
    obtain ⟨hu, hut⟩ := hf
    have hD : ∀ m, h.next ≤ m → dropEnts h.ents m = h.ents := fun m hm => dropEnts_under (hu.le hm)
    have hC : ∀ m, h.next ≤ m → dropCells h.ents m = h.ents := fun m hm => dropCells_under (hu.le hm)
    have hN : ∀ q, h.next ≤ q → getEnt h.ents q = none := fun q hq => getEnt_under hu hq
    have hT : ∀ q, h.next ≤ q → lookupN h.tys q = none := fun q hq => lookupN_under hut hq

    refine W.loop ?_
    repeat (first
      | refine W.seq ?_
      | refine W.block ?_
      | ((first | refine W.regG ?_ | refine WoR.go ?_); generalize e : goR _ _ _ _ _ _ _ _ = r; simp (disch := omega) [hD, hC, hN, hT] at e; replace e : some _ = _ := e; subst e; (try dsimp only [goW]))
      | refine W.cond_true rfl ?_
      | refine W.cond_false rfl ?_
      | refine W.skip ?_
      | refine W.exit ?_)
    exact hk2 _ _ _ _ _ _ (by omega) (by rw [validF]; rfl)
  | succ m ih =>
    intro s hm hl h v1 v2 v3 v4 hf hk1 hk2
    obtain ⟨hu, hut⟩ := hf
    have hD : ∀ m, h.next ≤ m → dropEnts h.ents m = h.ents := fun m hm => dropEnts_under (hu.le hm)
    have hC : ∀ m, h.next ≤ m → dropCells h.ents m = h.ents := fun m hm => dropCells_under (hu.le hm)
    have hN : ∀ q, h.next ≤ q → getEnt h.ents q = none := fun q hq => getEnt_under hu hq
    have hT : ∀ q, h.next ≤ q → lookupN h.tys q = none := fun q hq => lookupN_under hut hq

    cases s with
    | nil =>
      refine W.loop ?_
      repeat (first
        | refine W.seq ?_
        | refine W.block ?_
        | ((first | refine W.regG ?_ | refine WoR.go ?_); generalize e : goR _ _ _ _ _ _ _ _ = r; simp (disch := omega) [hD, hC, hN, hT] at e; replace e : some _ = _ := e; subst e; (try dsimp only [goW]))
        | refine W.cond_true rfl ?_
        | refine W.cond_false rfl ?_
        | refine W.skip ?_
        | refine W.exit ?_)
      exact hk2 _ _ _ _ _ _ (by omega) (by rw [validF]; rfl)
    | cons c t =>
      obtain ⟨rv, P⟩ := point_F c t
      have hle := ptF_le (c :: t)
      simp only [List.length_cons] at hm hl hle
      have htk : (c :: t).take (t.length + 1) = c :: t := List.take_of_length_le (by simp)
      by_cases hz : ptF (c :: t) = 0
      · rw [hz] at P
        refine W.loop ?_
        repeat (first
          | refine W.seq ?_
          | refine W.block ?_
          | ((first | refine W.regG ?_ | refine WoR.go ?_); generalize e : goR _ _ _ _ _ _ _ _ = r; simp (disch := omega) [hD, hC, hN, hT] at e; replace e : some _ = _ := e; subst e; (try dsimp only [goW]))
          | refine W.cond_true rfl ?_
          | refine W.cond_false rfl ?_
          | refine W.skip ?_
          | refine W.exit ?_
          | (refine P _ ?_ _ fun n1 hn1 => ⟨rfl, ?_⟩; (focus (((refine ⟨?_, ?_⟩; (focus ((repeat (first | exact hu.le (by (try dsimp only); omega) | exact hu.set.le (by (try dsimp only); omega) | refine Under.cons (by (try dsimp only); omega) ?_ | exact Under.nil)); done)); (focus ((repeat (first | exact hut.le (by (try dsimp only); omega) | refine UnderT.cons (by (try dsimp only); omega) ?_ | exact UnderT.nil | assumption | exact UnderT.le (by assumption) (by (try dsimp only); omega))); done)))); done)); (try dsimp only at hn1))
          | (refine W.ret ?_; (try simp only [outOf, thenW_ret, roundW]); refine hk1 _ _ _ _ _ ?_ ?_; (focus ((omega); done)); rw [validF, dif_pos hz]; rfl))
      · obtain ⟨n, hn⟩ : ∃ n, ptF (c :: t) = n := ⟨_, rfl⟩
        have hvd : validF (c :: t) = validF ((c :: t).drop n) := by
          conv => lhs; rw [validF]
          rw [dif_neg hz, hn]
        rw [hvd] at hk1 hk2
        rw [hn] at P hz hle
        have hn0 : ¬ ((n : Int) = 0) := by omega
        refine W.loop ?_
        repeat (first
          | refine W.seq ?_
          | refine W.block ?_
          | ((first | refine W.regG ?_ | refine WoR.go ?_); generalize e : goR _ _ _ _ _ _ _ _ = r; simp (disch := omega) [hD, hC, hN, hT, htk, hn0] at e; replace e : some _ = _ := e; subst e; (try dsimp only [goW]))
          | refine W.cond_true rfl ?_
          | refine W.cond_false rfl ?_
          | refine W.skip ?_
          | refine W.exit ?_
          | (refine P _ ?_ _ fun n1 hn1 => ⟨rfl, ?_⟩; (focus (((refine ⟨?_, ?_⟩; (focus ((repeat (first | exact hu.le (by (try dsimp only); omega) | exact hu.set.le (by (try dsimp only); omega) | refine Under.cons (by (try dsimp only); omega) ?_ | exact Under.nil)); done)); (focus ((repeat (first | exact hut.le (by (try dsimp only); omega) | refine UnderT.cons (by (try dsimp only); omega) ?_ | exact UnderT.nil | assumption | exact UnderT.le (by assumption) (by (try dsimp only); omega))); done)))); done)); (try dsimp only at hn1)))
        show W tree.getF validLoop (dropped true _ _) Q
        generalize e : dropped _ _ _ = r9
        simp (disch := omega) [hD, hC, hN, hT] at e
        subst e
        refine ih ((c :: t).drop n) (by rw [List.length_drop]; simp; omega) (by rw [List.length_drop]; simp; omega) _ _ _ _ _ ⟨hu.le (by (try dsimp only); omega), UnderT.le hut (by (try dsimp only); omega)⟩ ?_ ?_
        · intro n' w0 w1 w2 w3 g1 g2; exact hk1 n' w0 w1 w2 w3 (by dsimp only at g1; omega) g2
        · intro n' w0 w1 w2 w3 w4 g1 g2; exact hk2 n' w0 w1 w2 w3 w4 (by dsimp only at g1; omega) g2

theorem valid_F (s : List UInt8) (hl : s.length ≤ 60000) : Pe 35 [.str s] (.bool (validF s)) := by
  intro h hf K hk
  obtain ⟨hu, hut⟩ := hf
  have hD : ∀ m, h.next ≤ m → dropEnts h.ents m = h.ents := fun m hm => dropEnts_under (hu.le hm)
  have hC : ∀ m, h.next ≤ m → dropCells h.ents m = h.ents := fun m hm => dropCells_under (hu.le hm)
  have hN : ∀ q, h.next ≤ q → getEnt h.ents q = none := fun q hq => getEnt_under hu hq
  have hT : ∀ q, h.next ≤ q → lookupN h.tys q = none := fun q hq => lookupN_under hut hq
  refine Wc.mkG 35 c35 (by kernel_rfl) rfl ?_
  generalize e : entryC _ _ _ = r
  simp (disch := omega) [hD, hC, hN, hT, c35] at e
  subst e
  repeat (first
    | refine W.seq ?_
    | refine W.block ?_
    | ((first | refine W.regG ?_ | refine WoR.go ?_); generalize e : goR _ _ _ _ _ _ _ _ = r; simp (disch := omega) [hD, hC, hN, hT, c35] at e; replace e : some _ = _ := e; subst e; (try dsimp only [goW]))
    | refine W.cond_true rfl ?_
    | refine W.cond_false rfl ?_
    | refine W.skip ?_
    | refine W.exit ?_)
  refine valid_loop _ s.length s (Nat.le_refl _) hl _ _ _ _ _ ⟨hu.le (by (try dsimp only); omega), UnderT.le hut (by (try dsimp only); omega)⟩ ?_ ?_
  · intro n' w0 w1 w2 w3 g1 g2
    try dsimp only at g1
    rw [g2] at hk
    try simp only [outOf, thenW_ret, roundW]
    refine endW.of (.inl rfl) rfl ?_
    generalize e : endsC _ _ _ = r
    simp (disch := omega) [hD, hC, hN, hT, c35] at e
    subst e
    (try dsimp only)
    refine hk _ ?_
    omega
  · intro n' w0 w1 w2 w3 w4 g1 g2
    try dsimp only at g1
    rw [g2] at hk
    repeat (first
      | refine W.seq ?_
      | refine W.block ?_
      | ((first | refine W.regG ?_ | refine WoR.go ?_); generalize e : goR _ _ _ _ _ _ _ _ = r; simp (disch := omega) [hD, hC, hN, hT, c35] at e; replace e : some _ = _ := e; subst e; (try dsimp only [goW]))
      | refine W.cond_true rfl ?_
      | refine W.cond_false rfl ?_
      | refine W.skip ?_
      | refine W.exit ?_
      | ((first | (refine W.ret ?_; (try simp only [outOf, thenW_ret, roundW]); refine endW.of (.inl rfl) rfl ?_) | refine endW.of (.inr rfl) rfl ?_); generalize e : endsC _ _ _ = r; simp (disch := omega) [hD, hC, hN, hT, c35] at e; subst e; (try dsimp only [goW]); (refine hk _ ?_; omega)))
end Go.Proofs.YthblmflngjofjaaDoor.IrP
