/- What the functions of the law 'WordPlaces' do: part 17. -/
import Derived.Test.YthblmflngjofjaaDoorLxPO
namespace Go.Proofs.YthblmflngjofjaaDoor.IrP
open Go Go.CI
open Go.LexF hiding spacesB lettersB
set_option maxRecDepth 100000
set_option linter.unusedVariables false
set_option linter.unusedSimpArgs false
attribute [local irreducible] W Wo Wc WoR
attribute [local simp] goR regOut checkOne swapOne sameAt nthOp CVal.beq beqs CVal.block storesTo entryC evalOps evalOper evalE evalP evalL evalOpnd nth setNth COp.cls COp.isStore CVal.isUndef CVal.whole CVal.cells CHeap.put CHeap.get CHeap.set wantedC getEnt setEnt partOf writeBack evalBin evalInt evalStr blockMost initVar descOf List.take List.drop CVal.lenOf CVal.isStr CVal.bare CVal.strip CVal.flat endsC resultsC oneOrTuple finishC cut fillCells setCells szOf szOf_desc elems bytesOf evalAppend fillElems mkElem setElem List.replicate sy_nbeq sy_neqF sy_leT sy_leF sy_setEnt_setEnt dropped sy_wrap64 dropEnts dropCells sizeMost sy_ibeqF sy_ieqF sy_ileT sy_ileF sy_iltT sy_iltF sy_ltT sy_ltF evalSlc optBound eqVal extL extE keyIs findKV nthKV setKV CHeap.ty lookupN CHeap.note CHeap.tyOk dropAll freezeVal freezeAll freezeFlat pCopyCheck pBString pMakeNoZero pIndexByte pClone pIndex hasPair rowOf byteVals idxFrom hasFront idxSub

theorem bits_u32 {a b : Nat} (ha : a < 4294967296) (hb : b < 4294967296) : evalBits .and .u32 (a : Int) (b : Int) = some (.int .u32 ((a &&& b : Nat) : Int)) ∧ evalBits .or .u32 (a : Int) (b : Int) = some (.int .u32 ((a ||| b : Nat) : Int)) := by
  have e1 : (BitVec.ofInt 32 (a : Int)).toNat = a := by rw [BitVec.ofInt_natCast, BitVec.toNat_ofNat]; exact Nat.mod_eq_of_lt ha
  have e2 : (BitVec.ofInt 32 (b : Int)).toNat = b := by rw [BitVec.ofInt_natCast, BitVec.toNat_ofNat]; exact Nat.mod_eq_of_lt hb
  have h1 : a &&& b < 4294967296 := Nat.lt_of_le_of_lt Nat.and_le_left ha
  have h2 : a ||| b < 2 ^ 32 := Nat.or_lt_two_pow ha hb
  have w : ∀ x : Nat, x < 4294967296 → IntKind.u32.wrap (x : Int) = x := fun x hx => by simp [IntKind.wrap, IntKind.bits, IntKind.signed]; omega
  constructor
  · show some (CVal.int .u32 (IntKind.u32.wrap ((BitVec.ofInt 32 (a : Int) &&& BitVec.ofInt 32 (b : Int)).toNat))) = _
    rw [BitVec.toNat_and, e1, e2, w _ h1]
  · show some (CVal.int .u32 (IntKind.u32.wrap ((BitVec.ofInt 32 (a : Int) ||| BitVec.ofInt 32 (b : Int)).toNat))) = _
    rw [BitVec.toNat_or, e1, e2, w _ h2]
theorem and_u8 {a b : Nat} (ha : a < 256) (hb : b < 256) : evalBits .and .u8 (a : Int) (b : Int) = some (.int .u8 ((a &&& b : Nat) : Int)) := by
  have e1 : (BitVec.ofInt 8 (a : Int)).toNat = a := by rw [BitVec.ofInt_natCast, BitVec.toNat_ofNat]; exact Nat.mod_eq_of_lt ha
  have e2 : (BitVec.ofInt 8 (b : Int)).toNat = b := by rw [BitVec.ofInt_natCast, BitVec.toNat_ofNat]; exact Nat.mod_eq_of_lt hb
  have h1 : a &&& b < 256 := Nat.lt_of_le_of_lt Nat.and_le_left ha
  show some (CVal.int .u8 (IntKind.u8.wrap ((BitVec.ofInt 8 (a : Int) &&& BitVec.ofInt 8 (b : Int)).toNat))) = _
  rw [BitVec.toNat_and, e1, e2]
  simp [IntKind.wrap, IntKind.bits, IntKind.signed]
  try omega
theorem sy_wrapu32 {x : Int} (h : 0 ≤ x) (h2 : x < 4294967296) : IntKind.u32.wrap x = x := by
  simp [IntKind.wrap, IntKind.bits, IntKind.signed] <;> omega
theorem and63 {x y : Nat} (hx : x < 4294967296) (hy : x % 64 = y) : evalBits .and .u32 (x : Int) 63 = some (.int .u32 (y : Int)) := by
  rw [show (63 : Int) = ((63 : Nat) : Int) from rfl, (bits_u32 hx (by decide)).1, show (63 : Nat) = 2 ^ 6 - 1 from rfl, Nat.and_two_pow_sub_one_eq_mod]
  rw [← hy]
theorem and8 {x y : Nat} (k : Nat) (m : Int) (hm : m = ((2 ^ k - 1 : Nat) : Int)) (hk : 2 ^ k - 1 < 256) (hx : x < 256) (hy : x % 2 ^ k = y) : evalBits .and .u8 (x : Int) m = some (.int .u8 (y : Int)) := by
  rw [hm, and_u8 hx hk, Nat.and_two_pow_sub_one_eq_mod, hy]
theorem or32 {c s v w : Nat} (m : Int) (hm : m = ((c * 2 ^ s : Nat) : Int)) (hv : v < 2 ^ s) (hc : c * 2 ^ s < 4294967296) (hs : 2 ^ s ≤ 4294967296) (hw : c * 2 ^ s + v = w) : evalBits .or .u32 m (v : Int) = some (.int .u32 (w : Int)) := by
  rw [hm, (bits_u32 hc (by omega)).2, Nat.or_comm, or_low hv, Nat.add_comm, hw]
theorem hbits32 : IntKind.u32.bits = 32 := rfl
theorem hbits8 : IntKind.u8.bits = 8 := rfl
theorem fdiv_nat {x k y : Nat} (h : x / k = y) : Int.fdiv (x : Int) (k : Int) = (y : Int) := by
  rw [Int.fdiv_eq_ediv_of_nonneg _ (by omega), ← h]; rfl
/-- A code point's bytes. -/
def putB (x : Nat) : List UInt8 :=
  if x < 128 then [UInt8.ofNat x] else if x < 2048 then [UInt8.ofNat (192 + x / 64), UInt8.ofNat (128 + x % 64)]
  else if 55296 ≤ x ∧ x < 57344 ∨ 1114111 < x then [239, 191, 189]
  else if x < 65536 then [UInt8.ofNat (224 + x / 4096), UInt8.ofNat (128 + x / 64 % 64), UInt8.ofNat (128 + x % 64)]
  else [UInt8.ofNat (240 + x / 262144), UInt8.ofNat (128 + x / 4096 % 64), UInt8.ofNat (128 + x / 64 % 64), UInt8.ofNat (128 + x % 64)]

theorem put_1 (x : Nat) (hx : x < 128) : Pe 63 [.int .u32 (x : Int)] (.str [UInt8.ofNat x]) := by
  intro h hf K hk
  obtain ⟨hu, hut⟩ := hf
  have hD : ∀ m, h.next ≤ m → dropEnts h.ents m = h.ents := fun m hm => dropEnts_under (hu.le hm)
  have hC : ∀ m, h.next ≤ m → dropCells h.ents m = h.ents := fun m hm => dropCells_under (hu.le hm)
  have hN : ∀ q, h.next ≤ q → getEnt h.ents q = none := fun q hq => getEnt_under hu hq
  have hT : ∀ q, h.next ≤ q → lookupN h.tys q = none := fun q hq => lookupN_under hut hq

  refine Wc.mkG 63 c63 (by kernel_rfl) rfl ?_
  generalize e : entryC _ _ _ = r
  simp (disch := omega) [hD, hC, hN, hT, sy_wrapu32, sy_wrapu8, c63] at e
  subst e
  repeat (first
    | refine W.seq ?_
    | refine W.block ?_
    | ((first | refine W.regG ?_ | refine WoR.go ?_); generalize e : goR _ _ _ _ _ _ _ _ = r; simp (disch := omega) [hD, hC, hN, hT, sy_wrapu32, sy_wrapu8, c70, c63] at e; replace e : some _ = _ := e; subst e; (try dsimp only [goW]))
    | refine W.cond_true rfl ?_
    | refine W.cond_false rfl ?_
    | refine W.skip ?_
    | refine W.exit ?_
    | (refine W.loop ?_; try (generalize e : dropped _ _ _ = r; simp (disch := omega) [hD, hC, hN, hT, sy_wrapu32, sy_wrapu8, c70, c63] at e; subst e; try dsimp only))
    | (refine Wc.mkG 70 c70 (by kernel_rfl) rfl ?_; generalize e : entryC _ _ _ = r; simp (disch := omega) [hD, hC, hN, hT, sy_wrapu32, sy_wrapu8, c70, c63] at e; subst e)
    | ((first | (refine W.ret ?_; (try simp only [outOf, thenW_ret, roundW]); refine endW.of (.inl rfl) rfl ?_) | refine endW.of (.inr rfl) rfl ?_); generalize e : endsC _ _ _ = r; simp (disch := omega) [hD, hC, hN, hT, sy_wrapu32, sy_wrapu8, c70, c63] at e; subst e; (try dsimp only [goW]); (first | refine ⟨rfl, ?_⟩ | (refine hk _ ?_; omega))))

set_option maxHeartbeats 2000000 in
theorem put_2 (x : Nat) (hx : 128 ≤ x) (hx2 : x < 2048) : Pe 63 [.int .u32 (x : Int)] (.str [UInt8.ofNat (192 + x / 64), UInt8.ofNat (128 + x % 64)]) := by
  intro h hf K hk
  obtain ⟨hu, hut⟩ := hf
  have hD : ∀ m, h.next ≤ m → dropEnts h.ents m = h.ents := fun m hm => dropEnts_under (hu.le hm)
  have hC : ∀ m, h.next ≤ m → dropCells h.ents m = h.ents := fun m hm => dropCells_under (hu.le hm)
  have hN : ∀ q, h.next ≤ q → getEnt h.ents q = none := fun q hq => getEnt_under hu hq
  have hT : ∀ q, h.next ≤ q → lookupN h.tys q = none := fun q hq => lookupN_under hut hq
  obtain ⟨yl, hyl⟩ : ∃ q : Nat, x / 64 = q := ⟨_, rfl⟩
  have fl : Int.fdiv (x : Int) 64 = (yl : Int) := fdiv_nat hyl
  obtain ⟨wl, hwl⟩ : ∃ q : Nat, 192 + yl = q := ⟨_, rfl⟩
  have ol : evalBits .or .u32 192 (yl : Int) = some (.int .u32 (wl : Int)) := or32 (c := 3) (s := 6) 192 rfl (by omega) (by decide) (by decide) hwl
  have f0 : Int.fdiv (x : Int) 1 = (x : Int) := fdiv_nat (k := 1) (Nat.div_one x)
  obtain ⟨z0, hz0⟩ : ∃ q : Nat, x % 64 = q := ⟨_, rfl⟩
  have a0 : evalBits .and .u32 (x : Int) 63 = some (.int .u32 (z0 : Int)) := and63 (by omega) hz0
  obtain ⟨w0, hw0⟩ : ∃ q : Nat, 128 + z0 = q := ⟨_, rfl⟩
  have o0 : evalBits .or .u32 128 (z0 : Int) = some (.int .u32 (w0 : Int)) := or32 (c := 2) (s := 6) 128 rfl (by omega) (by decide) (by decide) hw0
  have hres : [UInt8.ofNat (192 + x / 64), UInt8.ofNat (128 + x % 64)] = [UInt8.ofNat wl, UInt8.ofNat w0] := by rw [← hwl, ← hyl, ← hw0, ← hz0]

  refine Wc.mkG 63 c63 (by kernel_rfl) rfl ?_
  generalize e : entryC _ _ _ = r
  simp (disch := omega) [hD, hC, hN, hT, fl, ol, f0, a0, o0, sy_wrapu32, sy_wrapu8, hbits32, hbits8, c63] at e
  subst e
  repeat (first
    | refine W.seq ?_
    | refine W.block ?_
    | ((first | refine W.regG ?_ | refine WoR.go ?_); generalize e : goR _ _ _ _ _ _ _ _ = r; simp (disch := omega) [hD, hC, hN, hT, fl, ol, f0, a0, o0, sy_wrapu32, sy_wrapu8, hbits32, hbits8, c70, c63] at e; replace e : some _ = _ := e; subst e; (try dsimp only [goW]))
    | refine W.cond_true rfl ?_
    | refine W.cond_false rfl ?_
    | refine W.skip ?_
    | refine W.exit ?_
    | (refine W.loop ?_; try (generalize e : dropped _ _ _ = r; simp (disch := omega) [hD, hC, hN, hT, fl, ol, f0, a0, o0, sy_wrapu32, sy_wrapu8, hbits32, hbits8, c70, c63] at e; subst e; try dsimp only))
    | (refine Wc.mkG 70 c70 (by kernel_rfl) rfl ?_; generalize e : entryC _ _ _ = r; simp (disch := omega) [hD, hC, hN, hT, fl, ol, f0, a0, o0, sy_wrapu32, sy_wrapu8, hbits32, hbits8, c70, c63] at e; subst e)
    | ((first | (refine W.ret ?_; (try simp only [outOf, thenW_ret, roundW]); refine endW.of (.inl rfl) rfl ?_) | refine endW.of (.inr rfl) rfl ?_); generalize e : endsC _ _ _ = r; simp (disch := omega) [hD, hC, hN, hT, fl, ol, f0, a0, o0, sy_wrapu32, sy_wrapu8, hbits32, hbits8, c70, c63] at e; subst e; (try dsimp only [goW]); (first | refine ⟨rfl, ?_⟩ | ((try simp only [hres] at hk); refine hk _ ?_; omega))))

set_option maxHeartbeats 2000000 in
theorem put_3a (x : Nat) (hx : 2048 ≤ x) (hx2 : x < 55296) : Pe 63 [.int .u32 (x : Int)] (.str [UInt8.ofNat (224 + x / 4096), UInt8.ofNat (128 + x / 64 % 64), UInt8.ofNat (128 + x % 64)]) := by
  intro h hf K hk
  obtain ⟨hu, hut⟩ := hf
  have hD : ∀ m, h.next ≤ m → dropEnts h.ents m = h.ents := fun m hm => dropEnts_under (hu.le hm)
  have hC : ∀ m, h.next ≤ m → dropCells h.ents m = h.ents := fun m hm => dropCells_under (hu.le hm)
  have hN : ∀ q, h.next ≤ q → getEnt h.ents q = none := fun q hq => getEnt_under hu hq
  have hT : ∀ q, h.next ≤ q → lookupN h.tys q = none := fun q hq => lookupN_under hut hq
  obtain ⟨yl, hyl⟩ : ∃ q : Nat, x / 4096 = q := ⟨_, rfl⟩
  have fl : Int.fdiv (x : Int) 4096 = (yl : Int) := fdiv_nat hyl
  obtain ⟨wl, hwl⟩ : ∃ q : Nat, 224 + yl = q := ⟨_, rfl⟩
  have ol : evalBits .or .u32 224 (yl : Int) = some (.int .u32 (wl : Int)) := or32 (c := 7) (s := 5) 224 rfl (by omega) (by decide) (by decide) hwl
  obtain ⟨y6, hy6⟩ : ∃ q : Nat, x / 64 = q := ⟨_, rfl⟩
  have f6 : Int.fdiv (x : Int) 64 = (y6 : Int) := fdiv_nat hy6
  obtain ⟨z6, hz6⟩ : ∃ q : Nat, y6 % 64 = q := ⟨_, rfl⟩
  have a6 : evalBits .and .u32 (y6 : Int) 63 = some (.int .u32 (z6 : Int)) := and63 (by omega) hz6
  obtain ⟨w6, hw6⟩ : ∃ q : Nat, 128 + z6 = q := ⟨_, rfl⟩
  have o6 : evalBits .or .u32 128 (z6 : Int) = some (.int .u32 (w6 : Int)) := or32 (c := 2) (s := 6) 128 rfl (by omega) (by decide) (by decide) hw6
  have f0 : Int.fdiv (x : Int) 1 = (x : Int) := fdiv_nat (k := 1) (Nat.div_one x)
  obtain ⟨z0, hz0⟩ : ∃ q : Nat, x % 64 = q := ⟨_, rfl⟩
  have a0 : evalBits .and .u32 (x : Int) 63 = some (.int .u32 (z0 : Int)) := and63 (by omega) hz0
  obtain ⟨w0, hw0⟩ : ∃ q : Nat, 128 + z0 = q := ⟨_, rfl⟩
  have o0 : evalBits .or .u32 128 (z0 : Int) = some (.int .u32 (w0 : Int)) := or32 (c := 2) (s := 6) 128 rfl (by omega) (by decide) (by decide) hw0
  have hres : [UInt8.ofNat (224 + x / 4096), UInt8.ofNat (128 + x / 64 % 64), UInt8.ofNat (128 + x % 64)] = [UInt8.ofNat wl, UInt8.ofNat w6, UInt8.ofNat w0] := by rw [← hwl, ← hyl, ← hw6, ← hz6, ← hy6, ← hw0, ← hz0]

  refine Wc.mkG 63 c63 (by kernel_rfl) rfl ?_
  generalize e : entryC _ _ _ = r
  simp (disch := omega) [hD, hC, hN, hT, fl, ol, f6, a6, o6, f0, a0, o0, sy_wrapu32, sy_wrapu8, hbits32, hbits8, c63] at e
  subst e
  repeat (first
    | refine W.seq ?_
    | refine W.block ?_
    | ((first | refine W.regG ?_ | refine WoR.go ?_); generalize e : goR _ _ _ _ _ _ _ _ = r; simp (disch := omega) [hD, hC, hN, hT, fl, ol, f6, a6, o6, f0, a0, o0, sy_wrapu32, sy_wrapu8, hbits32, hbits8, c70, c63] at e; replace e : some _ = _ := e; subst e; (try dsimp only [goW]))
    | refine W.cond_true rfl ?_
    | refine W.cond_false rfl ?_
    | refine W.skip ?_
    | refine W.exit ?_
    | (refine W.loop ?_; try (generalize e : dropped _ _ _ = r; simp (disch := omega) [hD, hC, hN, hT, fl, ol, f6, a6, o6, f0, a0, o0, sy_wrapu32, sy_wrapu8, hbits32, hbits8, c70, c63] at e; subst e; try dsimp only))
    | (refine Wc.mkG 70 c70 (by kernel_rfl) rfl ?_; generalize e : entryC _ _ _ = r; simp (disch := omega) [hD, hC, hN, hT, fl, ol, f6, a6, o6, f0, a0, o0, sy_wrapu32, sy_wrapu8, hbits32, hbits8, c70, c63] at e; subst e)
    | ((first | (refine W.ret ?_; (try simp only [outOf, thenW_ret, roundW]); refine endW.of (.inl rfl) rfl ?_) | refine endW.of (.inr rfl) rfl ?_); generalize e : endsC _ _ _ = r; simp (disch := omega) [hD, hC, hN, hT, fl, ol, f6, a6, o6, f0, a0, o0, sy_wrapu32, sy_wrapu8, hbits32, hbits8, c70, c63] at e; subst e; (try dsimp only [goW]); (first | refine ⟨rfl, ?_⟩ | ((try simp only [hres] at hk); refine hk _ ?_; omega))))

set_option maxHeartbeats 2000000 in
theorem put_3b (x : Nat) (hx : 57344 ≤ x) (hx2 : x < 65536) : Pe 63 [.int .u32 (x : Int)] (.str [UInt8.ofNat (224 + x / 4096), UInt8.ofNat (128 + x / 64 % 64), UInt8.ofNat (128 + x % 64)]) := by
  intro h hf K hk
  obtain ⟨hu, hut⟩ := hf
  have hD : ∀ m, h.next ≤ m → dropEnts h.ents m = h.ents := fun m hm => dropEnts_under (hu.le hm)
  have hC : ∀ m, h.next ≤ m → dropCells h.ents m = h.ents := fun m hm => dropCells_under (hu.le hm)
  have hN : ∀ q, h.next ≤ q → getEnt h.ents q = none := fun q hq => getEnt_under hu hq
  have hT : ∀ q, h.next ≤ q → lookupN h.tys q = none := fun q hq => lookupN_under hut hq
  obtain ⟨yl, hyl⟩ : ∃ q : Nat, x / 4096 = q := ⟨_, rfl⟩
  have fl : Int.fdiv (x : Int) 4096 = (yl : Int) := fdiv_nat hyl
  obtain ⟨wl, hwl⟩ : ∃ q : Nat, 224 + yl = q := ⟨_, rfl⟩
  have ol : evalBits .or .u32 224 (yl : Int) = some (.int .u32 (wl : Int)) := or32 (c := 7) (s := 5) 224 rfl (by omega) (by decide) (by decide) hwl
  obtain ⟨y6, hy6⟩ : ∃ q : Nat, x / 64 = q := ⟨_, rfl⟩
  have f6 : Int.fdiv (x : Int) 64 = (y6 : Int) := fdiv_nat hy6
  obtain ⟨z6, hz6⟩ : ∃ q : Nat, y6 % 64 = q := ⟨_, rfl⟩
  have a6 : evalBits .and .u32 (y6 : Int) 63 = some (.int .u32 (z6 : Int)) := and63 (by omega) hz6
  obtain ⟨w6, hw6⟩ : ∃ q : Nat, 128 + z6 = q := ⟨_, rfl⟩
  have o6 : evalBits .or .u32 128 (z6 : Int) = some (.int .u32 (w6 : Int)) := or32 (c := 2) (s := 6) 128 rfl (by omega) (by decide) (by decide) hw6
  have f0 : Int.fdiv (x : Int) 1 = (x : Int) := fdiv_nat (k := 1) (Nat.div_one x)
  obtain ⟨z0, hz0⟩ : ∃ q : Nat, x % 64 = q := ⟨_, rfl⟩
  have a0 : evalBits .and .u32 (x : Int) 63 = some (.int .u32 (z0 : Int)) := and63 (by omega) hz0
  obtain ⟨w0, hw0⟩ : ∃ q : Nat, 128 + z0 = q := ⟨_, rfl⟩
  have o0 : evalBits .or .u32 128 (z0 : Int) = some (.int .u32 (w0 : Int)) := or32 (c := 2) (s := 6) 128 rfl (by omega) (by decide) (by decide) hw0
  have hres : [UInt8.ofNat (224 + x / 4096), UInt8.ofNat (128 + x / 64 % 64), UInt8.ofNat (128 + x % 64)] = [UInt8.ofNat wl, UInt8.ofNat w6, UInt8.ofNat w0] := by rw [← hwl, ← hyl, ← hw6, ← hz6, ← hy6, ← hw0, ← hz0]

  refine Wc.mkG 63 c63 (by kernel_rfl) rfl ?_
  generalize e : entryC _ _ _ = r
  simp (disch := omega) [hD, hC, hN, hT, fl, ol, f6, a6, o6, f0, a0, o0, sy_wrapu32, sy_wrapu8, hbits32, hbits8, c63] at e
  subst e
  repeat (first
    | refine W.seq ?_
    | refine W.block ?_
    | ((first | refine W.regG ?_ | refine WoR.go ?_); generalize e : goR _ _ _ _ _ _ _ _ = r; simp (disch := omega) [hD, hC, hN, hT, fl, ol, f6, a6, o6, f0, a0, o0, sy_wrapu32, sy_wrapu8, hbits32, hbits8, c70, c63] at e; replace e : some _ = _ := e; subst e; (try dsimp only [goW]))
    | refine W.cond_true rfl ?_
    | refine W.cond_false rfl ?_
    | refine W.skip ?_
    | refine W.exit ?_
    | (refine W.loop ?_; try (generalize e : dropped _ _ _ = r; simp (disch := omega) [hD, hC, hN, hT, fl, ol, f6, a6, o6, f0, a0, o0, sy_wrapu32, sy_wrapu8, hbits32, hbits8, c70, c63] at e; subst e; try dsimp only))
    | (refine Wc.mkG 70 c70 (by kernel_rfl) rfl ?_; generalize e : entryC _ _ _ = r; simp (disch := omega) [hD, hC, hN, hT, fl, ol, f6, a6, o6, f0, a0, o0, sy_wrapu32, sy_wrapu8, hbits32, hbits8, c70, c63] at e; subst e)
    | ((first | (refine W.ret ?_; (try simp only [outOf, thenW_ret, roundW]); refine endW.of (.inl rfl) rfl ?_) | refine endW.of (.inr rfl) rfl ?_); generalize e : endsC _ _ _ = r; simp (disch := omega) [hD, hC, hN, hT, fl, ol, f6, a6, o6, f0, a0, o0, sy_wrapu32, sy_wrapu8, hbits32, hbits8, c70, c63] at e; subst e; (try dsimp only [goW]); (first | refine ⟨rfl, ?_⟩ | ((try simp only [hres] at hk); refine hk _ ?_; omega))))

set_option maxHeartbeats 2000000 in
theorem put_4 (x : Nat) (hx : 65536 ≤ x) (hx2 : x ≤ 1114111) : Pe 63 [.int .u32 (x : Int)] (.str [UInt8.ofNat (240 + x / 262144), UInt8.ofNat (128 + x / 4096 % 64), UInt8.ofNat (128 + x / 64 % 64), UInt8.ofNat (128 + x % 64)]) := by
  intro h hf K hk
  obtain ⟨hu, hut⟩ := hf
  have hD : ∀ m, h.next ≤ m → dropEnts h.ents m = h.ents := fun m hm => dropEnts_under (hu.le hm)
  have hC : ∀ m, h.next ≤ m → dropCells h.ents m = h.ents := fun m hm => dropCells_under (hu.le hm)
  have hN : ∀ q, h.next ≤ q → getEnt h.ents q = none := fun q hq => getEnt_under hu hq
  have hT : ∀ q, h.next ≤ q → lookupN h.tys q = none := fun q hq => lookupN_under hut hq
  obtain ⟨yl, hyl⟩ : ∃ q : Nat, x / 262144 = q := ⟨_, rfl⟩
  have fl : Int.fdiv (x : Int) 262144 = (yl : Int) := fdiv_nat hyl
  obtain ⟨wl, hwl⟩ : ∃ q : Nat, 240 + yl = q := ⟨_, rfl⟩
  have ol : evalBits .or .u32 240 (yl : Int) = some (.int .u32 (wl : Int)) := or32 (c := 15) (s := 4) 240 rfl (by omega) (by decide) (by decide) hwl
  obtain ⟨y12, hy12⟩ : ∃ q : Nat, x / 4096 = q := ⟨_, rfl⟩
  have f12 : Int.fdiv (x : Int) 4096 = (y12 : Int) := fdiv_nat hy12
  obtain ⟨z12, hz12⟩ : ∃ q : Nat, y12 % 64 = q := ⟨_, rfl⟩
  have a12 : evalBits .and .u32 (y12 : Int) 63 = some (.int .u32 (z12 : Int)) := and63 (by omega) hz12
  obtain ⟨w12, hw12⟩ : ∃ q : Nat, 128 + z12 = q := ⟨_, rfl⟩
  have o12 : evalBits .or .u32 128 (z12 : Int) = some (.int .u32 (w12 : Int)) := or32 (c := 2) (s := 6) 128 rfl (by omega) (by decide) (by decide) hw12
  obtain ⟨y6, hy6⟩ : ∃ q : Nat, x / 64 = q := ⟨_, rfl⟩
  have f6 : Int.fdiv (x : Int) 64 = (y6 : Int) := fdiv_nat hy6
  obtain ⟨z6, hz6⟩ : ∃ q : Nat, y6 % 64 = q := ⟨_, rfl⟩
  have a6 : evalBits .and .u32 (y6 : Int) 63 = some (.int .u32 (z6 : Int)) := and63 (by omega) hz6
  obtain ⟨w6, hw6⟩ : ∃ q : Nat, 128 + z6 = q := ⟨_, rfl⟩
  have o6 : evalBits .or .u32 128 (z6 : Int) = some (.int .u32 (w6 : Int)) := or32 (c := 2) (s := 6) 128 rfl (by omega) (by decide) (by decide) hw6
  have f0 : Int.fdiv (x : Int) 1 = (x : Int) := fdiv_nat (k := 1) (Nat.div_one x)
  obtain ⟨z0, hz0⟩ : ∃ q : Nat, x % 64 = q := ⟨_, rfl⟩
  have a0 : evalBits .and .u32 (x : Int) 63 = some (.int .u32 (z0 : Int)) := and63 (by omega) hz0
  obtain ⟨w0, hw0⟩ : ∃ q : Nat, 128 + z0 = q := ⟨_, rfl⟩
  have o0 : evalBits .or .u32 128 (z0 : Int) = some (.int .u32 (w0 : Int)) := or32 (c := 2) (s := 6) 128 rfl (by omega) (by decide) (by decide) hw0
  have hres : [UInt8.ofNat (240 + x / 262144), UInt8.ofNat (128 + x / 4096 % 64), UInt8.ofNat (128 + x / 64 % 64), UInt8.ofNat (128 + x % 64)] = [UInt8.ofNat wl, UInt8.ofNat w12, UInt8.ofNat w6, UInt8.ofNat w0] := by rw [← hwl, ← hyl, ← hw12, ← hz12, ← hy12, ← hw6, ← hz6, ← hy6, ← hw0, ← hz0]

  refine Wc.mkG 63 c63 (by kernel_rfl) rfl ?_
  generalize e : entryC _ _ _ = r
  simp (disch := omega) [hD, hC, hN, hT, fl, ol, f12, a12, o12, f6, a6, o6, f0, a0, o0, sy_wrapu32, sy_wrapu8, hbits32, hbits8, c63] at e
  subst e
  repeat (first
    | refine W.seq ?_
    | refine W.block ?_
    | ((first | refine W.regG ?_ | refine WoR.go ?_); generalize e : goR _ _ _ _ _ _ _ _ = r; simp (disch := omega) [hD, hC, hN, hT, fl, ol, f12, a12, o12, f6, a6, o6, f0, a0, o0, sy_wrapu32, sy_wrapu8, hbits32, hbits8, c70, c63] at e; replace e : some _ = _ := e; subst e; (try dsimp only [goW]))
    | refine W.cond_true rfl ?_
    | refine W.cond_false rfl ?_
    | refine W.skip ?_
    | refine W.exit ?_
    | (refine W.loop ?_; try (generalize e : dropped _ _ _ = r; simp (disch := omega) [hD, hC, hN, hT, fl, ol, f12, a12, o12, f6, a6, o6, f0, a0, o0, sy_wrapu32, sy_wrapu8, hbits32, hbits8, c70, c63] at e; subst e; try dsimp only))
    | (refine Wc.mkG 70 c70 (by kernel_rfl) rfl ?_; generalize e : entryC _ _ _ = r; simp (disch := omega) [hD, hC, hN, hT, fl, ol, f12, a12, o12, f6, a6, o6, f0, a0, o0, sy_wrapu32, sy_wrapu8, hbits32, hbits8, c70, c63] at e; subst e)
    | ((first | (refine W.ret ?_; (try simp only [outOf, thenW_ret, roundW]); refine endW.of (.inl rfl) rfl ?_) | refine endW.of (.inr rfl) rfl ?_); generalize e : endsC _ _ _ = r; simp (disch := omega) [hD, hC, hN, hT, fl, ol, f12, a12, o12, f6, a6, o6, f0, a0, o0, sy_wrapu32, sy_wrapu8, hbits32, hbits8, c70, c63] at e; subst e; (try dsimp only [goW]); (first | refine ⟨rfl, ?_⟩ | ((try simp only [hres] at hk); refine hk _ ?_; omega))))

theorem put_s (x : Nat) (hx : 55296 ≤ x) (hx2 : x < 57344) : Pe 63 [.int .u32 (x : Int)] (.str [239, 191, 189]) := by
  intro h hf K hk
  obtain ⟨hu, hut⟩ := hf
  have hD : ∀ m, h.next ≤ m → dropEnts h.ents m = h.ents := fun m hm => dropEnts_under (hu.le hm)
  have hC : ∀ m, h.next ≤ m → dropCells h.ents m = h.ents := fun m hm => dropCells_under (hu.le hm)
  have hN : ∀ q, h.next ≤ q → getEnt h.ents q = none := fun q hq => getEnt_under hu hq
  have hT : ∀ q, h.next ≤ q → lookupN h.tys q = none := fun q hq => lookupN_under hut hq

  refine Wc.mkG 63 c63 (by kernel_rfl) rfl ?_
  generalize e : entryC _ _ _ = r
  simp (disch := omega) [hD, hC, hN, hT, c63] at e
  subst e
  repeat (first
    | refine W.seq ?_
    | refine W.block ?_
    | ((first | refine W.regG ?_ | refine WoR.go ?_); generalize e : goR _ _ _ _ _ _ _ _ = r; simp (disch := omega) [hD, hC, hN, hT, c63] at e; replace e : some _ = _ := e; subst e; (try dsimp only [goW]))
    | refine W.cond_true rfl ?_
    | refine W.cond_false rfl ?_
    | refine W.skip ?_
    | refine W.exit ?_
    | (refine W.loop ?_; try (generalize e : dropped _ _ _ = r; simp (disch := omega) [hD, hC, hN, hT, c63] at e; subst e; try dsimp only))
    | (refine put_3b 65533 (by decide) (by decide) _ ?_ _ fun n1 hn1 => ⟨rfl, ?_⟩; (focus (((refine ⟨?_, ?_⟩; (focus ((repeat (first | exact hu.le (by (try dsimp only); omega) | exact hu.set.le (by (try dsimp only); omega) | refine Under.cons (by (try dsimp only); omega) ?_ | exact Under.nil)); done)); (focus ((repeat (first | exact hut.le (by (try dsimp only); omega) | refine UnderT.cons (by (try dsimp only); omega) ?_ | exact UnderT.nil | assumption | exact UnderT.le (by assumption) (by (try dsimp only); omega))); done)))); done)); (try dsimp only at hn1))
    | ((first | (refine W.ret ?_; (try simp only [outOf, thenW_ret, roundW]); refine endW.of (.inl rfl) rfl ?_) | refine endW.of (.inr rfl) rfl ?_); generalize e : endsC _ _ _ = r; simp (disch := omega) [hD, hC, hN, hT, c63] at e; subst e; (try dsimp only [goW]); (refine hk _ ?_; omega)))

theorem put_g (x : Nat) (hx : 1114111 < x) (hx2 : x < 4294967296) : Pe 63 [.int .u32 (x : Int)] (.str [239, 191, 189]) := by
  intro h hf K hk
  obtain ⟨hu, hut⟩ := hf
  have hD : ∀ m, h.next ≤ m → dropEnts h.ents m = h.ents := fun m hm => dropEnts_under (hu.le hm)
  have hC : ∀ m, h.next ≤ m → dropCells h.ents m = h.ents := fun m hm => dropCells_under (hu.le hm)
  have hN : ∀ q, h.next ≤ q → getEnt h.ents q = none := fun q hq => getEnt_under hu hq
  have hT : ∀ q, h.next ≤ q → lookupN h.tys q = none := fun q hq => lookupN_under hut hq

  refine Wc.mkG 63 c63 (by kernel_rfl) rfl ?_
  generalize e : entryC _ _ _ = r
  simp (disch := omega) [hD, hC, hN, hT, c63] at e
  subst e
  repeat (first
    | refine W.seq ?_
    | refine W.block ?_
    | ((first | refine W.regG ?_ | refine WoR.go ?_); generalize e : goR _ _ _ _ _ _ _ _ = r; simp (disch := omega) [hD, hC, hN, hT, c63] at e; replace e : some _ = _ := e; subst e; (try dsimp only [goW]))
    | refine W.cond_true rfl ?_
    | refine W.cond_false rfl ?_
    | refine W.skip ?_
    | refine W.exit ?_
    | (refine W.loop ?_; try (generalize e : dropped _ _ _ = r; simp (disch := omega) [hD, hC, hN, hT, c63] at e; subst e; try dsimp only))
    | (refine put_3b 65533 (by decide) (by decide) _ ?_ _ fun n1 hn1 => ⟨rfl, ?_⟩; (focus (((refine ⟨?_, ?_⟩; (focus ((repeat (first | exact hu.le (by (try dsimp only); omega) | exact hu.set.le (by (try dsimp only); omega) | refine Under.cons (by (try dsimp only); omega) ?_ | exact Under.nil)); done)); (focus ((repeat (first | exact hut.le (by (try dsimp only); omega) | refine UnderT.cons (by (try dsimp only); omega) ?_ | exact UnderT.nil | assumption | exact UnderT.le (by assumption) (by (try dsimp only); omega))); done)))); done)); (try dsimp only at hn1))
    | ((first | (refine W.ret ?_; (try simp only [outOf, thenW_ret, roundW]); refine endW.of (.inl rfl) rfl ?_) | refine endW.of (.inr rfl) rfl ?_); generalize e : endsC _ _ _ = r; simp (disch := omega) [hD, hC, hN, hT, c63] at e; subst e; (try dsimp only [goW]); (refine hk _ ?_; omega)))

theorem put_F (x : Nat) (hx : x < 4294967296) : Pe 63 [.int .u32 (x : Int)] (.str (putB x)) := by
  unfold putB
  split
  · exact put_1 x (by omega)
  · split
    · exact put_2 x (by omega) (by omega)
    · split
      · rename_i h
        rcases h with h | h
        · exact put_s x h.1 h.2
        · exact put_g x h hx
      · split
        · rcases Nat.lt_or_ge x 55296 with h | h
          · exact put_3a x (by omega) h
          · exact put_3b x (by omega) (by omega)
        · exact put_4 x (by omega) (by omega)
end Go.Proofs.YthblmflngjofjaaDoor.IrP
