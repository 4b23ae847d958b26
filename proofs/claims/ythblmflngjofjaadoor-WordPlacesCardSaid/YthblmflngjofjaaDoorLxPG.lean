/- What the functions of the law 'WordPlaces' do: part 8. -/
import Derived.Test.YthblmflngjofjaaDoorLxPF
namespace Go.Proofs.YthblmflngjofjaaDoor.IrP
open Go Go.CI
open Go.LexF hiding spacesB lettersB
set_option maxRecDepth 100000
set_option linter.unusedVariables false
set_option linter.unusedSimpArgs false
attribute [local irreducible] W Wo Wc WoR
attribute [local simp] goR regOut checkOne swapOne sameAt nthOp CVal.beq beqs CVal.block storesTo entryC evalOps evalOper evalE evalP evalL evalOpnd nth setNth COp.cls COp.isStore CVal.isUndef CVal.whole CVal.cells CHeap.put CHeap.get CHeap.set wantedC getEnt setEnt partOf writeBack evalBin evalInt evalStr blockMost initVar descOf List.take List.drop CVal.lenOf CVal.isStr CVal.bare CVal.strip CVal.flat endsC resultsC oneOrTuple finishC cut fillCells setCells szOf szOf_desc elems bytesOf evalAppend fillElems mkElem setElem List.replicate sy_nbeq sy_neqF sy_leT sy_leF sy_setEnt_setEnt dropped sy_wrap64 dropEnts dropCells sizeMost sy_ibeqF sy_ieqF sy_ileT sy_ileF sy_iltT sy_iltF sy_ltT sy_ltF evalSlc optBound eqVal extL extE keyIs findKV nthKV setKV CHeap.ty lookupN CHeap.note CHeap.tyOk dropAll freezeVal freezeAll freezeFlat pCopyCheck pBString pMakeNoZero pIndexByte pClone pIndex hasPair rowOf byteVals idxFrom hasFront idxSub

def okF (B : Nat) (c : UInt8) : Prop := (48 ≤ c.toNat ∧ c.toNat ≤ 57 ∨ 65 ≤ c.toNat ∧ c.toNat ≤ 70 ∨ 97 ≤ c.toNat ∧ c.toNat ≤ 102) ∧ digF c < B
theorem valF_le (B : Nat) (hB : 1 ≤ B) : ∀ (r : List UInt8) (n : Nat), n ≤ valF B n r
  | [], n => Nat.le_refl _
  | c :: r, n => by
    have h1 := valF_le B hB r (n * B + digF c)
    have h2 : n * 1 ≤ n * B := Nat.mul_le_mul_left _ hB
    show n ≤ valF B (n * B + digF c) r
    omega
def lowF (c : UInt8) : Nat := if c.toNat ≤ 70 then c.toNat + 32 else c.toNat
theorem lower_or (c : UInt8) (hc : 65 ≤ c.toNat ∧ c.toNat ≤ 70 ∨ 97 ≤ c.toNat ∧ c.toNat ≤ 102) : evalBits .or .u8 (c.toNat : Int) 32 = some (.int .u8 (lowF c : Int)) := by
  unfold lowF
  have hx : c.toNat = 65 ∨ c.toNat = 66 ∨ c.toNat = 67 ∨ c.toNat = 68 ∨ c.toNat = 69 ∨ c.toNat = 70 ∨ c.toNat = 97 ∨ c.toNat = 98 ∨ c.toNat = 99 ∨ c.toNat = 100 ∨ c.toNat = 101 ∨ c.toNat = 102 := by omega
  rcases hx with h | h | h | h | h | h | h | h | h | h | h | h <;> rw [h] <;> rfl

theorem lower_F (c : UInt8) (hc : 65 ≤ c.toNat ∧ c.toNat ≤ 70 ∨ 97 ≤ c.toNat ∧ c.toNat ≤ 102) : Pu tree.getF 57 [.int .u8 (c.toNat : Int)] (.int .u8 (lowF c : Int)) := by
  intro h hf K hk
  obtain ⟨hu, hut⟩ := hf
  have hD : ∀ m, h.next ≤ m → dropEnts h.ents m = h.ents := fun m hm => dropEnts_under (hu.le hm)
  have hC : ∀ m, h.next ≤ m → dropCells h.ents m = h.ents := fun m hm => dropCells_under (hu.le hm)
  have hN : ∀ q, h.next ≤ q → getEnt h.ents q = none := fun q hq => getEnt_under hu hq
  have hT : ∀ q, h.next ≤ q → lookupN h.tys q = none := fun q hq => lookupN_under hut hq
  have ho := lower_or c hc

  refine Wc.mkG 57 c57 (by kernel_rfl) rfl ?_
  generalize e : entryC _ _ _ = r
  simp (disch := omega) [hD, hC, hN, hT, ho, c57] at e
  subst e
  repeat (first
    | refine W.seq ?_
    | refine W.block ?_
    | ((first | refine W.regG ?_ | refine WoR.go ?_); generalize e : goR _ _ _ _ _ _ _ _ = r; simp (disch := omega) [hD, hC, hN, hT, ho, c57] at e; replace e : some _ = _ := e; subst e; (try dsimp only [goW]))
    | refine W.cond_true rfl ?_
    | refine W.cond_false rfl ?_
    | refine W.skip ?_
    | refine W.exit ?_
    | (refine W.loop ?_; try (generalize e : dropped _ _ _ = r; simp (disch := omega) [hD, hC, hN, hT, ho, c57] at e; subst e; try dsimp only))
    | ((first | (refine W.ret ?_; (try simp only [outOf, thenW_ret, roundW]); refine endW.of (.inl rfl) rfl ?_) | refine endW.of (.inr rfl) rfl ?_); generalize e : endsC _ _ _ = r; simp (disch := omega) [hD, hC, hN, hT, ho, c57] at e; subst e; (try dsimp only [goW]); (refine hk _ _ ?_ ?_; omega; exact (by repeat (first | exact hut.le (by (try dsimp only); omega) | refine UnderT.cons (by (try dsimp only); omega) ?_ | exact UnderT.nil | assumption | exact UnderT.le (by assumption) (by (try dsimp only); omega))))))

abbrev parseLoop : CCode := (.loop true (.seq (.region [⟨.bin .lss (.var 15) (.var 16), none⟩] [(17, 0)] [] []) (.seq (.cond (.var 17) .skip (.exit 3)) (.seq (.block 4 (.seq (.region [⟨.idxAddr 1 (.var 18) (.var 15), none⟩, ⟨.load none (.loc 0), none⟩, ⟨.mv (.loc 0), none⟩] [(19, 2)] [] []) (.seq (.region [⟨.mv (.const (.int .u8 0)), none⟩] [(24, 0)] [] []) (.seq (.block 5 (.seq (.region [⟨.mv (.var 19), none⟩, ⟨.bin .eql (.loc 0) (.const (.int .u8 95)), none⟩, ⟨.mv (.loc 0), none⟩, ⟨.mv (.var 20), (some (0, true))⟩, ⟨.pick (.loc 1) (.loc 0) (.const (.bool false)), none⟩, ⟨.mv (.loc 0), none⟩] [(21, 5)] [] []) (.cond (.var 21) (.seq (.region [⟨.mv (.const (.bool true)), none⟩] [(32, 0)] [] []) (.exit 4)) (.seq (.region [⟨.mv (.var 19), none⟩, ⟨.bin .leq (.const (.int .u8 48)) (.loc 0), none⟩, ⟨.mv (.loc 0), none⟩, ⟨.mv (.var 19), (some (0, true))⟩, ⟨.bin .leq (.loc 0) (.const (.int .u8 57)), (some (1, true))⟩, ⟨.pick (.loc 2) (.loc 0) (.const (.bool false)), none⟩, ⟨.mv (.loc 0), none⟩] [(22, 6)] [] []) (.cond (.var 22) (.region [⟨.mv (.var 19), none⟩, ⟨.bin .sub (.loc 0) (.const (.int .u8 48)), none⟩, ⟨.mv (.loc 0), none⟩] [(24, 2)] [] []) (.seq (.region [⟨.mv (.var 19), none⟩, ⟨.call false 57 [(.loc 0)], none⟩, ⟨.bin .leq (.const (.int .u8 97)) (.loc 0), none⟩, ⟨.mv (.loc 0), none⟩, ⟨.mv (.var 19), (some (0, true))⟩, ⟨.call false 57 [(.loc 0)], (some (1, true))⟩, ⟨.bin .leq (.loc 0) (.const (.int .u8 122)), (some (2, true))⟩, ⟨.pick (.loc 3) (.loc 0) (.const (.bool false)), none⟩, ⟨.mv (.loc 0), none⟩] [(23, 8)] [] []) (.cond (.var 23) (.region [⟨.mv (.var 19), none⟩, ⟨.call false 57 [(.loc 0)], none⟩, ⟨.bin .sub (.loc 0) (.const (.int .u8 97)), none⟩, ⟨.bin .add (.loc 0) (.const (.int .u8 10)), none⟩, ⟨.mv (.loc 0), none⟩] [(24, 4)] [] []) (.seq (.region [⟨.ifc 78 (.const (.int .i64 2)), none⟩, ⟨.mv (.const (.int .u64 0)), none⟩, ⟨.mv (.loc 1), none⟩] [(35, 1), (36, 2)] [] []) .ret)))))))) (.seq (.seq (.region [⟨.mv (.var 24), none⟩, ⟨.mv (.var 2), none⟩, ⟨.conv .u8 (.loc 0), none⟩, ⟨.bin .geq (.loc 2) (.loc 0), none⟩] [(25, 3)] [] []) (.cond (.var 25) (.seq (.region [⟨.ifc 78 (.const (.int .i64 2)), none⟩, ⟨.mv (.const (.int .u64 0)), none⟩, ⟨.mv (.loc 1), none⟩] [(35, 1), (36, 2)] [] []) .ret) .skip)) (.seq (.seq (.region [⟨.mv (.var 26), none⟩, ⟨.mv (.var 27), none⟩, ⟨.bin .geq (.loc 1) (.loc 0), none⟩] [(28, 2)] [] []) (.cond (.var 28) (.seq (.region [⟨.mv (.var 29), none⟩, ⟨.ifc 78 (.const (.int .i64 1)), none⟩, ⟨.mv (.loc 1), none⟩, ⟨.mv (.loc 1), none⟩] [(35, 2), (36, 3)] [] []) .ret) .skip)) (.seq (.region [⟨.mv (.var 26), none⟩, ⟨.mv (.var 2), none⟩, ⟨.conv .u64 (.loc 0), none⟩, ⟨.bin .mul (.loc 2) (.loc 0), none⟩, ⟨.mv (.loc 0), none⟩] [(26, 4)] [] []) (.seq (.region [⟨.mv (.var 26), none⟩, ⟨.mv (.var 24), none⟩, ⟨.conv .u64 (.loc 0), none⟩, ⟨.bin .add (.loc 2) (.loc 0), none⟩, ⟨.mv (.loc 0), none⟩] [(30, 4)] [] []) (.seq (.seq (.region [⟨.mv (.var 30), none⟩, ⟨.mv (.var 26), none⟩, ⟨.bin .lss (.loc 1) (.loc 0), none⟩, ⟨.mv (.loc 0), none⟩, ⟨.mv (.var 30), (some (0, false))⟩, ⟨.mv (.var 29), (some (1, false))⟩, ⟨.bin .gtr (.loc 1) (.loc 0), (some (2, false))⟩, ⟨.pick (.loc 3) (.const (.bool true)) (.loc 0), none⟩] [(31, 7)] [] []) (.cond (.var 31) (.seq (.region [⟨.mv (.var 29), none⟩, ⟨.ifc 78 (.const (.int .i64 1)), none⟩, ⟨.mv (.loc 1), none⟩, ⟨.mv (.loc 1), none⟩] [(35, 2), (36, 3)] [] []) .ret) .skip)) (.region [⟨.mv (.var 30), none⟩, ⟨.mv (.loc 0), none⟩] [(26, 1)] [] [])))))))))) (.region [⟨.bin .add (.var 15) (.const (.int .i64 1)), none⟩, ⟨.mv (.loc 0), none⟩] [(15, 1)] [] [])))))
set_option maxHeartbeats 4000000 in
theorem parse_loop (s : List UInt8) (hs : s.length < 100000) (B : Nat) (hB : 8 ≤ B) (hB2 : B ≤ 16) (cutv : Int) (hcut : ∀ n : Nat, (n : Int) < cutv ↔ n * B < 18446744073709551616) (v1 v3 v4 v5 v6 v7 v8 v9 v10 v11 v12 v13 v14 v33 v34 v35 v36 : CVal) (Q : CExit → CSt → Prop) :
    ∀ (r : List UInt8) (i n : Nat), s.drop i = r → i ≤ s.length → (∀ c ∈ r, okF B c) → n < 18446744073709551616 → ∀ (h : CHeap) (v17 v19 v21 v22 v23 v24 v25 v28 v30 v31 : CVal), Fit h →
    (∀ n' ty (w15 w17 w19 w21 w22 w23 w24 w25 w26 w28 w30 w31 : CVal), h.next ≤ n' → UnderT ty n' → valF B n r < 18446744073709551616 → Q (.exit 3) ⟨[.str s, v1, .int .i64 B, v3, v4, v5, v6, v7, v8, v9, v10, v11, v12, v13, v14, w15, .int .i64 s.length, w17, .imm .none 1 (s.map fun b => .int .u8 b.toNat), w19, .bool false, w21, w22, w23, w24, w25, .int .u64 (valF B n r : Nat), .int .u64 cutv, w28, .int .u64 18446744073709551615, w30, w31, .bool false, v33, v34, v35, v36], ⟨h.ents, n', ty⟩, []⟩) →
    (∀ n' ty (w15 w17 w19 w21 w22 w23 w24 w25 w26 w28 w30 w31 : CVal), h.next ≤ n' → UnderT ty n' → 18446744073709551616 ≤ valF B n r → Q .ret ⟨[.str s, v1, .int .i64 B, v3, v4, v5, v6, v7, v8, v9, v10, v11, v12, v13, v14, w15, .int .i64 s.length, w17, .imm .none 1 (s.map fun b => .int .u8 b.toNat), w19, .bool false, w21, w22, w23, w24, w25, w26, .int .u64 cutv, w28, .int .u64 18446744073709551615, w30, w31, .bool false, v33, v34, .int .u64 18446744073709551615, .ifc 78 (.int .i64 1)], ⟨h.ents, n', ty⟩, []⟩) →
    W tree.getF parseLoop ⟨[.str s, v1, .int .i64 B, v3, v4, v5, v6, v7, v8, v9, v10, v11, v12, v13, v14, .int .i64 i, .int .i64 s.length, v17, .imm .none 1 (s.map fun b => .int .u8 b.toNat), v19, .bool false, v21, v22, v23, v24, v25, .int .u64 n, .int .u64 cutv, v28, .int .u64 18446744073709551615, v30, v31, .bool false, v33, v34, v35, v36], h, []⟩ Q := by
  intro r
  induction r with
  | nil =>
    intro i n hd hi _ hn h v17 v19 v21 v22 v23 v24 v25 v28 v30 v31 hf hq1 hq2
    have hle : s.length ≤ i := List.drop_eq_nil_iff.1 hd
    obtain ⟨hu, hut⟩ := hf
    have hD : ∀ m, h.next ≤ m → dropEnts h.ents m = h.ents := fun m hm => dropEnts_under (hu.le hm)
    have hC : ∀ m, h.next ≤ m → dropCells h.ents m = h.ents := fun m hm => dropCells_under (hu.le hm)
    have hN : ∀ q, h.next ≤ q → getEnt h.ents q = none := fun q hq => getEnt_under hu hq
    have hT : ∀ q, h.next ≤ q → lookupN h.tys q = none := fun q hq => lookupN_under hut hq

    refine W.loop ?_
    repeat (first
      | refine W.seq ?_
      | refine W.block ?_
      | ((first | refine W.regG ?_ | refine WoR.go ?_); generalize e : goR _ _ _ _ _ _ _ _ = r; simp (disch := omega) [hD, hC, hN, hT, hle] at e; replace e : some _ = _ := e; subst e; (try dsimp only [goW]))
      | refine W.cond_true rfl ?_
      | refine W.cond_false rfl ?_
      | refine W.skip ?_
      | refine W.exit ?_)
    refine hq1 _ _ _ _ _ _ _ _ _ _ CVal.undef _ _ _ ?_ ?_ hn
    · omega
    · exact UnderT.le hut (by omega)
  | cons c r ih =>
    intro i n hd hi hr hn h v17 v19 v21 v22 v23 v24 v25 v28 v30 v31 hf hq1 hq2
    obtain ⟨hlt, hget, hd2⟩ := get_of_dropG hd
    obtain ⟨hc, hdg⟩ := hr c (List.mem_cons_self ..)
    have hnt := nth_mapG (fun b : UInt8 => CVal.int .u8 b.toNat) s i c hget
    have hv1 := valF_le B (by omega) r (n * B + digF c)
    have hvv : valF B n (c :: r) = valF B (n * B + digF c) r := rfl
    rw [hvv] at hq1 hq2
    obtain ⟨hu, hut⟩ := hf
    have hD : ∀ m, h.next ≤ m → dropEnts h.ents m = h.ents := fun m hm => dropEnts_under (hu.le hm)
    have hC : ∀ m, h.next ≤ m → dropCells h.ents m = h.ents := fun m hm => dropCells_under (hu.le hm)
    have hN : ∀ q, h.next ≤ q → getEnt h.ents q = none := fun q hq => getEnt_under hu hq
    have hT : ∀ q, h.next ≤ q → lookupN h.tys q = none := fun q hq => lookupN_under hut hq

    have hm0 : (0 : Int) ≤ (n : Int) * (B : Int) := Int.mul_nonneg (by omega) (by omega)
    have hct := hcut n
    have hsum : (n : Int) * (B : Int) + (digF c : Int) = ((n * B + digF c : Nat) : Int) := by push_cast; rfl
    have hmn : ((n * B : Nat) : Int) = (n : Int) * (B : Int) := by push_cast; rfl
    have hcl : c.toNat < 256 := c.toNat_lt
    have hwB : IntKind.u8.wrap (B : Int) = B := sy_wrapu8 (by omega) (by omega)
    have hd0 : (digF c : Int) < B := by omega
    by_cases h57 : c.toNat ≤ 57
    · have ed : (c.toNat : Int) - 48 = (digF c : Int) := by unfold digF; rw [if_pos h57]; omega
      by_cases hge : (n : Int) < cutv
      · have hlt2 := hct.1 hge
        have hm1 : (n : Int) * (B : Int) < 18446744073709551616 := by omega
        by_cases hov : n * B + digF c < 18446744073709551616
        · have hm2 : (n : Int) * (B : Int) + (digF c : Int) < 18446744073709551616 := by rw [hsum]; omega
          refine W.loop ?_
          repeat (first
            | refine W.seq ?_
            | refine W.block ?_
            | ((first | refine W.regG ?_ | refine WoR.go ?_); generalize e : goR _ _ _ _ _ _ _ _ = r; simp (disch := omega) [hD, hC, hN, hT, hnt, ed, hwB, sy_wrapu8, sy_wrapu64] at e; replace e : some _ = _ := e; subst e; (try dsimp only [goW]))
            | refine W.cond_true rfl ?_
            | refine W.cond_false rfl ?_
            | refine W.skip ?_
            | refine W.exit ?_)
          show W tree.getF parseLoop (dropped true _ _) Q
          generalize e : dropped _ _ _ = r
          simp (disch := omega) [hD, hC, hN, hT, hnt, ed, hwB, sy_wrapu8, sy_wrapu64] at e
          subst e
          rw [hsum]
          refine ih (i + 1) (n * B + digF c) hd2 (by omega) (fun c hc => hr c (List.mem_cons_of_mem _ hc)) hov _ _ _ _ _ _ _ _ _ _ _ ?_ ?_ ?_
          · exact ⟨hu.le (by (try dsimp only); omega), UnderT.le (by assumption) (by (try dsimp only); omega)⟩
          · intro n' ty w15 w17 w19 w21 w22 w23 w24 w25 w26 w28 w30 w31 g1 g2 g3; exact hq1 n' ty _ _ _ _ _ _ _ _ w26 _ _ _ (by dsimp only at g1; omega) g2 g3
          · intro n' ty w15 w17 w19 w21 w22 w23 w24 w25 w26 w28 w30 w31 g1 g2 g3; exact hq2 n' ty _ _ _ _ _ _ _ _ _ _ _ _ (by dsimp only at g1; omega) g2 g3
        · have hwr : IntKind.u64.wrap ((n : Int) * (B : Int) + (digF c : Int)) = (n : Int) * (B : Int) + (digF c : Int) - 18446744073709551616 := by
            have : (18446744073709551616 : Int) ≤ (n : Int) * (B : Int) + (digF c : Int) := by rw [hsum]; omega
            simp [IntKind.wrap, IntKind.bits, IntKind.signed]; omega
          refine W.loop ?_
          repeat (first
            | refine W.seq ?_
            | refine W.block ?_
            | ((first | refine W.regG ?_ | refine WoR.go ?_); generalize e : goR _ _ _ _ _ _ _ _ = r; simp (disch := omega) [hD, hC, hN, hT, hnt, ed, hwB, sy_wrapu8, sy_wrapu64, hwr] at e; replace e : some _ = _ := e; subst e; (try dsimp only [goW]))
            | refine W.cond_true rfl ?_
            | refine W.cond_false rfl ?_
            | refine W.skip ?_
            | refine W.exit ?_
            | (refine W.ret ?_; (try simp only [outOf, thenW_ret, roundW]); refine hq2 _ _ _ _ _ _ _ _ _ _ _ _ _ _ ?_ ?_ ?_; (focus ((omega); done)); (focus ((repeat (first | exact hut.le (by (try dsimp only); omega) | refine UnderT.cons (by (try dsimp only); omega) ?_ | exact UnderT.nil | assumption | exact UnderT.le (by assumption) (by (try dsimp only); omega))); done)); omega))
      · have hge2 : 18446744073709551616 ≤ n * B := by omega
        refine W.loop ?_
        repeat (first
          | refine W.seq ?_
          | refine W.block ?_
          | ((first | refine W.regG ?_ | refine WoR.go ?_); generalize e : goR _ _ _ _ _ _ _ _ = r; simp (disch := omega) [hD, hC, hN, hT, hnt, ed, hwB, sy_wrapu8, sy_wrapu64] at e; replace e : some _ = _ := e; subst e; (try dsimp only [goW]))
          | refine W.cond_true rfl ?_
          | refine W.cond_false rfl ?_
          | refine W.skip ?_
          | refine W.exit ?_
          | (refine W.ret ?_; (try simp only [outOf, thenW_ret, roundW]); refine hq2 _ _ _ _ _ _ _ _ _ _ _ _ _ _ ?_ ?_ ?_; (focus ((omega); done)); (focus ((repeat (first | exact hut.le (by (try dsimp only); omega) | refine UnderT.cons (by (try dsimp only); omega) ?_ | exact UnderT.nil | assumption | exact UnderT.le (by assumption) (by (try dsimp only); omega))); done)); omega))
    · have hc97 : 65 ≤ c.toNat ∧ c.toNat ≤ 70 ∨ 97 ≤ c.toNat ∧ c.toNat ≤ 102 := by omega
      have ed : (lowF c : Int) - 97 + 10 = (digF c : Int) := by unfold digF lowF; rw [if_neg h57]; split <;> omega
      have hl1 : (97 : Int) ≤ (lowF c : Int) := by unfold lowF; split <;> omega
      have hl2 : (lowF c : Int) ≤ 122 := by unfold lowF; split <;> omega
      by_cases hge : (n : Int) < cutv
      · have hlt2 := hct.1 hge
        have hm1 : (n : Int) * (B : Int) < 18446744073709551616 := by omega
        by_cases hov : n * B + digF c < 18446744073709551616
        · have hm2 : (n : Int) * (B : Int) + (digF c : Int) < 18446744073709551616 := by rw [hsum]; omega
          refine W.loop ?_
          repeat (first
            | refine W.seq ?_
            | refine W.block ?_
            | ((first | refine W.regG ?_ | refine WoR.go ?_); generalize e : goR _ _ _ _ _ _ _ _ = r; simp (disch := omega) [hD, hC, hN, hT, hnt, ed, hwB, sy_wrapu8, sy_wrapu64] at e; replace e : some _ = _ := e; subst e; (try dsimp only [goW]))
            | refine W.cond_true rfl ?_
            | refine W.cond_false rfl ?_
            | refine W.skip ?_
            | refine W.exit ?_
            | (refine (lower_F c hc97) _ ?_ _ fun n3 tyn3 hn3 hun3 => ⟨rfl, ?_⟩; (focus (((refine ⟨?_, ?_⟩; (focus ((repeat (first | exact hu.le (by (try dsimp only); omega) | exact hu.set.le (by (try dsimp only); omega) | refine Under.cons (by (try dsimp only); omega) ?_ | exact Under.nil)); done)); (focus ((repeat (first | exact hut.le (by (try dsimp only); omega) | refine UnderT.cons (by (try dsimp only); omega) ?_ | exact UnderT.nil | assumption | exact UnderT.le (by assumption) (by (try dsimp only); omega))); done)))); done)); (try dsimp only at hn3)))
          show W tree.getF parseLoop (dropped true _ _) Q
          generalize e : dropped _ _ _ = r
          simp (disch := omega) [hD, hC, hN, hT, hnt, ed, hwB, sy_wrapu8, sy_wrapu64] at e
          subst e
          rw [hsum]
          refine ih (i + 1) (n * B + digF c) hd2 (by omega) (fun c hc => hr c (List.mem_cons_of_mem _ hc)) hov _ _ _ _ _ _ _ _ _ _ _ ?_ ?_ ?_
          · exact ⟨hu.le (by (try dsimp only); omega), UnderT.le (by assumption) (by (try dsimp only); omega)⟩
          · intro n' ty w15 w17 w19 w21 w22 w23 w24 w25 w26 w28 w30 w31 g1 g2 g3; exact hq1 n' ty _ _ _ _ _ _ _ _ w26 _ _ _ (by dsimp only at g1; omega) g2 g3
          · intro n' ty w15 w17 w19 w21 w22 w23 w24 w25 w26 w28 w30 w31 g1 g2 g3; exact hq2 n' ty _ _ _ _ _ _ _ _ _ _ _ _ (by dsimp only at g1; omega) g2 g3
        · have hwr : IntKind.u64.wrap ((n : Int) * (B : Int) + (digF c : Int)) = (n : Int) * (B : Int) + (digF c : Int) - 18446744073709551616 := by
            have : (18446744073709551616 : Int) ≤ (n : Int) * (B : Int) + (digF c : Int) := by rw [hsum]; omega
            simp [IntKind.wrap, IntKind.bits, IntKind.signed]; omega
          refine W.loop ?_
          repeat (first
            | refine W.seq ?_
            | refine W.block ?_
            | ((first | refine W.regG ?_ | refine WoR.go ?_); generalize e : goR _ _ _ _ _ _ _ _ = r; simp (disch := omega) [hD, hC, hN, hT, hnt, ed, hwB, sy_wrapu8, sy_wrapu64, hwr] at e; replace e : some _ = _ := e; subst e; (try dsimp only [goW]))
            | refine W.cond_true rfl ?_
            | refine W.cond_false rfl ?_
            | refine W.skip ?_
            | refine W.exit ?_
            | (refine (lower_F c hc97) _ ?_ _ fun n3 tyn3 hn3 hun3 => ⟨rfl, ?_⟩; (focus (((refine ⟨?_, ?_⟩; (focus ((repeat (first | exact hu.le (by (try dsimp only); omega) | exact hu.set.le (by (try dsimp only); omega) | refine Under.cons (by (try dsimp only); omega) ?_ | exact Under.nil)); done)); (focus ((repeat (first | exact hut.le (by (try dsimp only); omega) | refine UnderT.cons (by (try dsimp only); omega) ?_ | exact UnderT.nil | assumption | exact UnderT.le (by assumption) (by (try dsimp only); omega))); done)))); done)); (try dsimp only at hn3))
            | (refine W.ret ?_; (try simp only [outOf, thenW_ret, roundW]); refine hq2 _ _ _ _ _ _ _ _ _ _ _ _ _ _ ?_ ?_ ?_; (focus ((omega); done)); (focus ((repeat (first | exact hut.le (by (try dsimp only); omega) | refine UnderT.cons (by (try dsimp only); omega) ?_ | exact UnderT.nil | assumption | exact UnderT.le (by assumption) (by (try dsimp only); omega))); done)); omega))
      · have hge2 : 18446744073709551616 ≤ n * B := by omega
        refine W.loop ?_
        repeat (first
          | refine W.seq ?_
          | refine W.block ?_
          | ((first | refine W.regG ?_ | refine WoR.go ?_); generalize e : goR _ _ _ _ _ _ _ _ = r; simp (disch := omega) [hD, hC, hN, hT, hnt, ed, hwB, sy_wrapu8, sy_wrapu64] at e; replace e : some _ = _ := e; subst e; (try dsimp only [goW]))
          | refine W.cond_true rfl ?_
          | refine W.cond_false rfl ?_
          | refine W.skip ?_
          | refine W.exit ?_
          | (refine (lower_F c hc97) _ ?_ _ fun n3 tyn3 hn3 hun3 => ⟨rfl, ?_⟩; (focus (((refine ⟨?_, ?_⟩; (focus ((repeat (first | exact hu.le (by (try dsimp only); omega) | exact hu.set.le (by (try dsimp only); omega) | refine Under.cons (by (try dsimp only); omega) ?_ | exact Under.nil)); done)); (focus ((repeat (first | exact hut.le (by (try dsimp only); omega) | refine UnderT.cons (by (try dsimp only); omega) ?_ | exact UnderT.nil | assumption | exact UnderT.le (by assumption) (by (try dsimp only); omega))); done)))); done)); (try dsimp only at hn3))
          | (refine W.ret ?_; (try simp only [outOf, thenW_ret, roundW]); refine hq2 _ _ _ _ _ _ _ _ _ _ _ _ _ _ ?_ ?_ ?_; (focus ((omega); done)); (focus ((repeat (first | exact hut.le (by (try dsimp only); omega) | refine UnderT.cons (by (try dsimp only); omega) ?_ | exact UnderT.nil | assumption | exact UnderT.le (by assumption) (by (try dsimp only); omega))); done)); omega))
end Go.Proofs.YthblmflngjofjaaDoor.IrP
