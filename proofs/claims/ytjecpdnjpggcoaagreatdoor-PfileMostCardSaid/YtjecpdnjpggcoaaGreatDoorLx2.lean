/- What the functions of the law 'PfileMost' do: part 2 of 8. -/
import Derived.Test.YtjecpdnjpggcoaaGreatDoorLx1
namespace Go.Proofs.YtjecpdnjpggcoaaGreatDoor.IrM
open Go Go.CI
open Go.LexF hiding spacesB lettersB
set_option maxRecDepth 100000
set_option linter.unusedVariables false
set_option linter.unusedSimpArgs false
attribute [local irreducible] W Wo Wc WoR
attribute [local simp] goR regOut checkOne swapOne sameAt nthOp CVal.beq beqs CVal.block storesTo zAa zAe zBg evalE evalP evalL zAy nth setNth COp.cls COp.isStore CVal.isUndef CVal.whole CVal.cells CHeap.put CHeap.get CHeap.set wantedC zA2 zA0 partOf zB9 evalBin evalInt evalStr zB8 initVar descOf List.take List.drop CVal.lenOf CVal.isStr CVal.bare CVal.strip CVal.flat zAo zBm zB6 finishC cut fillCells setCells szOf szOf_desc elems bytesOf evalAppend fillElems mkElem setElem List.replicate sy_nbeq sy_neqF sy_leT sy_leF zAj dropped sy_wrap64 zAx zAc zBb sy_ibeqF sy_ieqF sy_ileT sy_ileF sy_iltT sy_iltF sy_ltT sy_ltF zAg zA8 eqVal extL extE keyIs findKV nthKV setKV CHeap.ty lookupN CHeap.note CHeap.tyOk dropAll freezeVal freezeAll freezeFlat cellsEq cellEq zAk zAq pMakeNoZero zBi pClone pIndex hasPair rowOf byteVals idxFrom hasFront idxSub
def okF (B : Nat) (c : UInt8) : Prop := (48 ≤ c.toNat ∧ c.toNat ≤ 57 ∨ 65 ≤ c.toNat ∧ c.toNat ≤ 70 ∨ 97 ≤ c.toNat ∧ c.toNat ≤ 102) ∧ digF c < B
theorem valF_le (B : Nat) (hB : 1 ≤ B) : ∀ (r : List UInt8) (n : Nat), n ≤ valF B n r
 | [], n => Nat.le_refl _
 | c :: r, n => by
  have h1 := valF_le B hB r (n * B + digF c)
  have h2 : n * 1 ≤ n * B := Nat.mul_le_mul_left _ hB
  show n ≤ valF B (n * B + digF c) r
  omega
def lowF (c : UInt8) : Nat := if c.toNat ≤ 70 then c.toNat + 32 else c.toNat
theorem lower_or (c : UInt8) (hc : 65 ≤ c.toNat ∧ c.toNat ≤ 70 ∨ 97 ≤ c.toNat ∧ c.toNat ≤ 102) : zAp .or .u8 (c.toNat : Int) 32 = some (.int .u8 (lowF c : Int)) := by
 unfold lowF
 have hx : c.toNat = 65 ∨ c.toNat = 66 ∨ c.toNat = 67 ∨ c.toNat = 68 ∨ c.toNat = 69 ∨ c.toNat = 70 ∨ c.toNat = 97 ∨ c.toNat = 98 ∨ c.toNat = 99 ∨ c.toNat = 100 ∨ c.toNat = 101 ∨ c.toNat = 102 := by omega
 rcases hx with h | h | h | h | h | h | h | h | h | h | h | h <;> rw [h] <;> rfl
theorem lower_F (c : UInt8) (hc : 65 ≤ c.toNat ∧ c.toNat ≤ 70 ∨ 97 ≤ c.toNat ∧ c.toNat ≤ 102) : Pu tree.getF 77 [.int .u8 (c.toNat : Int)] (.int .u8 (lowF c : Int)) := by
 intro h hf K hk
 obtain ⟨hu, hut, hX⟩ := fx4 hf
 have ho := lower_or c hc
 refine Wc.mkG 77 c77 (by kernel_rfl) rfl ?_
 generalize e : zAa _ _ _ = r
 simp (disch := omega) [hX, ho, c77] at e
 subst e
 repeat (first | refine sq_ ?_ | refine bl_ ?_ | ((first | refine rg_ ?_ | refine go_ ?_); generalize e : goR _ _ _ _ _ _ _ _ = r; simp (disch := omega) [hX, ho, c77] at e; replace e : some _ = _ := e; subst e; (try dsimp only [goW])) | refine ct_ rfl ?_ | refine cf_ rfl ?_ | refine sk_ ?_ | refine ex_ ?_ | (refine W.loop ?_; try (generalize e : dropped _ _ _ = r; simp (disch := omega) [hX, ho, c77] at e; subst e; try dsimp only)) | ((first | (refine W.ret ?_; (try simp only [zAl, zA3, zAf]); refine endW.of (.inl rfl) rfl ?_) | refine endW.of (.inr rfl) rfl ?_); generalize e : zAo _ _ _ = r; simp (disch := omega) [hX, ho, c77] at e; subst e; (try dsimp only [goW]); (refine hk _ _ ?_ ?_; omega; exact ut_)))
abbrev parseLoop : CCode := (.loop true (.seq (.region [.g (.bin .lss (.var 15) (.var 16))] [(17, 0)] [] []) (.seq (.cond (.var 17) .skip (.exit 3)) (.seq (.block 4 (.seq (.region [.g (.idxAddr 1 (.var 18) (.var 15)), .l 0, .m (.loc 0)] [(19, 2)] [] []) (.seq (.region [.m (.const (.int .u8 0))] [(24, 0)] [] []) (.seq (.block 5 (.seq (.region [.v 19, .g (.bin .eql (.loc 0) (.const (.int .u8 95))), .m (.loc 0), ⟨.mv (.var 20), (some (0, true))⟩, .g (.pick (.loc 1) (.loc 0) (.const (.bool false))), .m (.loc 0)] [(21, 5)] [] []) (.cond (.var 21) (.seq (.region [.m (.const (.bool true))] [(32, 0)] [] []) (.exit 4)) (.seq (.region [.v 19, .g (.bin .leq (.const (.int .u8 48)) (.loc 0)), .m (.loc 0), ⟨.mv (.var 19), (some (0, true))⟩, ⟨.bin .leq (.loc 0) (.const (.int .u8 57)), (some (1, true))⟩, .g (.pick (.loc 2) (.loc 0) (.const (.bool false))), .m (.loc 0)] [(22, 6)] [] []) (.cond (.var 22) (.region [.v 19, .g (.bin .sub (.loc 0) (.const (.int .u8 48))), .m (.loc 0)] [(24, 2)] [] []) (.seq (.region [.v 19, .g (.call false 77 [(.loc 0)]), .g (.bin .leq (.const (.int .u8 97)) (.loc 0)), .m (.loc 0), ⟨.mv (.var 19), (some (0, true))⟩, ⟨.call false 77 [(.loc 0)], (some (1, true))⟩, ⟨.bin .leq (.loc 0) (.const (.int .u8 122)), (some (2, true))⟩, .g (.pick (.loc 3) (.loc 0) (.const (.bool false))), .m (.loc 0)] [(23, 8)] [] []) (.cond (.var 23) (.region [.v 19, .g (.call false 77 [(.loc 0)]), .g (.bin .sub (.loc 0) (.const (.int .u8 97))), .g (.bin .add (.loc 0) (.const (.int .u8 10))), .m (.loc 0)] [(24, 4)] [] []) (.seq (.region [.g (.ifc 117 (.const (.int .i64 2))), .m (.const (.int .u64 0)), .m (.loc 1)] [(35, 1), (36, 2)] [] []) .ret)))))))) (.seq (.seq (.region [.v 24, .v 2, .g (.conv .u8 (.loc 0)), .g (.bin .geq (.loc 2) (.loc 0))] [(25, 3)] [] []) (.cond (.var 25) (.seq (.region [.g (.ifc 117 (.const (.int .i64 2))), .m (.const (.int .u64 0)), .m (.loc 1)] [(35, 1), (36, 2)] [] []) .ret) .skip)) (.seq (.seq (.region [.v 26, .v 27, .g (.bin .geq (.loc 1) (.loc 0))] [(28, 2)] [] []) (.cond (.var 28) (.seq (.region [.v 29, .g (.ifc 117 (.const (.int .i64 1))), .m (.loc 1), .m (.loc 1)] [(35, 2), (36, 3)] [] []) .ret) .skip)) (.seq (.region [.v 26, .v 2, .g (.conv .u64 (.loc 0)), .g (.bin .mul (.loc 2) (.loc 0)), .m (.loc 0)] [(26, 4)] [] []) (.seq (.region [.v 26, .v 24, .g (.conv .u64 (.loc 0)), .g (.bin .add (.loc 2) (.loc 0)), .m (.loc 0)] [(30, 4)] [] []) (.seq (.seq (.region [.v 30, .v 26, .g (.bin .lss (.loc 1) (.loc 0)), .m (.loc 0), ⟨.mv (.var 30), (some (0, false))⟩, ⟨.mv (.var 29), (some (1, false))⟩, ⟨.bin .gtr (.loc 1) (.loc 0), (some (2, false))⟩, .g (.pick (.loc 3) (.const (.bool true)) (.loc 0))] [(31, 7)] [] []) (.cond (.var 31) (.seq (.region [.v 29, .g (.ifc 117 (.const (.int .i64 1))), .m (.loc 1), .m (.loc 1)] [(35, 2), (36, 3)] [] []) .ret) .skip)) (.region [.v 30, .m (.loc 0)] [(26, 1)] [] [])))))))))) (.region [.g (.bin .add (.var 15) (.const (.int .i64 1))), .m (.loc 0)] [(15, 1)] [] [])))))
set_option maxHeartbeats 4000000 in
theorem parse_loop (s : List UInt8) (hs : s.length < 100000) (B : Nat) (hB : 8 ≤ B) (hB2 : B ≤ 16) (cutv : Int) (hcut : ∀ n : Nat, (n : Int) < cutv ↔ n * B < 18446744073709551616) (v1 v3 v4 v5 v6 v7 v8 v9 v10 v11 v12 v13 v14 v33 v34 v35 v36 : CVal) (Q : CExit → CSt → Prop) :
    ∀ (r : List UInt8) (i n : Nat), s.drop i = r → i ≤ s.length → (∀ c ∈ r, okF B c) → n < 18446744073709551616 → ∀ (h : CHeap) (v17 v19 v21 v22 v23 v24 v25 v28 v30 v31 : CVal), Fit h →
    (∀ n' ty (w15 w17 w19 w21 w22 w23 w24 w25 w26 w28 w30 w31 : CVal), h.next ≤ n' → zAb ty n' → valF B n r < 18446744073709551616 → Q (.exit 3) ⟨[.str s, v1, .int .i64 B, v3, v4, v5, v6, v7, v8, v9, v10, v11, v12, v13, v14, w15, .int .i64 s.length, w17, .imm .none 1 (s.map fun b => .int .u8 b.toNat), w19, .bool false, w21, w22, w23, w24, w25, .int .u64 (valF B n r : Nat), .int .u64 cutv, w28, .int .u64 18446744073709551615, w30, w31, .bool false, v33, v34, v35, v36], ⟨h.ents, n', ty⟩, []⟩) →
    (∀ n' ty (w15 w17 w19 w21 w22 w23 w24 w25 w26 w28 w30 w31 : CVal), h.next ≤ n' → zAb ty n' → 18446744073709551616 ≤ valF B n r → Q .ret ⟨[.str s, v1, .int .i64 B, v3, v4, v5, v6, v7, v8, v9, v10, v11, v12, v13, v14, w15, .int .i64 s.length, w17, .imm .none 1 (s.map fun b => .int .u8 b.toNat), w19, .bool false, w21, w22, w23, w24, w25, w26, .int .u64 cutv, w28, .int .u64 18446744073709551615, w30, w31, .bool false, v33, v34, .int .u64 18446744073709551615, .ifc 117 (.int .i64 1)], ⟨h.ents, n', ty⟩, []⟩) →
    W tree.getF parseLoop ⟨[.str s, v1, .int .i64 B, v3, v4, v5, v6, v7, v8, v9, v10, v11, v12, v13, v14, .int .i64 i, .int .i64 s.length, v17, .imm .none 1 (s.map fun b => .int .u8 b.toNat), v19, .bool false, v21, v22, v23, v24, v25, .int .u64 n, .int .u64 cutv, v28, .int .u64 18446744073709551615, v30, v31, .bool false, v33, v34, v35, v36], h, []⟩ Q := by
 intro r
 induction r with
 | nil =>
  intro i n hd hi _ hn h v17 v19 v21 v22 v23 v24 v25 v28 v30 v31 hf hq1 hq2
  have hle : s.length ≤ i := List.drop_eq_nil_iff.1 hd
  obtain ⟨hu, hut, hX⟩ := fx4 hf
  refine W.loop ?_
  repeat (first | refine sq_ ?_ | refine bl_ ?_ | ((first | refine rg_ ?_ | refine go_ ?_); generalize e : goR _ _ _ _ _ _ _ _ = r; simp (disch := omega) [hX, hle] at e; replace e : some _ = _ := e; subst e; (try dsimp only [goW])) | refine ct_ rfl ?_ | refine cf_ rfl ?_ | refine sk_ ?_ | refine ex_ ?_)
  refine hq1 _ _ _ _ _ _ _ _ _ _ CVal.undef _ _ _ ?_ ?_ hn
  · omega
  · exact zAb.le hut (by omega)
 | cons c r ih =>
  intro i n hd hi hr hn h v17 v19 v21 v22 v23 v24 v25 v28 v30 v31 hf hq1 hq2
  obtain ⟨hlt, hget, hd2⟩ := get_of_dropG hd
  obtain ⟨hc, hdg⟩ := hr c (List.mem_cons_self ..)
  have hnt := nth_mapG (fun b : UInt8 => CVal.int .u8 b.toNat) s i c hget
  have hv1 := valF_le B (by omega) r (n * B + digF c)
  have hvv : valF B n (c :: r) = valF B (n * B + digF c) r := rfl
  rw [hvv] at hq1 hq2
  obtain ⟨hu, hut, hX⟩ := fx4 hf
  have hm0 : (0 : Int) ≤ (n : Int) * (B : Int) := Int.mul_nonneg (by omega) (by omega)
  have hct := hcut n
  have hsum : (n : Int) * (B : Int) + (digF c : Int) = ((n * B + digF c : Nat) : Int) := by push_cast; rfl
  have hmn : ((n * B : Nat) : Int) = (n : Int) * (B : Int) := by push_cast; rfl
  have hcl : c.toNat < 256 := c.toNat_lt
  have hwB : IntKind.u8.wrap (B : Int) = B := zAi (by omega) (by omega)
  have hd0 : (digF c : Int) < B := by omega
  by_cases h57 : c.toNat ≤ 57
  · have ed : (c.toNat : Int) - 48 = (digF c : Int) := by unfold digF; rw [if_pos h57]; omega
    by_cases hge : (n : Int) < cutv
    · have hlt2 := hct.1 hge
      have hm1 : (n : Int) * (B : Int) < 18446744073709551616 := by omega
      by_cases hov : n * B + digF c < 18446744073709551616
      · have hm2 : (n : Int) * (B : Int) + (digF c : Int) < 18446744073709551616 := by rw [hsum]; omega
        refine W.loop ?_
        repeat (first | refine sq_ ?_ | refine bl_ ?_ | ((first | refine rg_ ?_ | refine go_ ?_); generalize e : goR _ _ _ _ _ _ _ _ = r; simp (disch := omega) [hX, hnt, ed, hwB, zAi, zB4] at e; replace e : some _ = _ := e; subst e; (try dsimp only [goW])) | refine ct_ rfl ?_ | refine cf_ rfl ?_ | refine sk_ ?_ | refine ex_ ?_)
        show W tree.getF parseLoop (dropped true _ _) Q
        generalize e : dropped _ _ _ = r
        simp (disch := omega) [hX, hnt, ed, hwB, zAi, zB4] at e
        subst e
        rw [hsum]
        refine ih (i + 1) (n * B + digF c) hd2 (by omega) (fun c hc => hr c (List.mem_cons_of_mem _ hc)) hov _ _ _ _ _ _ _ _ _ _ _ ?_ ?_ ?_
        · exact ⟨hu.le (by (try dsimp only); omega), zAb.le (by assumption) (by (try dsimp only); omega)⟩
        · intro n' ty w15 w17 w19 w21 w22 w23 w24 w25 w26 w28 w30 w31 g1 g2 g3; exact hq1 n' ty _ _ _ _ _ _ _ _ w26 _ _ _ (by dsimp only at g1; omega) g2 g3
        · intro n' ty w15 w17 w19 w21 w22 w23 w24 w25 w26 w28 w30 w31 g1 g2 g3; exact hq2 n' ty _ _ _ _ _ _ _ _ _ _ _ _ (by dsimp only at g1; omega) g2 g3
      · have hwr : IntKind.u64.wrap ((n : Int) * (B : Int) + (digF c : Int)) = (n : Int) * (B : Int) + (digF c : Int) - 18446744073709551616 := by
         have : (18446744073709551616 : Int) ≤ (n : Int) * (B : Int) + (digF c : Int) := by rw [hsum]; omega
         simp [IntKind.wrap, IntKind.bits, IntKind.signed]; omega
        refine W.loop ?_
        repeat (first | refine sq_ ?_ | refine bl_ ?_ | ((first | refine rg_ ?_ | refine go_ ?_); generalize e : goR _ _ _ _ _ _ _ _ = r; simp (disch := omega) [hX, hnt, ed, hwB, zAi, zB4, hwr] at e; replace e : some _ = _ := e; subst e; (try dsimp only [goW])) | refine ct_ rfl ?_ | refine cf_ rfl ?_ | refine sk_ ?_ | refine ex_ ?_ | (refine W.ret ?_; (try simp only [zAl, zA3, zAf]); refine hq2 _ _ _ _ _ _ _ _ _ _ _ _ _ _ ?_ ?_ ?_; omega; exact ut_; omega))
    · have hge2 : 18446744073709551616 ≤ n * B := by omega
      refine W.loop ?_
      repeat (first | refine sq_ ?_ | refine bl_ ?_ | ((first | refine rg_ ?_ | refine go_ ?_); generalize e : goR _ _ _ _ _ _ _ _ = r; simp (disch := omega) [hX, hnt, ed, hwB, zAi, zB4] at e; replace e : some _ = _ := e; subst e; (try dsimp only [goW])) | refine ct_ rfl ?_ | refine cf_ rfl ?_ | refine sk_ ?_ | refine ex_ ?_ | (refine W.ret ?_; (try simp only [zAl, zA3, zAf]); refine hq2 _ _ _ _ _ _ _ _ _ _ _ _ _ _ ?_ ?_ ?_; omega; exact ut_; omega))
  · have hc97 : 65 ≤ c.toNat ∧ c.toNat ≤ 70 ∨ 97 ≤ c.toNat ∧ c.toNat ≤ 102 := by omega
    have ed : (lowF c : Int) - 97 + 10 = (digF c : Int) := by unfold digF lowF; rw [if_neg h57]; split <;> omega
    have hl1 : (97 : Int) ≤ (lowF c : Int) := by unfold lowF; split <;> omega
    have hl2 : (lowF c : Int) ≤ 122 := by unfold lowF; split <;> omega
    by_cases hge : (n : Int) < cutv
    · have hlt2 := hct.1 hge
      have hm1 : (n : Int) * (B : Int) < 18446744073709551616 := by omega
      by_cases hov : n * B + digF c < 18446744073709551616
      · have hm2 : (n : Int) * (B : Int) + (digF c : Int) < 18446744073709551616 := by rw [hsum]; omega
        refine W.loop ?_
        repeat (first | refine sq_ ?_ | refine bl_ ?_ | ((first | refine rg_ ?_ | refine go_ ?_); generalize e : goR _ _ _ _ _ _ _ _ = r; simp (disch := omega) [hX, hnt, ed, hwB, zAi, zB4] at e; replace e : some _ = _ := e; subst e; (try dsimp only [goW])) | refine ct_ rfl ?_ | refine cf_ rfl ?_ | refine sk_ ?_ | refine ex_ ?_ | (refine (lower_F c hc97) _ ?_ _ fun n3 tyn3 hn3 hun3 => ⟨rfl, ?_⟩; exact fit_; (try dsimp only at hn3)))
        show W tree.getF parseLoop (dropped true _ _) Q
        generalize e : dropped _ _ _ = r
        simp (disch := omega) [hX, hnt, ed, hwB, zAi, zB4] at e
        subst e
        rw [hsum]
        refine ih (i + 1) (n * B + digF c) hd2 (by omega) (fun c hc => hr c (List.mem_cons_of_mem _ hc)) hov _ _ _ _ _ _ _ _ _ _ _ ?_ ?_ ?_
        · exact ⟨hu.le (by (try dsimp only); omega), zAb.le (by assumption) (by (try dsimp only); omega)⟩
        · intro n' ty w15 w17 w19 w21 w22 w23 w24 w25 w26 w28 w30 w31 g1 g2 g3; exact hq1 n' ty _ _ _ _ _ _ _ _ w26 _ _ _ (by dsimp only at g1; omega) g2 g3
        · intro n' ty w15 w17 w19 w21 w22 w23 w24 w25 w26 w28 w30 w31 g1 g2 g3; exact hq2 n' ty _ _ _ _ _ _ _ _ _ _ _ _ (by dsimp only at g1; omega) g2 g3
      · have hwr : IntKind.u64.wrap ((n : Int) * (B : Int) + (digF c : Int)) = (n : Int) * (B : Int) + (digF c : Int) - 18446744073709551616 := by
         have : (18446744073709551616 : Int) ≤ (n : Int) * (B : Int) + (digF c : Int) := by rw [hsum]; omega
         simp [IntKind.wrap, IntKind.bits, IntKind.signed]; omega
        refine W.loop ?_
        repeat (first | refine sq_ ?_ | refine bl_ ?_ | ((first | refine rg_ ?_ | refine go_ ?_); generalize e : goR _ _ _ _ _ _ _ _ = r; simp (disch := omega) [hX, hnt, ed, hwB, zAi, zB4, hwr] at e; replace e : some _ = _ := e; subst e; (try dsimp only [goW])) | refine ct_ rfl ?_ | refine cf_ rfl ?_ | refine sk_ ?_ | refine ex_ ?_ | (refine (lower_F c hc97) _ ?_ _ fun n3 tyn3 hn3 hun3 => ⟨rfl, ?_⟩; exact fit_; (try dsimp only at hn3)) | (refine W.ret ?_; (try simp only [zAl, zA3, zAf]); refine hq2 _ _ _ _ _ _ _ _ _ _ _ _ _ _ ?_ ?_ ?_; omega; exact ut_; omega))
    · have hge2 : 18446744073709551616 ≤ n * B := by omega
      refine W.loop ?_
      repeat (first | refine sq_ ?_ | refine bl_ ?_ | ((first | refine rg_ ?_ | refine go_ ?_); generalize e : goR _ _ _ _ _ _ _ _ = r; simp (disch := omega) [hX, hnt, ed, hwB, zAi, zB4] at e; replace e : some _ = _ := e; subst e; (try dsimp only [goW])) | refine ct_ rfl ?_ | refine cf_ rfl ?_ | refine sk_ ?_ | refine ex_ ?_ | (refine (lower_F c hc97) _ ?_ _ fun n3 tyn3 hn3 hun3 => ⟨rfl, ?_⟩; exact fit_; (try dsimp only at hn3)) | (refine W.ret ?_; (try simp only [zAl, zA3, zAf]); refine hq2 _ _ _ _ _ _ _ _ _ _ _ _ _ _ ?_ ?_ ?_; omega; exact ut_; omega))
theorem wUH1 {P : Prop} (h : P := by repeat (first | refine sq_ ?_ | refine bl_ ?_ | ((first | refine rg_ ?_ | refine go_ ?_); generalize e : goR _ _ _ _ _ _ _ _ = r; simp (disch := omega) [hX, hne, hneb, zB4, zAi, c67] at e; replace e : some _ = _ := e; subst e; (try dsimp only [goW])) | refine ct_ rfl ?_ | refine cf_ rfl ?_ | refine sk_ ?_ | refine ex_ ?_ | ((first | (refine W.ret ?_; (try simp only [zAl, zA3, zAf]); refine endW.of (.inl rfl) rfl ?_) | refine endW.of (.inr rfl) rfl ?_); generalize e : zAo _ _ _ = r; simp (disch := omega) [hX, hne, hneb, zB4, zAi, c67] at e; subst e; (try dsimp only [goW]); (refine hk _ _ ?_ ?_; omega; exact ut_)))) : P := h
theorem p0_ok8 (ds : List UInt8) (hne : ds ≠ []) (hl : ds.length < 90000) (hds : ∀ c ∈ ds, okF 8 c) (hv : valF 8 0 ds < 18446744073709551616) : Pu tree.getF 67 [.str ds, .int .i64 8, .int .i64 64] (.tup [.int .u64 (valF 8 0 ds : Nat), .nili]) := by
 intro h hf K hk
 obtain ⟨hu, hut, hX⟩ := fx4 hf
 have hneb : (ds == []) = false := by simp [hne]
 refine Wc.mkG 67 c67 (by kernel_rfl) rfl ?_
 generalize e : zAa _ _ _ = r
 simp (disch := omega) [hX, hne, hneb, zB4, zAi, c67] at e
 subst e
 repeat (first | refine sq_ ?_ | refine bl_ ?_ | ((first | refine rg_ ?_ | refine go_ ?_); generalize e : goR _ _ _ _ _ _ _ _ = r; simp (disch := omega) [hX, hne, hneb, zB4, zAi, c67] at e; replace e : some _ = _ := e; subst e; (try dsimp only [goW])) | refine ct_ rfl ?_ | refine cf_ rfl ?_ | refine sk_ ?_ | refine ex_ ?_)
 refine parse_loop ds (by omega) 8 (by omega) (by omega) 2305843009213693952 (fun n => by omega) _ _ _ _ _ _ _ _ _ _ _ _ _ _ _ _ _ _ ds 0 0 rfl (by omega) hds (by omega) _ _ _ _ _ _ _ _ _ _ _ ?_ ?_ ?_
 · exact ⟨by (try dsimp only); first | exact hu.le (by omega) | exact hu.set.le (by omega), zAb.le (by assumption) (by (try dsimp only); omega)⟩
 · intro n' ty w15 w17 w19 w21 w22 w23 w24 w25 w26 w28 w30 w31 g1 g2 g3
   try dsimp only at g1
   exact wUH1
 · intro n' ty w15 w17 w19 w21 w22 w23 w24 w25 w26 w28 w30 w31 g1 g2 g3
   try dsimp only at g1
   exfalso; omega
theorem p_ok8 (ds : List UInt8) (hne : ds ≠ []) (hl : ds.length < 90000) (hds : ∀ c ∈ ds, okF 8 c) (hv : valF 8 0 ds < 18446744073709551616) : Pu tree.getF 49 [.str ds, .int .i64 8, .int .i64 64] (.tup [.int .u64 (valF 8 0 ds : Nat), .nili]) := by
 intro h hf K hk
 obtain ⟨hu, hut, hX⟩ := fx4 hf
 refine Wc.mkG 49 c49 (by kernel_rfl) rfl ?_
 generalize e : zAa _ _ _ = r
 simp (disch := omega) [hX, c49] at e
 subst e
 repeat (first | refine sq_ ?_ | refine bl_ ?_ | ((first | refine rg_ ?_ | refine go_ ?_); generalize e : goR _ _ _ _ _ _ _ _ = r; simp (disch := omega) [hX, c49] at e; replace e : some _ = _ := e; subst e; (try dsimp only [goW])) | refine ct_ rfl ?_ | refine cf_ rfl ?_ | refine sk_ ?_ | refine ex_ ?_ | (refine W.loop ?_; try (generalize e : dropped _ _ _ = r; simp (disch := omega) [hX, c49] at e; subst e; try dsimp only)) | (refine (p0_ok8 ds hne hl hds hv) _ ?_ _ fun n1 tyn1 hn1 hun1 => ⟨rfl, ?_⟩; exact fit_; (try dsimp only at hn1)) | ((first | (refine W.ret ?_; (try simp only [zAl, zA3, zAf]); refine endW.of (.inl rfl) rfl ?_) | refine endW.of (.inr rfl) rfl ?_); generalize e : zAo _ _ _ = r; simp (disch := omega) [hX, c49] at e; subst e; (try dsimp only [goW]); (refine hk _ _ ?_ ?_; omega; exact ut_)))
theorem p0_bad8 (ds : List UInt8) (hne : ds ≠ []) (hl : ds.length < 90000) (hds : ∀ c ∈ ds, okF 8 c) (hv : 18446744073709551616 ≤ valF 8 0 ds) : Pu tree.getF 67 [.str ds, .int .i64 8, .int .i64 64] (.tup [.int .u64 18446744073709551615, .ifc 117 (.int .i64 1)]) := by
 intro h hf K hk
 obtain ⟨hu, hut, hX⟩ := fx4 hf
 have hneb : (ds == []) = false := by simp [hne]
 refine Wc.mkG 67 c67 (by kernel_rfl) rfl ?_
 generalize e : zAa _ _ _ = r
 simp (disch := omega) [hX, hne, hneb, zB4, zAi, c67] at e
 subst e
 repeat (first | refine sq_ ?_ | refine bl_ ?_ | ((first | refine rg_ ?_ | refine go_ ?_); generalize e : goR _ _ _ _ _ _ _ _ = r; simp (disch := omega) [hX, hne, hneb, zB4, zAi, c67] at e; replace e : some _ = _ := e; subst e; (try dsimp only [goW])) | refine ct_ rfl ?_ | refine cf_ rfl ?_ | refine sk_ ?_ | refine ex_ ?_)
 refine parse_loop ds (by omega) 8 (by omega) (by omega) 2305843009213693952 (fun n => by omega) _ _ _ _ _ _ _ _ _ _ _ _ _ _ _ _ _ _ ds 0 0 rfl (by omega) hds (by omega) _ _ _ _ _ _ _ _ _ _ _ ?_ ?_ ?_
 · exact ⟨by (try dsimp only); first | exact hu.le (by omega) | exact hu.set.le (by omega), zAb.le (by assumption) (by (try dsimp only); omega)⟩
 · intro n' ty w15 w17 w19 w21 w22 w23 w24 w25 w26 w28 w30 w31 g1 g2 g3
   try dsimp only at g1
   exfalso; omega
 · intro n' ty w15 w17 w19 w21 w22 w23 w24 w25 w26 w28 w30 w31 g1 g2 g3
   try dsimp only at g1
   try simp only [zAl, zA3, zAf]
   refine endW.of (.inl rfl) rfl ?_
   generalize e : zAo _ _ _ = r
   simp (disch := omega) [hX, hne, hneb, zB4, zAi, c67] at e
   subst e
   (try dsimp only)
   refine hk _ _ ?_ ?_
   · omega
   · exact ut_
theorem p_bad8 (ds : List UInt8) (hne : ds ≠ []) (hl : ds.length < 90000) (hds : ∀ c ∈ ds, okF 8 c) (hv : 18446744073709551616 ≤ valF 8 0 ds) (h : CHeap) (hf : Fit h) (K : CVal → CHeap → Prop) (hk : ∀ n' ty m d, h.next ≤ n' → zAb ty n' → K (.tup [.int .u64 18446744073709551615, .ifc 119 (.ptr m d 0)]) ⟨h.ents, n', ty⟩) : Wc tree.getF 49 [.str ds, .int .i64 8, .int .i64 64] h K := by
 obtain ⟨hu, hut, hX⟩ := fx4 hf
 refine Wc.mkG 49 c49 (by kernel_rfl) rfl ?_
 generalize e : zAa _ _ _ = r
 simp (disch := omega) [hX, c49] at e
 subst e
 repeat (first | refine sq_ ?_ | refine bl_ ?_ | ((first | refine rg_ ?_ | refine go_ ?_); generalize e : goR _ _ _ _ _ _ _ _ = r; simp (disch := omega) [hX, show (ds.length ≤ 281474976710656) from by omega, c68, c80, c49] at e; replace e : some _ = _ := e; subst e; (try dsimp only [goW])) | refine ct_ rfl ?_ | refine cf_ rfl ?_ | refine sk_ ?_ | refine ex_ ?_ | (refine W.loop ?_; try (generalize e : dropped _ _ _ = r; simp (disch := omega) [hX, show (ds.length ≤ 281474976710656) from by omega, c68, c80, c49] at e; subst e; try dsimp only)) | (refine (p0_bad8 ds hne hl hds hv) _ ?_ _ fun n1 tyn1 hn1 hun1 => ⟨rfl, ?_⟩; exact fit_; (try dsimp only at hn1)) | (refine Wc.mkG 68 c68 (by kernel_rfl) rfl ?_; generalize e : zAa _ _ _ = r; simp (disch := omega) [hX, show (ds.length ≤ 281474976710656) from by omega, c68, c80, c49] at e; subst e) | (refine Wc.mkG 80 c80 (by kernel_rfl) rfl ?_; generalize e : zAa _ _ _ = r; simp (disch := omega) [hX, show (ds.length ≤ 281474976710656) from by omega, c68, c80, c49] at e; subst e) | (refine Wc.primM (f := 90) (p := pClone) (by kernel_rfl) ?_; generalize e : pClone _ _ = r; simp (disch := omega) [hX, show (ds.length ≤ 281474976710656) from by omega, c68, c80, c49] at e; subst e; (try dsimp only); refine ⟨rfl, ?_⟩) | ((first | (refine W.ret ?_; (try simp only [zAl, zA3, zAf]); refine endW.of (.inl rfl) rfl ?_) | refine endW.of (.inr rfl) rfl ?_); generalize e : zAo _ _ _ = r; simp (disch := omega) [hX, show (ds.length ≤ 281474976710656) from by omega, c68, c80, c49] at e; subst e; (try dsimp only [goW]); (first | refine ⟨rfl, ?_⟩ | (refine hk _ _ _ _ ?_ ?_; omega; exact ut_))))
theorem p0_ok10 (ds : List UInt8) (hne : ds ≠ []) (hl : ds.length < 90000) (hds : ∀ c ∈ ds, okF 10 c) (hv : valF 10 0 ds < 18446744073709551616) : Pu tree.getF 67 [.str ds, .int .i64 10, .int .i64 64] (.tup [.int .u64 (valF 10 0 ds : Nat), .nili]) := by
 intro h hf K hk
 obtain ⟨hu, hut, hX⟩ := fx4 hf
 have hneb : (ds == []) = false := by simp [hne]
 refine Wc.mkG 67 c67 (by kernel_rfl) rfl ?_
 generalize e : zAa _ _ _ = r
 simp (disch := omega) [hX, hne, hneb, zB4, zAi, c67] at e
 subst e
 repeat (first | refine sq_ ?_ | refine bl_ ?_ | ((first | refine rg_ ?_ | refine go_ ?_); generalize e : goR _ _ _ _ _ _ _ _ = r; simp (disch := omega) [hX, hne, hneb, zB4, zAi, c67] at e; replace e : some _ = _ := e; subst e; (try dsimp only [goW])) | refine ct_ rfl ?_ | refine cf_ rfl ?_ | refine sk_ ?_ | refine ex_ ?_)
 refine parse_loop ds (by omega) 10 (by omega) (by omega) 1844674407370955162 (fun n => by omega) _ _ _ _ _ _ _ _ _ _ _ _ _ _ _ _ _ _ ds 0 0 rfl (by omega) hds (by omega) _ _ _ _ _ _ _ _ _ _ _ ?_ ?_ ?_
 · exact ⟨by (try dsimp only); first | exact hu.le (by omega) | exact hu.set.le (by omega), zAb.le (by assumption) (by (try dsimp only); omega)⟩
 · intro n' ty w15 w17 w19 w21 w22 w23 w24 w25 w26 w28 w30 w31 g1 g2 g3
   try dsimp only at g1
   exact wUH1
 · intro n' ty w15 w17 w19 w21 w22 w23 w24 w25 w26 w28 w30 w31 g1 g2 g3
   try dsimp only at g1
   exfalso; omega
theorem p_ok10 (ds : List UInt8) (hne : ds ≠ []) (hl : ds.length < 90000) (hds : ∀ c ∈ ds, okF 10 c) (hv : valF 10 0 ds < 18446744073709551616) : Pu tree.getF 49 [.str ds, .int .i64 10, .int .i64 64] (.tup [.int .u64 (valF 10 0 ds : Nat), .nili]) := by
 intro h hf K hk
 obtain ⟨hu, hut, hX⟩ := fx4 hf
 refine Wc.mkG 49 c49 (by kernel_rfl) rfl ?_
 generalize e : zAa _ _ _ = r
 simp (disch := omega) [hX, c49] at e
 subst e
 repeat (first | refine sq_ ?_ | refine bl_ ?_ | ((first | refine rg_ ?_ | refine go_ ?_); generalize e : goR _ _ _ _ _ _ _ _ = r; simp (disch := omega) [hX, c49] at e; replace e : some _ = _ := e; subst e; (try dsimp only [goW])) | refine ct_ rfl ?_ | refine cf_ rfl ?_ | refine sk_ ?_ | refine ex_ ?_ | (refine W.loop ?_; try (generalize e : dropped _ _ _ = r; simp (disch := omega) [hX, c49] at e; subst e; try dsimp only)) | (refine (p0_ok10 ds hne hl hds hv) _ ?_ _ fun n1 tyn1 hn1 hun1 => ⟨rfl, ?_⟩; exact fit_; (try dsimp only at hn1)) | ((first | (refine W.ret ?_; (try simp only [zAl, zA3, zAf]); refine endW.of (.inl rfl) rfl ?_) | refine endW.of (.inr rfl) rfl ?_); generalize e : zAo _ _ _ = r; simp (disch := omega) [hX, c49] at e; subst e; (try dsimp only [goW]); (refine hk _ _ ?_ ?_; omega; exact ut_)))
theorem p0_bad10 (ds : List UInt8) (hne : ds ≠ []) (hl : ds.length < 90000) (hds : ∀ c ∈ ds, okF 10 c) (hv : 18446744073709551616 ≤ valF 10 0 ds) : Pu tree.getF 67 [.str ds, .int .i64 10, .int .i64 64] (.tup [.int .u64 18446744073709551615, .ifc 117 (.int .i64 1)]) := by
 intro h hf K hk
 obtain ⟨hu, hut, hX⟩ := fx4 hf
 have hneb : (ds == []) = false := by simp [hne]
 refine Wc.mkG 67 c67 (by kernel_rfl) rfl ?_
 generalize e : zAa _ _ _ = r
 simp (disch := omega) [hX, hne, hneb, zB4, zAi, c67] at e
 subst e
 repeat (first | refine sq_ ?_ | refine bl_ ?_ | ((first | refine rg_ ?_ | refine go_ ?_); generalize e : goR _ _ _ _ _ _ _ _ = r; simp (disch := omega) [hX, hne, hneb, zB4, zAi, c67] at e; replace e : some _ = _ := e; subst e; (try dsimp only [goW])) | refine ct_ rfl ?_ | refine cf_ rfl ?_ | refine sk_ ?_ | refine ex_ ?_)
 refine parse_loop ds (by omega) 10 (by omega) (by omega) 1844674407370955162 (fun n => by omega) _ _ _ _ _ _ _ _ _ _ _ _ _ _ _ _ _ _ ds 0 0 rfl (by omega) hds (by omega) _ _ _ _ _ _ _ _ _ _ _ ?_ ?_ ?_
 · exact ⟨by (try dsimp only); first | exact hu.le (by omega) | exact hu.set.le (by omega), zAb.le (by assumption) (by (try dsimp only); omega)⟩
 · intro n' ty w15 w17 w19 w21 w22 w23 w24 w25 w26 w28 w30 w31 g1 g2 g3
   try dsimp only at g1
   exfalso; omega
 · intro n' ty w15 w17 w19 w21 w22 w23 w24 w25 w26 w28 w30 w31 g1 g2 g3
   try dsimp only at g1
   try simp only [zAl, zA3, zAf]
   refine endW.of (.inl rfl) rfl ?_
   generalize e : zAo _ _ _ = r
   simp (disch := omega) [hX, hne, hneb, zB4, zAi, c67] at e
   subst e
   (try dsimp only)
   refine hk _ _ ?_ ?_
   · omega
   · exact ut_
theorem p_bad10 (ds : List UInt8) (hne : ds ≠ []) (hl : ds.length < 90000) (hds : ∀ c ∈ ds, okF 10 c) (hv : 18446744073709551616 ≤ valF 10 0 ds) (h : CHeap) (hf : Fit h) (K : CVal → CHeap → Prop) (hk : ∀ n' ty m d, h.next ≤ n' → zAb ty n' → K (.tup [.int .u64 18446744073709551615, .ifc 119 (.ptr m d 0)]) ⟨h.ents, n', ty⟩) : Wc tree.getF 49 [.str ds, .int .i64 10, .int .i64 64] h K := by
 obtain ⟨hu, hut, hX⟩ := fx4 hf
 refine Wc.mkG 49 c49 (by kernel_rfl) rfl ?_
 generalize e : zAa _ _ _ = r
 simp (disch := omega) [hX, c49] at e
 subst e
 repeat (first | refine sq_ ?_ | refine bl_ ?_ | ((first | refine rg_ ?_ | refine go_ ?_); generalize e : goR _ _ _ _ _ _ _ _ = r; simp (disch := omega) [hX, show (ds.length ≤ 281474976710656) from by omega, c68, c80, c49] at e; replace e : some _ = _ := e; subst e; (try dsimp only [goW])) | refine ct_ rfl ?_ | refine cf_ rfl ?_ | refine sk_ ?_ | refine ex_ ?_ | (refine W.loop ?_; try (generalize e : dropped _ _ _ = r; simp (disch := omega) [hX, show (ds.length ≤ 281474976710656) from by omega, c68, c80, c49] at e; subst e; try dsimp only)) | (refine (p0_bad10 ds hne hl hds hv) _ ?_ _ fun n1 tyn1 hn1 hun1 => ⟨rfl, ?_⟩; exact fit_; (try dsimp only at hn1)) | (refine Wc.mkG 68 c68 (by kernel_rfl) rfl ?_; generalize e : zAa _ _ _ = r; simp (disch := omega) [hX, show (ds.length ≤ 281474976710656) from by omega, c68, c80, c49] at e; subst e) | (refine Wc.mkG 80 c80 (by kernel_rfl) rfl ?_; generalize e : zAa _ _ _ = r; simp (disch := omega) [hX, show (ds.length ≤ 281474976710656) from by omega, c68, c80, c49] at e; subst e) | (refine Wc.primM (f := 90) (p := pClone) (by kernel_rfl) ?_; generalize e : pClone _ _ = r; simp (disch := omega) [hX, show (ds.length ≤ 281474976710656) from by omega, c68, c80, c49] at e; subst e; (try dsimp only); refine ⟨rfl, ?_⟩) | ((first | (refine W.ret ?_; (try simp only [zAl, zA3, zAf]); refine endW.of (.inl rfl) rfl ?_) | refine endW.of (.inr rfl) rfl ?_); generalize e : zAo _ _ _ = r; simp (disch := omega) [hX, show (ds.length ≤ 281474976710656) from by omega, c68, c80, c49] at e; subst e; (try dsimp only [goW]); (first | refine ⟨rfl, ?_⟩ | (refine hk _ _ _ _ ?_ ?_; omega; exact ut_))))
theorem p0_ok16 (ds : List UInt8) (hne : ds ≠ []) (hl : ds.length < 90000) (hds : ∀ c ∈ ds, okF 16 c) (hv : valF 16 0 ds < 18446744073709551616) : Pu tree.getF 67 [.str ds, .int .i64 16, .int .i64 64] (.tup [.int .u64 (valF 16 0 ds : Nat), .nili]) := by
 intro h hf K hk
 obtain ⟨hu, hut, hX⟩ := fx4 hf
 have hneb : (ds == []) = false := by simp [hne]
 refine Wc.mkG 67 c67 (by kernel_rfl) rfl ?_
 generalize e : zAa _ _ _ = r
 simp (disch := omega) [hX, hne, hneb, zB4, zAi, c67] at e
 subst e
 repeat (first | refine sq_ ?_ | refine bl_ ?_ | ((first | refine rg_ ?_ | refine go_ ?_); generalize e : goR _ _ _ _ _ _ _ _ = r; simp (disch := omega) [hX, hne, hneb, zB4, zAi, c67] at e; replace e : some _ = _ := e; subst e; (try dsimp only [goW])) | refine ct_ rfl ?_ | refine cf_ rfl ?_ | refine sk_ ?_ | refine ex_ ?_)
 refine parse_loop ds (by omega) 16 (by omega) (by omega) 1152921504606846976 (fun n => by omega) _ _ _ _ _ _ _ _ _ _ _ _ _ _ _ _ _ _ ds 0 0 rfl (by omega) hds (by omega) _ _ _ _ _ _ _ _ _ _ _ ?_ ?_ ?_
 · exact ⟨by (try dsimp only); first | exact hu.le (by omega) | exact hu.set.le (by omega), zAb.le (by assumption) (by (try dsimp only); omega)⟩
 · intro n' ty w15 w17 w19 w21 w22 w23 w24 w25 w26 w28 w30 w31 g1 g2 g3
   try dsimp only at g1
   exact wUH1
 · intro n' ty w15 w17 w19 w21 w22 w23 w24 w25 w26 w28 w30 w31 g1 g2 g3
   try dsimp only at g1
   exfalso; omega
theorem p_ok16 (ds : List UInt8) (hne : ds ≠ []) (hl : ds.length < 90000) (hds : ∀ c ∈ ds, okF 16 c) (hv : valF 16 0 ds < 18446744073709551616) : Pu tree.getF 49 [.str ds, .int .i64 16, .int .i64 64] (.tup [.int .u64 (valF 16 0 ds : Nat), .nili]) := by
 intro h hf K hk
 obtain ⟨hu, hut, hX⟩ := fx4 hf
 refine Wc.mkG 49 c49 (by kernel_rfl) rfl ?_
 generalize e : zAa _ _ _ = r
 simp (disch := omega) [hX, c49] at e
 subst e
 repeat (first | refine sq_ ?_ | refine bl_ ?_ | ((first | refine rg_ ?_ | refine go_ ?_); generalize e : goR _ _ _ _ _ _ _ _ = r; simp (disch := omega) [hX, c49] at e; replace e : some _ = _ := e; subst e; (try dsimp only [goW])) | refine ct_ rfl ?_ | refine cf_ rfl ?_ | refine sk_ ?_ | refine ex_ ?_ | (refine W.loop ?_; try (generalize e : dropped _ _ _ = r; simp (disch := omega) [hX, c49] at e; subst e; try dsimp only)) | (refine (p0_ok16 ds hne hl hds hv) _ ?_ _ fun n1 tyn1 hn1 hun1 => ⟨rfl, ?_⟩; exact fit_; (try dsimp only at hn1)) | ((first | (refine W.ret ?_; (try simp only [zAl, zA3, zAf]); refine endW.of (.inl rfl) rfl ?_) | refine endW.of (.inr rfl) rfl ?_); generalize e : zAo _ _ _ = r; simp (disch := omega) [hX, c49] at e; subst e; (try dsimp only [goW]); (refine hk _ _ ?_ ?_; omega; exact ut_)))
theorem p0_bad16 (ds : List UInt8) (hne : ds ≠ []) (hl : ds.length < 90000) (hds : ∀ c ∈ ds, okF 16 c) (hv : 18446744073709551616 ≤ valF 16 0 ds) : Pu tree.getF 67 [.str ds, .int .i64 16, .int .i64 64] (.tup [.int .u64 18446744073709551615, .ifc 117 (.int .i64 1)]) := by
 intro h hf K hk
 obtain ⟨hu, hut, hX⟩ := fx4 hf
 have hneb : (ds == []) = false := by simp [hne]
 refine Wc.mkG 67 c67 (by kernel_rfl) rfl ?_
 generalize e : zAa _ _ _ = r
 simp (disch := omega) [hX, hne, hneb, zB4, zAi, c67] at e
 subst e
 repeat (first | refine sq_ ?_ | refine bl_ ?_ | ((first | refine rg_ ?_ | refine go_ ?_); generalize e : goR _ _ _ _ _ _ _ _ = r; simp (disch := omega) [hX, hne, hneb, zB4, zAi, c67] at e; replace e : some _ = _ := e; subst e; (try dsimp only [goW])) | refine ct_ rfl ?_ | refine cf_ rfl ?_ | refine sk_ ?_ | refine ex_ ?_)
 refine parse_loop ds (by omega) 16 (by omega) (by omega) 1152921504606846976 (fun n => by omega) _ _ _ _ _ _ _ _ _ _ _ _ _ _ _ _ _ _ ds 0 0 rfl (by omega) hds (by omega) _ _ _ _ _ _ _ _ _ _ _ ?_ ?_ ?_
 · exact ⟨by (try dsimp only); first | exact hu.le (by omega) | exact hu.set.le (by omega), zAb.le (by assumption) (by (try dsimp only); omega)⟩
 · intro n' ty w15 w17 w19 w21 w22 w23 w24 w25 w26 w28 w30 w31 g1 g2 g3
   try dsimp only at g1
   exfalso; omega
 · intro n' ty w15 w17 w19 w21 w22 w23 w24 w25 w26 w28 w30 w31 g1 g2 g3
   try dsimp only at g1
   try simp only [zAl, zA3, zAf]
   refine endW.of (.inl rfl) rfl ?_
   generalize e : zAo _ _ _ = r
   simp (disch := omega) [hX, hne, hneb, zB4, zAi, c67] at e
   subst e
   (try dsimp only)
   refine hk _ _ ?_ ?_
   · omega
   · exact ut_
theorem p_bad16 (ds : List UInt8) (hne : ds ≠ []) (hl : ds.length < 90000) (hds : ∀ c ∈ ds, okF 16 c) (hv : 18446744073709551616 ≤ valF 16 0 ds) (h : CHeap) (hf : Fit h) (K : CVal → CHeap → Prop) (hk : ∀ n' ty m d, h.next ≤ n' → zAb ty n' → K (.tup [.int .u64 18446744073709551615, .ifc 119 (.ptr m d 0)]) ⟨h.ents, n', ty⟩) : Wc tree.getF 49 [.str ds, .int .i64 16, .int .i64 64] h K := by
 obtain ⟨hu, hut, hX⟩ := fx4 hf
 refine Wc.mkG 49 c49 (by kernel_rfl) rfl ?_
 generalize e : zAa _ _ _ = r
 simp (disch := omega) [hX, c49] at e
 subst e
 repeat (first | refine sq_ ?_ | refine bl_ ?_ | ((first | refine rg_ ?_ | refine go_ ?_); generalize e : goR _ _ _ _ _ _ _ _ = r; simp (disch := omega) [hX, show (ds.length ≤ 281474976710656) from by omega, c68, c80, c49] at e; replace e : some _ = _ := e; subst e; (try dsimp only [goW])) | refine ct_ rfl ?_ | refine cf_ rfl ?_ | refine sk_ ?_ | refine ex_ ?_ | (refine W.loop ?_; try (generalize e : dropped _ _ _ = r; simp (disch := omega) [hX, show (ds.length ≤ 281474976710656) from by omega, c68, c80, c49] at e; subst e; try dsimp only)) | (refine (p0_bad16 ds hne hl hds hv) _ ?_ _ fun n1 tyn1 hn1 hun1 => ⟨rfl, ?_⟩; exact fit_; (try dsimp only at hn1)) | (refine Wc.mkG 68 c68 (by kernel_rfl) rfl ?_; generalize e : zAa _ _ _ = r; simp (disch := omega) [hX, show (ds.length ≤ 281474976710656) from by omega, c68, c80, c49] at e; subst e) | (refine Wc.mkG 80 c80 (by kernel_rfl) rfl ?_; generalize e : zAa _ _ _ = r; simp (disch := omega) [hX, show (ds.length ≤ 281474976710656) from by omega, c68, c80, c49] at e; subst e) | (refine Wc.primM (f := 90) (p := pClone) (by kernel_rfl) ?_; generalize e : pClone _ _ = r; simp (disch := omega) [hX, show (ds.length ≤ 281474976710656) from by omega, c68, c80, c49] at e; subst e; (try dsimp only); refine ⟨rfl, ?_⟩) | ((first | (refine W.ret ?_; (try simp only [zAl, zA3, zAf]); refine endW.of (.inl rfl) rfl ?_) | refine endW.of (.inr rfl) rfl ?_); generalize e : zAo _ _ _ = r; simp (disch := omega) [hX, show (ds.length ≤ 281474976710656) from by omega, c68, c80, c49] at e; subst e; (try dsimp only [goW]); (first | refine ⟨rfl, ?_⟩ | (refine hk _ _ _ _ ?_ ?_; omega; exact ut_))))
theorem setEnt_none : ∀ {l : List (Nat × CObj)} {p : Nat} {x : CObj}, zA2 l p = none → zA0 l p x = l
 | [], _, _, _ => rfl
 | (i, o) :: r, p, x, h => by
  by_cases hi : i = p
  · subst hi; simp [zA2] at h
  · simp [zA2, hi] at h; simp [zA0, hi, setEnt_none h]
def Over (n0 : Nat) (E0 l : List (Nat × CObj)) : Prop := ∃ pre, l = pre ++ E0 ∧ (∀ x ∈ pre, n0 ≤ x.1) ∧ Under E0 n0
theorem Over.cons {n0 : Nat} {E0 l : List (Nat × CObj)} {i : Nat} {o : CObj} (h : Over n0 E0 l) (hi : n0 ≤ i) : Over n0 E0 ((i, o) :: l) := by
 obtain ⟨pre, rfl, h1, h2⟩ := h
 exact ⟨(i, o) :: pre, rfl, fun x hx => by rcases List.mem_cons.1 hx with rfl | hx; exact hi; exact h1 x hx, h2⟩
theorem Over.drop {n0 : Nat} {E0 l : List (Nat × CObj)} (h : Over n0 E0 l) : zAx l n0 = E0 := by
 obtain ⟨pre, rfl, h1, h2⟩ := h
 induction pre with
 | nil => exact zAr h2
 | cons a pre ih =>
  have := h1 a (by simp)
  show (if n0 ≤ a.1 then zAx (pre ++ E0) n0 else _) = _
  rw [if_pos this]
  exact ih fun x hx => h1 x (by simp [hx])
theorem set_ids : ∀ {l : List (Nat × CObj)} {p n0 : Nat} {x : CObj}, (∀ y ∈ l, n0 ≤ y.1) → ∀ y ∈ zA0 l p x, n0 ≤ y.1
 | [], _, _, _, _, y, hy => by cases hy
 | (i, o) :: r, p, n0, x, h, y, hy => by
  have h1 := h (i, o) (by simp)
  unfold zA0 at hy
  split at hy
  · rcases List.mem_cons.1 hy with rfl | hy
    · exact h1
    · exact h y (by simp [hy])
  · rcases List.mem_cons.1 hy with rfl | hy
    · exact h1
    · exact set_ids (fun z hz => h z (by simp [hz])) y hy
theorem set_append : ∀ {pre E0 : List (Nat × CObj)} {p : Nat} {x : CObj}, zA2 E0 p = none → zA0 (pre ++ E0) p x = zA0 pre p x ++ E0
 | [], _, _, _, h => setEnt_none h
 | (i, o) :: r, E0, p, x, h => by
  have := set_append (pre := r) (x := x) h
  simp only [List.cons_append, zA0]
  split
  · rfl
  · rw [this]; rfl
theorem Over.set {n0 : Nat} {E0 l : List (Nat × CObj)} {p : Nat} {x : CObj} (h : Over n0 E0 l) (hp : n0 ≤ p) : Over n0 E0 (zA0 l p x) := by
 obtain ⟨pre, rfl, h1, h2⟩ := h
 exact ⟨zA0 pre p x, set_append (getEnt_under h2 hp), set_ids h1, h2⟩
structure St (n0 : Nat) (E0 : List (Nat × CObj)) (p : Nat) (s : List UInt8) (a : Int) (L : CVal) (ts : List CVal) (e to : Int) (h : CHeap) : Prop where
 g : zA2 h.ents p = some (rdr s a L e to)
 l : L = .nils ∧ ts = [] ∨ ∃ i v, L = .imm (.own i v) 4 ts ∧ zA2 h.ents i = some (.tok v) ∧ i ≠ p ∧ n0 ≤ i ∧ i < h.next
 d : Over n0 E0 h.ents
 n : n0 ≤ p
 lt : p < h.next
 f : Fit h
theorem St.whole {n0 : Nat} {E0 : List (Nat × CObj)} {p : Nat} {s : List UInt8} {a : Int} {L : CVal} {ts : List CVal} {e to : Int} {h : CHeap} (S : St n0 E0 p s a L ts e to h) : L.whole = true ∧ L.cells.length = 1 := by
 rcases S.l with ⟨rfl, _⟩ | ⟨i, v, rfl, _⟩ <;> exact ⟨rfl, rfl⟩
theorem St.upd {n0 : Nat} {E0 : List (Nat × CObj)} {p : Nat} {s : List UInt8} {a a' : Int} {L : CVal} {ts : List CVal} {e to e' to' : Int} {h : CHeap} {n' : Nat} {ty : List (Nat × Nat)} (S : St n0 E0 p s a L ts e to h) (hn : h.next ≤ n') (ht : zAb ty n') :
    St n0 E0 p s a' L ts e' to' ⟨zA0 h.ents p (rdr s a' L e' to'), n', ty⟩ where
 g := zA7 S.g
 l := by
  rcases S.l with h1 | ⟨i, v, h1, h2, h3, h4, h5⟩
  · exact .inl h1
  · exact .inr ⟨i, v, h1, (zA1 h3).trans h2, h3, h4, by (try dsimp only); omega⟩
 d := S.d.set S.n
 n := S.n
 lt := by have := S.lt; (try dsimp only); omega
 f := ⟨S.f.1.set.le hn, ht⟩
theorem St.app0 {n0 : Nat} {E0 : List (Nat × CObj)} {p : Nat} {s : List UInt8} {a a' : Int} {e to e' to' : Int} {h : CHeap} {n' i : Nat} {ty : List (Nat × Nat)} {x : CVal} {ts : List CVal} (S : St n0 E0 p s a .nils ts e to h) (hi : h.next ≤ i) (hn : i < n') (ht : zAb ty n') :
    St n0 E0 p s a' (.imm (.own i 0) 4 [x]) [x] e' to' ⟨(i, .tok 0) :: zA0 h.ents p (rdr s a' (.imm (.own i 0) 4 [x]) e' to'), n', ty⟩ := by
 have hlt := S.lt
 have hn0 := S.n
 have hip : (i == p) = false := by simp; omega
 exact {
  g := by simp only [zA2, hip, Bool.false_eq_true, if_false]; exact zA7 S.g
  l := .inr ⟨i, 0, rfl, by simp [zA2], by omega, by omega, hn⟩
  d := (S.d.set hn0).cons (by omega)
  n := hn0
  lt := by (try dsimp only); omega
  f := ⟨Under.cons hn (S.f.1.set.le (by (try dsimp only); omega)), ht⟩ }
theorem St.app1 {n0 : Nat} {E0 : List (Nat × CObj)} {p : Nat} {s : List UInt8} {a a' : Int} {e to e' to' : Int} {h : CHeap} {n' i v : Nat} {ty : List (Nat × Nat)} {x : CVal} {ts : List CVal} {L : CVal} (S : St n0 E0 p s a L ts e to h) (ht : zA2 h.ents i = some (.tok v)) (hip : i ≠ p) (hi0 : n0 ≤ i) (hin : i < h.next) (hn : h.next ≤ n') (hty : zAb ty n') :
    St n0 E0 p s a' (.imm (.own i (v + 1)) 4 (ts ++ [x])) (ts ++ [x]) e' to' ⟨zA0 (zA0 h.ents i (.tok (v + 1))) p (rdr s a' (.imm (.own i (v + 1)) 4 (ts ++ [x])) e' to'), n', ty⟩ := by
 have hlt := S.lt
 have hn0 := S.n
 have hg : zA2 (zA0 h.ents i (.tok (v + 1))) p = some (rdr s a L e to) := (zA1 (Ne.symm hip)).trans S.g
 exact {
  g := zA7 hg
  l := .inr ⟨i, v + 1, rfl, (zA1 hip).trans (zA7 ht), hip, hi0, by (try dsimp only); omega⟩
  d := (S.d.set hi0).set hn0
  n := hn0
  lt := by (try dsimp only); omega
  f := ⟨S.f.1.set.set.le hn, hty⟩ }
theorem skip_F {n0 : Nat} {E0 : List (Nat × CObj)} (p d : Nat) (s r : List UInt8) (a : Nat) (L : CVal) (ts : List CVal) (to : Int) (hs : s.length < 60000) (hda : s.drop a = r) (hlen : a + r.length = s.length) (h : CHeap) (S : St n0 E0 p s a L ts 0 to h) (K : CVal → CHeap → Prop)
    (hk1 : ∀ h', (skipF r).2 = true → St n0 E0 p s ((s.length - (skipF r).1.length : Nat) : Int) L ts 0 to h' → h.next ≤ h'.next → K (.tup []) h')
    (hk2 : ∀ h', (skipF r).2 = false → St n0 E0 p s (((s.length - (skipF r).1.length : Nat) : Int) + 3) L ts 2 ((s.length - (skipF r).1.length : Nat) : Int) h' → h.next ≤ h'.next → K (.tup []) h') : Wc tree.getF 16 [.ptr p d 0] h K := by
 have hg := S.g
 have hf := S.f
 have hp := S.lt
 have hL := S.whole
 obtain ⟨hu, hut, hX⟩ := fx4 hf
 have hY := fx5 hf hg
 refine Wc.mkG 16 c16 (by kernel_rfl) rfl ?_
 generalize e : zAa _ _ _ = r
 simp (disch := omega) [hX, hg, hY, c16] at e
 subst e
 repeat (first | refine sq_ ?_ | refine bl_ ?_ | ((first | refine rg_ ?_ | refine go_ ?_); generalize e : goR _ _ _ _ _ _ _ _ = r; simp (disch := omega) [hX, hg, hY, c16] at e; replace e : some _ = _ := e; subst e; (try dsimp only [goW])) | refine ct_ rfl ?_ | refine cf_ rfl ?_ | refine sk_ ?_ | refine ex_ ?_)
 refine skip_loop s hs p d L hL.1 hL.2 to _ r.length r a (Nat.le_refl _) hda hlen _ _ _ _ _ _ _ _ hg ⟨hu, hut⟩ hp ?_ ?_
 · intro n' ty v1 v2 v3 v4 v5 v6 v7 g1 g2 g3
   try simp only [zAl, zA3, zAf]
   refine endW.of (.inl rfl) rfl ?_
   generalize e : zAo _ _ _ = r
   simp (disch := omega) [hX, hg, hY, c16] at e
   subst e
   (try dsimp only)
   exact hk1 _ g3 (S.upd g1 g2) g1
 · intro n' ty v1 v2 v3 v4 v5 v6 v7 g1 g2 g3
   try simp only [zAl, zA3, zAf]
   refine endW.of (.inr rfl) rfl ?_
   generalize e : zAo _ _ _ = r
   simp (disch := omega) [hX, hg, hY, c16] at e
   subst e
   (try dsimp only)
   exact hk2 _ g3 (S.upd g1 g2) g1
theorem wUJ1 {P : Prop} (h : P := by repeat (first | refine sq_ ?_ | refine bl_ ?_ | ((first | refine rg_ ?_ | refine go_ ?_); generalize e : goR _ _ _ _ _ _ _ _ = r; simp (disch := omega) [hX, hg, hY, htr, hto, hto1, hdsE, hC4, hc1, c33, c35] at e; replace e : some _ = _ := e; subst e; (try dsimp only [goW])) | refine ct_ rfl ?_ | refine cf_ rfl ?_ | refine sk_ ?_ | refine ex_ ?_ | (refine FR _ ?_ _ fun n2 tyn2 hn2 hun2 => ⟨rfl, ?_⟩; exact fit_; (try dsimp only at hn2)) | (refine P _ ?_ _ fun n3 tyn3 hn3 hun3 => ⟨rfl, ?_⟩; exact fit_; (try dsimp only at hn3)) | (refine (contains_N c _ hcc) _ ?_ _ fun n4 tyn4 hn4 hun4 => ⟨rfl, ?_⟩; exact fit_; (try dsimp only at hn4)) | (refine Wc.mkG 33 c33 (by kernel_rfl) rfl ?_; generalize e : zAa _ _ _ = r; simp (disch := omega) [hX, hg, hY, htr, hto, hto1, hdsE, hC4, hc1, c33, c35] at e; subst e) | ((first | (refine W.ret ?_; (try simp only [zAl, zA3, zAf]); refine endW.of (.inl rfl) rfl ?_) | refine endW.of (.inr rfl) rfl ?_); generalize e : zAo _ _ _ = r; simp (disch := omega) [hX, hg, hY, htr, hto, hto1, hdsE, hC4, hc1, c33, c35] at e; subst e; (try dsimp only [goW]); (first | refine ⟨rfl, ?_⟩ | (refine hk _ _ (S.app0 ?_ ?_ ?_) ?_; omega; omega; exact ut_; (try dsimp only); omega))))) : P := h
theorem wUJ2 {P : Prop} (h : P := by repeat (first | refine sq_ ?_ | refine bl_ ?_ | ((first | refine rg_ ?_ | refine go_ ?_); generalize e : goR _ _ _ _ _ _ _ _ = r; simp (disch := omega) [hX, hg, hY, ht, htP, hPt, hTT, hiP, hcomm, hC3, hD3, htr, hto, hto1, hdsE, hC4, hC5, hc1, c33, c35] at e; replace e : some _ = _ := e; subst e; (try dsimp only [goW])) | refine ct_ rfl ?_ | refine cf_ rfl ?_ | refine sk_ ?_ | refine ex_ ?_ | (refine FR _ ?_ _ fun n2 tyn2 hn2 hun2 => ⟨rfl, ?_⟩; exact fit_; (try dsimp only at hn2)) | (refine P _ ?_ _ fun n3 tyn3 hn3 hun3 => ⟨rfl, ?_⟩; exact fit_; (try dsimp only at hn3)) | (refine (contains_N c _ hcc) _ ?_ _ fun n4 tyn4 hn4 hun4 => ⟨rfl, ?_⟩; exact fit_; (try dsimp only at hn4)) | (refine Wc.mkG 33 c33 (by kernel_rfl) rfl ?_; generalize e : zAa _ _ _ = r; simp (disch := omega) [hX, hg, hY, ht, htP, hPt, hTT, hiP, hcomm, hC3, hD3, htr, hto, hto1, hdsE, hC4, hC5, hc1, c33, c35] at e; subst e) | ((first | (refine W.ret ?_; (try simp only [zAl, zA3, zAf]); refine endW.of (.inl rfl) rfl ?_) | refine endW.of (.inr rfl) rfl ?_); generalize e : zAo _ _ _ = r; simp (disch := omega) [hX, hg, hY, ht, htP, hPt, hTT, hiP, hcomm, hC3, hD3, htr, hto, hto1, hdsE, hC4, hC5, hc1, c33, c35] at e; subst e; (try dsimp only [goW]); (first | refine ⟨rfl, ?_⟩ | (refine hk _ _ (S.app1 ht hip hi0 hin ?_ ?_) ?_; omega; exact ut_; (try dsimp only); omega))))) : P := h
theorem wUJ3 {P : Prop} (h : P := by repeat (first | refine sq_ ?_ | refine bl_ ?_ | ((first | refine rg_ ?_ | refine go_ ?_); generalize e : goR _ _ _ _ _ _ _ _ = r; simp (disch := omega) [hX, hg, hY, htr, hto, hto1, hdsE, hC4, hc1, c33, c35] at e; replace e : some _ = _ := e; subst e; (try dsimp only [goW])) | refine ct_ rfl ?_ | refine cf_ rfl ?_ | refine sk_ ?_ | refine ex_ ?_ | (refine FR _ ?_ _ fun n2 tyn2 hn2 hun2 => ⟨rfl, ?_⟩; exact fit_; (try dsimp only at hn2)) | (refine P _ ?_ _ fun n3 tyn3 m3 d3 hn3 hun3 => ⟨rfl, ?_⟩; exact fit_; (try dsimp only at hn3)) | (refine (contains_N c _ hcc) _ ?_ _ fun n4 tyn4 hn4 hun4 => ⟨rfl, ?_⟩; exact fit_; (try dsimp only at hn4)) | (refine Wc.mkG 33 c33 (by kernel_rfl) rfl ?_; generalize e : zAa _ _ _ = r; simp (disch := omega) [hX, hg, hY, htr, hto, hto1, hdsE, hC4, hc1, c33, c35] at e; subst e) | ((first | (refine W.ret ?_; (try simp only [zAl, zA3, zAf]); refine endW.of (.inl rfl) rfl ?_) | refine endW.of (.inr rfl) rfl ?_); generalize e : zAo _ _ _ = r; simp (disch := omega) [hX, hg, hY, htr, hto, hto1, hdsE, hC4, hc1, c33, c35] at e; subst e; (try dsimp only [goW]); (first | refine ⟨rfl, ?_⟩ | (refine hk _ _ (S.app0 ?_ ?_ ?_) ?_; omega; omega; exact ut_; (try dsimp only); omega))))) : P := h
theorem wUJ4 {P : Prop} (h : P := by repeat (first | refine sq_ ?_ | refine bl_ ?_ | ((first | refine rg_ ?_ | refine go_ ?_); generalize e : goR _ _ _ _ _ _ _ _ = r; simp (disch := omega) [hX, hg, hY, ht, htP, hPt, hTT, hiP, hcomm, hC3, hD3, htr, hto, hto1, hdsE, hC4, hC5, hc1, c33, c35] at e; replace e : some _ = _ := e; subst e; (try dsimp only [goW])) | refine ct_ rfl ?_ | refine cf_ rfl ?_ | refine sk_ ?_ | refine ex_ ?_ | (refine FR _ ?_ _ fun n2 tyn2 hn2 hun2 => ⟨rfl, ?_⟩; exact fit_; (try dsimp only at hn2)) | (refine P _ ?_ _ fun n3 tyn3 m3 d3 hn3 hun3 => ⟨rfl, ?_⟩; exact fit_; (try dsimp only at hn3)) | (refine (contains_N c _ hcc) _ ?_ _ fun n4 tyn4 hn4 hun4 => ⟨rfl, ?_⟩; exact fit_; (try dsimp only at hn4)) | (refine Wc.mkG 33 c33 (by kernel_rfl) rfl ?_; generalize e : zAa _ _ _ = r; simp (disch := omega) [hX, hg, hY, ht, htP, hPt, hTT, hiP, hcomm, hC3, hD3, htr, hto, hto1, hdsE, hC4, hC5, hc1, c33, c35] at e; subst e) | ((first | (refine W.ret ?_; (try simp only [zAl, zA3, zAf]); refine endW.of (.inl rfl) rfl ?_) | refine endW.of (.inr rfl) rfl ?_); generalize e : zAo _ _ _ = r; simp (disch := omega) [hX, hg, hY, ht, htP, hPt, hTT, hiP, hcomm, hC3, hD3, htr, hto, hto1, hdsE, hC4, hC5, hc1, c33, c35] at e; subst e; (try dsimp only [goW]); (first | refine ⟨rfl, ?_⟩ | (refine hk _ _ (S.app1 ht hip hi0 hin ?_ ?_) ?_; omega; exact ut_; (try dsimp only); omega))))) : P := h
abbrev numTail : CCode := (.seq (.region [.v 4, .v 1, .v 4, .g (.slc 0 (.loc 1) (some (.loc 0)) none), .v 5, .g (.call false 31 [(.loc 1), (.loc 0)]), .g (.bin .add (.loc 5) (.loc 0)), .m (.loc 0)] [(6, 7)] [] []) (.seq (.region [.v 1, .v 4, .v 6, .g (.slc 0 (.loc 2) (some (.loc 1)) (some (.loc 0))), .v 7, .g (.call false 49 [(.loc 1), (.loc 0), (.const (.int .i64 64))]), .m (.loc 0), .g (.extract 0 (.loc 0)), .g (.extract 1 (.loc 1)), .m (.loc 1), .m (.loc 1)] [(8, 10), (10, 9)] [] []) (.seq (.region [.v 0, .v 8, .g (.eqv .ifc true (.loc 0) (.const .nili)), .v 0, .n 0, .f 1 0, .l 0, .g (.call false 33 [(.loc 6), (.loc 4), (.const (.int .i64 3)), (.loc 0)])] [] [] []) (.seq (.seq (.region [.v 6, .v 1, .g (.len true (.loc 0)), .g (.bin .lss (.loc 2) (.loc 0))] [(9, 3)] [] []) (.cond (.var 9) (.region [.v 0, .v 1, .v 6, .v 6, .g (.bin .add (.loc 0) (.const (.int .i64 1))), .g (.slc 0 (.loc 3) (some (.loc 2)) (some (.loc 0))), .g (.call false 15 [(.const (.str [65, 66, 67, 68, 69, 70, 71, 72, 73, 74, 75, 76, 77, 78, 79, 80, 81, 82, 83, 84, 85, 86, 87, 88, 89, 90, 97, 98, 99, 100, 101, 102, 103, 104, 105, 106, 107, 108, 109, 110, 111, 112, 113, 114, 115, 116, 117, 118, 119, 120, 121, 122, 95, 48, 49, 50, 51, 52, 53, 54, 55, 56, 57, 46])), (.loc 0)]), .v 0, .n 0, .f 1 0, .l 0, .g (.call false 33 [(.loc 10), (.loc 4), (.const (.int .i64 2)), (.loc 0)])] [] [(10, 0, 1)] []) .skip)) (.seq (.region [.v 0, .v 0, .n 0, .f 2 0, .l 0, .v 10, .v 0, .n 0, .f 1 0, .l 0, .g (.build [(.int .i64 0), (.str []), (.int .u64 0), (.int .i64 0)] [(0, 1, (.const (.int .i64 2))), (2, 1, (.loc 4)), (3, 1, (.loc 0))]), .g (.lit .imm true [(.int .i64 0), (.str []), (.int .u64 0), (.int .i64 0)] 1 [(0, (.loc 0))]), .g (.append .imm 0 4 (.loc 7) (.loc 0)), .n 12, .f 2 0, .g (.store 1 (.loc 0) (.loc 2))] [] [] []) (.region [.v 0, .n 0, .f 1 0, .l 0, .v 6, .g (.bin .add (.loc 1) (.loc 0)), .n 5, .f 1 0, .g (.store 1 (.loc 0) (.loc 2))] [] [] []))))))
abbrev tokC (k : Int) (t : List UInt8) (n : Nat) (a : Int) : CVal := .agg [.int .i64 k, .str t, .int .u64 (n : Int), .int .i64 a]
theorem contains_N (c : UInt8) (b : Bool) (hb : (namesB ++ [46]).contains c = b) : Pu tree.getF 15 [.str [65, 66, 67, 68, 69, 70, 71, 72, 73, 74, 75, 76, 77, 78, 79, 80, 81, 82, 83, 84, 85, 86, 87, 88, 89, 90, 97, 98, 99, 100, 101, 102, 103, 104, 105, 106, 107, 108, 109, 110, 111, 112, 113, 114, 115, 116, 117, 118, 119, 120, 121, 122, 95, 48, 49, 50, 51, 52, 53, 54, 55, 56, 57, 46], .str [c]] (.bool b) := by
 rw [← hb]; exact contains_F (namesB ++ [46]) c (by decide)
theorem tail_ok_end0 {n0 n1 : Nat} {E0 : List (Nat × CObj)} (p d : Nat) (s r : List UInt8) (a n k : Nat) (B : Int) (v0 : Nat) (set ds : List UInt8) (ts : List CVal) (hts : ts.length ≤ 100000) (to : Int) (hs : s.length < 60000) (hda : s.drop a = r) (hlen : a + r.length = s.length) (hnk : n + k ≤ r.length) (hdsE : (r.take (n + k)).drop n = ds)
    (FR : Pu tree.getF 31 [.str (r.drop n), .str set] (.int .i64 (k : Int))) (P : Pu tree.getF 49 [.str ds, .int .i64 B, .int .i64 64] (.tup [.int .u64 (v0 : Int), .nili])) (hend : n + k = r.length) (h : CHeap) (S : St n0 E0 p s (a : Int) (.nils) [] 0 to h) (hn1 : n1 ≤ h.next) (hu1 : Under h.ents n1) (v2 v3 v6 v8 v9 v10 : CVal) (K : CVal → CHeap → Prop)
    (hk : ∀ h' L', St n0 E0 p s ((a : Int) + ((n : Int) + (k : Int))) L' ([] ++ [tokC 2 [] v0 a]) 0 to h' → h.next ≤ h'.next → K (.tup []) h') : W tree.getF numTail ⟨[.ptr p d 0, .str r, v2, v3, .int .i64 (n : Int), .str set, v6, .int .i64 B, v8, v9, v10], h, []⟩ (endW c35 n1 K) := by
 have hg := S.g
 have hf := S.f
 have hp := S.lt
 obtain ⟨hu, hut, hX⟩ := fx4 hf
 have hY := fx5 hf hg
 have hC4 : ∀ x, zAc (zA0 h.ents p x) n1 = zA0 h.ents p x := fun x => zAh hu1.set
 have htr : r.take r.length = r := List.take_length
 have hto : ((n : Int) + (k : Int)).toNat = n + k := by omega
 have hto1 : ((n : Int) + (k : Int) + 1).toNat = n + k + 1 := by omega
 repeat (first | refine sq_ ?_ | refine bl_ ?_ | ((first | refine rg_ ?_ | refine go_ ?_); generalize e : goR _ _ _ _ _ _ _ _ = r; simp (disch := omega) [hX, hg, hY, htr, hto, hto1, hdsE, hC4, c33, c35] at e; replace e : some _ = _ := e; subst e; (try dsimp only [goW])) | refine ct_ rfl ?_ | refine cf_ rfl ?_ | refine sk_ ?_ | refine ex_ ?_ | (refine FR _ ?_ _ fun n2 tyn2 hn2 hun2 => ⟨rfl, ?_⟩; exact fit_; (try dsimp only at hn2)) | (refine P _ ?_ _ fun n3 tyn3 hn3 hun3 => ⟨rfl, ?_⟩; exact fit_; (try dsimp only at hn3)) | (refine Wc.mkG 33 c33 (by kernel_rfl) rfl ?_; generalize e : zAa _ _ _ = r; simp (disch := omega) [hX, hg, hY, htr, hto, hto1, hdsE, hC4, c33, c35] at e; subst e) | ((first | (refine W.ret ?_; (try simp only [zAl, zA3, zAf]); refine endW.of (.inl rfl) rfl ?_) | refine endW.of (.inr rfl) rfl ?_); generalize e : zAo _ _ _ = r; simp (disch := omega) [hX, hg, hY, htr, hto, hto1, hdsE, hC4, c33, c35] at e; subst e; (try dsimp only [goW]); (first | refine ⟨rfl, ?_⟩ | (refine hk _ _ (S.app0 ?_ ?_ ?_) ?_; omega; omega; exact ut_; (try dsimp only); omega))))
theorem tail_ok_end1 {n0 n1 : Nat} {E0 : List (Nat × CObj)} (p d : Nat) (s r : List UInt8) (a n k : Nat) (B : Int) (v0 : Nat) (set ds : List UInt8) (ts : List CVal) (hts : ts.length ≤ 100000) (to : Int) (hs : s.length < 60000) (hda : s.drop a = r) (hlen : a + r.length = s.length) (hnk : n + k ≤ r.length) (hdsE : (r.take (n + k)).drop n = ds)
    (FR : Pu tree.getF 31 [.str (r.drop n), .str set] (.int .i64 (k : Int))) (P : Pu tree.getF 49 [.str ds, .int .i64 B, .int .i64 64] (.tup [.int .u64 (v0 : Int), .nili])) (hend : n + k = r.length) (h : CHeap) (i v : Nat) (ht : zA2 h.ents i = some (.tok v)) (hip : i ≠ p) (hi0 : n0 ≤ i) (hin : i < h.next) (S : St n0 E0 p s (a : Int) (.imm (.own i v) 4 ts) ts 0 to h) (hn1 : n1 ≤ h.next) (hu1 : Under h.ents n1) (v2 v3 v6 v8 v9 v10 : CVal) (K : CVal → CHeap → Prop)
    (hk : ∀ h' L', St n0 E0 p s ((a : Int) + ((n : Int) + (k : Int))) L' (ts ++ [tokC 2 [] v0 a]) 0 to h' → h.next ≤ h'.next → K (.tup []) h') : W tree.getF numTail ⟨[.ptr p d 0, .str r, v2, v3, .int .i64 (n : Int), .str set, v6, .int .i64 B, v8, v9, v10], h, []⟩ (endW c35 n1 K) := by
 have hg := S.g
 have hf := S.f
 have hp := S.lt
 obtain ⟨hu, hut, hX⟩ := fx4 hf
 have hY := fx5 hf hg
 have htP : ∀ x, zA2 (zA0 h.ents p x) i = some (.tok v) := fun x => (zA1 hip).trans ht
 have hPt : ∀ x y, zA2 (zA0 (zA0 h.ents i x) p y) p = some y := fun x y => zA7 ((zA1 (Ne.symm hip)).trans hg)
 have hTT : ∀ x y, zA2 (zA0 (zA0 h.ents i x) p y) i = some x := fun x y => (zA1 hip).trans (zA7 ht)
 have hiP : ∀ x, zA2 (zA0 h.ents i x) p = _ := fun x => (zA1 (Ne.symm hip)).trans hg
 have hcomm : ∀ x y, zA0 (zA0 h.ents p y) i x = zA0 (zA0 h.ents i x) p y := fun x y => zAw (Ne.symm hip)
 have hC3 : ∀ x y m, h.next ≤ m → zAc (zA0 (zA0 h.ents i x) p y) m = zA0 (zA0 h.ents i x) p y := fun x y m hm => zAh (hu.set.set.le hm)
 have hD3 : ∀ x y m, h.next ≤ m → zAx (zA0 (zA0 h.ents i x) p y) m = zA0 (zA0 h.ents i x) p y := fun x y m hm => zAr (hu.set.set.le hm)
 have hC4 : ∀ x, zAc (zA0 h.ents p x) n1 = zA0 h.ents p x := fun x => zAh hu1.set
 have hC5 : ∀ x y, zAc (zA0 (zA0 h.ents i x) p y) n1 = zA0 (zA0 h.ents i x) p y := fun x y => zAh hu1.set.set
 have htr : r.take r.length = r := List.take_length
 have hto : ((n : Int) + (k : Int)).toNat = n + k := by omega
 have hto1 : ((n : Int) + (k : Int) + 1).toNat = n + k + 1 := by omega
 repeat (first | refine sq_ ?_ | refine bl_ ?_ | ((first | refine rg_ ?_ | refine go_ ?_); generalize e : goR _ _ _ _ _ _ _ _ = r; simp (disch := omega) [hX, hg, hY, ht, htP, hPt, hTT, hiP, hcomm, hC3, hD3, htr, hto, hto1, hdsE, hC4, hC5, c33, c35] at e; replace e : some _ = _ := e; subst e; (try dsimp only [goW])) | refine ct_ rfl ?_ | refine cf_ rfl ?_ | refine sk_ ?_ | refine ex_ ?_ | (refine FR _ ?_ _ fun n2 tyn2 hn2 hun2 => ⟨rfl, ?_⟩; exact fit_; (try dsimp only at hn2)) | (refine P _ ?_ _ fun n3 tyn3 hn3 hun3 => ⟨rfl, ?_⟩; exact fit_; (try dsimp only at hn3)) | (refine Wc.mkG 33 c33 (by kernel_rfl) rfl ?_; generalize e : zAa _ _ _ = r; simp (disch := omega) [hX, hg, hY, ht, htP, hPt, hTT, hiP, hcomm, hC3, hD3, htr, hto, hto1, hdsE, hC4, hC5, c33, c35] at e; subst e) | ((first | (refine W.ret ?_; (try simp only [zAl, zA3, zAf]); refine endW.of (.inl rfl) rfl ?_) | refine endW.of (.inr rfl) rfl ?_); generalize e : zAo _ _ _ = r; simp (disch := omega) [hX, hg, hY, ht, htP, hPt, hTT, hiP, hcomm, hC3, hD3, htr, hto, hto1, hdsE, hC4, hC5, c33, c35] at e; subst e; (try dsimp only [goW]); (first | refine ⟨rfl, ?_⟩ | (refine hk _ _ (S.app1 ht hip hi0 hin ?_ ?_) ?_; omega; exact ut_; (try dsimp only); omega))))
theorem tail_ok_good0 {n0 n1 : Nat} {E0 : List (Nat × CObj)} (p d : Nat) (s r : List UInt8) (a n k : Nat) (B : Int) (v0 : Nat) (set ds : List UInt8) (ts : List CVal) (hts : ts.length ≤ 100000) (to : Int) (hs : s.length < 60000) (hda : s.drop a = r) (hlen : a + r.length = s.length) (hnk : n + k ≤ r.length) (hdsE : (r.take (n + k)).drop n = ds)
    (FR : Pu tree.getF 31 [.str (r.drop n), .str set] (.int .i64 (k : Int))) (P : Pu tree.getF 49 [.str ds, .int .i64 B, .int .i64 64] (.tup [.int .u64 (v0 : Int), .nili])) (c : UInt8) (t : List UInt8) (hc : r.drop (n + k) = c :: t) (hcc : (namesB ++ [46]).contains c = false) (h : CHeap) (S : St n0 E0 p s (a : Int) (.nils) [] 0 to h) (hn1 : n1 ≤ h.next) (hu1 : Under h.ents n1) (v2 v3 v6 v8 v9 v10 : CVal) (K : CVal → CHeap → Prop)
    (hk : ∀ h' L', St n0 E0 p s ((a : Int) + ((n : Int) + (k : Int))) L' ([] ++ [tokC 2 [] v0 a]) 0 to h' → h.next ≤ h'.next → K (.tup []) h') : W tree.getF numTail ⟨[.ptr p d 0, .str r, v2, v3, .int .i64 (n : Int), .str set, v6, .int .i64 B, v8, v9, v10], h, []⟩ (endW c35 n1 K) := by
 have hg := S.g
 have hf := S.f
 have hp := S.lt
 obtain ⟨hu, hut, hX⟩ := fx4 hf
 have hY := fx5 hf hg
 have hC4 : ∀ x, zAc (zA0 h.ents p x) n1 = zA0 h.ents p x := fun x => zAh hu1.set
 have htr : r.take r.length = r := List.take_length
 have hto : ((n : Int) + (k : Int)).toNat = n + k := by omega
 have hto1 : ((n : Int) + (k : Int) + 1).toNat = n + k + 1 := by omega
 have hlt : n + k < r.length := by
  rcases Nat.lt_or_ge (n + k) r.length with h' | h'
  · exact h'
  · rw [List.drop_eq_nil_of_le h'] at hc; cases hc
 have hc1 : (r.take (n + k + 1)).drop (n + k) = [c] := by
  rw [List.drop_take, hc, show n + k + 1 - (n + k) = 1 by omega]; rfl
 exact wUJ1
theorem tail_ok_good1 {n0 n1 : Nat} {E0 : List (Nat × CObj)} (p d : Nat) (s r : List UInt8) (a n k : Nat) (B : Int) (v0 : Nat) (set ds : List UInt8) (ts : List CVal) (hts : ts.length ≤ 100000) (to : Int) (hs : s.length < 60000) (hda : s.drop a = r) (hlen : a + r.length = s.length) (hnk : n + k ≤ r.length) (hdsE : (r.take (n + k)).drop n = ds)
    (FR : Pu tree.getF 31 [.str (r.drop n), .str set] (.int .i64 (k : Int))) (P : Pu tree.getF 49 [.str ds, .int .i64 B, .int .i64 64] (.tup [.int .u64 (v0 : Int), .nili])) (c : UInt8) (t : List UInt8) (hc : r.drop (n + k) = c :: t) (hcc : (namesB ++ [46]).contains c = false) (h : CHeap) (i v : Nat) (ht : zA2 h.ents i = some (.tok v)) (hip : i ≠ p) (hi0 : n0 ≤ i) (hin : i < h.next) (S : St n0 E0 p s (a : Int) (.imm (.own i v) 4 ts) ts 0 to h) (hn1 : n1 ≤ h.next) (hu1 : Under h.ents n1) (v2 v3 v6 v8 v9 v10 : CVal) (K : CVal → CHeap → Prop)
    (hk : ∀ h' L', St n0 E0 p s ((a : Int) + ((n : Int) + (k : Int))) L' (ts ++ [tokC 2 [] v0 a]) 0 to h' → h.next ≤ h'.next → K (.tup []) h') : W tree.getF numTail ⟨[.ptr p d 0, .str r, v2, v3, .int .i64 (n : Int), .str set, v6, .int .i64 B, v8, v9, v10], h, []⟩ (endW c35 n1 K) := by
 have hg := S.g
 have hf := S.f
 have hp := S.lt
 obtain ⟨hu, hut, hX⟩ := fx4 hf
 have hY := fx5 hf hg
 have htP : ∀ x, zA2 (zA0 h.ents p x) i = some (.tok v) := fun x => (zA1 hip).trans ht
 have hPt : ∀ x y, zA2 (zA0 (zA0 h.ents i x) p y) p = some y := fun x y => zA7 ((zA1 (Ne.symm hip)).trans hg)
 have hTT : ∀ x y, zA2 (zA0 (zA0 h.ents i x) p y) i = some x := fun x y => (zA1 hip).trans (zA7 ht)
 have hiP : ∀ x, zA2 (zA0 h.ents i x) p = _ := fun x => (zA1 (Ne.symm hip)).trans hg
 have hcomm : ∀ x y, zA0 (zA0 h.ents p y) i x = zA0 (zA0 h.ents i x) p y := fun x y => zAw (Ne.symm hip)
 have hC3 : ∀ x y m, h.next ≤ m → zAc (zA0 (zA0 h.ents i x) p y) m = zA0 (zA0 h.ents i x) p y := fun x y m hm => zAh (hu.set.set.le hm)
 have hD3 : ∀ x y m, h.next ≤ m → zAx (zA0 (zA0 h.ents i x) p y) m = zA0 (zA0 h.ents i x) p y := fun x y m hm => zAr (hu.set.set.le hm)
 have hC4 : ∀ x, zAc (zA0 h.ents p x) n1 = zA0 h.ents p x := fun x => zAh hu1.set
 have hC5 : ∀ x y, zAc (zA0 (zA0 h.ents i x) p y) n1 = zA0 (zA0 h.ents i x) p y := fun x y => zAh hu1.set.set
 have htr : r.take r.length = r := List.take_length
 have hto : ((n : Int) + (k : Int)).toNat = n + k := by omega
 have hto1 : ((n : Int) + (k : Int) + 1).toNat = n + k + 1 := by omega
 have hlt : n + k < r.length := by
  rcases Nat.lt_or_ge (n + k) r.length with h' | h'
  · exact h'
  · rw [List.drop_eq_nil_of_le h'] at hc; cases hc
 have hc1 : (r.take (n + k + 1)).drop (n + k) = [c] := by
  rw [List.drop_take, hc, show n + k + 1 - (n + k) = 1 by omega]; rfl
 exact wUJ2
theorem tail_ok_bad0 {n0 n1 : Nat} {E0 : List (Nat × CObj)} (p d : Nat) (s r : List UInt8) (a n k : Nat) (B : Int) (v0 : Nat) (set ds : List UInt8) (ts : List CVal) (hts : ts.length ≤ 100000) (to : Int) (hs : s.length < 60000) (hda : s.drop a = r) (hlen : a + r.length = s.length) (hnk : n + k ≤ r.length) (hdsE : (r.take (n + k)).drop n = ds)
    (FR : Pu tree.getF 31 [.str (r.drop n), .str set] (.int .i64 (k : Int))) (P : Pu tree.getF 49 [.str ds, .int .i64 B, .int .i64 64] (.tup [.int .u64 (v0 : Int), .nili])) (c : UInt8) (t : List UInt8) (hc : r.drop (n + k) = c :: t) (hcc : (namesB ++ [46]).contains c = true) (h : CHeap) (S : St n0 E0 p s (a : Int) (.nils) [] 0 to h) (hn1 : n1 ≤ h.next) (hu1 : Under h.ents n1) (v2 v3 v6 v8 v9 v10 : CVal) (K : CVal → CHeap → Prop)
    (hk : ∀ h' L', St n0 E0 p s ((a : Int) + ((n : Int) + (k : Int))) L' ([] ++ [tokC 2 [] v0 a]) 2 (a : Int) h' → h.next ≤ h'.next → K (.tup []) h') : W tree.getF numTail ⟨[.ptr p d 0, .str r, v2, v3, .int .i64 (n : Int), .str set, v6, .int .i64 B, v8, v9, v10], h, []⟩ (endW c35 n1 K) := by
 have hg := S.g
 have hf := S.f
 have hp := S.lt
 obtain ⟨hu, hut, hX⟩ := fx4 hf
 have hY := fx5 hf hg
 have hC4 : ∀ x, zAc (zA0 h.ents p x) n1 = zA0 h.ents p x := fun x => zAh hu1.set
 have htr : r.take r.length = r := List.take_length
 have hto : ((n : Int) + (k : Int)).toNat = n + k := by omega
 have hto1 : ((n : Int) + (k : Int) + 1).toNat = n + k + 1 := by omega
 have hlt : n + k < r.length := by
  rcases Nat.lt_or_ge (n + k) r.length with h' | h'
  · exact h'
  · rw [List.drop_eq_nil_of_le h'] at hc; cases hc
 have hc1 : (r.take (n + k + 1)).drop (n + k) = [c] := by
  rw [List.drop_take, hc, show n + k + 1 - (n + k) = 1 by omega]; rfl
 exact wUJ1
theorem tail_ok_bad1 {n0 n1 : Nat} {E0 : List (Nat × CObj)} (p d : Nat) (s r : List UInt8) (a n k : Nat) (B : Int) (v0 : Nat) (set ds : List UInt8) (ts : List CVal) (hts : ts.length ≤ 100000) (to : Int) (hs : s.length < 60000) (hda : s.drop a = r) (hlen : a + r.length = s.length) (hnk : n + k ≤ r.length) (hdsE : (r.take (n + k)).drop n = ds)
    (FR : Pu tree.getF 31 [.str (r.drop n), .str set] (.int .i64 (k : Int))) (P : Pu tree.getF 49 [.str ds, .int .i64 B, .int .i64 64] (.tup [.int .u64 (v0 : Int), .nili])) (c : UInt8) (t : List UInt8) (hc : r.drop (n + k) = c :: t) (hcc : (namesB ++ [46]).contains c = true) (h : CHeap) (i v : Nat) (ht : zA2 h.ents i = some (.tok v)) (hip : i ≠ p) (hi0 : n0 ≤ i) (hin : i < h.next) (S : St n0 E0 p s (a : Int) (.imm (.own i v) 4 ts) ts 0 to h) (hn1 : n1 ≤ h.next) (hu1 : Under h.ents n1) (v2 v3 v6 v8 v9 v10 : CVal) (K : CVal → CHeap → Prop)
    (hk : ∀ h' L', St n0 E0 p s ((a : Int) + ((n : Int) + (k : Int))) L' (ts ++ [tokC 2 [] v0 a]) 2 (a : Int) h' → h.next ≤ h'.next → K (.tup []) h') : W tree.getF numTail ⟨[.ptr p d 0, .str r, v2, v3, .int .i64 (n : Int), .str set, v6, .int .i64 B, v8, v9, v10], h, []⟩ (endW c35 n1 K) := by
 have hg := S.g
 have hf := S.f
 have hp := S.lt
 obtain ⟨hu, hut, hX⟩ := fx4 hf
 have hY := fx5 hf hg
 have htP : ∀ x, zA2 (zA0 h.ents p x) i = some (.tok v) := fun x => (zA1 hip).trans ht
 have hPt : ∀ x y, zA2 (zA0 (zA0 h.ents i x) p y) p = some y := fun x y => zA7 ((zA1 (Ne.symm hip)).trans hg)
 have hTT : ∀ x y, zA2 (zA0 (zA0 h.ents i x) p y) i = some x := fun x y => (zA1 hip).trans (zA7 ht)
 have hiP : ∀ x, zA2 (zA0 h.ents i x) p = _ := fun x => (zA1 (Ne.symm hip)).trans hg
 have hcomm : ∀ x y, zA0 (zA0 h.ents p y) i x = zA0 (zA0 h.ents i x) p y := fun x y => zAw (Ne.symm hip)
 have hC3 : ∀ x y m, h.next ≤ m → zAc (zA0 (zA0 h.ents i x) p y) m = zA0 (zA0 h.ents i x) p y := fun x y m hm => zAh (hu.set.set.le hm)
 have hD3 : ∀ x y m, h.next ≤ m → zAx (zA0 (zA0 h.ents i x) p y) m = zA0 (zA0 h.ents i x) p y := fun x y m hm => zAr (hu.set.set.le hm)
 have hC4 : ∀ x, zAc (zA0 h.ents p x) n1 = zA0 h.ents p x := fun x => zAh hu1.set
 have hC5 : ∀ x y, zAc (zA0 (zA0 h.ents i x) p y) n1 = zA0 (zA0 h.ents i x) p y := fun x y => zAh hu1.set.set
 have htr : r.take r.length = r := List.take_length
 have hto : ((n : Int) + (k : Int)).toNat = n + k := by omega
 have hto1 : ((n : Int) + (k : Int) + 1).toNat = n + k + 1 := by omega
 have hlt : n + k < r.length := by
  rcases Nat.lt_or_ge (n + k) r.length with h' | h'
  · exact h'
  · rw [List.drop_eq_nil_of_le h'] at hc; cases hc
 have hc1 : (r.take (n + k + 1)).drop (n + k) = [c] := by
  rw [List.drop_take, hc, show n + k + 1 - (n + k) = 1 by omega]; rfl
 exact wUJ2
theorem tail_ovf_end0 {n0 n1 : Nat} {E0 : List (Nat × CObj)} (p d : Nat) (s r : List UInt8) (a n k : Nat) (B : Int) (v0 : Nat) (set ds : List UInt8) (ts : List CVal) (hts : ts.length ≤ 100000) (to : Int) (hs : s.length < 60000) (hda : s.drop a = r) (hlen : a + r.length = s.length) (hnk : n + k ≤ r.length) (hdsE : (r.take (n + k)).drop n = ds)
    (FR : Pu tree.getF 31 [.str (r.drop n), .str set] (.int .i64 (k : Int))) (P : ∀ (h : CHeap), Fit h → ∀ (K : CVal → CHeap → Prop), (∀ n' ty m d, h.next ≤ n' → zAb ty n' → K (.tup [.int .u64 (v0 : Int), .ifc 119 (.ptr m d 0)]) ⟨h.ents, n', ty⟩) → Wc tree.getF 49 [.str ds, .int .i64 B, .int .i64 64] h K) (hend : n + k = r.length) (h : CHeap) (S : St n0 E0 p s (a : Int) (.nils) [] 0 to h) (hn1 : n1 ≤ h.next) (hu1 : Under h.ents n1) (v2 v3 v6 v8 v9 v10 : CVal) (K : CVal → CHeap → Prop)
    (hk : ∀ h' L', St n0 E0 p s ((a : Int) + ((n : Int) + (k : Int))) L' ([] ++ [tokC 2 [] v0 a]) 3 (a : Int) h' → h.next ≤ h'.next → K (.tup []) h') : W tree.getF numTail ⟨[.ptr p d 0, .str r, v2, v3, .int .i64 (n : Int), .str set, v6, .int .i64 B, v8, v9, v10], h, []⟩ (endW c35 n1 K) := by
 have hg := S.g
 have hf := S.f
 have hp := S.lt
 obtain ⟨hu, hut, hX⟩ := fx4 hf
 have hY := fx5 hf hg
 have hC4 : ∀ x, zAc (zA0 h.ents p x) n1 = zA0 h.ents p x := fun x => zAh hu1.set
 have htr : r.take r.length = r := List.take_length
 have hto : ((n : Int) + (k : Int)).toNat = n + k := by omega
 have hto1 : ((n : Int) + (k : Int) + 1).toNat = n + k + 1 := by omega
 repeat (first | refine sq_ ?_ | refine bl_ ?_ | ((first | refine rg_ ?_ | refine go_ ?_); generalize e : goR _ _ _ _ _ _ _ _ = r; simp (disch := omega) [hX, hg, hY, htr, hto, hto1, hdsE, hC4, c33, c35] at e; replace e : some _ = _ := e; subst e; (try dsimp only [goW])) | refine ct_ rfl ?_ | refine cf_ rfl ?_ | refine sk_ ?_ | refine ex_ ?_ | (refine FR _ ?_ _ fun n2 tyn2 hn2 hun2 => ⟨rfl, ?_⟩; exact fit_; (try dsimp only at hn2)) | (refine P _ ?_ _ fun n3 tyn3 m3 d3 hn3 hun3 => ⟨rfl, ?_⟩; exact fit_; (try dsimp only at hn3)) | (refine Wc.mkG 33 c33 (by kernel_rfl) rfl ?_; generalize e : zAa _ _ _ = r; simp (disch := omega) [hX, hg, hY, htr, hto, hto1, hdsE, hC4, c33, c35] at e; subst e) | ((first | (refine W.ret ?_; (try simp only [zAl, zA3, zAf]); refine endW.of (.inl rfl) rfl ?_) | refine endW.of (.inr rfl) rfl ?_); generalize e : zAo _ _ _ = r; simp (disch := omega) [hX, hg, hY, htr, hto, hto1, hdsE, hC4, c33, c35] at e; subst e; (try dsimp only [goW]); (first | refine ⟨rfl, ?_⟩ | (refine hk _ _ (S.app0 ?_ ?_ ?_) ?_; omega; omega; exact ut_; (try dsimp only); omega))))
theorem tail_ovf_end1 {n0 n1 : Nat} {E0 : List (Nat × CObj)} (p d : Nat) (s r : List UInt8) (a n k : Nat) (B : Int) (v0 : Nat) (set ds : List UInt8) (ts : List CVal) (hts : ts.length ≤ 100000) (to : Int) (hs : s.length < 60000) (hda : s.drop a = r) (hlen : a + r.length = s.length) (hnk : n + k ≤ r.length) (hdsE : (r.take (n + k)).drop n = ds)
    (FR : Pu tree.getF 31 [.str (r.drop n), .str set] (.int .i64 (k : Int))) (P : ∀ (h : CHeap), Fit h → ∀ (K : CVal → CHeap → Prop), (∀ n' ty m d, h.next ≤ n' → zAb ty n' → K (.tup [.int .u64 (v0 : Int), .ifc 119 (.ptr m d 0)]) ⟨h.ents, n', ty⟩) → Wc tree.getF 49 [.str ds, .int .i64 B, .int .i64 64] h K) (hend : n + k = r.length) (h : CHeap) (i v : Nat) (ht : zA2 h.ents i = some (.tok v)) (hip : i ≠ p) (hi0 : n0 ≤ i) (hin : i < h.next) (S : St n0 E0 p s (a : Int) (.imm (.own i v) 4 ts) ts 0 to h) (hn1 : n1 ≤ h.next) (hu1 : Under h.ents n1) (v2 v3 v6 v8 v9 v10 : CVal) (K : CVal → CHeap → Prop)
    (hk : ∀ h' L', St n0 E0 p s ((a : Int) + ((n : Int) + (k : Int))) L' (ts ++ [tokC 2 [] v0 a]) 3 (a : Int) h' → h.next ≤ h'.next → K (.tup []) h') : W tree.getF numTail ⟨[.ptr p d 0, .str r, v2, v3, .int .i64 (n : Int), .str set, v6, .int .i64 B, v8, v9, v10], h, []⟩ (endW c35 n1 K) := by
 have hg := S.g
 have hf := S.f
 have hp := S.lt
 obtain ⟨hu, hut, hX⟩ := fx4 hf
 have hY := fx5 hf hg
 have htP : ∀ x, zA2 (zA0 h.ents p x) i = some (.tok v) := fun x => (zA1 hip).trans ht
 have hPt : ∀ x y, zA2 (zA0 (zA0 h.ents i x) p y) p = some y := fun x y => zA7 ((zA1 (Ne.symm hip)).trans hg)
 have hTT : ∀ x y, zA2 (zA0 (zA0 h.ents i x) p y) i = some x := fun x y => (zA1 hip).trans (zA7 ht)
 have hiP : ∀ x, zA2 (zA0 h.ents i x) p = _ := fun x => (zA1 (Ne.symm hip)).trans hg
 have hcomm : ∀ x y, zA0 (zA0 h.ents p y) i x = zA0 (zA0 h.ents i x) p y := fun x y => zAw (Ne.symm hip)
 have hC3 : ∀ x y m, h.next ≤ m → zAc (zA0 (zA0 h.ents i x) p y) m = zA0 (zA0 h.ents i x) p y := fun x y m hm => zAh (hu.set.set.le hm)
 have hD3 : ∀ x y m, h.next ≤ m → zAx (zA0 (zA0 h.ents i x) p y) m = zA0 (zA0 h.ents i x) p y := fun x y m hm => zAr (hu.set.set.le hm)
 have hC4 : ∀ x, zAc (zA0 h.ents p x) n1 = zA0 h.ents p x := fun x => zAh hu1.set
 have hC5 : ∀ x y, zAc (zA0 (zA0 h.ents i x) p y) n1 = zA0 (zA0 h.ents i x) p y := fun x y => zAh hu1.set.set
 have htr : r.take r.length = r := List.take_length
 have hto : ((n : Int) + (k : Int)).toNat = n + k := by omega
 have hto1 : ((n : Int) + (k : Int) + 1).toNat = n + k + 1 := by omega
 repeat (first | refine sq_ ?_ | refine bl_ ?_ | ((first | refine rg_ ?_ | refine go_ ?_); generalize e : goR _ _ _ _ _ _ _ _ = r; simp (disch := omega) [hX, hg, hY, ht, htP, hPt, hTT, hiP, hcomm, hC3, hD3, htr, hto, hto1, hdsE, hC4, hC5, c33, c35] at e; replace e : some _ = _ := e; subst e; (try dsimp only [goW])) | refine ct_ rfl ?_ | refine cf_ rfl ?_ | refine sk_ ?_ | refine ex_ ?_ | (refine FR _ ?_ _ fun n2 tyn2 hn2 hun2 => ⟨rfl, ?_⟩; exact fit_; (try dsimp only at hn2)) | (refine P _ ?_ _ fun n3 tyn3 m3 d3 hn3 hun3 => ⟨rfl, ?_⟩; exact fit_; (try dsimp only at hn3)) | (refine Wc.mkG 33 c33 (by kernel_rfl) rfl ?_; generalize e : zAa _ _ _ = r; simp (disch := omega) [hX, hg, hY, ht, htP, hPt, hTT, hiP, hcomm, hC3, hD3, htr, hto, hto1, hdsE, hC4, hC5, c33, c35] at e; subst e) | ((first | (refine W.ret ?_; (try simp only [zAl, zA3, zAf]); refine endW.of (.inl rfl) rfl ?_) | refine endW.of (.inr rfl) rfl ?_); generalize e : zAo _ _ _ = r; simp (disch := omega) [hX, hg, hY, ht, htP, hPt, hTT, hiP, hcomm, hC3, hD3, htr, hto, hto1, hdsE, hC4, hC5, c33, c35] at e; subst e; (try dsimp only [goW]); (first | refine ⟨rfl, ?_⟩ | (refine hk _ _ (S.app1 ht hip hi0 hin ?_ ?_) ?_; omega; exact ut_; (try dsimp only); omega))))
theorem tail_ovf_good0 {n0 n1 : Nat} {E0 : List (Nat × CObj)} (p d : Nat) (s r : List UInt8) (a n k : Nat) (B : Int) (v0 : Nat) (set ds : List UInt8) (ts : List CVal) (hts : ts.length ≤ 100000) (to : Int) (hs : s.length < 60000) (hda : s.drop a = r) (hlen : a + r.length = s.length) (hnk : n + k ≤ r.length) (hdsE : (r.take (n + k)).drop n = ds)
    (FR : Pu tree.getF 31 [.str (r.drop n), .str set] (.int .i64 (k : Int))) (P : ∀ (h : CHeap), Fit h → ∀ (K : CVal → CHeap → Prop), (∀ n' ty m d, h.next ≤ n' → zAb ty n' → K (.tup [.int .u64 (v0 : Int), .ifc 119 (.ptr m d 0)]) ⟨h.ents, n', ty⟩) → Wc tree.getF 49 [.str ds, .int .i64 B, .int .i64 64] h K) (c : UInt8) (t : List UInt8) (hc : r.drop (n + k) = c :: t) (hcc : (namesB ++ [46]).contains c = false) (h : CHeap) (S : St n0 E0 p s (a : Int) (.nils) [] 0 to h) (hn1 : n1 ≤ h.next) (hu1 : Under h.ents n1) (v2 v3 v6 v8 v9 v10 : CVal) (K : CVal → CHeap → Prop)
    (hk : ∀ h' L', St n0 E0 p s ((a : Int) + ((n : Int) + (k : Int))) L' ([] ++ [tokC 2 [] v0 a]) 3 (a : Int) h' → h.next ≤ h'.next → K (.tup []) h') : W tree.getF numTail ⟨[.ptr p d 0, .str r, v2, v3, .int .i64 (n : Int), .str set, v6, .int .i64 B, v8, v9, v10], h, []⟩ (endW c35 n1 K) := by
 have hg := S.g
 have hf := S.f
 have hp := S.lt
 obtain ⟨hu, hut, hX⟩ := fx4 hf
 have hY := fx5 hf hg
 have hC4 : ∀ x, zAc (zA0 h.ents p x) n1 = zA0 h.ents p x := fun x => zAh hu1.set
 have htr : r.take r.length = r := List.take_length
 have hto : ((n : Int) + (k : Int)).toNat = n + k := by omega
 have hto1 : ((n : Int) + (k : Int) + 1).toNat = n + k + 1 := by omega
 have hlt : n + k < r.length := by
  rcases Nat.lt_or_ge (n + k) r.length with h' | h'
  · exact h'
  · rw [List.drop_eq_nil_of_le h'] at hc; cases hc
 have hc1 : (r.take (n + k + 1)).drop (n + k) = [c] := by
  rw [List.drop_take, hc, show n + k + 1 - (n + k) = 1 by omega]; rfl
 exact wUJ3
theorem tail_ovf_good1 {n0 n1 : Nat} {E0 : List (Nat × CObj)} (p d : Nat) (s r : List UInt8) (a n k : Nat) (B : Int) (v0 : Nat) (set ds : List UInt8) (ts : List CVal) (hts : ts.length ≤ 100000) (to : Int) (hs : s.length < 60000) (hda : s.drop a = r) (hlen : a + r.length = s.length) (hnk : n + k ≤ r.length) (hdsE : (r.take (n + k)).drop n = ds)
    (FR : Pu tree.getF 31 [.str (r.drop n), .str set] (.int .i64 (k : Int))) (P : ∀ (h : CHeap), Fit h → ∀ (K : CVal → CHeap → Prop), (∀ n' ty m d, h.next ≤ n' → zAb ty n' → K (.tup [.int .u64 (v0 : Int), .ifc 119 (.ptr m d 0)]) ⟨h.ents, n', ty⟩) → Wc tree.getF 49 [.str ds, .int .i64 B, .int .i64 64] h K) (c : UInt8) (t : List UInt8) (hc : r.drop (n + k) = c :: t) (hcc : (namesB ++ [46]).contains c = false) (h : CHeap) (i v : Nat) (ht : zA2 h.ents i = some (.tok v)) (hip : i ≠ p) (hi0 : n0 ≤ i) (hin : i < h.next) (S : St n0 E0 p s (a : Int) (.imm (.own i v) 4 ts) ts 0 to h) (hn1 : n1 ≤ h.next) (hu1 : Under h.ents n1) (v2 v3 v6 v8 v9 v10 : CVal) (K : CVal → CHeap → Prop)
    (hk : ∀ h' L', St n0 E0 p s ((a : Int) + ((n : Int) + (k : Int))) L' (ts ++ [tokC 2 [] v0 a]) 3 (a : Int) h' → h.next ≤ h'.next → K (.tup []) h') : W tree.getF numTail ⟨[.ptr p d 0, .str r, v2, v3, .int .i64 (n : Int), .str set, v6, .int .i64 B, v8, v9, v10], h, []⟩ (endW c35 n1 K) := by
 have hg := S.g
 have hf := S.f
 have hp := S.lt
 obtain ⟨hu, hut, hX⟩ := fx4 hf
 have hY := fx5 hf hg
 have htP : ∀ x, zA2 (zA0 h.ents p x) i = some (.tok v) := fun x => (zA1 hip).trans ht
 have hPt : ∀ x y, zA2 (zA0 (zA0 h.ents i x) p y) p = some y := fun x y => zA7 ((zA1 (Ne.symm hip)).trans hg)
 have hTT : ∀ x y, zA2 (zA0 (zA0 h.ents i x) p y) i = some x := fun x y => (zA1 hip).trans (zA7 ht)
 have hiP : ∀ x, zA2 (zA0 h.ents i x) p = _ := fun x => (zA1 (Ne.symm hip)).trans hg
 have hcomm : ∀ x y, zA0 (zA0 h.ents p y) i x = zA0 (zA0 h.ents i x) p y := fun x y => zAw (Ne.symm hip)
 have hC3 : ∀ x y m, h.next ≤ m → zAc (zA0 (zA0 h.ents i x) p y) m = zA0 (zA0 h.ents i x) p y := fun x y m hm => zAh (hu.set.set.le hm)
 have hD3 : ∀ x y m, h.next ≤ m → zAx (zA0 (zA0 h.ents i x) p y) m = zA0 (zA0 h.ents i x) p y := fun x y m hm => zAr (hu.set.set.le hm)
 have hC4 : ∀ x, zAc (zA0 h.ents p x) n1 = zA0 h.ents p x := fun x => zAh hu1.set
 have hC5 : ∀ x y, zAc (zA0 (zA0 h.ents i x) p y) n1 = zA0 (zA0 h.ents i x) p y := fun x y => zAh hu1.set.set
 have htr : r.take r.length = r := List.take_length
 have hto : ((n : Int) + (k : Int)).toNat = n + k := by omega
 have hto1 : ((n : Int) + (k : Int) + 1).toNat = n + k + 1 := by omega
 have hlt : n + k < r.length := by
  rcases Nat.lt_or_ge (n + k) r.length with h' | h'
  · exact h'
  · rw [List.drop_eq_nil_of_le h'] at hc; cases hc
 have hc1 : (r.take (n + k + 1)).drop (n + k) = [c] := by
  rw [List.drop_take, hc, show n + k + 1 - (n + k) = 1 by omega]; rfl
 exact wUJ4
theorem tail_ovf_bad0 {n0 n1 : Nat} {E0 : List (Nat × CObj)} (p d : Nat) (s r : List UInt8) (a n k : Nat) (B : Int) (v0 : Nat) (set ds : List UInt8) (ts : List CVal) (hts : ts.length ≤ 100000) (to : Int) (hs : s.length < 60000) (hda : s.drop a = r) (hlen : a + r.length = s.length) (hnk : n + k ≤ r.length) (hdsE : (r.take (n + k)).drop n = ds)
    (FR : Pu tree.getF 31 [.str (r.drop n), .str set] (.int .i64 (k : Int))) (P : ∀ (h : CHeap), Fit h → ∀ (K : CVal → CHeap → Prop), (∀ n' ty m d, h.next ≤ n' → zAb ty n' → K (.tup [.int .u64 (v0 : Int), .ifc 119 (.ptr m d 0)]) ⟨h.ents, n', ty⟩) → Wc tree.getF 49 [.str ds, .int .i64 B, .int .i64 64] h K) (c : UInt8) (t : List UInt8) (hc : r.drop (n + k) = c :: t) (hcc : (namesB ++ [46]).contains c = true) (h : CHeap) (S : St n0 E0 p s (a : Int) (.nils) [] 0 to h) (hn1 : n1 ≤ h.next) (hu1 : Under h.ents n1) (v2 v3 v6 v8 v9 v10 : CVal) (K : CVal → CHeap → Prop)
    (hk : ∀ h' L', St n0 E0 p s ((a : Int) + ((n : Int) + (k : Int))) L' ([] ++ [tokC 2 [] v0 a]) 3 (a : Int) h' → h.next ≤ h'.next → K (.tup []) h') : W tree.getF numTail ⟨[.ptr p d 0, .str r, v2, v3, .int .i64 (n : Int), .str set, v6, .int .i64 B, v8, v9, v10], h, []⟩ (endW c35 n1 K) := by
 have hg := S.g
 have hf := S.f
 have hp := S.lt
 obtain ⟨hu, hut, hX⟩ := fx4 hf
 have hY := fx5 hf hg
 have hC4 : ∀ x, zAc (zA0 h.ents p x) n1 = zA0 h.ents p x := fun x => zAh hu1.set
 have htr : r.take r.length = r := List.take_length
 have hto : ((n : Int) + (k : Int)).toNat = n + k := by omega
 have hto1 : ((n : Int) + (k : Int) + 1).toNat = n + k + 1 := by omega
 have hlt : n + k < r.length := by
  rcases Nat.lt_or_ge (n + k) r.length with h' | h'
  · exact h'
  · rw [List.drop_eq_nil_of_le h'] at hc; cases hc
 have hc1 : (r.take (n + k + 1)).drop (n + k) = [c] := by
  rw [List.drop_take, hc, show n + k + 1 - (n + k) = 1 by omega]; rfl
 exact wUJ3
theorem tail_ovf_bad1 {n0 n1 : Nat} {E0 : List (Nat × CObj)} (p d : Nat) (s r : List UInt8) (a n k : Nat) (B : Int) (v0 : Nat) (set ds : List UInt8) (ts : List CVal) (hts : ts.length ≤ 100000) (to : Int) (hs : s.length < 60000) (hda : s.drop a = r) (hlen : a + r.length = s.length) (hnk : n + k ≤ r.length) (hdsE : (r.take (n + k)).drop n = ds)
    (FR : Pu tree.getF 31 [.str (r.drop n), .str set] (.int .i64 (k : Int))) (P : ∀ (h : CHeap), Fit h → ∀ (K : CVal → CHeap → Prop), (∀ n' ty m d, h.next ≤ n' → zAb ty n' → K (.tup [.int .u64 (v0 : Int), .ifc 119 (.ptr m d 0)]) ⟨h.ents, n', ty⟩) → Wc tree.getF 49 [.str ds, .int .i64 B, .int .i64 64] h K) (c : UInt8) (t : List UInt8) (hc : r.drop (n + k) = c :: t) (hcc : (namesB ++ [46]).contains c = true) (h : CHeap) (i v : Nat) (ht : zA2 h.ents i = some (.tok v)) (hip : i ≠ p) (hi0 : n0 ≤ i) (hin : i < h.next) (S : St n0 E0 p s (a : Int) (.imm (.own i v) 4 ts) ts 0 to h) (hn1 : n1 ≤ h.next) (hu1 : Under h.ents n1) (v2 v3 v6 v8 v9 v10 : CVal) (K : CVal → CHeap → Prop)
    (hk : ∀ h' L', St n0 E0 p s ((a : Int) + ((n : Int) + (k : Int))) L' (ts ++ [tokC 2 [] v0 a]) 3 (a : Int) h' → h.next ≤ h'.next → K (.tup []) h') : W tree.getF numTail ⟨[.ptr p d 0, .str r, v2, v3, .int .i64 (n : Int), .str set, v6, .int .i64 B, v8, v9, v10], h, []⟩ (endW c35 n1 K) := by
 have hg := S.g
 have hf := S.f
 have hp := S.lt
 obtain ⟨hu, hut, hX⟩ := fx4 hf
 have hY := fx5 hf hg
 have htP : ∀ x, zA2 (zA0 h.ents p x) i = some (.tok v) := fun x => (zA1 hip).trans ht
 have hPt : ∀ x y, zA2 (zA0 (zA0 h.ents i x) p y) p = some y := fun x y => zA7 ((zA1 (Ne.symm hip)).trans hg)
 have hTT : ∀ x y, zA2 (zA0 (zA0 h.ents i x) p y) i = some x := fun x y => (zA1 hip).trans (zA7 ht)
 have hiP : ∀ x, zA2 (zA0 h.ents i x) p = _ := fun x => (zA1 (Ne.symm hip)).trans hg
 have hcomm : ∀ x y, zA0 (zA0 h.ents p y) i x = zA0 (zA0 h.ents i x) p y := fun x y => zAw (Ne.symm hip)
 have hC3 : ∀ x y m, h.next ≤ m → zAc (zA0 (zA0 h.ents i x) p y) m = zA0 (zA0 h.ents i x) p y := fun x y m hm => zAh (hu.set.set.le hm)
 have hD3 : ∀ x y m, h.next ≤ m → zAx (zA0 (zA0 h.ents i x) p y) m = zA0 (zA0 h.ents i x) p y := fun x y m hm => zAr (hu.set.set.le hm)
 have hC4 : ∀ x, zAc (zA0 h.ents p x) n1 = zA0 h.ents p x := fun x => zAh hu1.set
 have hC5 : ∀ x y, zAc (zA0 (zA0 h.ents i x) p y) n1 = zA0 (zA0 h.ents i x) p y := fun x y => zAh hu1.set.set
 have htr : r.take r.length = r := List.take_length
 have hto : ((n : Int) + (k : Int)).toNat = n + k := by omega
 have hto1 : ((n : Int) + (k : Int) + 1).toNat = n + k + 1 := by omega
 have hlt : n + k < r.length := by
  rcases Nat.lt_or_ge (n + k) r.length with h' | h'
  · exact h'
  · rw [List.drop_eq_nil_of_le h'] at hc; cases hc
 have hc1 : (r.take (n + k + 1)).drop (n + k) = [c] := by
  rw [List.drop_take, hc, show n + k + 1 - (n + k) = 1 by omega]; rfl
 exact wUJ4
theorem head_A (p d : Nat) (s r0 : List UInt8) (c0 : UInt8) (a : Nat) (L : CVal) (hL : L.whole = true) (e to : Int) (hs : s.length < 60000) (hda : s.drop a = c0 :: r0) (hlen : a + (c0 :: r0).length = s.length) (h1 : (decide (2 ≤ (c0 :: r0).length) && ((c0 :: r0).take 2 == [48, 120])) = true) (hk0 : 0 < (fr hexesB ((c0 :: r0).drop 2)).length) (h : CHeap) (hg : zA2 h.ents p = some (rdr s a L e to)) (hf : Fit h) (hp : p < h.next) (K : CVal → CHeap → Prop)
    (hk : ∀ n' ty v2 v3 v6 v8 v9 v10, h.next ≤ n' → zAb ty n' → W tree.getF numTail ⟨[.ptr p d 0, .str (c0 :: r0), v2, v3, .int .i64 ((2 : Nat) : Int), .str hexesB, v6, .int .i64 16, v8, v9, v10], ⟨h.ents, n', ty⟩, []⟩ (endW c35 h.next K)) : Wc tree.getF 35 [.ptr p d 0] h K := by
 obtain ⟨hu, hut, hX⟩ := fx4 hf
 have hY := fx5 hf hg
 have htk : s.take s.length = s := List.take_length
 have htr : (c0 :: r0).take (r0.length + 1) = c0 :: r0 := List.take_of_length_le (by simp)
 have hl2 : r0.length + 1 = s.length - a := by simp at hlen; omega
 have F0 := front_16 ((c0 :: r0).drop 2) (by simp at hlen ⊢; omega)
 have h22 : 2 ≤ r0.length + 1 := by
  have := h1
  simp only [Bool.and_eq_true, decide_eq_true_eq] at this; simpa using this.1
 obtain ⟨k, hkk⟩ : ∃ k, (fr hexesB ((c0 :: r0).drop 2)).length = k := ⟨_, rfl⟩
 rw [hkk] at F0 hk0
 have hkp : (0 : Int) < (k : Int) := by omega
 rw [show (c0 :: r0).drop 2 = r0.tail by simp] at F0
 refine Wc.mkG 35 c35 (by kernel_rfl) rfl ?_
 generalize e : zAa _ _ _ = r
 simp (disch := omega) [hX, hg, hY, htk, hda, htr, hL, c35] at e
 subst e
 repeat (first | (refine hk _ _ _ _ _ _ _ _ ?_ ?_; omega; exact ut_) | refine sq_ ?_ | refine bl_ ?_ | ((first | refine rg_ ?_ | refine go_ ?_); generalize e : goR _ _ _ _ _ _ _ _ = r; simp (disch := omega) [hX, hg, hY, htk, hda, htr, hL, c35] at e; replace e : some _ = _ := e; subst e; (try dsimp only [goW])) | refine ct_ rfl ?_ | refine cf_ rfl ?_ | refine sk_ ?_ | refine ex_ ?_ | (refine zBf (c0 :: r0) [48, 120] true ?_ _ ?_ _ fun n1 tyn1 hn1 hun1 => ⟨rfl, ?_⟩; (focus ((exact h1); done)); exact fit_; (try dsimp only at hn1)) | (refine F0 _ ?_ _ fun n3 tyn3 hn3 hun3 => ⟨rfl, ?_⟩; exact fit_; (try dsimp only at hn3)))
theorem head_B (p d : Nat) (s r0 : List UInt8) (c0 : UInt8) (a : Nat) (L : CVal) (hL : L.whole = true) (e to : Int) (hs : s.length < 60000) (hda : s.drop a = c0 :: r0) (hlen : a + (c0 :: r0).length = s.length) (h1 : (decide (2 ≤ (c0 :: r0).length) && ((c0 :: r0).take 2 == [48, 120])) = false) (h2 : (decide (2 ≤ (c0 :: r0).length) && ((c0 :: r0).take 2 == [48, 88])) = true) (hk0 : 0 < (fr hexesB ((c0 :: r0).drop 2)).length) (h : CHeap) (hg : zA2 h.ents p = some (rdr s a L e to)) (hf : Fit h) (hp : p < h.next) (K : CVal → CHeap → Prop)
    (hk : ∀ n' ty v2 v3 v6 v8 v9 v10, h.next ≤ n' → zAb ty n' → W tree.getF numTail ⟨[.ptr p d 0, .str (c0 :: r0), v2, v3, .int .i64 ((2 : Nat) : Int), .str hexesB, v6, .int .i64 16, v8, v9, v10], ⟨h.ents, n', ty⟩, []⟩ (endW c35 h.next K)) : Wc tree.getF 35 [.ptr p d 0] h K := by
 obtain ⟨hu, hut, hX⟩ := fx4 hf
 have hY := fx5 hf hg
 have htk : s.take s.length = s := List.take_length
 have htr : (c0 :: r0).take (r0.length + 1) = c0 :: r0 := List.take_of_length_le (by simp)
 have hl2 : r0.length + 1 = s.length - a := by simp at hlen; omega
 have F0 := front_16 ((c0 :: r0).drop 2) (by simp at hlen ⊢; omega)
 have h22 : 2 ≤ r0.length + 1 := by
  have := h2
  simp only [Bool.and_eq_true, decide_eq_true_eq] at this; simpa using this.1
 obtain ⟨k, hkk⟩ : ∃ k, (fr hexesB ((c0 :: r0).drop 2)).length = k := ⟨_, rfl⟩
 rw [hkk] at F0 hk0
 have hkp : (0 : Int) < (k : Int) := by omega
 rw [show (c0 :: r0).drop 2 = r0.tail by simp] at F0
 refine Wc.mkG 35 c35 (by kernel_rfl) rfl ?_
 generalize e : zAa _ _ _ = r
 simp (disch := omega) [hX, hg, hY, htk, hda, htr, hL, c35] at e
 subst e
 repeat (first | (refine hk _ _ _ _ _ _ _ _ ?_ ?_; omega; exact ut_) | refine sq_ ?_ | refine bl_ ?_ | ((first | refine rg_ ?_ | refine go_ ?_); generalize e : goR _ _ _ _ _ _ _ _ = r; simp (disch := omega) [hX, hg, hY, htk, hda, htr, hL, c35] at e; replace e : some _ = _ := e; subst e; (try dsimp only [goW])) | refine ct_ rfl ?_ | refine cf_ rfl ?_ | refine sk_ ?_ | refine ex_ ?_ | (refine zBf (c0 :: r0) [48, 120] false ?_ _ ?_ _ fun n1 tyn1 hn1 hun1 => ⟨rfl, ?_⟩; (focus ((exact h1); done)); exact fit_; (try dsimp only at hn1)) | (refine zBf (c0 :: r0) [48, 88] true ?_ _ ?_ _ fun n2 tyn2 hn2 hun2 => ⟨rfl, ?_⟩; (focus ((exact h2); done)); exact fit_; (try dsimp only at hn2)) | (refine F0 _ ?_ _ fun n3 tyn3 hn3 hun3 => ⟨rfl, ?_⟩; exact fit_; (try dsimp only at hn3)))
theorem head_C (p d : Nat) (s r0 : List UInt8) (c0 : UInt8) (a : Nat) (L : CVal) (hL : L.whole = true) (e to : Int) (hs : s.length < 60000) (hda : s.drop a = c0 :: r0) (hlen : a + (c0 :: r0).length = s.length) (h1 : (decide (2 ≤ (c0 :: r0).length) && ((c0 :: r0).take 2 == [48, 120])) = true) (hk0 : (fr hexesB ((c0 :: r0).drop 2)).length = 0) (hc0 : c0 = 48) (h : CHeap) (hg : zA2 h.ents p = some (rdr s a L e to)) (hf : Fit h) (hp : p < h.next) (K : CVal → CHeap → Prop)
    (hk : ∀ n' ty v2 v3 v6 v8 v9 v10, h.next ≤ n' → zAb ty n' → W tree.getF numTail ⟨[.ptr p d 0, .str (c0 :: r0), v2, v3, .int .i64 ((0 : Nat) : Int), .str D8, v6, .int .i64 8, v8, v9, v10], ⟨h.ents, n', ty⟩, []⟩ (endW c35 h.next K)) : Wc tree.getF 35 [.ptr p d 0] h K := by
 obtain ⟨hu, hut, hX⟩ := fx4 hf
 have hY := fx5 hf hg
 have htk : s.take s.length = s := List.take_length
 have htr : (c0 :: r0).take (r0.length + 1) = c0 :: r0 := List.take_of_length_le (by simp)
 have hl2 : r0.length + 1 = s.length - a := by simp at hlen; omega
 have F0 := front_16 ((c0 :: r0).drop 2) (by simp at hlen ⊢; omega)
 have h22 : 2 ≤ r0.length + 1 := by
  have := h1
  simp only [Bool.and_eq_true, decide_eq_true_eq] at this; simpa using this.1
 rw [hk0] at F0
 rw [show (c0 :: r0).drop 2 = r0.tail by simp] at F0
 have hc1 : (c0.toNat : Int) = 48 := by rw [hc0]; rfl
 refine Wc.mkG 35 c35 (by kernel_rfl) rfl ?_
 generalize e : zAa _ _ _ = r
 simp (disch := omega) [hX, hg, hY, htk, hda, htr, hL, hc1, c35] at e
 subst e
 repeat (first | (refine hk _ _ _ _ _ _ _ _ ?_ ?_; omega; exact ut_) | refine sq_ ?_ | refine bl_ ?_ | ((first | refine rg_ ?_ | refine go_ ?_); generalize e : goR _ _ _ _ _ _ _ _ = r; simp (disch := omega) [hX, hg, hY, htk, hda, htr, hL, hc1, c35] at e; replace e : some _ = _ := e; subst e; (try dsimp only [goW])) | refine ct_ rfl ?_ | refine cf_ rfl ?_ | refine sk_ ?_ | refine ex_ ?_ | (refine zBf (c0 :: r0) [48, 120] true ?_ _ ?_ _ fun n1 tyn1 hn1 hun1 => ⟨rfl, ?_⟩; (focus ((exact h1); done)); exact fit_; (try dsimp only at hn1)) | (refine F0 _ ?_ _ fun n3 tyn3 hn3 hun3 => ⟨rfl, ?_⟩; exact fit_; (try dsimp only at hn3)))
theorem head_D (p d : Nat) (s r0 : List UInt8) (c0 : UInt8) (a : Nat) (L : CVal) (hL : L.whole = true) (e to : Int) (hs : s.length < 60000) (hda : s.drop a = c0 :: r0) (hlen : a + (c0 :: r0).length = s.length) (h1 : (decide (2 ≤ (c0 :: r0).length) && ((c0 :: r0).take 2 == [48, 120])) = false) (h2 : (decide (2 ≤ (c0 :: r0).length) && ((c0 :: r0).take 2 == [48, 88])) = true) (hk0 : (fr hexesB ((c0 :: r0).drop 2)).length = 0) (hc0 : c0 = 48) (h : CHeap) (hg : zA2 h.ents p = some (rdr s a L e to)) (hf : Fit h) (hp : p < h.next) (K : CVal → CHeap → Prop)
    (hk : ∀ n' ty v2 v3 v6 v8 v9 v10, h.next ≤ n' → zAb ty n' → W tree.getF numTail ⟨[.ptr p d 0, .str (c0 :: r0), v2, v3, .int .i64 ((0 : Nat) : Int), .str D8, v6, .int .i64 8, v8, v9, v10], ⟨h.ents, n', ty⟩, []⟩ (endW c35 h.next K)) : Wc tree.getF 35 [.ptr p d 0] h K := by
 obtain ⟨hu, hut, hX⟩ := fx4 hf
 have hY := fx5 hf hg
 have htk : s.take s.length = s := List.take_length
 have htr : (c0 :: r0).take (r0.length + 1) = c0 :: r0 := List.take_of_length_le (by simp)
 have hl2 : r0.length + 1 = s.length - a := by simp at hlen; omega
 have F0 := front_16 ((c0 :: r0).drop 2) (by simp at hlen ⊢; omega)
 have h22 : 2 ≤ r0.length + 1 := by
  have := h2
  simp only [Bool.and_eq_true, decide_eq_true_eq] at this; simpa using this.1
 rw [hk0] at F0
 rw [show (c0 :: r0).drop 2 = r0.tail by simp] at F0
 have hc1 : (c0.toNat : Int) = 48 := by rw [hc0]; rfl
 refine Wc.mkG 35 c35 (by kernel_rfl) rfl ?_
 generalize e : zAa _ _ _ = r
 simp (disch := omega) [hX, hg, hY, htk, hda, htr, hL, hc1, c35] at e
 subst e
 repeat (first | (refine hk _ _ _ _ _ _ _ _ ?_ ?_; omega; exact ut_) | refine sq_ ?_ | refine bl_ ?_ | ((first | refine rg_ ?_ | refine go_ ?_); generalize e : goR _ _ _ _ _ _ _ _ = r; simp (disch := omega) [hX, hg, hY, htk, hda, htr, hL, hc1, c35] at e; replace e : some _ = _ := e; subst e; (try dsimp only [goW])) | refine ct_ rfl ?_ | refine cf_ rfl ?_ | refine sk_ ?_ | refine ex_ ?_ | (refine zBf (c0 :: r0) [48, 120] false ?_ _ ?_ _ fun n1 tyn1 hn1 hun1 => ⟨rfl, ?_⟩; (focus ((exact h1); done)); exact fit_; (try dsimp only at hn1)) | (refine zBf (c0 :: r0) [48, 88] true ?_ _ ?_ _ fun n2 tyn2 hn2 hun2 => ⟨rfl, ?_⟩; (focus ((exact h2); done)); exact fit_; (try dsimp only at hn2)) | (refine F0 _ ?_ _ fun n3 tyn3 hn3 hun3 => ⟨rfl, ?_⟩; exact fit_; (try dsimp only at hn3)))
theorem head_E (p d : Nat) (s r0 : List UInt8) (c0 : UInt8) (a : Nat) (L : CVal) (hL : L.whole = true) (e to : Int) (hs : s.length < 60000) (hda : s.drop a = c0 :: r0) (hlen : a + (c0 :: r0).length = s.length) (h1 : (decide (2 ≤ (c0 :: r0).length) && ((c0 :: r0).take 2 == [48, 120])) = false) (h2 : (decide (2 ≤ (c0 :: r0).length) && ((c0 :: r0).take 2 == [48, 88])) = false) (hc0 : c0 = 48) (h : CHeap) (hg : zA2 h.ents p = some (rdr s a L e to)) (hf : Fit h) (hp : p < h.next) (K : CVal → CHeap → Prop)
    (hk : ∀ n' ty v2 v3 v6 v8 v9 v10, h.next ≤ n' → zAb ty n' → W tree.getF numTail ⟨[.ptr p d 0, .str (c0 :: r0), v2, v3, .int .i64 ((0 : Nat) : Int), .str D8, v6, .int .i64 8, v8, v9, v10], ⟨h.ents, n', ty⟩, []⟩ (endW c35 h.next K)) : Wc tree.getF 35 [.ptr p d 0] h K := by
 obtain ⟨hu, hut, hX⟩ := fx4 hf
 have hY := fx5 hf hg
 have htk : s.take s.length = s := List.take_length
 have htr : (c0 :: r0).take (r0.length + 1) = c0 :: r0 := List.take_of_length_le (by simp)
 have hl2 : r0.length + 1 = s.length - a := by simp at hlen; omega
 have hc1 : (c0.toNat : Int) = 48 := by rw [hc0]; rfl
 refine Wc.mkG 35 c35 (by kernel_rfl) rfl ?_
 generalize e : zAa _ _ _ = r
 simp (disch := omega) [hX, hg, hY, htk, hda, htr, hL, hc1, c35] at e
 subst e
 repeat (first | (refine hk _ _ _ _ _ _ _ _ ?_ ?_; omega; exact ut_) | refine sq_ ?_ | refine bl_ ?_ | ((first | refine rg_ ?_ | refine go_ ?_); generalize e : goR _ _ _ _ _ _ _ _ = r; simp (disch := omega) [hX, hg, hY, htk, hda, htr, hL, hc1, c35] at e; replace e : some _ = _ := e; subst e; (try dsimp only [goW])) | refine ct_ rfl ?_ | refine cf_ rfl ?_ | refine sk_ ?_ | refine ex_ ?_ | (refine zBf (c0 :: r0) [48, 120] false ?_ _ ?_ _ fun n1 tyn1 hn1 hun1 => ⟨rfl, ?_⟩; (focus ((exact h1); done)); exact fit_; (try dsimp only at hn1)) | (refine zBf (c0 :: r0) [48, 88] false ?_ _ ?_ _ fun n2 tyn2 hn2 hun2 => ⟨rfl, ?_⟩; (focus ((exact h2); done)); exact fit_; (try dsimp only at hn2)))
theorem head_F (p d : Nat) (s r0 : List UInt8) (c0 : UInt8) (a : Nat) (L : CVal) (hL : L.whole = true) (e to : Int) (hs : s.length < 60000) (hda : s.drop a = c0 :: r0) (hlen : a + (c0 :: r0).length = s.length) (h1 : (decide (2 ≤ (c0 :: r0).length) && ((c0 :: r0).take 2 == [48, 120])) = false) (h2 : (decide (2 ≤ (c0 :: r0).length) && ((c0 :: r0).take 2 == [48, 88])) = false) (hc0 : c0 ≠ 48) (h : CHeap) (hg : zA2 h.ents p = some (rdr s a L e to)) (hf : Fit h) (hp : p < h.next) (K : CVal → CHeap → Prop)
    (hk : ∀ n' ty v2 v3 v6 v8 v9 v10, h.next ≤ n' → zAb ty n' → W tree.getF numTail ⟨[.ptr p d 0, .str (c0 :: r0), v2, v3, .int .i64 ((0 : Nat) : Int), .str D10, v6, .int .i64 10, v8, v9, v10], ⟨h.ents, n', ty⟩, []⟩ (endW c35 h.next K)) : Wc tree.getF 35 [.ptr p d 0] h K := by
 obtain ⟨hu, hut, hX⟩ := fx4 hf
 have hY := fx5 hf hg
 have htk : s.take s.length = s := List.take_length
 have htr : (c0 :: r0).take (r0.length + 1) = c0 :: r0 := List.take_of_length_le (by simp)
 have hl2 : r0.length + 1 = s.length - a := by simp at hlen; omega
 have hc1 : ¬ ((c0.toNat : Int) = 48) := by
  intro e
  apply hc0
  apply UInt8.toNat_inj.1
  have h48 : c0.toNat = 48 := by omega
  rw [h48]; rfl
 refine Wc.mkG 35 c35 (by kernel_rfl) rfl ?_
 generalize e : zAa _ _ _ = r
 simp (disch := omega) [hX, hg, hY, htk, hda, htr, hL, hc1, c35] at e
 subst e
 repeat (first | (refine hk _ _ _ _ _ _ _ _ ?_ ?_; omega; exact ut_) | refine sq_ ?_ | refine bl_ ?_ | ((first | refine rg_ ?_ | refine go_ ?_); generalize e : goR _ _ _ _ _ _ _ _ = r; simp (disch := omega) [hX, hg, hY, htk, hda, htr, hL, hc1, c35] at e; replace e : some _ = _ := e; subst e; (try dsimp only [goW])) | refine ct_ rfl ?_ | refine cf_ rfl ?_ | refine sk_ ?_ | refine ex_ ?_ | (refine zBf (c0 :: r0) [48, 120] false ?_ _ ?_ _ fun n1 tyn1 hn1 hun1 => ⟨rfl, ?_⟩; (focus ((exact h1); done)); exact fit_; (try dsimp only at hn1)) | (refine zBf (c0 :: r0) [48, 88] false ?_ _ ?_ _ fun n2 tyn2 hn2 hun2 => ⟨rfl, ?_⟩; (focus ((exact h2); done)); exact fit_; (try dsimp only at hn2)))
theorem St.mv {n0 : Nat} {E0 : List (Nat × CObj)} {p : Nat} {s : List UInt8} {a : Int} {L : CVal} {ts : List CVal} {e to : Int} {h : CHeap} {n' : Nat} {ty : List (Nat × Nat)} (S : St n0 E0 p s a L ts e to h) (hn : h.next ≤ n') (ht : zAb ty n') : St n0 E0 p s a L ts e to ⟨h.ents, n', ty⟩ where
 g := S.g
 l := by
  rcases S.l with h1 | ⟨i, v, h1, h2, h3, h4, h5⟩
  · exact .inl h1
  · exact .inr ⟨i, v, h1, h2, h3, h4, by (try dsimp only); omega⟩
 d := S.d
 n := S.n
 lt := by have := S.lt; (try dsimp only); omega
 f := ⟨S.f.1.le hn, ht⟩
theorem num_rest {n0 n1 : Nat} {E0 : List (Nat × CObj)} (p d : Nat) (s r : List UInt8) (a n k B : Nat) (set ds : List UInt8) (L : CVal) (ts : List CVal) (hts : ts.length ≤ 100000) (to : Int) (hs : s.length < 60000) (hda : s.drop a = r) (hlen : a + r.length = s.length) (hnr : n ≤ r.length)
    (hF : numF r = (B, n, ds)) (hds : ds = fr set (r.drop n)) (hk0 : ds.length = k) (FR : Pu tree.getF 31 [.str (r.drop n), .str set] (.int .i64 (k : Int)))
    (PO : valF B 0 ds < 18446744073709551616 → Pu tree.getF 49 [.str ds, .int .i64 B, .int .i64 64] (.tup [.int .u64 (valF B 0 ds : Nat), .nili]))
    (PB : 18446744073709551616 ≤ valF B 0 ds → ∀ (h : CHeap), Fit h → ∀ (K : CVal → CHeap → Prop), (∀ n' ty m d, h.next ≤ n' → zAb ty n' → K (.tup [.int .u64 ((18446744073709551615 : Nat) : Int), .ifc 119 (.ptr m d 0)]) ⟨h.ents, n', ty⟩) → Wc tree.getF 49 [.str ds, .int .i64 B, .int .i64 64] h K)
    (h : CHeap) (S : St n0 E0 p s (a : Int) L ts 0 to h) (hn1 : n1 ≤ h.next) (hu1 : Under h.ents n1) (v2 v3 v6 v8 v9 v10 : CVal) (K : CVal → CHeap → Prop)
    (hk1 : ∀ v len, numW r = .tok 2 [] v len → ∀ h' L', St n0 E0 p s ((a + len : Nat) : Int) L' (ts ++ [tokC 2 [] v a]) 0 to h' → h.next ≤ h'.next → K (.tup []) h')
    (hk2 : ∀ e, numW r = .err e → ∀ h' at' L' ts', St n0 E0 p s at' L' ts' (e : Int) (a : Int) h' → h.next ≤ h'.next → K (.tup []) h') :
    W tree.getF numTail ⟨[.ptr p d 0, .str r, v2, v3, .int .i64 (n : Int), .str set, v6, .int .i64 B, v8, v9, v10], h, []⟩ (endW c35 n1 K) := by
 have hfl := fr_len set (r.drop n)
 rw [← hds, List.length_drop] at hfl
 have hnk : n + k ≤ r.length := by omega
 have hdsE : (r.take (n + k)).drop n = ds := by
  rw [List.drop_take, show n + k - n = k by omega, ← hk0, hds, take_fr]
 have hpos : (a : Int) + ((n : Int) + (k : Int)) = ((a + (n + k) : Nat) : Int) := by omega
 unfold numW at hk1 hk2
 rw [hF] at hk1 hk2
 dsimp only at hk1 hk2
 rw [hk0] at hk1 hk2
 have hSL := S.l
 by_cases hv : valF B 0 ds < 18446744073709551616
 · have hv' : ¬ 18446744073709551616 ≤ valF B 0 ds := by omega
   rw [if_neg hv'] at hk1 hk2
   cases hc : r.drop (n + k) with
   | nil =>
    have hend : n + k = r.length := by have := congrArg List.length hc; simp at this; omega
    rw [hc] at hk1
    dsimp only at hk1
    rcases hSL with ⟨rfl, rfl⟩ | ⟨i, v, rfl, ht, hip, hi0, hin⟩
    · refine tail_ok_end0 p d s r a n k B (valF B 0 ds) set ds [] (by simp) to hs hda hlen hnk hdsE FR (PO hv) hend h S hn1 hu1 _ _ _ _ _ _ K fun h' L' S' hn' => ?_
      rw [hpos] at S'; exact hk1 _ _ rfl h' L' S' hn'
    · refine tail_ok_end1 p d s r a n k B (valF B 0 ds) set ds ts hts to hs hda hlen hnk hdsE FR (PO hv) hend h i v ht hip hi0 hin S hn1 hu1 _ _ _ _ _ _ K fun h' L' S' hn' => ?_
      rw [hpos] at S'; exact hk1 _ _ rfl h' L' S' hn'
   | cons c t =>
    rw [hc] at hk1 hk2
    dsimp only at hk1 hk2
    cases hcc : (namesB ++ [46]).contains c with
    | false =>
     rw [hcc] at hk1
     simp only [Bool.false_eq_true, if_false] at hk1
     rcases hSL with ⟨rfl, rfl⟩ | ⟨i, v, rfl, ht, hip, hi0, hin⟩
     · refine tail_ok_good0 p d s r a n k B (valF B 0 ds) set ds [] (by simp) to hs hda hlen hnk hdsE FR (PO hv) c t hc hcc h S hn1 hu1 _ _ _ _ _ _ K fun h' L' S' hn' => ?_
       rw [hpos] at S'; exact hk1 _ _ rfl h' L' S' hn'
     · refine tail_ok_good1 p d s r a n k B (valF B 0 ds) set ds ts hts to hs hda hlen hnk hdsE FR (PO hv) c t hc hcc h i v ht hip hi0 hin S hn1 hu1 _ _ _ _ _ _ K fun h' L' S' hn' => ?_
       rw [hpos] at S'; exact hk1 _ _ rfl h' L' S' hn'
    | true =>
     rw [hcc] at hk2
     simp only [if_true] at hk2
     rcases hSL with ⟨rfl, rfl⟩ | ⟨i, v, rfl, ht, hip, hi0, hin⟩
     · exact tail_ok_bad0 p d s r a n k B (valF B 0 ds) set ds [] (by simp) to hs hda hlen hnk hdsE FR (PO hv) c t hc hcc h S hn1 hu1 _ _ _ _ _ _ K fun h' L' S' hn' => hk2 2 rfl h' _ L' _ S' hn'
     · exact tail_ok_bad1 p d s r a n k B (valF B 0 ds) set ds ts hts to hs hda hlen hnk hdsE FR (PO hv) c t hc hcc h i v ht hip hi0 hin S hn1 hu1 _ _ _ _ _ _ K fun h' L' S' hn' => hk2 2 rfl h' _ L' _ S' hn'
 · have hv : 18446744073709551616 ≤ valF B 0 ds := by omega
   rw [if_pos hv] at hk2
   cases hc : r.drop (n + k) with
   | nil =>
    have hend : n + k = r.length := by have := congrArg List.length hc; simp at this; omega
    rcases hSL with ⟨rfl, rfl⟩ | ⟨i, v, rfl, ht, hip, hi0, hin⟩
    · exact tail_ovf_end0 p d s r a n k B 18446744073709551615 set ds [] (by simp) to hs hda hlen hnk hdsE FR (PB hv) hend h S hn1 hu1 _ _ _ _ _ _ K fun h' L' S' hn' => hk2 3 rfl h' _ L' _ S' hn'
    · exact tail_ovf_end1 p d s r a n k B 18446744073709551615 set ds ts hts to hs hda hlen hnk hdsE FR (PB hv) hend h i v ht hip hi0 hin S hn1 hu1 _ _ _ _ _ _ K fun h' L' S' hn' => hk2 3 rfl h' _ L' _ S' hn'
   | cons c t =>
    cases hcc : (namesB ++ [46]).contains c with
    | false =>
     rcases hSL with ⟨rfl, rfl⟩ | ⟨i, v, rfl, ht, hip, hi0, hin⟩
     · exact tail_ovf_good0 p d s r a n k B 18446744073709551615 set ds [] (by simp) to hs hda hlen hnk hdsE FR (PB hv) c t hc hcc h S hn1 hu1 _ _ _ _ _ _ K fun h' L' S' hn' => hk2 3 rfl h' _ L' _ S' hn'
     · exact tail_ovf_good1 p d s r a n k B 18446744073709551615 set ds ts hts to hs hda hlen hnk hdsE FR (PB hv) c t hc hcc h i v ht hip hi0 hin S hn1 hu1 _ _ _ _ _ _ K fun h' L' S' hn' => hk2 3 rfl h' _ L' _ S' hn'
    | true =>
     rcases hSL with ⟨rfl, rfl⟩ | ⟨i, v, rfl, ht, hip, hi0, hin⟩
     · exact tail_ovf_bad0 p d s r a n k B 18446744073709551615 set ds [] (by simp) to hs hda hlen hnk hdsE FR (PB hv) c t hc hcc h S hn1 hu1 _ _ _ _ _ _ K fun h' L' S' hn' => hk2 3 rfl h' _ L' _ S' hn'
     · exact tail_ovf_bad1 p d s r a n k B 18446744073709551615 set ds ts hts to hs hda hlen hnk hdsE FR (PB hv) c t hc hcc h i v ht hip hi0 hin S hn1 hu1 _ _ _ _ _ _ K fun h' L' S' hn' => hk2 3 rfl h' _ L' _ S' hn'
def okB (B : Nat) (c : UInt8) : Bool := (decide (48 ≤ c.toNat ∧ c.toNat ≤ 57 ∨ 65 ≤ c.toNat ∧ c.toNat ≤ 70 ∨ 97 ≤ c.toNat ∧ c.toNat ≤ 102)) && decide (digF c < B)
theorem ok_of {B : Nat} {set : List UInt8} (h : set.all (okB B) = true) {c : UInt8} (hc : set.contains c = true) : okF B c := by
 have := List.all_eq_true.1 h c (by simpa using hc)
 simp only [okB, Bool.and_eq_true, decide_eq_true_eq] at this
 exact this
theorem number_F {n0 : Nat} {E0 : List (Nat × CObj)} (p d : Nat) (s r0 : List UInt8) (c0 : UInt8) (a : Nat) (L : CVal) (ts : List CVal) (hts : ts.length ≤ 100000) (to : Int) (hs : s.length < 60000) (hda : s.drop a = c0 :: r0) (hlen : a + (c0 :: r0).length = s.length) (hcd : D10.contains c0 = true)
    (h : CHeap) (S : St n0 E0 p s (a : Int) L ts 0 to h) (K : CVal → CHeap → Prop)
    (hk1 : ∀ v len, numW (c0 :: r0) = .tok 2 [] v len → ∀ h' L', St n0 E0 p s ((a + len : Nat) : Int) L' (ts ++ [tokC 2 [] v a]) 0 to h' → h.next ≤ h'.next → K (.tup []) h')
    (hk2 : ∀ e, numW (c0 :: r0) = .err e → ∀ h' at' L' ts', St n0 E0 p s at' L' ts' (e : Int) (a : Int) h' → h.next ≤ h'.next → K (.tup []) h') : Wc tree.getF 35 [.ptr p d 0] h K := by
 have hL := S.whole
 have hu1 := S.f.1
 have hll : (c0 :: r0).length ≤ s.length := by omega
 have h2 : ∀ q : List UInt8, (decide (2 ≤ (c0 :: r0).length) && ((c0 :: r0).take 2 == q)) = true ∨ (decide (2 ≤ (c0 :: r0).length) && ((c0 :: r0).take 2 == q)) = false := fun q => by cases (decide (2 ≤ (c0 :: r0).length) && ((c0 :: r0).take 2 == q)) <;> simp
 have take2 : ∀ q : List UInt8, q.length = 2 → ((decide (2 ≤ (c0 :: r0).length) && ((c0 :: r0).take 2 == q)) = true ↔ (c0 :: r0).take 2 = q) := fun q hq => by
  simp only [Bool.and_eq_true, decide_eq_true_eq, beq_iff_eq]
  refine ⟨fun h => h.2, fun h => ⟨?_, h⟩⟩
  have := congrArg List.length h
  rw [List.length_take, hq] at this; omega
 have t1 := take2 [48, 120] rfl
 have t2 := take2 [48, 88] rfl
 have head48 : (c0 :: r0).take 2 = [48, 120] ∨ (c0 :: r0).take 2 = [48, 88] → c0 = 48 := fun h => by
  rcases h with h | h <;> (cases r0 <;> simp at h; exact h.1)
 by_cases hP : ((c0 :: r0).take 2 = [48, 120] ∨ (c0 :: r0).take 2 = [48, 88]) ∧ 0 < (fr hexesB ((c0 :: r0).drop 2)).length
 · have hF : numF (c0 :: r0) = (16, 2, fr hexesB ((c0 :: r0).drop 2)) := by unfold numF; rw [if_pos hP]
   have hne : fr hexesB ((c0 :: r0).drop 2) ≠ [] := fun e => by have := hP.2; rw [e] at this; simp at this
   have hfl := fr_len hexesB ((c0 :: r0).drop 2)
   rw [List.length_drop] at hfl
   have hdl : ∀ c ∈ fr hexesB ((c0 :: r0).drop 2), okF 16 c := fun c hc => ok_of (by decide) (fr_mem hc)
   have fin : ∀ n' ty v2 v3 v6 v8 v9 v10, h.next ≤ n' → zAb ty n' → W tree.getF numTail ⟨[.ptr p d 0, .str (c0 :: r0), v2, v3, .int .i64 ((2 : Nat) : Int), .str hexesB, v6, .int .i64 16, v8, v9, v10], ⟨h.ents, n', ty⟩, []⟩ (endW c35 h.next K) := by
    intro n' ty v2 v3 v6 v8 v9 v10 g1 g2
    exact num_rest p d s (c0 :: r0) a 2 _ 16 hexesB _ L ts hts to hs hda hlen (by have := hP.2; omega) hF rfl rfl (front_16 _ (by simp at hll ⊢; omega)) (fun hv => p_ok16 _ hne (by omega) hdl hv) (fun hv => p_bad16 _ hne (by omega) hdl hv) _ (S.mv g1 g2) g1 hu1 _ _ _ _ _ _ K (fun v len e h' L' S' g => hk1 v len e h' L' S' (Nat.le_trans g1 g)) (fun e' e h' at' L' ts' S' g => hk2 e' e h' at' L' ts' S' (Nat.le_trans g1 g))
   rcases h2 [48, 120] with h1 | h1
   · exact head_A p d s r0 c0 a L hL.1 0 to hs hda hlen h1 hP.2 h S.g S.f S.lt K fin
   · have h3 : (c0 :: r0).take 2 = [48, 88] := by
      rcases hP.1 with h | h
      · rw [t1.2 h] at h1; cases h1
      · exact h
     exact head_B p d s r0 c0 a L hL.1 0 to hs hda hlen h1 (t2.2 h3) hP.2 h S.g S.f S.lt K fin
 · by_cases h48 : c0 = 48
   · have hF : numF (c0 :: r0) = (8, 0, fr D8 (c0 :: r0)) := by unfold numF; rw [if_neg hP, if_pos (by rw [h48]; rfl)]
     have hfr : fr D8 (c0 :: r0) = c0 :: fr D8 r0 := by unfold fr; rw [List.takeWhile_cons, if_pos (by rw [h48]; decide)]
     have hne : fr D8 (c0 :: r0) ≠ [] := by rw [hfr]; simp
     have hfl := fr_len D8 (c0 :: r0)
     have hdl : ∀ c ∈ fr D8 (c0 :: r0), okF 8 c := fun c hc => ok_of (by decide) (fr_mem hc)
     have fin : ∀ n' ty v2 v3 v6 v8 v9 v10, h.next ≤ n' → zAb ty n' → W tree.getF numTail ⟨[.ptr p d 0, .str (c0 :: r0), v2, v3, .int .i64 ((0 : Nat) : Int), .str D8, v6, .int .i64 8, v8, v9, v10], ⟨h.ents, n', ty⟩, []⟩ (endW c35 h.next K) := by
      intro n' ty v2 v3 v6 v8 v9 v10 g1 g2
      exact num_rest p d s (c0 :: r0) a 0 _ 8 D8 _ L ts hts to hs hda hlen (by omega) hF rfl rfl (front_8 _ (by simp at hll ⊢; omega)) (fun hv => p_ok8 _ hne (by omega) hdl hv) (fun hv => p_bad8 _ hne (by omega) hdl hv) _ (S.mv g1 g2) g1 hu1 _ _ _ _ _ _ K (fun v len e h' L' S' g => hk1 v len e h' L' S' (Nat.le_trans g1 g)) (fun e' e h' at' L' ts' S' g => hk2 e' e h' at' L' ts' S' (Nat.le_trans g1 g))
     have hk0 : (c0 :: r0).take 2 = [48, 120] ∨ (c0 :: r0).take 2 = [48, 88] → (fr hexesB ((c0 :: r0).drop 2)).length = 0 := fun e => by
      rcases Nat.eq_zero_or_pos (fr hexesB ((c0 :: r0).drop 2)).length with h | h
      · exact h
      · exact absurd ⟨e, h⟩ hP
     rcases h2 [48, 120] with h1 | h1
     · exact head_C p d s r0 c0 a L hL.1 0 to hs hda hlen h1 (hk0 (.inl (t1.1 h1))) h48 h S.g S.f S.lt K fin
     · rcases h2 [48, 88] with h3 | h3
       · exact head_D p d s r0 c0 a L hL.1 0 to hs hda hlen h1 h3 (hk0 (.inr (t2.1 h3))) h48 h S.g S.f S.lt K fin
       · exact head_E p d s r0 c0 a L hL.1 0 to hs hda hlen h1 h3 h48 h S.g S.f S.lt K fin
   · have hF : numF (c0 :: r0) = (10, 0, fr D10 (c0 :: r0)) := by
      unfold numF; rw [if_neg hP, if_neg (by simpa using h48)]
     have hfr : fr D10 (c0 :: r0) = c0 :: fr D10 r0 := by unfold fr; rw [List.takeWhile_cons, if_pos hcd]
     have hne : fr D10 (c0 :: r0) ≠ [] := by rw [hfr]; simp
     have hfl := fr_len D10 (c0 :: r0)
     have hdl : ∀ c ∈ fr D10 (c0 :: r0), okF 10 c := fun c hc => ok_of (by decide) (fr_mem hc)
     have fin : ∀ n' ty v2 v3 v6 v8 v9 v10, h.next ≤ n' → zAb ty n' → W tree.getF numTail ⟨[.ptr p d 0, .str (c0 :: r0), v2, v3, .int .i64 ((0 : Nat) : Int), .str D10, v6, .int .i64 10, v8, v9, v10], ⟨h.ents, n', ty⟩, []⟩ (endW c35 h.next K) := by
      intro n' ty v2 v3 v6 v8 v9 v10 g1 g2
      exact num_rest p d s (c0 :: r0) a 0 _ 10 D10 _ L ts hts to hs hda hlen (by omega) hF rfl rfl (front_10 _ (by simp at hll ⊢; omega)) (fun hv => p_ok10 _ hne (by omega) hdl hv) (fun hv => p_bad10 _ hne (by omega) hdl hv) _ (S.mv g1 g2) g1 hu1 _ _ _ _ _ _ K (fun v len e h' L' S' g => hk1 v len e h' L' S' (Nat.le_trans g1 g)) (fun e' e h' at' L' ts' S' g => hk2 e' e h' at' L' ts' S' (Nat.le_trans g1 g))
     have no : ∀ q : List UInt8, (q = [48, 120] ∨ q = [48, 88]) → (decide (2 ≤ (c0 :: r0).length) && ((c0 :: r0).take 2 == q)) = false := fun q hq => by
      rcases h2 q with h | h
      · exfalso; apply h48; apply head48
        rcases hq with rfl | rfl
        · exact .inl (t1.1 h)
        · exact .inr (t2.1 h)
      · exact h
     exact head_F p d s r0 c0 a L hL.1 0 to hs hda hlen (no _ (.inl rfl)) (no _ (.inr rfl)) h48 h S.g S.f S.lt K fin
abbrev bv (b : UInt8) : CVal := .int .u8 b.toNat
theorem byteVals_map : ∀ l : List UInt8, byteVals (l.map bv) = some l
 | [] => rfl
 | c :: l => by
  have hc := c.toNat_lt
  have ih := byteVals_map l
  have e : UInt8.ofNat (c.toNat : Int).toNat = c := by simp
  simp only [List.map_cons, byteVals]
  rw [if_pos (by simp; omega), ih]
  simp
theorem St.cons {n0 : Nat} {E0 : List (Nat × CObj)} {p : Nat} {s : List UInt8} {a : Int} {L : CVal} {ts : List CVal} {e to : Int} {h : CHeap} {n' r : Nat} {o : CObj} {ty : List (Nat × Nat)} (S : St n0 E0 p s a L ts e to h) (hr : h.next ≤ r) (hn : r < n') (ht : zAb ty n') : St n0 E0 p s a L ts e to ⟨(r, o) :: h.ents, n', ty⟩ := by
 have hlt := S.lt
 have hn0 := S.n
 have hrp : (r == p) = false := by simp; omega
 exact {
  g := by simp only [zA2, hrp, Bool.false_eq_true, if_false]; exact S.g
  l := by
   rcases S.l with h1 | ⟨i, v, h1, h2, h3, h4, h5⟩
   · exact .inl h1
   · have hri : (r == i) = false := by simp; omega
     exact .inr ⟨i, v, h1, by simp only [zA2, hri, Bool.false_eq_true, if_false]; exact h2, h3, h4, by (try dsimp only); omega⟩
  d := S.d.cons (by omega)
  n := hn0
  lt := by (try dsimp only); omega
  f := ⟨Under.cons hn (S.f.1.le (by (try dsimp only); omega)), ht⟩ }
abbrev textLoop : CCode := (.loop true (.seq (.seq (.region [.v 2, .v 0, .n 0, .f 0 0, .l 0, .g (.len true (.loc 0)), .g (.bin .lss (.loc 5) (.loc 0))] [(3, 6)] [] []) (.cond (.var 3) .skip (.exit 0))) (.seq (.block 1 (.seq (.region [.v 0, .n 0, .f 0 0, .l 0, .v 2, .g (.idxStr (.loc 1) (.loc 0)), .m (.loc 0)] [(4, 6)] [] []) (.block 2 (.seq (.region [.v 4, .v 5, .g (.bin .eql (.loc 1) (.loc 0)), .m (.loc 0)] [(6, 3)] [] []) (.cond (.var 6) (.seq (.region [.v 0, .g (.call false 51 [(.var 7)]), .g (.call false 50 [(.loc 0)]), .g (.not (.loc 0)), .v 1, .g (.call false 33 [(.loc 4), (.loc 1), (.const (.int .i64 2)), (.loc 0)])] [] [] []) (.seq (.region [.v 0, .v 0, .n 0, .f 2 0, .l 0, .g (.call false 51 [(.var 7)]), .v 1, .g (.build [(.int .i64 0), (.str []), (.int .u64 0), (.int .i64 0)] [(0, 1, (.const (.int .i64 3))), (1, 1, (.loc 1)), (3, 1, (.loc 0))]), .g (.lit .imm true [(.int .i64 0), (.str []), (.int .u64 0), (.int .i64 0)] 1 [(0, (.loc 0))]), .g (.append .imm 0 4 (.loc 4) (.loc 0)), .n 9, .f 2 0, .g (.store 1 (.loc 0) (.loc 2))] [] [(4, 0, 1)] []) (.seq (.region [.v 0, .v 2, .g (.bin .add (.loc 0) (.const (.int .i64 1))), .n 2, .f 1 0, .g (.store 1 (.loc 0) (.loc 2))] [] [] []) .ret))) (.seq (.region [.v 4, .g (.bin .eql (.loc 0) (.const (.int .u8 10))), .m (.loc 0)] [(8, 2)] [] []) (.cond (.var 8) (.seq (.region [.v 0, .v 1, .g (.call false 33 [(.loc 1), (.const (.bool true)), (.const (.int .i64 2)), (.loc 0)])] [] [] []) .ret) (.seq (.region [.v 4, .g (.bin .eql (.loc 0) (.const (.int .u8 92))), .m (.loc 0)] [(9, 2)] [] []) (.cond (.var 9) (.seq (.region [.v 2, .g (.bin .add (.loc 0) (.const (.int .i64 1))), .m (.loc 0)] [(2, 2)] [] []) (.seq (.region [.m (.const (.int .i64 (-1)))] [(11, 0)] [] []) (.seq (.seq (.region [.v 2, .v 0, .n 0, .f 0 0, .l 0, .g (.len true (.loc 0)), .g (.bin .lss (.loc 5) (.loc 0))] [(10, 6)] [] []) (.cond (.var 10) (.region [.v 0, .n 0, .f 0 0, .l 0, .v 2, .g (.idxStr (.loc 1) (.loc 0)), .g (.call false 32 [(.const (.str [92, 34, 39, 110])), (.loc 0)]), .m (.loc 0)] [(11, 7)] [] []) .skip)) (.seq (.seq (.region [.v 11, .g (.bin .lss (.loc 0) (.const (.int .i64 0)))] [(12, 1)] [] []) (.cond (.var 12) (.seq (.region [.v 0, .v 1, .g (.call false 33 [(.loc 1), (.const (.bool true)), (.const (.int .i64 2)), (.loc 0)])] [] [] []) .ret) .skip)) (.region [.v 11, .g (.idxStr (.const (.str [92, 34, 39, 10])) (.loc 0)), .g (.call false 52 [(.var 7), (.loc 0)])] [] [] []))))) (.region [.v 4, .g (.call false 52 [(.var 7), (.loc 0)])] [] [] [])))))))))) (.region [.v 2, .g (.bin .add (.loc 0) (.const (.int .i64 1))), .m (.loc 0)] [(2, 2)] [] []))))
abbrev textRest : CCode := (.region [.v 0, .v 1, .g (.call false 33 [(.loc 1), (.const (.bool true)), (.const (.int .i64 2)), (.loc 0)])] [] [] [])
end Go.Proofs.YtjecpdnjpggcoaaGreatDoor.IrM
