/- What the functions of the law 'JsonAll' do: part 4 of 8. -/
import Derived.Test.YtdanefpnfnippaaGreatDoorLx3
namespace Go.Proofs.YtdanefpnfnippaaGreatDoor.IrJ
open Go Go.CI
set_option maxRecDepth 100000
set_option maxHeartbeats 4000000
set_option linter.unusedVariables false
set_option linter.unusedSimpArgs false
attribute [local irreducible] W Wo Wc WoR
def escR (t : B8) : CVal := match escV t with
 | some (x, k) => .tup [.str x, .int .i64 ((k : Int) + 1)]
 | none => .tup [.str [], .int .i64 0]
theorem unitR_117 (r : B8) : zCt (92 :: 117 :: r) = zBq r := by simp [zCt]
theorem zBv {t x : B8} {k : Nat} (h : escV t = some (x, k)) : escR t = .tup [.str x, .int .i64 ((k : Int) + 1)] := by unfold escR; rw [h]
theorem zD7 {t : B8} (h : escV t = none) : escR t = .tup [.str [], .int .i64 0] := by unfold escR; rw [h]
theorem esc_R (t : B8) (hl : t.length < 80000) : Pu tree.getF 81 [.str (92 :: t)] (escR t) := by
 cases t with
 | nil => exact er_nil _ (by simp)
 | cons c r =>
  simp only [List.length_cons] at hl
  by_cases h34 : c = 34
  · subst h34
    rw [zBv (x := [34]) (k := 1) (by simp [escV])]
    exact er_34 r (by omega)
  by_cases h92 : c = 92
  · subst h92
    rw [zBv (x := [92]) (k := 1) (by simp [escV])]
    exact er_92 r (by omega)
  by_cases h98 : c = 98
  · subst h98
    rw [zBv (x := [8]) (k := 1) (by simp [escV])]
    exact er_98 r (by omega)
  by_cases h102 : c = 102
  · subst h102
    rw [zBv (x := [12]) (k := 1) (by simp [escV])]
    exact er_102 r (by omega)
  by_cases h110 : c = 110
  · subst h110
    rw [zBv (x := [10]) (k := 1) (by simp [escV])]
    exact er_110 r (by omega)
  by_cases h114 : c = 114
  · subst h114
    rw [zBv (x := [13]) (k := 1) (by simp [escV])]
    exact er_114 r (by omega)
  by_cases h116 : c = 116
  · subst h116
    rw [zBv (x := [9]) (k := 1) (by simp [escV])]
    exact er_116 r (by omega)
  by_cases h47 : c = 47
  · subst h47
    rw [zBv (x := [47]) (k := 1) (by simp [escV])]
    exact er_47 r (by omega)
  by_cases h117 : c = 117
  · subst h117
    have e0 := escV_117 r
    cases hu : zBq r with
    | none =>
     rw [hu] at e0
     rw [zD7 e0]
     have hq : zCt (92 :: 117 :: r) = none := by rw [unitR_117]; exact hu
     exact er_no 117 r (by omega) (by decide) (by decide) (by decide) (by decide) (by decide) (by decide) (by decide) (by decide) hq
    | some u =>
     rw [hu] at e0
     dsimp only at e0
     have hq : zCt (92 :: 117 :: r) = some u := by rw [unitR_117]; exact hu
     have hu6 := unit4_lt hu
     have h4 := unit4_len hu
     rcases Nat.lt_or_ge u 55296 with g1 | g1
     · rw [if_neg (by omega), if_neg (by omega)] at e0
       rw [zBv e0]; exact er_lo r (by omega) u hq hu6 g1
     rcases Nat.lt_or_ge u 56320 with g2 | g2
     · rw [if_pos ⟨g1, g2⟩] at e0
       have hR4 : zCt (r.drop 4) = if (r.drop 4).take 2 = [92, 117] then zBq (r.drop 6) else none := by unfold zCt; rw [List.drop_drop]
       by_cases ht : (r.drop 4).take 2 = [92, 117]
       · rw [if_pos ht] at e0 hR4
         cases hv : zBq (r.drop 6) with
         | none =>
          rw [hv] at e0 hR4
          rw [zD7 e0]; exact er_pn r (by omega) u hq hu6 ⟨g1, g2⟩ h4 hR4
         | some v =>
          rw [hv] at e0 hR4
          dsimp only at e0
          have hv6 := unit4_lt hv
          rcases Nat.lt_or_ge v 56320 with g3 | g3
          · rw [if_neg (by omega)] at e0
            rw [zD7 e0]; exact er_p1 r (by omega) u hq hu6 ⟨g1, g2⟩ h4 v hv6 hR4 g3
          rcases Nat.lt_or_ge v 57344 with g4 | g4
          · rw [if_pos ⟨g3, g4⟩] at e0
            rw [zBv e0]; exact er_pair r (by omega) u hq hu6 ⟨g1, g2⟩ h4 v hv6 hR4 ⟨g3, g4⟩
          · rw [if_neg (by omega)] at e0
            rw [zD7 e0]; exact er_p2 r (by omega) u hq hu6 ⟨g1, g2⟩ h4 v hv6 hR4 g4
       · rw [if_neg ht] at e0 hR4
         rw [zD7 e0]; exact er_pn r (by omega) u hq hu6 ⟨g1, g2⟩ h4 hR4
     rcases Nat.lt_or_ge u 57344 with g3 | g3
     · rw [if_neg (by omega), if_pos ⟨g2, g3⟩] at e0
       rw [zD7 e0]; exact er_sec r (by omega) u hq hu6 ⟨g2, g3⟩
     · rw [if_neg (by omega), if_neg (by omega)] at e0
       rw [zBv e0]; exact er_hi r (by omega) u hq hu6 g3
  · rw [zD7 (by simp only [escV, h34, h92, h98, h102, h110, h114, h116, h47, h117, if_false])]
    have nn : ∀ x : UInt8, ¬ c = x → ¬ c.toNat = x.toNat := fun x hx e => hx (UInt8.toNat_inj.1 e)
    have hq : zCt (92 :: c :: r) = none := by unfold zCt; rw [if_neg (by simp [h117])]
    exact er_no c r (by omega) (nn 34 h34) (nn 92 h92) (nn 98 h98) (nn 102 h102) (nn 110 h110) (nn 114 h114) (nn 116 h116) (nn 47 h47) hq
abbrev rLoop : CCode := (.loop true (.seq (.seq (.region [.v 2, .v 0, .g (.len true (.loc 0)), .h .lss 2 0] [(3, 3)] [] []) (.cond (.var 3) .skip (.exit 0))) (.block 1 (.seq (.region [.v 0, .v 2, .g (.idxStr (.loc 1) (.loc 0)), .m (.loc 0)] [(4, 3)] [] []) (.block 2 (.seq (.region [.v 4, .x .eql 0 (.u 34), .m (.loc 0)] [(5, 2)] [] []) (.cond (.var 5) (.seq (.seq (.region [.v 6, .g (.call false 80 [(.loc 0)]), .g (.not (.loc 0))] [(7, 2)] [] []) (.cond (.var 7) (.seq (.region [.m (.const (.str [])), .m (.k 0), .m (.k 2)] [(13, 0), (14, 1), (15, 2)] [] []) .ret) .skip)) (.seq (.region [.v 6, .v 2, .x .add 0 (.k 1), .m (.loc 2), .m (.loc 1), .m (.k 0)] [(13, 3), (14, 4), (15, 5)] [] []) .ret)) (.seq (.region [.v 4, .x .lss 0 (.u 32), .m (.loc 0)] [(8, 2)] [] []) (.cond (.var 8) (.seq (.region [.m (.const (.str [])), .m (.k 0), .m (.k 2)] [(13, 0), (14, 1), (15, 2)] [] []) .ret) (.seq (.region [.v 4, .x .neq 0 (.u 92), .m (.loc 0)] [(9, 2)] [] []) (.cond (.var 9) (.seq (.region [.v 6, .v 0, .v 2, .v 2, .x .add 0 (.k 1), .g (.slc 0 (.loc 3) (some (.loc 2)) (some (.loc 0))), .h .add 5 0, .m (.loc 0)] [(6, 7)] [] []) (.region [.v 2, .x .add 0 (.k 1), .m (.loc 0)] [(2, 2)] [] [])) (.seq (.region [.v 0, .v 2, .g (.slc 0 (.loc 1) (some (.loc 0)) none), .g (.call false 81 [(.loc 0)]), .m (.loc 0), .g (.extract 0 (.loc 0)), .g (.extract 1 (.loc 1)), .m (.loc 1), .m (.loc 1)] [(10, 8), (12, 7)] [] []) (.seq (.seq (.region [.v 10, .x .eql 0 (.k 0)] [(11, 1)] [] []) (.cond (.var 11) (.seq (.region [.m (.const (.str [])), .m (.k 0), .m (.k 2)] [(13, 0), (14, 1), (15, 2)] [] []) .ret) .skip)) (.region [.v 6, .v 12, .h .add 1 0, .v 2, .v 10, .h .add 1 0, .m (.loc 3), .m (.loc 1)] [(2, 7), (6, 6)] [] []))))))))))))))
theorem r_end (s acc : B8) (a : Nat) (hl : s.length < 50000) (hal : acc.length ≤ a) (hx : s.length ≤ a) {Q : QT} (v1 v3 v4 v5 v7 v8 v9 v10 v11 v12 v13 v14 v15 : CVal) (h : CHeap) (hf : Fit h) (hk : ∀ (v1 v3 v4 v5 v7 v8 v9 v10 v11 v12 v13 v14 v15 : CVal) i' out' n' ty, h.next ≤ n' → zA9 ty n' → Q (.exit 0) ⟨[.str s, v1, .int .i64 i', v3, v4, v5, .str out', v7, v8, v9, v10, v11, v12, v13, v14, v15], ⟨h.ents, n', ty⟩, []⟩) : W tree.getF rLoop ⟨[.str s, v1, .int .i64 (a : Int), v3, v4, v5, .str acc, v7, v8, v9, v10, v11, v12, v13, v14, v15], h, []⟩ Q := by
 obtain ⟨hu, hut, hX⟩ := fx4 hf
 have hat : ((a : Int)).toNat = a := by omega
 have hge : ¬ (a : Int) < (s.length : Int) := by omega
 refine W.loop ?_
 repeat (first | refine st_ rfl ?_ | ((first | refine rg_ ?_ | refine go_ ?_); refine gw_ (by simp (disch := omega) [hX, hat, hge]; rfl) ?_))
 all_goals (refine hk _ _ _ _ _ _ _ _ _ _ _ _ _ _ _ _ _ ?_ ?_; ((try dsimp only); omega); exact ut_)
theorem r_ok (s acc : B8) (a : Nat) (hl : s.length < 50000) (hal : acc.length ≤ a) (hx : s[a]? = some 34) (hv : zBp acc = true) {Q : QT} (v1 v3 v4 v5 v7 v8 v9 v10 v11 v12 v13 v14 v15 : CVal) (h : CHeap) (hf : Fit h) (hk : ∀ (v1 v3 v4 v5 v7 v8 v9 v10 v11 v12 : CVal) i' out' n' ty, h.next ≤ n' → zA9 ty n' → Q .ret ⟨[.str s, v1, .int .i64 i', v3, v4, v5, .str out', v7, v8, v9, v10, v11, v12, .str acc, .int .i64 ((a : Int) + 1), .int .i64 0], ⟨h.ents, n', ty⟩, []⟩) : W tree.getF rLoop ⟨[.str s, v1, .int .i64 (a : Int), v3, v4, v5, .str acc, v7, v8, v9, v10, v11, v12, v13, v14, v15], h, []⟩ Q := by
 obtain ⟨hu, hut, hX⟩ := fx4 hf
 have hat : ((a : Int)).toNat = a := by omega
 obtain ⟨hal1, hx2⟩ := List.getElem?_eq_some_iff.1 hx
 have hlt : (a : Int) < (s.length : Int) := by omega
 refine W.loop ?_
 repeat (first | refine st_ rfl ?_ | ((first | refine rg_ ?_ | refine go_ ?_); refine gw_ (by simp (disch := omega) [hX, hat, hx, hx2, hlt, hv]; rfl) ?_) | (refine pu_ (valid_R acc (by omega)) fun _ _ g _ => ⟨rfl, ?_⟩; try dsimp only at g) | ((refine W.ret ?_; (try simp only [zAb, zA0, zA8]); refine hk _ _ _ _ _ _ _ _ _ _ _ _ _ _ ?_ ?_; ((try dsimp only); omega); exact ut_)))
theorem r_inv (s acc : B8) (a : Nat) (hl : s.length < 50000) (hal : acc.length ≤ a) (hx : s[a]? = some 34) (hv : zBp acc = false) {Q : QT} (v1 v3 v4 v5 v7 v8 v9 v10 v11 v12 v13 v14 v15 : CVal) (h : CHeap) (hf : Fit h) (hbad : ∀ (v1 v3 v4 v5 v7 v8 v9 v10 v11 v12 : CVal) i' out' n' ty, h.next ≤ n' → zA9 ty n' → Q .ret ⟨[.str s, v1, .int .i64 i', v3, v4, v5, .str out', v7, v8, v9, v10, v11, v12, .str [], .int .i64 0, .int .i64 2], ⟨h.ents, n', ty⟩, []⟩) : W tree.getF rLoop ⟨[.str s, v1, .int .i64 (a : Int), v3, v4, v5, .str acc, v7, v8, v9, v10, v11, v12, v13, v14, v15], h, []⟩ Q := by
 obtain ⟨hu, hut, hX⟩ := fx4 hf
 have hat : ((a : Int)).toNat = a := by omega
 obtain ⟨hal1, hx2⟩ := List.getElem?_eq_some_iff.1 hx
 have hlt : (a : Int) < (s.length : Int) := by omega
 refine W.loop ?_
 repeat (first | refine st_ rfl ?_ | ((first | refine rg_ ?_ | refine go_ ?_); refine gw_ (by simp (disch := omega) [hX, hat, hx, hx2, hlt, hv]; rfl) ?_) | (refine pu_ (valid_R acc (by omega)) fun _ _ g _ => ⟨rfl, ?_⟩; try dsimp only at g) | ((refine W.ret ?_; (try simp only [zAb, zA0, zA8]); refine hbad _ _ _ _ _ _ _ _ _ _ _ _ _ _ ?_ ?_; ((try dsimp only); omega); exact ut_)))
theorem r_ctl (s acc : B8) (a : Nat) (hl : s.length < 50000) (hal : acc.length ≤ a) (c : UInt8) (hx : s[a]? = some c) (hc : c.toNat < 32) {Q : QT} (v1 v3 v4 v5 v7 v8 v9 v10 v11 v12 v13 v14 v15 : CVal) (h : CHeap) (hf : Fit h) (hbad : ∀ (v1 v3 v4 v5 v7 v8 v9 v10 v11 v12 : CVal) i' out' n' ty, h.next ≤ n' → zA9 ty n' → Q .ret ⟨[.str s, v1, .int .i64 i', v3, v4, v5, .str out', v7, v8, v9, v10, v11, v12, .str [], .int .i64 0, .int .i64 2], ⟨h.ents, n', ty⟩, []⟩) : W tree.getF rLoop ⟨[.str s, v1, .int .i64 (a : Int), v3, v4, v5, .str acc, v7, v8, v9, v10, v11, v12, v13, v14, v15], h, []⟩ Q := by
 obtain ⟨hu, hut, hX⟩ := fx4 hf
 have hat : ((a : Int)).toNat = a := by omega
 obtain ⟨hal1, hx2⟩ := List.getElem?_eq_some_iff.1 hx
 have hlt : (a : Int) < (s.length : Int) := by omega
 refine W.loop ?_
 repeat (first | refine st_ rfl ?_ | ((first | refine rg_ ?_ | refine go_ ?_); refine gw_ (by simp (disch := omega) [hX, hat, hx, hx2, hlt]; rfl) ?_) | ((refine W.ret ?_; (try simp only [zAb, zA0, zA8]); refine hbad _ _ _ _ _ _ _ _ _ _ _ _ _ _ ?_ ?_; ((try dsimp only); omega); exact ut_)))
theorem r_chr (s acc : B8) (a : Nat) (hl : s.length < 50000) (hal : acc.length ≤ a) (c : UInt8) (hx : s[a]? = some c) (hc : 32 ≤ c.toNat) (h34 : ¬ c.toNat = 34) (h92 : ¬ c.toNat = 92) {Q : QT} (v1 v3 v4 v5 v7 v8 v9 v10 v11 v12 v13 v14 v15 : CVal) (h : CHeap) (hf : Fit h) (hk : ∀ (v1 v3 v4 v5 v7 v8 v9 v10 v11 v12 v13 v14 v15 : CVal) n' ty, h.next ≤ n' → zA9 ty n' → W tree.getF rLoop ⟨[.str s, v1, .int .i64 ((a : Int) + 1), v3, v4, v5, .str (acc ++ [c]), v7, v8, v9, v10, v11, v12, v13, v14, v15], ⟨h.ents, n', ty⟩, []⟩ Q) : W tree.getF rLoop ⟨[.str s, v1, .int .i64 (a : Int), v3, v4, v5, .str acc, v7, v8, v9, v10, v11, v12, v13, v14, v15], h, []⟩ Q := by
 obtain ⟨hu, hut, hX⟩ := fx4 hf
 have hat : ((a : Int)).toNat = a := by omega
 obtain ⟨hal1, hx2⟩ := List.getElem?_eq_some_iff.1 hx
 have hlt : (a : Int) < (s.length : Int) := by omega
 have htk : List.take 1 (List.drop a s) = [c] := by rw [List.drop_eq_getElem_cons hal1, hx2]; rfl
 have htk2 : List.drop a (List.take (a + 1) s) = [c] := by rw [List.drop_take]; simpa using htk
 have hat2 : ((a : Int) + 1).toNat = a + 1 := by omega
 have h34x : ¬ (c.toNat : Int) = 34 := by omega
 have h92x : ¬ (c.toNat : Int) = 92 := by omega
 refine W.loop ?_
 repeat (first | refine st_ rfl ?_ | ((first | refine rg_ ?_ | refine go_ ?_); refine gw_ (by simp (disch := omega) [hX, hat, hx, hx2, hlt, h34x, h92x, htk, htk2, hat2]; rfl) ?_))
 show W tree.getF rLoop (dropped true _ _) Q
 generalize e : dropped .. = r0
 simp (disch := omega) [hX, hat, hx, hx2, hlt, h34x, h92x, htk, htk2, hat2] at e
 subst e
 try dsimp only
 refine hk _ _ _ _ _ _ _ _ _ _ _ _ _ _ _ ?_ ?_
 · (try dsimp only); omega
 · exact ut_
theorem r_esn (s acc : B8) (a : Nat) (hl : s.length < 50000) (hal : acc.length ≤ a) (hx : s[a]? = some 92) (he : escV (s.drop (a + 1)) = none) {Q : QT} (v1 v3 v4 v5 v7 v8 v9 v10 v11 v12 v13 v14 v15 : CVal) (h : CHeap) (hf : Fit h) (hbad : ∀ (v1 v3 v4 v5 v7 v8 v9 v10 v11 v12 : CVal) i' out' n' ty, h.next ≤ n' → zA9 ty n' → Q .ret ⟨[.str s, v1, .int .i64 i', v3, v4, v5, .str out', v7, v8, v9, v10, v11, v12, .str [], .int .i64 0, .int .i64 2], ⟨h.ents, n', ty⟩, []⟩) : W tree.getF rLoop ⟨[.str s, v1, .int .i64 (a : Int), v3, v4, v5, .str acc, v7, v8, v9, v10, v11, v12, v13, v14, v15], h, []⟩ Q := by
 obtain ⟨hu, hut, hX⟩ := fx4 hf
 have hat : ((a : Int)).toNat = a := by omega
 obtain ⟨hal1, hx2⟩ := List.getElem?_eq_some_iff.1 hx
 have hlt : (a : Int) < (s.length : Int) := by omega
 obtain ⟨r, hr⟩ : ∃ r, s.drop (a + 1) = r := ⟨_, rfl⟩
 have hrl : r.length = s.length - (a + 1) := by rw [← hr, List.length_drop]
 rw [hr] at he
 have hd : s.drop a = 92 :: r := by rw [List.drop_eq_getElem_cons hal1, hx2, hr]
 have hE := zD7 he
 refine W.loop ?_
 repeat (first | refine st_ rfl ?_ | ((first | refine rg_ ?_ | refine go_ ?_); refine gw_ (by simp (disch := omega) [hX, hat, hx, hx2, hlt, hd]; rfl) ?_) | (refine pu_ (v := .tup [.str [], .int .i64 0]) (by have := esc_R r (by omega); rw [hE] at this; exact this) fun _ _ g _ => ⟨rfl, ?_⟩; try dsimp only at g) | ((refine W.ret ?_; (try simp only [zAb, zA0, zA8]); refine hbad _ _ _ _ _ _ _ _ _ _ _ _ _ _ ?_ ?_; ((try dsimp only); omega); exact ut_)))
theorem r_ess (s acc : B8) (a : Nat) (hl : s.length < 50000) (hal : acc.length ≤ a) (x : B8) (k : Nat) (hx : s[a]? = some 92) (he : escV (s.drop (a + 1)) = some (x, k)) (hk0 : k < 60000) {Q : QT} (v1 v3 v4 v5 v7 v8 v9 v10 v11 v12 v13 v14 v15 : CVal) (h : CHeap) (hf : Fit h) (hk : ∀ (v1 v3 v4 v5 v7 v8 v9 v10 v11 v12 v13 v14 v15 : CVal) n' ty, h.next ≤ n' → zA9 ty n' → W tree.getF rLoop ⟨[.str s, v1, .int .i64 ((a : Int) + ((k : Int) + 1)), v3, v4, v5, .str (acc ++ x), v7, v8, v9, v10, v11, v12, v13, v14, v15], ⟨h.ents, n', ty⟩, []⟩ Q) : W tree.getF rLoop ⟨[.str s, v1, .int .i64 (a : Int), v3, v4, v5, .str acc, v7, v8, v9, v10, v11, v12, v13, v14, v15], h, []⟩ Q := by
 obtain ⟨hu, hut, hX⟩ := fx4 hf
 have hat : ((a : Int)).toNat = a := by omega
 obtain ⟨hal1, hx2⟩ := List.getElem?_eq_some_iff.1 hx
 have hlt : (a : Int) < (s.length : Int) := by omega
 obtain ⟨r, hr⟩ : ∃ r, s.drop (a + 1) = r := ⟨_, rfl⟩
 have hrl : r.length = s.length - (a + 1) := by rw [← hr, List.length_drop]
 rw [hr] at he
 have hd : s.drop a = 92 :: r := by rw [List.drop_eq_getElem_cons hal1, hx2, hr]
 have hE := zBv he
 have hxl := (escV_len he).1
 have hkne : ¬ (k : Int) + 1 = 0 := by omega
 refine W.loop ?_
 repeat (first | refine st_ rfl ?_ | ((first | refine rg_ ?_ | refine go_ ?_); refine gw_ (by simp (disch := omega) [hX, hat, hx, hx2, hlt, hd, hkne]; rfl) ?_) | (refine pu_ (v := .tup [.str x, .int .i64 ((k : Int) + 1)]) (by have := esc_R r (by omega); rw [hE] at this; exact this) fun _ _ g _ => ⟨rfl, ?_⟩; try dsimp only at g))
 show W tree.getF rLoop (dropped true _ _) Q
 generalize e : dropped .. = r0
 simp (disch := omega) [hX, hat, hx, hx2, hlt, hd, hkne] at e
 subst e
 try dsimp only
 refine hk _ _ _ _ _ _ _ _ _ _ _ _ _ _ _ ?_ ?_
 · (try dsimp only); omega
 · exact ut_
theorem r_loop (s : B8) (hl : s.length < 50000) {R : Option (B8 × Nat)} {Q : QT} (h0 : CHeap)
    (hok : ∀ txt k, R = some (txt, k) → ∀ (v1 v3 v4 v5 v7 v8 v9 v10 v11 v12 : CVal) i' out' n' ty, h0.next ≤ n' → zA9 ty n' → Q .ret ⟨[.str s, v1, .int .i64 i', v3, v4, v5, .str out', v7, v8, v9, v10, v11, v12, .str txt, .int .i64 (k : Int), .int .i64 0], ⟨h0.ents, n', ty⟩, []⟩)
    (hno : R = none → ∀ (v1 v3 v4 v5 v7 v8 v9 v10 v11 v12 : CVal) i' out' n' ty, h0.next ≤ n' → zA9 ty n' → Q .ret ⟨[.str s, v1, .int .i64 i', v3, v4, v5, .str out', v7, v8, v9, v10, v11, v12, .str [], .int .i64 0, .int .i64 2], ⟨h0.ents, n', ty⟩, []⟩)
    (hend : R = none → ∀ (v1 v3 v4 v5 v7 v8 v9 v10 v11 v12 v13 v14 v15 : CVal) i' out' n' ty, h0.next ≤ n' → zA9 ty n' → Q (.exit 0) ⟨[.str s, v1, .int .i64 i', v3, v4, v5, .str out', v7, v8, v9, v10, v11, v12, v13, v14, v15], ⟨h0.ents, n', ty⟩, []⟩) :
    ∀ (m : Nat) (t acc : B8) (a n : Nat) (ty : NN) (v1 v3 v4 v5 v7 v8 v9 v10 v11 v12 v13 v14 v15 : CVal), t.length < m → s.drop a = t → acc.length ≤ a → unqF m acc t a = R → Fit ⟨h0.ents, n, ty⟩ → h0.next ≤ n → W tree.getF rLoop ⟨[.str s, v1, .int .i64 (a : Int), v3, v4, v5, .str acc, v7, v8, v9, v10, v11, v12, v13, v14, v15], ⟨h0.ents, n, ty⟩, []⟩ Q := by
 intro m
 induction m with
 | zero => intro t acc a n ty v1 v3 v4 v5 v7 v8 v9 v10 v11 v12 v13 v14 v15 hm; omega
 | succ m ih =>
  intro t acc a n ty v1 v3 v4 v5 v7 v8 v9 v10 v11 v12 v13 v14 v15 hm hd hal hR hf hn
  cases t with
  | nil =>
   have hle : s.length ≤ a := by
    rcases Nat.lt_or_ge a s.length with g | g
    · rw [List.drop_eq_getElem_cons g] at hd; cases hd
    · exact g
   have hr : R = none := by rw [← hR]; rfl
   exact r_end s acc a hl hal hle v1 v3 v4 v5 v7 v8 v9 v10 v11 v12 v13 v14 v15 _ hf (fun v1 v3 v4 v5 v7 v8 v9 v10 v11 v12 v13 v14 v15 i' out' n' ty g1 g2 => hend hr v1 v3 v4 v5 v7 v8 v9 v10 v11 v12 v13 v14 v15 i' out' n' ty (by (try dsimp only at g1); omega) g2)
  | cons c r =>
   have hx : s[a]? = some c := by rw [← Nat.add_zero a, ← List.getElem?_drop, hd]; rfl
   have hd1 : s.drop (a + 1) = r := drop_next hd
   have hm1 : r.length < m := by simp only [List.length_cons] at hm; omega
   have hsl : r.length ≤ s.length := by rw [← hd1, List.length_drop]; omega
   have bad : R = none → ∀ (v1 v3 v4 v5 v7 v8 v9 v10 v11 v12 : CVal) i' out' n' ty', n ≤ n' → zA9 ty' n' → Q .ret ⟨[.str s, v1, .int .i64 i', v3, v4, v5, .str out', v7, v8, v9, v10, v11, v12, .str [], .int .i64 0, .int .i64 2], ⟨h0.ents, n', ty'⟩, []⟩ := fun hr v1 v3 v4 v5 v7 v8 v9 v10 v11 v12 i' out' n' ty' g1 g2 => hno hr v1 v3 v4 v5 v7 v8 v9 v10 v11 v12 i' out' n' ty' (by omega) g2
   by_cases h34 : c = 34
   · subst h34
     cases hv : zBp acc with
     | true =>
      have hr : R = some (acc, a + 1) := by rw [← hR]; simp [unqF, hv]
      exact r_ok s acc a hl hal hx hv v1 v3 v4 v5 v7 v8 v9 v10 v11 v12 v13 v14 v15 _ hf (fun v1 v3 v4 v5 v7 v8 v9 v10 v11 v12 i' out' n' ty g1 g2 => hok acc (a + 1) hr v1 v3 v4 v5 v7 v8 v9 v10 v11 v12 i' out' n' ty (by (try dsimp only at g1); omega) g2)
     | false =>
      have hr : R = none := by rw [← hR]; simp [unqF, hv]
      exact r_inv s acc a hl hal hx hv v1 v3 v4 v5 v7 v8 v9 v10 v11 v12 v13 v14 v15 _ hf (bad hr)
   · have n34 : ¬ c.toNat = 34 := fun e => h34 (UInt8.toNat_inj.1 e)
     by_cases hc : c.toNat < 32
     · have hr : R = none := by rw [← hR]; simp [unqF, h34, hc]
       exact r_ctl s acc a hl hal c hx hc v1 v3 v4 v5 v7 v8 v9 v10 v11 v12 v13 v14 v15 _ hf (bad hr)
     · by_cases h92 : c = 92
       · subst h92
         cases he : escV r with
         | none =>
          have hr : R = none := by rw [← hR]; simp [unqF, he]
          exact r_esn s acc a hl hal hx (by rw [hd1]; exact he) v1 v3 v4 v5 v7 v8 v9 v10 v11 v12 v13 v14 v15 _ hf (bad hr)
         | some xk =>
          obtain ⟨tx, k⟩ := xk
          have hlen := escV_len he
          have hr : unqF m (acc ++ tx) (r.drop k) (a + 1 + k) = R := by rw [← hR]; simp [unqF, he]
          refine r_ess s acc a hl hal tx k hx (by rw [hd1]; exact he) (by omega) v1 v3 v4 v5 v7 v8 v9 v10 v11 v12 v13 v14 v15 _ hf (fun v1 v3 v4 v5 v7 v8 v9 v10 v11 v12 v13 v14 v15 n' ty g1 g2 => ?_)
          have e1 : (a : Int) + ((k : Int) + 1) = ((a + 1 + k : Nat) : Int) := by omega
          rw [e1]
          (try dsimp only at g1)
          refine ih (r.drop k) (acc ++ tx) (a + 1 + k) n' ty v1 v3 v4 v5 v7 v8 v9 v10 v11 v12 v13 v14 v15 ?_ ?_ ?_ hr ⟨hf.1.le g1, g2⟩ (by omega)
          · rw [List.length_drop]; omega
          · rw [← List.drop_drop, hd1]
          · rw [List.length_append]; omega
       · have n92 : ¬ c.toNat = 92 := fun e => h92 (UInt8.toNat_inj.1 e)
         have hr : unqF m (acc ++ [c]) r (a + 1) = R := by rw [← hR]; simp [unqF, h34, hc, h92]
         refine r_chr s acc a hl hal c hx (by omega) n34 n92 v1 v3 v4 v5 v7 v8 v9 v10 v11 v12 v13 v14 v15 _ hf (fun v1 v3 v4 v5 v7 v8 v9 v10 v11 v12 v13 v14 v15 n' ty g1 g2 => ?_)
         have e1 : (a : Int) + 1 = ((a + 1 : Nat) : Int) := by omega
         rw [e1]
         (try dsimp only at g1)
         exact ih r (acc ++ [c]) (a + 1) n' ty v1 v3 v4 v5 v7 v8 v9 v10 v11 v12 v13 v14 v15 hm1 hd1 (by rw [List.length_append]; simp; omega) hr ⟨hf.1.le g1, g2⟩ (by omega)
theorem ru_nil  : Pu tree.getF 59 [.str []] (.tup [.str [], .int .i64 0, .int .i64 2]) := by
 intro h hf K hk
 obtain ⟨hu, hut, hX⟩ := fx4 hf
 refine Wc.mkG 59 c59 (by kernel_rfl) rfl ?_
 generalize e : zAa .. = r
 simp (disch := omega) [c59] at e
 subst e
 repeat (first | refine st_ rfl ?_ | ((first | refine rg_ ?_ | refine go_ ?_); refine gw_ (by simp (disch := omega) [hX, c59]; rfl) ?_) | (refine W.loop ?_; try (generalize e : dropped .. = r; simp (disch := omega) [hX, c59] at e; subst e; try dsimp only)) | ((first | (refine W.ret ?_; (try simp only [zAb, zA0, zA8]); refine endW.of (.inl rfl) rfl ?_) | refine endW.of (.inr rfl) rfl ?_); generalize e : zAc .. = r; simp (disch := omega) [hX, c59] at e; subst e; (refine hk _ _ ?_ ?_; omega; exact ut_)))
theorem ru_no (c : UInt8) (r : B8) (hl : r.length < 50000) (h34 : ¬ c.toNat = 34) : Pu tree.getF 59 [.str (c :: r)] (.tup [.str [], .int .i64 0, .int .i64 2]) := by
 intro h hf K hk
 obtain ⟨hu, hut, hX⟩ := fx4 hf
 have h34x : ¬ (c.toNat : Int) = 34 := by omega
 have kc : (c :: r)[0]? = some c := rfl
 refine Wc.mkG 59 c59 (by kernel_rfl) rfl ?_
 generalize e : zAa .. = r
 simp (disch := omega) [c59] at e
 subst e
 repeat (first | refine st_ rfl ?_ | ((first | refine rg_ ?_ | refine go_ ?_); refine gw_ (by simp (disch := omega) [hX, h34x, kc, List.length_cons, c59]; rfl) ?_) | (refine W.loop ?_; try (generalize e : dropped .. = r; simp (disch := omega) [hX, h34x, kc, List.length_cons, c59] at e; subst e; try dsimp only)) | ((first | (refine W.ret ?_; (try simp only [zAb, zA0, zA8]); refine endW.of (.inl rfl) rfl ?_) | refine endW.of (.inr rfl) rfl ?_); generalize e : zAc .. = r; simp (disch := omega) [hX, h34x, kc, List.length_cons, c59] at e; subst e; (refine hk _ _ ?_ ?_; omega; exact ut_)))
theorem ru_34 (r : B8) (hl : r.length < 40000) : Pu tree.getF 59 [.str (34 :: r)] (unqR (34 :: r)) := by
 intro h hf K hk
 obtain ⟨hu, hut, hX⟩ := fx4 hf
 have kc : ((34 : UInt8) :: r)[0]? = some 34 := rfl
 refine Wc.mkG 59 c59 (by kernel_rfl) rfl ?_
 generalize e : zAa .. = r
 simp (disch := omega) [c59] at e
 subst e
 repeat (first | refine st_ rfl ?_ | ((first | refine rg_ ?_ | refine go_ ?_); refine gw_ (by simp (disch := omega) [hX, kc, List.length_cons, c59]; rfl) ?_))
 refine r_loop (34 :: r) (by simp only [List.length_cons]; omega) (R := unqV (34 :: r)) h ?_ ?_ ?_ (r.length + 1) r [] 1 _ _ _ _ _ _ _ _ _ _ _ _ _ _ _ (Nat.lt_succ_self _) rfl (by simp) (by simp [unqV]) ft_ (by (try dsimp only); omega)
 · intro txt k hR v1 v3 v4 v5 v7 v8 v9 v10 v11 v12 i' out' n' ty g1 g2
   have e : unqR (34 :: r) = .tup [.str txt, .int .i64 (k : Int), .int .i64 0] := by simp only [unqR, hR]
   rw [e] at hk
   (try simp only [zAb, zA0, zA8])
   refine endW.of (.inl rfl) rfl ?_
   generalize e9 : zAc _ _ _ = r9
   simp (disch := omega) [hX, c59] at e9
   subst e9
   (try dsimp only [goW])
   refine hk _ _ ?_ ?_
   · (try dsimp only); omega
   · exact ut_
 · intro hR v1 v3 v4 v5 v7 v8 v9 v10 v11 v12 i' out' n' ty g1 g2
   have e : unqR (34 :: r) = .tup [.str [], .int .i64 0, .int .i64 2] := by simp only [unqR, hR]
   rw [e] at hk
   (try simp only [zAb, zA0, zA8])
   refine endW.of (.inl rfl) rfl ?_
   generalize e9 : zAc _ _ _ = r9
   simp (disch := omega) [hX, c59] at e9
   subst e9
   (try dsimp only [goW])
   refine hk _ _ ?_ ?_
   · (try dsimp only); omega
   · exact ut_
 · intro hR v1 v3 v4 v5 v7 v8 v9 v10 v11 v12 v13 v14 v15 i' out' n' ty g1 g2
   have e : unqR (34 :: r) = .tup [.str [], .int .i64 0, .int .i64 2] := by simp only [unqR, hR]
   rw [e] at hk
   (try simp only [zAh, zA8, zAb, reduceIte]); (try simp only [zD8])
   repeat (first | refine st_ rfl ?_ | ((first | refine rg_ ?_ | refine go_ ?_); refine gw_ (by simp (disch := omega) [hX, c59]; rfl) ?_) | (simp only [zD8]) | ((first | (refine W.ret ?_; (try simp only [zAb, zA0, zA8]); refine endW.of (.inl rfl) rfl ?_) | refine endW.of (.inr rfl) rfl ?_); generalize e : zAc .. = r; simp (disch := omega) [hX, c59] at e; subst e; (refine hk _ _ ?_ ?_; ((try dsimp only); omega); exact ut_)))
theorem ruq_F (s : B8) (hl : s.length < 30000) : Pu tree.getF 59 [.str s] (unqR s) := by
 cases s with
 | nil => exact ru_nil
 | cons c r =>
  simp only [List.length_cons] at hl
  by_cases h34 : c = 34
  · subst h34; exact ru_34 r (by omega)
  · have e : unqR (c :: r) = .tup [.str [], .int .i64 0, .int .i64 2] := by simp [unqR, unqV, h34]
    rw [e]
    exact ru_no c r (by omega) (fun e => h34 (UInt8.toNat_inj.1 e))
end Go.Proofs.YtdanefpnfnippaaGreatDoor.IrJ
namespace Go.Proofs.YtdanefpnfnippaaGreatDoor.IrJ
open Go Go.CI
open Go.LexF hiding zC3 zD5
set_option maxRecDepth 100000
set_option linter.unusedVariables false
set_option linter.unusedSimpArgs false
attribute [local irreducible] W Wo Wc WoR
def okF (B : Nat) (c : UInt8) : Prop := (48 ≤ c.toNat ∧ c.toNat ≤ 57 ∨ 65 ≤ c.toNat ∧ c.toNat ≤ 70 ∨ 97 ≤ c.toNat ∧ c.toNat ≤ 102) ∧ digF c < B
theorem valF_le (B : Nat) (hB : 1 ≤ B) : ∀ (r : B8) (n : Nat), n ≤ valF B n r
 | [], n => Nat.le_refl _
 | c :: r, n => by
  have h1 := valF_le B hB r (n * B + digF c)
  have h2 : n * 1 ≤ n * B := Nat.mul_le_mul_left _ hB
  show n ≤ valF B (n * B + digF c) r
  omega
def lowF (c : UInt8) : Nat := if c.toNat ≤ 70 then c.toNat + 32 else c.toNat
theorem lower_or (c : UInt8) (hc : 65 ≤ c.toNat ∧ c.toNat ≤ 70 ∨ 97 ≤ c.toNat ∧ c.toNat ≤ 102) : zAd .or .u8 (c.toNat : Int) 32 = some (.int .u8 (lowF c : Int)) := by
 unfold lowF
 have hx : c.toNat = 65 ∨ c.toNat = 66 ∨ c.toNat = 67 ∨ c.toNat = 68 ∨ c.toNat = 69 ∨ c.toNat = 70 ∨ c.toNat = 97 ∨ c.toNat = 98 ∨ c.toNat = 99 ∨ c.toNat = 100 ∨ c.toNat = 101 ∨ c.toNat = 102 := by omega
 rcases hx with h | h | h | h | h | h | h | h | h | h | h | h <;> rw [h] <;> rfl
theorem lower_F (c : UInt8) (hc : 65 ≤ c.toNat ∧ c.toNat ≤ 70 ∨ 97 ≤ c.toNat ∧ c.toNat ≤ 102) : Pu tree.getF 107 [.int .u8 (c.toNat : Int)] (.int .u8 (lowF c : Int)) := by
 intro h hf K hk
 obtain ⟨hu, hut, hX⟩ := fx4 hf
 have ho := lower_or c hc
 refine Wc.mkG 107 c107 (by kernel_rfl) rfl ?_
 generalize e : zAa .. = r
 simp (disch := omega) [c107] at e
 subst e
 repeat (first | refine st_ rfl ?_ | ((first | refine rg_ ?_ | refine go_ ?_); refine gw_ (by simp (disch := omega) [hX, ho, c107]; rfl) ?_) | (refine W.loop ?_; try (generalize e : dropped .. = r; simp (disch := omega) [hX, ho, c107] at e; subst e; try dsimp only)) | ((first | (refine W.ret ?_; (try simp only [zAb, zA0, zA8]); refine endW.of (.inl rfl) rfl ?_) | refine endW.of (.inr rfl) rfl ?_); generalize e : zAc .. = r; simp (disch := omega) [hX, ho, c107] at e; subst e; (refine hk _ _ ?_ ?_; omega; exact ut_)))
abbrev parseLoopP : CCode := (.loop true (.seq (.region [.g (.bin .lss (.var 15) (.var 16))] [(17, 0)] [] []) (.seq (.cond (.var 17) .skip (.exit 3)) (.seq (.block 4 (.seq (.region [.g (.idxAddr 1 (.var 18) (.var 15)), .l 0, .m (.loc 0)] [(19, 2)] [] []) (.seq (.region [.m (.u 0)] [(24, 0)] [] []) (.seq (.block 5 (.seq (.region [.v 19, .x .eql 0 (.u 95), .m (.loc 0), .q (.mv (.var 20)) 0 true, .g (.pick (.loc 1) (.loc 0) (.b false)), .m (.loc 0)] [(21, 5)] [] []) (.cond (.var 21) (.seq (.region [.m (.b true)] [(32, 0)] [] []) (.exit 4)) (.seq (.region [.v 19, .g (.bin .leq (.u 48) (.loc 0)), .m (.loc 0), .q (.mv (.var 19)) 0 true, .q (.bin .leq (.loc 0) (.u 57)) 1 true, .g (.pick (.loc 2) (.loc 0) (.b false)), .m (.loc 0)] [(22, 6)] [] []) (.cond (.var 22) (.region [.v 19, .x .sub 0 (.u 48), .m (.loc 0)] [(24, 2)] [] []) (.seq (.region [.v 19, .g (.call false 107 [(.loc 0)]), .g (.bin .leq (.u 97) (.loc 0)), .m (.loc 0), .q (.mv (.var 19)) 0 true, .q (.call false 107 [(.loc 0)]) 1 true, .q (.bin .leq (.loc 0) (.u 122)) 2 true, .g (.pick (.loc 3) (.loc 0) (.b false)), .m (.loc 0)] [(23, 8)] [] []) (.cond (.var 23) (.region [.v 19, .g (.call false 107 [(.loc 0)]), .x .sub 0 (.u 97), .x .add 0 (.u 10), .m (.loc 0)] [(24, 4)] [] []) (.seq (.region [.g (.ifc 122 (.k 2)), .m (.const (.int .u64 0)), .m (.loc 1)] [(35, 1), (36, 2)] [] []) .ret)))))))) (.seq (.seq (.region [.v 24, .v 2, .g (.conv .u8 (.loc 0)), .h .geq 2 0] [(25, 3)] [] []) (.cond (.var 25) (.seq (.region [.g (.ifc 122 (.k 2)), .m (.const (.int .u64 0)), .m (.loc 1)] [(35, 1), (36, 2)] [] []) .ret) .skip)) (.seq (.seq (.region [.v 26, .v 27, .h .geq 1 0] [(28, 2)] [] []) (.cond (.var 28) (.seq (.region [.v 29, .g (.ifc 122 (.k 1)), .m (.loc 1), .m (.loc 1)] [(35, 2), (36, 3)] [] []) .ret) .skip)) (.seq (.region [.v 26, .v 2, .g (.conv .u64 (.loc 0)), .h .mul 2 0, .m (.loc 0)] [(26, 4)] [] []) (.seq (.region [.v 26, .v 24, .g (.conv .u64 (.loc 0)), .h .add 2 0, .m (.loc 0)] [(30, 4)] [] []) (.seq (.seq (.region [.v 30, .v 26, .h .lss 1 0, .m (.loc 0), .q (.mv (.var 30)) 0 false, .q (.mv (.var 29)) 1 false, .q (.bin .gtr (.loc 1) (.loc 0)) 2 false, .g (.pick (.loc 3) (.b true) (.loc 0))] [(31, 7)] [] []) (.cond (.var 31) (.seq (.region [.v 29, .g (.ifc 122 (.k 1)), .m (.loc 1), .m (.loc 1)] [(35, 2), (36, 3)] [] []) .ret) .skip)) (.region [.v 30, .m (.loc 0)] [(26, 1)] [] [])))))))))) (.region [.g (.bin .add (.var 15) (.k 1)), .m (.loc 0)] [(15, 1)] [] [])))))
set_option maxHeartbeats 4000000 in
theorem parse_loopP (s : B8) (hs : s.length < 100000) (B : Nat) (hB : 8 ≤ B) (hB2 : B ≤ 16) (cutv : Int) (hcut : ∀ n : Nat, (n : Int) < cutv ↔ n * B < 18446744073709551616) (v1 v3 v4 v5 v6 v7 v8 v9 v10 v11 v12 v13 v14 v33 v34 v35 v36 : CVal) (Q : QT) :
    ∀ (r : B8) (i n : Nat), s.drop i = r → i ≤ s.length → (∀ c ∈ r, okF B c) → n < 18446744073709551616 → ∀ (h : CHeap) (v17 v19 v21 v22 v23 v24 v25 v28 v30 v31 : CVal), Fit h →
    (∀ n' ty (w15 w17 w19 w21 w22 w23 w24 w25 w26 w28 w30 w31 : CVal), h.next ≤ n' → zA9 ty n' → valF B n r < 18446744073709551616 → Q (.exit 3) ⟨[.str s, v1, .int .i64 B, v3, v4, v5, v6, v7, v8, v9, v10, v11, v12, v13, v14, w15, .int .i64 s.length, w17, .imm .none 1 (s.map fun b => .int .u8 b.toNat), w19, .bool false, w21, w22, w23, w24, w25, .int .u64 (valF B n r : Nat), .int .u64 cutv, w28, .int .u64 18446744073709551615, w30, w31, .bool false, v33, v34, v35, v36], ⟨h.ents, n', ty⟩, []⟩) →
    (∀ n' ty (w15 w17 w19 w21 w22 w23 w24 w25 w26 w28 w30 w31 : CVal), h.next ≤ n' → zA9 ty n' → 18446744073709551616 ≤ valF B n r → Q .ret ⟨[.str s, v1, .int .i64 B, v3, v4, v5, v6, v7, v8, v9, v10, v11, v12, v13, v14, w15, .int .i64 s.length, w17, .imm .none 1 (s.map fun b => .int .u8 b.toNat), w19, .bool false, w21, w22, w23, w24, w25, w26, .int .u64 cutv, w28, .int .u64 18446744073709551615, w30, w31, .bool false, v33, v34, .int .u64 18446744073709551615, .ifc 122 (.int .i64 1)], ⟨h.ents, n', ty⟩, []⟩) →
    W tree.getF parseLoopP ⟨[.str s, v1, .int .i64 B, v3, v4, v5, v6, v7, v8, v9, v10, v11, v12, v13, v14, .int .i64 i, .int .i64 s.length, v17, .imm .none 1 (s.map fun b => .int .u8 b.toNat), v19, .bool false, v21, v22, v23, v24, v25, .int .u64 n, .int .u64 cutv, v28, .int .u64 18446744073709551615, v30, v31, .bool false, v33, v34, v35, v36], h, []⟩ Q := by
 intro r
 induction r with
 | nil =>
  intro i n hd hi _ hn h v17 v19 v21 v22 v23 v24 v25 v28 v30 v31 hf hq1 hq2
  have hle : s.length ≤ i := List.drop_eq_nil_iff.1 hd
  obtain ⟨hu, hut, hX⟩ := fx4 hf
  refine W.loop ?_
  repeat (first | refine st_ rfl ?_ | ((first | refine rg_ ?_ | refine go_ ?_); refine gw_ (by simp (disch := omega) [hX, hle]; rfl) ?_))
  refine hq1 _ _ _ _ _ _ _ _ _ _ CVal.undef _ _ _ ?_ ?_ hn
  · omega
  · exact zA9.le hut (by omega)
 | cons c r ih =>
  intro i n hd hi hr hn h v17 v19 v21 v22 v23 v24 v25 v28 v30 v31 hf hq1 hq2
  obtain ⟨hlt, hget, hd2⟩ := get_of_dropG hd
  obtain ⟨hc, hdg⟩ := hr c (List.mem_cons_self ..)
  have hnt := zDo (fun b : UInt8 => CVal.int .u8 b.toNat) s i c hget
  have hv1 := valF_le B (by omega) r (n * B + digF c)
  have hvv : valF B n (c :: r) = valF B (n * B + digF c) r := rfl
  rw [hvv] at hq1 hq2
  obtain ⟨hu, hut, hX⟩ := fx4 hf
  have hm0 : (0 : Int) ≤ (n : Int) * (B : Int) := Int.mul_nonneg (by omega) (by omega)
  have hct := hcut n
  have hsum : (n : Int) * (B : Int) + (digF c : Int) = ((n * B + digF c : Nat) : Int) := by push_cast; rfl
  have hmn : ((n * B : Nat) : Int) = (n : Int) * (B : Int) := by push_cast; rfl
  have hcl : c.toNat < 256 := c.toNat_lt
  have hwB : IntKind.u8.wrap (B : Int) = B := zA2 (by omega) (by omega)
  have hd0 : (digF c : Int) < B := by omega
  by_cases h57 : c.toNat ≤ 57
  · have ed : (c.toNat : Int) - 48 = (digF c : Int) := by unfold digF; rw [if_pos h57]; omega
    by_cases hge : (n : Int) < cutv
    · have hlt2 := hct.1 hge
      have hm1 : (n : Int) * (B : Int) < 18446744073709551616 := by omega
      by_cases hov : n * B + digF c < 18446744073709551616
      · have hm2 : (n : Int) * (B : Int) + (digF c : Int) < 18446744073709551616 := by rw [hsum]; omega
        refine W.loop ?_
        repeat (first | refine st_ rfl ?_ | ((first | refine rg_ ?_ | refine go_ ?_); refine gw_ (by simp (disch := omega) [hX, hnt, ed, hwB, zA2, zAg]; rfl) ?_))
        show W tree.getF parseLoopP (dropped true _ _) Q
        generalize e : dropped .. = r
        simp (disch := omega) [hX, hnt, ed, hwB, zA2, zAg] at e
        subst e
        rw [hsum]
        refine ih (i + 1) (n * B + digF c) hd2 (by omega) (fun c hc => hr c (List.mem_cons_of_mem _ hc)) hov _ _ _ _ _ _ _ _ _ _ _ ?_ ?_ ?_
        · exact ⟨hu.le (by (try dsimp only); omega), zA9.le (by assumption) (by (try dsimp only); omega)⟩
        · intro n' ty w15 w17 w19 w21 w22 w23 w24 w25 w26 w28 w30 w31 g1 g2 g3; exact hq1 n' ty _ _ _ _ _ _ _ _ w26 _ _ _ (by dsimp only at g1; omega) g2 g3
        · intro n' ty w15 w17 w19 w21 w22 w23 w24 w25 w26 w28 w30 w31 g1 g2 g3; exact hq2 n' ty _ _ _ _ _ _ _ _ _ _ _ _ (by dsimp only at g1; omega) g2 g3
      · have hwr : IntKind.u64.wrap ((n : Int) * (B : Int) + (digF c : Int)) = (n : Int) * (B : Int) + (digF c : Int) - 18446744073709551616 := by
         have : (18446744073709551616 : Int) ≤ (n : Int) * (B : Int) + (digF c : Int) := by rw [hsum]; omega
         simp [IntKind.wrap, IntKind.bits, IntKind.signed]; omega
        refine W.loop ?_
        repeat (first | refine st_ rfl ?_ | ((first | refine rg_ ?_ | refine go_ ?_); refine gw_ (by simp (disch := omega) [hX, hnt, ed, hwB, zA2, zAg, hwr]; rfl) ?_) | (refine W.ret ?_; (try simp only [zAb, zA0, zA8]); refine hq2 _ _ _ _ _ _ _ _ _ _ _ _ _ _ ?_ ?_ ?_; omega; exact ut_; omega))
    · have hge2 : 18446744073709551616 ≤ n * B := by omega
      refine W.loop ?_
      repeat (first | refine st_ rfl ?_ | ((first | refine rg_ ?_ | refine go_ ?_); refine gw_ (by simp (disch := omega) [hX, hnt, ed, hwB, zA2, zAg]; rfl) ?_) | (refine W.ret ?_; (try simp only [zAb, zA0, zA8]); refine hq2 _ _ _ _ _ _ _ _ _ _ _ _ _ _ ?_ ?_ ?_; omega; exact ut_; omega))
  · have hc97 : 65 ≤ c.toNat ∧ c.toNat ≤ 70 ∨ 97 ≤ c.toNat ∧ c.toNat ≤ 102 := by omega
    have ed : (lowF c : Int) - 97 + 10 = (digF c : Int) := by unfold digF lowF; rw [if_neg h57]; split <;> omega
    have hl1 : (97 : Int) ≤ (lowF c : Int) := by unfold lowF; split <;> omega
    have hl2 : (lowF c : Int) ≤ 122 := by unfold lowF; split <;> omega
    by_cases hge : (n : Int) < cutv
    · have hlt2 := hct.1 hge
      have hm1 : (n : Int) * (B : Int) < 18446744073709551616 := by omega
      by_cases hov : n * B + digF c < 18446744073709551616
      · have hm2 : (n : Int) * (B : Int) + (digF c : Int) < 18446744073709551616 := by rw [hsum]; omega
        refine W.loop ?_
        repeat (first | refine st_ rfl ?_ | ((first | refine rg_ ?_ | refine go_ ?_); refine gw_ (by simp (disch := omega) [hX, hnt, ed, hwB, zA2, zAg]; rfl) ?_) | (refine (lower_F c hc97) _ ?_ _ fun n3 tyn3 hn3 hun3 => ⟨rfl, ?_⟩; exact fit_; (try dsimp only at hn3)))
        show W tree.getF parseLoopP (dropped true _ _) Q
        generalize e : dropped .. = r
        simp (disch := omega) [hX, hnt, ed, hwB, zA2, zAg] at e
        subst e
        rw [hsum]
        refine ih (i + 1) (n * B + digF c) hd2 (by omega) (fun c hc => hr c (List.mem_cons_of_mem _ hc)) hov _ _ _ _ _ _ _ _ _ _ _ ?_ ?_ ?_
        · exact ⟨hu.le (by (try dsimp only); omega), zA9.le (by assumption) (by (try dsimp only); omega)⟩
        · intro n' ty w15 w17 w19 w21 w22 w23 w24 w25 w26 w28 w30 w31 g1 g2 g3; exact hq1 n' ty _ _ _ _ _ _ _ _ w26 _ _ _ (by dsimp only at g1; omega) g2 g3
        · intro n' ty w15 w17 w19 w21 w22 w23 w24 w25 w26 w28 w30 w31 g1 g2 g3; exact hq2 n' ty _ _ _ _ _ _ _ _ _ _ _ _ (by dsimp only at g1; omega) g2 g3
      · have hwr : IntKind.u64.wrap ((n : Int) * (B : Int) + (digF c : Int)) = (n : Int) * (B : Int) + (digF c : Int) - 18446744073709551616 := by
         have : (18446744073709551616 : Int) ≤ (n : Int) * (B : Int) + (digF c : Int) := by rw [hsum]; omega
         simp [IntKind.wrap, IntKind.bits, IntKind.signed]; omega
        refine W.loop ?_
        repeat (first | refine st_ rfl ?_ | ((first | refine rg_ ?_ | refine go_ ?_); refine gw_ (by simp (disch := omega) [hX, hnt, ed, hwB, zA2, zAg, hwr]; rfl) ?_) | (refine (lower_F c hc97) _ ?_ _ fun n3 tyn3 hn3 hun3 => ⟨rfl, ?_⟩; exact fit_; (try dsimp only at hn3)) | (refine W.ret ?_; (try simp only [zAb, zA0, zA8]); refine hq2 _ _ _ _ _ _ _ _ _ _ _ _ _ _ ?_ ?_ ?_; omega; exact ut_; omega))
    · have hge2 : 18446744073709551616 ≤ n * B := by omega
      refine W.loop ?_
      repeat (first | refine st_ rfl ?_ | ((first | refine rg_ ?_ | refine go_ ?_); refine gw_ (by simp (disch := omega) [hX, hnt, ed, hwB, zA2, zAg]; rfl) ?_) | (refine (lower_F c hc97) _ ?_ _ fun n3 tyn3 hn3 hun3 => ⟨rfl, ?_⟩; exact fit_; (try dsimp only at hn3)) | (refine W.ret ?_; (try simp only [zAb, zA0, zA8]); refine hq2 _ _ _ _ _ _ _ _ _ _ _ _ _ _ ?_ ?_ ?_; omega; exact ut_; omega))
theorem p0_ok10 (ds : B8) (hne : ds ≠ []) (hl : ds.length < 90000) (hds : ∀ c ∈ ds, okF 10 c) (hv : valF 10 0 ds < 18446744073709551616) : Pu tree.getF 94 [.str ds, .int .i64 10, .int .i64 64] (.tup [.int .u64 (valF 10 0 ds : Nat), .nili]) := by
 intro h hf K hk
 obtain ⟨hu, hut, hX⟩ := fx4 hf
 have hneb : (ds == []) = false := by simp [hne]
 refine Wc.mkG 94 c94 (by kernel_rfl) rfl ?_
 generalize e : zAa .. = r
 simp (disch := omega) [c94] at e
 subst e
 repeat (first | refine st_ rfl ?_ | ((first | refine rg_ ?_ | refine go_ ?_); refine gw_ (by simp (disch := omega) [hX, hne, hneb, zAg, zA2, c94]; rfl) ?_))
 refine parse_loopP ds (by omega) 10 (by omega) (by omega) 1844674407370955162 (fun n => by omega) _ _ _ _ _ _ _ _ _ _ _ _ _ _ _ _ _ _ ds 0 0 rfl (by omega) hds (by omega) _ _ _ _ _ _ _ _ _ _ _ ?_ ?_ ?_
 · exact ⟨by (try dsimp only); first | exact hu.le (by omega) | exact hu.set.le (by omega), zA9.le (by assumption) (by (try dsimp only); omega)⟩
 · intro n' ty w15 w17 w19 w21 w22 w23 w24 w25 w26 w28 w30 w31 g1 g2 g3
   try dsimp only at g1
   repeat (first | refine st_ rfl ?_ | ((first | refine rg_ ?_ | refine go_ ?_); refine gw_ (by simp (disch := omega) [hX, hne, hneb, zAg, zA2, c94]; rfl) ?_) | ((first | (refine W.ret ?_; (try simp only [zAb, zA0, zA8]); refine endW.of (.inl rfl) rfl ?_) | refine endW.of (.inr rfl) rfl ?_); generalize e : zAc .. = r; simp (disch := omega) [hX, hne, hneb, zAg, zA2, c94] at e; subst e; (refine hk _ _ ?_ ?_; omega; exact ut_)))
 · intro n' ty w15 w17 w19 w21 w22 w23 w24 w25 w26 w28 w30 w31 g1 g2 g3
   try dsimp only at g1
   exfalso; omega
theorem p0_bad10 (ds : B8) (hne : ds ≠ []) (hl : ds.length < 90000) (hds : ∀ c ∈ ds, okF 10 c) (hv : 18446744073709551616 ≤ valF 10 0 ds) : Pu tree.getF 94 [.str ds, .int .i64 10, .int .i64 64] (.tup [.int .u64 18446744073709551615, .ifc 122 (.int .i64 1)]) := by
 intro h hf K hk
 obtain ⟨hu, hut, hX⟩ := fx4 hf
 have hneb : (ds == []) = false := by simp [hne]
 refine Wc.mkG 94 c94 (by kernel_rfl) rfl ?_
 generalize e : zAa .. = r
 simp (disch := omega) [c94] at e
 subst e
 repeat (first | refine st_ rfl ?_ | ((first | refine rg_ ?_ | refine go_ ?_); refine gw_ (by simp (disch := omega) [hX, hne, hneb, zAg, zA2, c94]; rfl) ?_))
 refine parse_loopP ds (by omega) 10 (by omega) (by omega) 1844674407370955162 (fun n => by omega) _ _ _ _ _ _ _ _ _ _ _ _ _ _ _ _ _ _ ds 0 0 rfl (by omega) hds (by omega) _ _ _ _ _ _ _ _ _ _ _ ?_ ?_ ?_
 · exact ⟨by (try dsimp only); first | exact hu.le (by omega) | exact hu.set.le (by omega), zA9.le (by assumption) (by (try dsimp only); omega)⟩
 · intro n' ty w15 w17 w19 w21 w22 w23 w24 w25 w26 w28 w30 w31 g1 g2 g3
   try dsimp only at g1
   exfalso; omega
 · intro n' ty w15 w17 w19 w21 w22 w23 w24 w25 w26 w28 w30 w31 g1 g2 g3
   try dsimp only at g1
   try simp only [zAb, zA0, zA8]
   refine endW.of (.inl rfl) rfl ?_
   generalize e : zAc .. = r
   simp (disch := omega) [hX, hne, hneb, zAg, zA2, c94] at e
   subst e
   (try dsimp only)
   refine hk _ _ ?_ ?_
   · omega
   · exact ut_
end Go.Proofs.YtdanefpnfnippaaGreatDoor.IrJ
namespace Go.Proofs.YtdanefpnfnippaaGreatDoor.IrJ
open Go Go.CI
open Go.LexF hiding zC3 zD5
set_option maxRecDepth 100000
set_option maxHeartbeats 4000000
set_option linter.unusedVariables false
set_option linter.unusedSimpArgs false
attribute [local irreducible] W Wo Wc WoR
theorem wGK1 {P : Prop} (h : P := by refine Wc.mkG 75 c75 (by kernel_rfl) rfl ?_; generalize e : zAa .. = r; simp (disch := omega) [c75] at e; subst e; repeat (first | refine st_ rfl ?_ | ((first | refine rg_ ?_ | refine go_ ?_); refine gw_ (by simp (disch := omega) [hX, zA2, zA1, zAw, zCc, c43, c45, kc, List.length_cons, c75]; rfl) ?_) | (refine W.loop ?_; try (generalize e : dropped .. = r; simp (disch := omega) [hX, zA2, zA1, zAw, zCc, c43, c45, kc, List.length_cons, c75] at e; subst e; try dsimp only)) | (refine pu_ (v := .tup [.int .u64 (v : Int), .nili]) (by have := p0_ok10 (c :: r) (by first | assumption | simp) (by (try simp only [List.length_cons] at hl ⊢); omega) hds (by rw [hv0]; omega); rw [hv0] at this; exact this) fun _ _ g _ => ⟨rfl, ?_⟩; try dsimp only at g) | ((first | (refine W.ret ?_; (try simp only [zAb, zA0, zA8]); refine endW.of (.inl rfl) rfl ?_) | refine endW.of (.inr rfl) rfl ?_); generalize e : zAc .. = r; simp (disch := omega) [hX, zA2, zA1, zAw, zCc, c43, c45, kc, List.length_cons, c75] at e; subst e; (refine hk _ _ ?_ ?_; omega; exact ut_)))) : P := h
theorem pu0_nil  : Pu tree.getF 94 [.str [], .int .i64 10, .int .i64 64] (.tup [.int .u64 0, .ifc 122 (.int .i64 2)]) := by
 intro h hf K hk
 obtain ⟨hu, hut, hX⟩ := fx4 hf
 refine Wc.mkG 94 c94 (by kernel_rfl) rfl ?_
 generalize e : zAa .. = r
 simp (disch := omega) [c94] at e
 subst e
 repeat (first | refine st_ rfl ?_ | ((first | refine rg_ ?_ | refine go_ ?_); refine gw_ (by simp (disch := omega) [hX, zA2, zA1, c94]; rfl) ?_) | (refine W.loop ?_; try (generalize e : dropped .. = r; simp (disch := omega) [hX, zA2, zA1, c94] at e; subst e; try dsimp only)) | ((first | (refine W.ret ?_; (try simp only [zAb, zA0, zA8]); refine endW.of (.inl rfl) rfl ?_) | refine endW.of (.inr rfl) rfl ?_); generalize e : zAc .. = r; simp (disch := omega) [hX, zA2, zA1, c94] at e; subst e; (refine hk _ _ ?_ ?_; omega; exact ut_)))
theorem zCc : IntKind.u64.wrap (2 ^ min (IntKind.u64.wrap 63).toNat IntKind.u64.bits) = 9223372036854775808 := by decide
theorem pi_pos (c : UInt8) (r : B8) (hc : 48 ≤ c.toNat ∧ c.toNat ≤ 57) (hl : (c :: r).length < 80000) (hds : ∀ x ∈ c :: r, okF 10 x) (hv : valF 10 0 (c :: r) < 9223372036854775808) (y : Int) (hy : y = (valF 10 0 (c :: r) : Nat)) : Pu tree.getF 75 [.str (c :: r), .int .i64 10, .int .i64 64] (.tup [.int .i64 y, .nili]) := by
 intro h hf K hk
 obtain ⟨hu, hut, hX⟩ := fx4 hf
 have c43 : ¬ (c.toNat : Int) = 43 := by omega
 have c45 : ¬ (c.toNat : Int) = 45 := by omega
 have kc : (c :: r)[0]? = some c := rfl
 obtain ⟨v, hv0⟩ : ∃ v, valF 10 0 (c :: r) = v := ⟨_, rfl⟩
 rw [hv0] at hv
 rw [hv0] at hy
 subst hy
 exact wGK1
theorem pi_po1 (c : UInt8) (r : B8) (hc : 48 ≤ c.toNat ∧ c.toNat ≤ 57) (hl : (c :: r).length < 80000) (hds : ∀ x ∈ c :: r, okF 10 x) (hv : 9223372036854775808 ≤ valF 10 0 (c :: r) ∧ valF 10 0 (c :: r) < 18446744073709551616) : Pu tree.getF 75 [.str (c :: r), .int .i64 10, .int .i64 64] (.tup [.int .i64 9223372036854775807, .ifc 122 (.int .i64 1)]) := by
 intro h hf K hk
 obtain ⟨hu, hut, hX⟩ := fx4 hf
 have c43 : ¬ (c.toNat : Int) = 43 := by omega
 have c45 : ¬ (c.toNat : Int) = 45 := by omega
 have kc : (c :: r)[0]? = some c := rfl
 obtain ⟨v, hv0⟩ : ∃ v, valF 10 0 (c :: r) = v := ⟨_, rfl⟩
 rw [hv0] at hv
 exact wGK1
theorem pi_po2 (c : UInt8) (r : B8) (hc : 48 ≤ c.toNat ∧ c.toNat ≤ 57) (hl : (c :: r).length < 80000) (hds : ∀ x ∈ c :: r, okF 10 x) (hv : 18446744073709551616 ≤ valF 10 0 (c :: r)) : Pu tree.getF 75 [.str (c :: r), .int .i64 10, .int .i64 64] (.tup [.int .i64 9223372036854775807, .ifc 122 (.int .i64 1)]) := by
 intro h hf K hk
 obtain ⟨hu, hut, hX⟩ := fx4 hf
 have c43 : ¬ (c.toNat : Int) = 43 := by omega
 have c45 : ¬ (c.toNat : Int) = 45 := by omega
 have kc : (c :: r)[0]? = some c := rfl
 obtain ⟨v, hv0⟩ : ∃ v, valF 10 0 (c :: r) = v := ⟨_, rfl⟩
 rw [hv0] at hv
 refine Wc.mkG 75 c75 (by kernel_rfl) rfl ?_
 generalize e : zAa .. = r
 simp (disch := omega) [c75] at e
 subst e
 repeat (first | refine st_ rfl ?_ | ((first | refine rg_ ?_ | refine go_ ?_); refine gw_ (by simp (disch := omega) [hX, zA2, zA1, zAw, zCc, c43, c45, kc, List.length_cons, c75]; rfl) ?_) | (refine W.loop ?_; try (generalize e : dropped .. = r; simp (disch := omega) [hX, zA2, zA1, zAw, zCc, c43, c45, kc, List.length_cons, c75] at e; subst e; try dsimp only)) | (refine pu_ (p0_bad10 (c :: r) (by first | assumption | simp) (by (try simp only [List.length_cons] at hl ⊢); omega) hds (by rw [hv0]; omega)) fun _ _ g _ => ⟨rfl, ?_⟩; try dsimp only at g) | ((first | (refine W.ret ?_; (try simp only [zAb, zA0, zA8]); refine endW.of (.inl rfl) rfl ?_) | refine endW.of (.inr rfl) rfl ?_); generalize e : zAc .. = r; simp (disch := omega) [hX, zA2, zA1, zAw, zCc, c43, c45, kc, List.length_cons, c75] at e; subst e; (refine hk _ _ ?_ ?_; omega; exact ut_)))
theorem pi_no2 (ds : B8) (hne : ds ≠ []) (hl : ds.length < 80000) (hds : ∀ c ∈ ds, okF 10 c) (hv : 18446744073709551616 ≤ valF 10 0 ds) : Pu tree.getF 75 [.str (45 :: ds), .int .i64 10, .int .i64 64] (.tup [.int .i64 (-9223372036854775808), .ifc 122 (.int .i64 1)]) := by
 intro h hf K hk
 obtain ⟨hu, hut, hX⟩ := fx4 hf
 have kn : ((45 : UInt8) :: ds)[0]? = some 45 := rfl
 obtain ⟨v, hv0⟩ : ∃ v, valF 10 0 ds = v := ⟨_, rfl⟩
 rw [hv0] at hv
 refine Wc.mkG 75 c75 (by kernel_rfl) rfl ?_
 generalize e : zAa .. = r
 simp (disch := omega) [c75] at e
 subst e
 repeat (first | refine st_ rfl ?_ | ((first | refine rg_ ?_ | refine go_ ?_); refine gw_ (by simp (disch := omega) [hX, zA2, zA1, zAw, zCc, kn, List.length_cons, List.drop_succ_cons, c75]; rfl) ?_) | (refine W.loop ?_; try (generalize e : dropped .. = r; simp (disch := omega) [hX, zA2, zA1, zAw, zCc, kn, List.length_cons, List.drop_succ_cons, c75] at e; subst e; try dsimp only)) | (refine pu_ (p0_bad10 ds (by first | assumption | simp) (by (try simp only [List.length_cons] at hl ⊢); omega) hds (by rw [hv0]; omega)) fun _ _ g _ => ⟨rfl, ?_⟩; try dsimp only at g) | ((first | (refine W.ret ?_; (try simp only [zAb, zA0, zA8]); refine endW.of (.inl rfl) rfl ?_) | refine endW.of (.inr rfl) rfl ?_); generalize e : zAc .. = r; simp (disch := omega) [hX, zA2, zA1, zAw, zCc, kn, List.length_cons, List.drop_succ_cons, c75] at e; subst e; (refine hk _ _ ?_ ?_; omega; exact ut_)))
theorem pi_no1 (ds : B8) (hne : ds ≠ []) (hl : ds.length < 80000) (hds : ∀ c ∈ ds, okF 10 c) (hv : 9223372036854775808 < valF 10 0 ds ∧ valF 10 0 ds < 18446744073709551616) : Pu tree.getF 75 [.str (45 :: ds), .int .i64 10, .int .i64 64] (.tup [.int .i64 (-9223372036854775808), .ifc 122 (.int .i64 1)]) := by
 intro h hf K hk
 obtain ⟨hu, hut, hX⟩ := fx4 hf
 have kn : ((45 : UInt8) :: ds)[0]? = some 45 := rfl
 obtain ⟨v, hv0⟩ : ∃ v, valF 10 0 ds = v := ⟨_, rfl⟩
 rw [hv0] at hv
 refine Wc.mkG 75 c75 (by kernel_rfl) rfl ?_
 generalize e : zAa .. = r
 simp (disch := omega) [c75] at e
 subst e
 repeat (first | refine st_ rfl ?_ | ((first | refine rg_ ?_ | refine go_ ?_); refine gw_ (by simp (disch := omega) [hX, zA2, zA1, zAw, zCc, kn, List.length_cons, List.drop_succ_cons, c75]; rfl) ?_) | (refine W.loop ?_; try (generalize e : dropped .. = r; simp (disch := omega) [hX, zA2, zA1, zAw, zCc, kn, List.length_cons, List.drop_succ_cons, c75] at e; subst e; try dsimp only)) | (refine pu_ (v := .tup [.int .u64 (v : Int), .nili]) (by have := p0_ok10 ds (by first | assumption | simp) (by (try simp only [List.length_cons] at hl ⊢); omega) hds (by rw [hv0]; omega); rw [hv0] at this; exact this) fun _ _ g _ => ⟨rfl, ?_⟩; try dsimp only at g) | ((first | (refine W.ret ?_; (try simp only [zAb, zA0, zA8]); refine endW.of (.inl rfl) rfl ?_) | refine endW.of (.inr rfl) rfl ?_); generalize e : zAc .. = r; simp (disch := omega) [hX, zA2, zA1, zAw, zCc, kn, List.length_cons, List.drop_succ_cons, c75] at e; subst e; (refine hk _ _ ?_ ?_; omega; exact ut_)))
theorem pi_neg (ds : B8) (hne : ds ≠ []) (hl : ds.length < 80000) (hds : ∀ c ∈ ds, okF 10 c) (hv : valF 10 0 ds ≤ 9223372036854775808) (y : Int) (hy : y = -((valF 10 0 ds : Nat) : Int)) : Pu tree.getF 75 [.str (45 :: ds), .int .i64 10, .int .i64 64] (.tup [.int .i64 y, .nili]) := by
 intro h hf K hk
 obtain ⟨hu, hut, hX⟩ := fx4 hf
 have kn : ((45 : UInt8) :: ds)[0]? = some 45 := rfl
 obtain ⟨v, hv0⟩ : ∃ v, valF 10 0 ds = v := ⟨_, rfl⟩
 rw [hv0] at hv
 rw [hv0] at hy
 have hwn : IntKind.i64.wrap (-IntKind.i64.wrap (v : Int)) = y := by
  rcases Nat.lt_or_ge v 9223372036854775808 with g | g
  · rw [zAw (x := (v : Int)) (by omega) (by omega), zAw (by omega) (by omega)]; omega
  · obtain rfl : v = 9223372036854775808 := by omega
    rw [hy]; decide
 refine Wc.mkG 75 c75 (by kernel_rfl) rfl ?_
 generalize e : zAa .. = r
 simp (disch := omega) [c75] at e
 subst e
 repeat (first | refine st_ rfl ?_ | ((first | refine rg_ ?_ | refine go_ ?_); refine gw_ (by simp (disch := omega) [hX, zA2, zA1, zAw, zCc, kn, List.length_cons, List.drop_succ_cons, hwn, c75]; rfl) ?_) | (refine W.loop ?_; try (generalize e : dropped .. = r; simp (disch := omega) [hX, zA2, zA1, zAw, zCc, kn, List.length_cons, List.drop_succ_cons, hwn, c75] at e; subst e; try dsimp only)) | (refine pu_ (v := .tup [.int .u64 (v : Int), .nili]) (by have := p0_ok10 ds (by first | assumption | simp) (by (try simp only [List.length_cons] at hl ⊢); omega) hds (by rw [hv0]; omega); rw [hv0] at this; exact this) fun _ _ g _ => ⟨rfl, ?_⟩; try dsimp only at g) | ((first | (refine W.ret ?_; (try simp only [zAb, zA0, zA8]); refine endW.of (.inl rfl) rfl ?_) | refine endW.of (.inr rfl) rfl ?_); generalize e : zAc .. = r; simp (disch := omega) [hX, zA2, zA1, zAw, zCc, kn, List.length_cons, List.drop_succ_cons, hwn, c75] at e; subst e; (refine hk _ _ ?_ ?_; omega; exact ut_)))
theorem pi_min  : Pu tree.getF 75 [.str [45], .int .i64 10, .int .i64 64] (.tup [.int .i64 0, .ifc 122 (.int .i64 2)]) := by
 intro h hf K hk
 obtain ⟨hu, hut, hX⟩ := fx4 hf
 refine Wc.mkG 75 c75 (by kernel_rfl) rfl ?_
 generalize e : zAa .. = r
 simp (disch := omega) [c75] at e
 subst e
 repeat (first | refine st_ rfl ?_ | ((first | refine rg_ ?_ | refine go_ ?_); refine gw_ (by simp (disch := omega) [hX, zA2, zA1, zAw, zCc, c75]; rfl) ?_) | (refine W.loop ?_; try (generalize e : dropped .. = r; simp (disch := omega) [hX, zA2, zA1, zAw, zCc, c75] at e; subst e; try dsimp only)) | (refine pu_ pu0_nil fun _ _ g _ => ⟨rfl, ?_⟩; try dsimp only at g) | ((first | (refine W.ret ?_; (try simp only [zAb, zA0, zA8]); refine endW.of (.inl rfl) rfl ?_) | refine endW.of (.inr rfl) rfl ?_); generalize e : zAc .. = r; simp (disch := omega) [hX, zA2, zA1, zAw, zCc, c75] at e; subst e; (refine hk _ _ ?_ ?_; omega; exact ut_)))
theorem pi_nil  : Pu tree.getF 75 [.str [], .int .i64 10, .int .i64 64] (.tup [.int .i64 0, .ifc 122 (.int .i64 2)]) := by
 intro h hf K hk
 obtain ⟨hu, hut, hX⟩ := fx4 hf
 refine Wc.mkG 75 c75 (by kernel_rfl) rfl ?_
 generalize e : zAa .. = r
 simp (disch := omega) [c75] at e
 subst e
 repeat (first | refine st_ rfl ?_ | ((first | refine rg_ ?_ | refine go_ ?_); refine gw_ (by simp (disch := omega) [hX, zA2, zA1, zAw, zCc, c75]; rfl) ?_) | (refine W.loop ?_; try (generalize e : dropped .. = r; simp (disch := omega) [hX, zA2, zA1, zAw, zCc, c75] at e; subst e; try dsimp only)) | ((first | (refine W.ret ?_; (try simp only [zAb, zA0, zA8]); refine endW.of (.inl rfl) rfl ?_) | refine endW.of (.inr rfl) rfl ?_); generalize e : zAc .. = r; simp (disch := omega) [hX, zA2, zA1, zAw, zCc, c75] at e; subst e; (refine hk _ _ ?_ ?_; omega; exact ut_)))
theorem re_F (a b : B8) (hb : b.length ≤ 100000) {h : CHeap} {K : KT} (hk : ∀ n' ty m d, h.next ≤ n' → zA9 ty n' → K (.ptr m d 0) ⟨h.ents, n', ty⟩) (hf : Fit h := by exact ft_) : Wc tree.getF 96 [.str a, .str b] h K := by
 obtain ⟨hu, hut, hX⟩ := fx4 hf
 refine Wc.mkG 96 c96 (by kernel_rfl) rfl ?_
 generalize e : zAa .. = r
 simp (disch := omega) [c96] at e
 subst e
 repeat (first | refine st_ rfl ?_ | ((first | refine rg_ ?_ | refine go_ ?_); refine gw_ (by simp (disch := omega) [hX, zE3, show b.length ≤ 281474976710656 from by omega, c96]; rfl) ?_) | (refine Wc.primM (f := 109) (p := zE3) (by kernel_rfl) ?_; generalize e : zE3 _ _ = r; simp (disch := omega) [hX, zE3, show b.length ≤ 281474976710656 from by omega, c96] at e; subst e; (try dsimp only); refine ⟨rfl, ?_⟩) | ((first | (refine W.ret ?_; (try simp only [zAb, zA0, zA8]); refine endW.of (.inl rfl) rfl ?_) | refine endW.of (.inr rfl) rfl ?_); generalize e : zAc .. = r; simp (disch := omega) [hX, zE3, show b.length ≤ 281474976710656 from by omega, c96] at e; subst e; (refine hk _ _ _ _ ?_ ?_; omega; exact ut_)))
theorem se_F (a b : B8) (hb : b.length ≤ 100000) {h : CHeap} {K : KT} (hk : ∀ n' ty m d, h.next ≤ n' → zA9 ty n' → K (.ptr m d 0) ⟨h.ents, n', ty⟩) (hf : Fit h := by exact ft_) : Wc tree.getF 95 [.str a, .str b] h K := by
 obtain ⟨hu, hut, hX⟩ := fx4 hf
 refine Wc.mkG 95 c95 (by kernel_rfl) rfl ?_
 generalize e : zAa .. = r
 simp (disch := omega) [c95] at e
 subst e
 repeat (first | refine st_ rfl ?_ | ((first | refine rg_ ?_ | refine go_ ?_); refine gw_ (by simp (disch := omega) [hX, zE3, show b.length ≤ 281474976710656 from by omega, c95]; rfl) ?_) | (refine Wc.primM (f := 109) (p := zE3) (by kernel_rfl) ?_; generalize e : zE3 _ _ = r; simp (disch := omega) [hX, zE3, show b.length ≤ 281474976710656 from by omega, c95] at e; subst e; (try dsimp only); refine ⟨rfl, ?_⟩) | ((first | (refine W.ret ?_; (try simp only [zAb, zA0, zA8]); refine endW.of (.inl rfl) rfl ?_) | refine endW.of (.inr rfl) rfl ?_); generalize e : zAc .. = r; simp (disch := omega) [hX, zE3, show b.length ≤ 281474976710656 from by omega, c95] at e; subst e; (refine hk _ _ _ _ ?_ ?_; omega; exact ut_)))
theorem te_R (a b : B8) (hb : b.length ≤ 100000) (x y : Int) {h : CHeap} {K : KT} (hk : ∀ n' ty m d, h.next ≤ n' → zA9 ty n' → K (.ifc 125 (.ptr m d 0)) ⟨h.ents, n', ty⟩) (hf : Fit h := by exact ft_) : Wc tree.getF 76 [.str a, .str b, .int .i64 x, .int .i64 y, .ifc 122 (.int .i64 1)] h K := by
 obtain ⟨hu, hut, hX⟩ := fx4 hf
 refine Wc.mkG 76 c76 (by kernel_rfl) rfl ?_
 generalize e : zAa .. = r
 simp (disch := omega) [c76] at e
 subst e
 repeat (first | refine st_ rfl ?_ | ((first | refine rg_ ?_ | refine go_ ?_); refine gw_ (by simp (disch := omega) [hX, c76]; rfl) ?_) | (refine re_F a b hb fun _ _ _ _ g _ => ⟨rfl, ?_⟩; try dsimp only at g) | ((first | (refine W.ret ?_; (try simp only [zAb, zA0, zA8]); refine endW.of (.inl rfl) rfl ?_) | refine endW.of (.inr rfl) rfl ?_); generalize e : zAc .. = r; simp (disch := omega) [hX, c76] at e; subst e; (refine hk _ _ _ _ ?_ ?_; omega; exact ut_)))
theorem te_S (a b : B8) (hb : b.length ≤ 100000) (x y : Int) {h : CHeap} {K : KT} (hk : ∀ n' ty m d, h.next ≤ n' → zA9 ty n' → K (.ifc 125 (.ptr m d 0)) ⟨h.ents, n', ty⟩) (hf : Fit h := by exact ft_) : Wc tree.getF 76 [.str a, .str b, .int .i64 x, .int .i64 y, .ifc 122 (.int .i64 2)] h K := by
 obtain ⟨hu, hut, hX⟩ := fx4 hf
 refine Wc.mkG 76 c76 (by kernel_rfl) rfl ?_
 generalize e : zAa .. = r
 simp (disch := omega) [c76] at e
 subst e
 repeat (first | refine st_ rfl ?_ | ((first | refine rg_ ?_ | refine go_ ?_); refine gw_ (by simp (disch := omega) [hX, c76]; rfl) ?_) | (refine se_F a b hb fun _ _ _ _ g _ => ⟨rfl, ?_⟩; try dsimp only at g) | ((first | (refine W.ret ?_; (try simp only [zAb, zA0, zA8]); refine endW.of (.inl rfl) rfl ?_) | refine endW.of (.inr rfl) rfl ?_); generalize e : zAc .. = r; simp (disch := omega) [hX, c76] at e; subst e; (refine hk _ _ _ _ ?_ ?_; omega; exact ut_)))
theorem piR (w : B8) (hw : w.length ≤ 100000) (v : Int) (P : Pu tree.getF 75 [.str w, .int .i64 10, .int .i64 64] (.tup [.int .i64 v, .ifc 122 (.int .i64 1)])) {h : CHeap} {K : KT} (hk : ∀ n' ty m d, h.next ≤ n' → zA9 ty n' → K (.tup [.int .i64 v, .ifc 125 (.ptr m d 0)]) ⟨h.ents, n', ty⟩) (hf : Fit h := by exact ft_) : Wc tree.getF 54 [.str w, .int .i64 10, .int .i64 64] h K := by
 obtain ⟨hu, hut, hX⟩ := fx4 hf
 refine Wc.mkG 54 c54 (by kernel_rfl) rfl ?_
 generalize e : zAa .. = r
 simp (disch := omega) [c54] at e
 subst e
 repeat (first | refine st_ rfl ?_ | ((first | refine rg_ ?_ | refine go_ ?_); refine gw_ (by simp (disch := omega) [hX, c54]; rfl) ?_) | (refine pu_ P fun _ _ g _ => ⟨rfl, ?_⟩; try dsimp only at g) | (refine te_R _ w hw _ _ fun _ _ _ _ g _ => ⟨rfl, ?_⟩; try dsimp only at g) | ((first | (refine W.ret ?_; (try simp only [zAb, zA0, zA8]); refine endW.of (.inl rfl) rfl ?_) | refine endW.of (.inr rfl) rfl ?_); generalize e : zAc .. = r; simp (disch := omega) [hX, c54] at e; subst e; (refine hk _ _ _ _ ?_ ?_; omega; exact ut_)))
theorem piS (w : B8) (hw : w.length ≤ 100000) (v : Int) (P : Pu tree.getF 75 [.str w, .int .i64 10, .int .i64 64] (.tup [.int .i64 v, .ifc 122 (.int .i64 2)])) {h : CHeap} {K : KT} (hk : ∀ n' ty m d, h.next ≤ n' → zA9 ty n' → K (.tup [.int .i64 v, .ifc 125 (.ptr m d 0)]) ⟨h.ents, n', ty⟩) (hf : Fit h := by exact ft_) : Wc tree.getF 54 [.str w, .int .i64 10, .int .i64 64] h K := by
 obtain ⟨hu, hut, hX⟩ := fx4 hf
 refine Wc.mkG 54 c54 (by kernel_rfl) rfl ?_
 generalize e : zAa .. = r
 simp (disch := omega) [c54] at e
 subst e
 repeat (first | refine st_ rfl ?_ | ((first | refine rg_ ?_ | refine go_ ?_); refine gw_ (by simp (disch := omega) [hX, c54]; rfl) ?_) | (refine pu_ P fun _ _ g _ => ⟨rfl, ?_⟩; try dsimp only at g) | (refine te_S _ w hw _ _ fun _ _ _ _ g _ => ⟨rfl, ?_⟩; try dsimp only at g) | ((first | (refine W.ret ?_; (try simp only [zAb, zA0, zA8]); refine endW.of (.inl rfl) rfl ?_) | refine endW.of (.inr rfl) rfl ?_); generalize e : zAc .. = r; simp (disch := omega) [hX, c54] at e; subst e; (refine hk _ _ _ _ ?_ ?_; omega; exact ut_)))
theorem piO (w : B8) (v : Int) (P : Pu tree.getF 75 [.str w, .int .i64 10, .int .i64 64] (.tup [.int .i64 v, .nili])) : Pu tree.getF 54 [.str w, .int .i64 10, .int .i64 64] (.tup [.int .i64 v, .nili]) := by
 intro h hf K hk
 obtain ⟨hu, hut, hX⟩ := fx4 hf
 refine Wc.mkG 54 c54 (by kernel_rfl) rfl ?_
 generalize e : zAa .. = r
 simp (disch := omega) [c54] at e
 subst e
 repeat (first | refine st_ rfl ?_ | ((first | refine rg_ ?_ | refine go_ ?_); refine gw_ (by simp (disch := omega) [hX, c54]; rfl) ?_) | (refine W.loop ?_; try (generalize e : dropped .. = r; simp (disch := omega) [hX, c54] at e; subst e; try dsimp only)) | (refine pu_ P fun _ _ g _ => ⟨rfl, ?_⟩; try dsimp only at g) | ((first | (refine W.ret ?_; (try simp only [zAb, zA0, zA8]); refine endW.of (.inl rfl) rfl ?_) | refine endW.of (.inr rfl) rfl ?_); generalize e : zAc .. = r; simp (disch := omega) [hX, c54] at e; subst e; (refine hk _ _ ?_ ?_; omega; exact ut_)))
theorem tp_F (s q : B8) (v : Bool) (hs : s.length < 100000) (hv : (decide (q.length ≤ s.length) && (s.take q.length == q)) = v) : Pu tree.getF 53 [.str s, .str q] (.str (if v then s.drop q.length else s)) :=
 fun h hf K hk => trim_spec s q v hs hv h hf.1 K fun n' hn => hk n' h.tys hn (hf.2.le hn)
theorem tp_45 (t : B8) (ht : t.length < 90000) : Pu tree.getF 53 [.str (45 :: t), .str [45]] (.str t) := by
 have := tp_F (45 :: t) [45] true (by simp only [List.length_cons]; omega) (by simp)
 simpa using this
theorem tp_no (t : B8) (ht : t.length < 90000) (h45 : ∀ r, t ≠ 45 :: r) : Pu tree.getF 53 [.str t, .str [45]] (.str t) := by
 have := tp_F t [45] false (by omega) (by
  cases t with
  | nil => rfl
  | cons c r => simp; intro e; exact h45 r (by rw [e]))
 simpa using this
theorem dig_setOk : (List.range 256).all (fun k => isB (decide (48 ≤ k ∧ k ≤ 57)) (nth (marks zCv [48, 49, 50, 51, 52, 53, 54, 55, 56, 57]) k)) = true := by kernel_rfl
theorem dig_in {c : UInt8} (h : 48 ≤ c.toNat ∧ c.toNat ≤ 57) : inSet (marks zCv [48, 49, 50, 51, 52, 53, 54, 55, 56, 57]) c true := by
 have h1 := List.all_eq_true.1 dig_setOk c.toNat (List.mem_range.2 c.toNat_lt)
 rw [decide_eq_true h] at h1
 exact (isB_eq h1)
theorem dig_out {c : UInt8} (h : ¬ (48 ≤ c.toNat ∧ c.toNat ≤ 57)) : inSet (marks zCv [48, 49, 50, 51, 52, 53, 54, 55, 56, 57]) c false := by
 have h1 := List.all_eq_true.1 dig_setOk c.toNat (List.mem_range.2 c.toNat_lt)
 rw [decide_eq_false h] at h1
 exact (isB_eq h1)
theorem tl_D (ds rest : B8) (hds : ∀ c ∈ ds, 48 ≤ c.toNat ∧ c.toNat ≤ 57) (hr : ∀ c r, rest = c :: r → ¬ (48 ≤ c.toNat ∧ c.toNat ≤ 57)) (hl : ds.length + rest.length < 100000) : Pu tree.getF 32 [.str (ds ++ rest), .str [48, 49, 50, 51, 52, 53, 54, 55, 56, 57]] (.str rest) :=
 fun h hf K hk => trimLeft_spec [48, 49, 50, 51, 52, 53, 54, 55, 56, 57] ds rest (by decide) (by decide) (by decide) (fun c hc => dig_in (hds c hc)) (fun c r e => dig_out (hr c r e)) (by omega) h hf.1 K fun n' hn => hk n' h.tys hn (hf.2.le hn)
theorem rf_no {p d : Nat} (x : Int) : Pu tree.getF 14 [.ptr p d 0, .bool false, .int .i64 x] (.tup []) :=
 fun h hf K hk => fails_no p d x h hf.1 K fun n' hn => hk n' h.tys hn (hf.2.le hn)
theorem rf_yes {p d : Nat} (s : B8) (x : Int) {h : CHeap} {K : KT} (hk : ∀ n' ty, h.next ≤ n' → zA9 ty n' → K (.tup []) ⟨zA5 h.ents p (rdr s x), n', ty⟩) (hf : Fit h := by exact ft_) (hg : zA4 h.ents p = some (rdr s 0) := by exact ge2_) (hp : p < h.next := by exact lt_) : Wc tree.getF 14 [.ptr p d 0, .bool true, .int .i64 x] h K :=
 fails_yes p d s x h hg hf.1 hp K fun n' hn => hk n' h.tys hn (hf.2.le hn)
theorem rf_ag {p d : Nat} (s : B8) (e x : Int) (b : Bool) (he : e ≠ 0) {h : CHeap} {K : KT} (hk : ∀ n' ty, h.next ≤ n' → zA9 ty n' → K (.tup []) ⟨h.ents, n', ty⟩) (hf : Fit h := by exact ft_) (hg : zA4 h.ents p = some (rdr s e) := by exact ge2_) (hp : p < h.next := by exact lt_) : Wc tree.getF 14 [.ptr p d 0, .bool b, .int .i64 x] h K :=
 fails_again p d s e x b he h hg hf.1 hp K fun n' hn => hk n' h.tys hn (hf.2.le hn)
theorem nb_nil {p d : Nat} (S w T rest : B8)  (v : Int) (hS : S = w ++ rest) (hl : S.length < 30000) (P1 : Pu tree.getF 53 [.str S, .str [45]] (.str T)) (P2 : Pu tree.getF 32 [.str T, .str [48, 49, 50, 51, 52, 53, 54, 55, 56, 57]] (.str rest)) (P3 : Pu tree.getF 53 [.str w, .str [45]] (.str ([]))) (P : Pu tree.getF 75 [.str w, .int .i64 10, .int .i64 64] (.tup [.int .i64 v, .ifc 122 (.int .i64 2)])) {h : CHeap} {K : KT} (hk : ∀ n' ty, h.next ≤ n' → zA9 ty n' → K (.agg [.int .i64 3, .int .i64 v, .str [], .nils, .nils]) ⟨zA5 h.ents p (rdr rest 2), n', ty⟩) (hf : Fit h := by exact ft_) (hg : zA4 h.ents p = some (rdr S 0) := by exact ge2_) (hp : p < h.next := by exact lt_) : Wc tree.getF 31 [.ptr p d 0] h K := by
 obtain ⟨hu, hut, hX⟩ := fx4 hf
 have hZ := fx6 hf hg
 have hlen : (S.length : Int) - (rest.length : Int) = (w.length : Int) := by rw [hS, List.length_append]; omega
 have hle : w.length ≤ S.length := by rw [hS, List.length_append]; omega
 have hto : ((w.length : Nat) : Int).toNat = w.length := by omega
 have htk : S.take w.length = w := by rw [hS]; simp
 have hdp : S.drop w.length = rest := by rw [hS]; simp
 refine Wc.mkG 31 c31 (by kernel_rfl) rfl ?_
 generalize e : zAa .. = r
 simp (disch := omega) [c31] at e
 subst e
 repeat (first | refine st_ rfl ?_ | ((first | refine rg_ ?_ | refine go_ ?_); refine gw_ (by simp (disch := omega) [hX, hZ, hlen, hto, htk, hdp, c31]; rfl) ?_) | (refine pu_ P1 fun _ _ g _ => ⟨rfl, ?_⟩; try dsimp only at g) | (refine pu_ P2 fun _ _ g _ => ⟨rfl, ?_⟩; try dsimp only at g) | (refine pu_ P3 fun _ _ g _ => ⟨rfl, ?_⟩; try dsimp only at g) | (refine piS w (by omega) v P fun _ _ _ _ g _ => ⟨rfl, ?_⟩; try dsimp only at g) | (refine pu_ (rf_no _) fun _ _ g _ => ⟨rfl, ?_⟩; try dsimp only at g) | (refine rf_ag rest 2 _ _ (by decide) fun _ _ g _ => ⟨rfl, ?_⟩; try dsimp only at g) | (refine rf_yes rest _ fun _ _ g _ => ⟨rfl, ?_⟩; try dsimp only at g) | ((first | (refine W.ret ?_; (try simp only [zAb, zA0, zA8]); refine endW.of (.inl rfl) rfl ?_) | refine endW.of (.inr rfl) rfl ?_); generalize e : zAc .. = r; simp (disch := omega) [hX, hZ, hlen, hto, htk, hdp, c31] at e; subst e; (refine hk _ _ ?_ ?_; ((try dsimp only); omega); exact ut_)))
theorem nb_1 {p d : Nat} (S w T rest : B8) (c : UInt8) (v : Int) (hS : S = w ++ rest) (hl : S.length < 30000) (P1 : Pu tree.getF 53 [.str S, .str [45]] (.str T)) (P2 : Pu tree.getF 32 [.str T, .str [48, 49, 50, 51, 52, 53, 54, 55, 56, 57]] (.str rest)) (P3 : Pu tree.getF 53 [.str w, .str [45]] (.str ([c]))) (P : Pu tree.getF 75 [.str w, .int .i64 10, .int .i64 64] (.tup [.int .i64 v, .nili])) {h : CHeap} {K : KT} (hk : ∀ n' ty, h.next ≤ n' → zA9 ty n' → K (.agg [.int .i64 3, .int .i64 v, .str [], .nils, .nils]) ⟨zA5 h.ents p (rdr rest 0), n', ty⟩) (hf : Fit h := by exact ft_) (hg : zA4 h.ents p = some (rdr S 0) := by exact ge2_) (hp : p < h.next := by exact lt_) : Wc tree.getF 31 [.ptr p d 0] h K := by
 obtain ⟨hu, hut, hX⟩ := fx4 hf
 have hZ := fx6 hf hg
 have hlen : (S.length : Int) - (rest.length : Int) = (w.length : Int) := by rw [hS, List.length_append]; omega
 have hle : w.length ≤ S.length := by rw [hS, List.length_append]; omega
 have hto : ((w.length : Nat) : Int).toNat = w.length := by omega
 have htk : S.take w.length = w := by rw [hS]; simp
 have hdp : S.drop w.length = rest := by rw [hS]; simp
 refine Wc.mkG 31 c31 (by kernel_rfl) rfl ?_
 generalize e : zAa .. = r
 simp (disch := omega) [c31] at e
 subst e
 repeat (first | refine st_ rfl ?_ | ((first | refine rg_ ?_ | refine go_ ?_); refine gw_ (by simp (disch := omega) [hX, hZ, hlen, hto, htk, hdp, c31]; rfl) ?_) | (refine pu_ P1 fun _ _ g _ => ⟨rfl, ?_⟩; try dsimp only at g) | (refine pu_ P2 fun _ _ g _ => ⟨rfl, ?_⟩; try dsimp only at g) | (refine pu_ P3 fun _ _ g _ => ⟨rfl, ?_⟩; try dsimp only at g) | (refine pu_ (piO w v P) fun _ _ g _ => ⟨rfl, ?_⟩; try dsimp only at g) | (refine pu_ (rf_no _) fun _ _ g _ => ⟨rfl, ?_⟩; try dsimp only at g) | ((first | (refine W.ret ?_; (try simp only [zAb, zA0, zA8]); refine endW.of (.inl rfl) rfl ?_) | refine endW.of (.inr rfl) rfl ?_); generalize e : zAc .. = r; simp (disch := omega) [hX, hZ, hlen, hto, htk, hdp, c31] at e; subst e; (refine hk _ _ ?_ ?_; ((try dsimp only); omega); exact ut_)))
theorem nb_zok {p d : Nat} (S w T rest : B8) (c2 : UInt8) (r : B8) (v : Int) (hS : S = w ++ rest) (hl : S.length < 30000) (P1 : Pu tree.getF 53 [.str S, .str [45]] (.str T)) (P2 : Pu tree.getF 32 [.str T, .str [48, 49, 50, 51, 52, 53, 54, 55, 56, 57]] (.str rest)) (P3 : Pu tree.getF 53 [.str w, .str [45]] (.str (48 :: c2 :: r))) (P : Pu tree.getF 75 [.str w, .int .i64 10, .int .i64 64] (.tup [.int .i64 v, .nili])) {h : CHeap} {K : KT} (hk : ∀ n' ty, h.next ≤ n' → zA9 ty n' → K (.agg [.int .i64 3, .int .i64 v, .str [], .nils, .nils]) ⟨zA5 h.ents p (rdr rest 2), n', ty⟩) (hf : Fit h := by exact ft_) (hg : zA4 h.ents p = some (rdr S 0) := by exact ge2_) (hp : p < h.next := by exact lt_) : Wc tree.getF 31 [.ptr p d 0] h K := by
 obtain ⟨hu, hut, hX⟩ := fx4 hf
 have hZ := fx6 hf hg
 have hlen : (S.length : Int) - (rest.length : Int) = (w.length : Int) := by rw [hS, List.length_append]; omega
 have hle : w.length ≤ S.length := by rw [hS, List.length_append]; omega
 have hto : ((w.length : Nat) : Int).toNat = w.length := by omega
 have htk : S.take w.length = w := by rw [hS]; simp
 have hdp : S.drop w.length = rest := by rw [hS]; simp
 refine Wc.mkG 31 c31 (by kernel_rfl) rfl ?_
 generalize e : zAa .. = r
 simp (disch := omega) [c31] at e
 subst e
 repeat (first | refine st_ rfl ?_ | ((first | refine rg_ ?_ | refine go_ ?_); refine gw_ (by simp (disch := omega) [hX, hZ, hlen, hto, htk, hdp, List.length_cons, c31]; rfl) ?_) | (refine pu_ P1 fun _ _ g _ => ⟨rfl, ?_⟩; try dsimp only at g) | (refine pu_ P2 fun _ _ g _ => ⟨rfl, ?_⟩; try dsimp only at g) | (refine pu_ P3 fun _ _ g _ => ⟨rfl, ?_⟩; try dsimp only at g) | (refine pu_ (piO w v P) fun _ _ g _ => ⟨rfl, ?_⟩; try dsimp only at g) | (refine pu_ (rf_no _) fun _ _ g _ => ⟨rfl, ?_⟩; try dsimp only at g) | (refine rf_ag rest 2 _ _ (by decide) fun _ _ g _ => ⟨rfl, ?_⟩; try dsimp only at g) | (refine rf_yes rest _ fun _ _ g _ => ⟨rfl, ?_⟩; try dsimp only at g) | ((first | (refine W.ret ?_; (try simp only [zAb, zA0, zA8]); refine endW.of (.inl rfl) rfl ?_) | refine endW.of (.inr rfl) rfl ?_); generalize e : zAc .. = r; simp (disch := omega) [hX, hZ, hlen, hto, htk, hdp, List.length_cons, c31] at e; subst e; (refine hk _ _ ?_ ?_; ((try dsimp only); omega); exact ut_)))
theorem nb_zR {p d : Nat} (S w T rest : B8) (c2 : UInt8) (r : B8) (v : Int) (hS : S = w ++ rest) (hl : S.length < 30000) (P1 : Pu tree.getF 53 [.str S, .str [45]] (.str T)) (P2 : Pu tree.getF 32 [.str T, .str [48, 49, 50, 51, 52, 53, 54, 55, 56, 57]] (.str rest)) (P3 : Pu tree.getF 53 [.str w, .str [45]] (.str (48 :: c2 :: r))) (P : Pu tree.getF 75 [.str w, .int .i64 10, .int .i64 64] (.tup [.int .i64 v, .ifc 122 (.int .i64 1)])) {h : CHeap} {K : KT} (hk : ∀ n' ty, h.next ≤ n' → zA9 ty n' → K (.agg [.int .i64 3, .int .i64 v, .str [], .nils, .nils]) ⟨zA5 h.ents p (rdr rest 2), n', ty⟩) (hf : Fit h := by exact ft_) (hg : zA4 h.ents p = some (rdr S 0) := by exact ge2_) (hp : p < h.next := by exact lt_) : Wc tree.getF 31 [.ptr p d 0] h K := by
 obtain ⟨hu, hut, hX⟩ := fx4 hf
 have hZ := fx6 hf hg
 have hlen : (S.length : Int) - (rest.length : Int) = (w.length : Int) := by rw [hS, List.length_append]; omega
 have hle : w.length ≤ S.length := by rw [hS, List.length_append]; omega
 have hto : ((w.length : Nat) : Int).toNat = w.length := by omega
 have htk : S.take w.length = w := by rw [hS]; simp
 have hdp : S.drop w.length = rest := by rw [hS]; simp
 refine Wc.mkG 31 c31 (by kernel_rfl) rfl ?_
 generalize e : zAa .. = r
 simp (disch := omega) [c31] at e
 subst e
 repeat (first | refine st_ rfl ?_ | ((first | refine rg_ ?_ | refine go_ ?_); refine gw_ (by simp (disch := omega) [hX, hZ, hlen, hto, htk, hdp, List.length_cons, c31]; rfl) ?_) | (refine pu_ P1 fun _ _ g _ => ⟨rfl, ?_⟩; try dsimp only at g) | (refine pu_ P2 fun _ _ g _ => ⟨rfl, ?_⟩; try dsimp only at g) | (refine pu_ P3 fun _ _ g _ => ⟨rfl, ?_⟩; try dsimp only at g) | (refine piR w (by omega) v P fun _ _ _ _ g _ => ⟨rfl, ?_⟩; try dsimp only at g) | (refine pu_ (rf_no _) fun _ _ g _ => ⟨rfl, ?_⟩; try dsimp only at g) | (refine rf_ag rest 2 _ _ (by decide) fun _ _ g _ => ⟨rfl, ?_⟩; try dsimp only at g) | (refine rf_yes rest _ fun _ _ g _ => ⟨rfl, ?_⟩; try dsimp only at g) | ((first | (refine W.ret ?_; (try simp only [zAb, zA0, zA8]); refine endW.of (.inl rfl) rfl ?_) | refine endW.of (.inr rfl) rfl ?_); generalize e : zAc .. = r; simp (disch := omega) [hX, hZ, hlen, hto, htk, hdp, List.length_cons, c31] at e; subst e; (refine hk _ _ ?_ ?_; ((try dsimp only); omega); exact ut_)))
theorem nb_mok {p d : Nat} (S w T rest : B8) (c c2 : UInt8) (r : B8) (hc48 : ¬ c.toNat = 48) (v : Int) (hS : S = w ++ rest) (hl : S.length < 30000) (P1 : Pu tree.getF 53 [.str S, .str [45]] (.str T)) (P2 : Pu tree.getF 32 [.str T, .str [48, 49, 50, 51, 52, 53, 54, 55, 56, 57]] (.str rest)) (P3 : Pu tree.getF 53 [.str w, .str [45]] (.str (c :: c2 :: r))) (P : Pu tree.getF 75 [.str w, .int .i64 10, .int .i64 64] (.tup [.int .i64 v, .nili])) {h : CHeap} {K : KT} (hk : ∀ n' ty, h.next ≤ n' → zA9 ty n' → K (.agg [.int .i64 3, .int .i64 v, .str [], .nils, .nils]) ⟨zA5 h.ents p (rdr rest 0), n', ty⟩) (hf : Fit h := by exact ft_) (hg : zA4 h.ents p = some (rdr S 0) := by exact ge2_) (hp : p < h.next := by exact lt_) : Wc tree.getF 31 [.ptr p d 0] h K := by
 obtain ⟨hu, hut, hX⟩ := fx4 hf
 have hZ := fx6 hf hg
 have hlen : (S.length : Int) - (rest.length : Int) = (w.length : Int) := by rw [hS, List.length_append]; omega
 have hle : w.length ≤ S.length := by rw [hS, List.length_append]; omega
 have hto : ((w.length : Nat) : Int).toNat = w.length := by omega
 have htk : S.take w.length = w := by rw [hS]; simp
 have hdp : S.drop w.length = rest := by rw [hS]; simp
 have kc : (c :: c2 :: r)[0]? = some c := rfl
 have c48 : ¬ (c.toNat : Int) = 48 := by omega
 refine Wc.mkG 31 c31 (by kernel_rfl) rfl ?_
 generalize e : zAa .. = r
 simp (disch := omega) [c31] at e
 subst e
 repeat (first | refine st_ rfl ?_ | ((first | refine rg_ ?_ | refine go_ ?_); refine gw_ (by simp (disch := omega) [hX, hZ, hlen, hto, htk, hdp, List.length_cons, kc, c48, c31]; rfl) ?_) | (refine pu_ P1 fun _ _ g _ => ⟨rfl, ?_⟩; try dsimp only at g) | (refine pu_ P2 fun _ _ g _ => ⟨rfl, ?_⟩; try dsimp only at g) | (refine pu_ P3 fun _ _ g _ => ⟨rfl, ?_⟩; try dsimp only at g) | (refine pu_ (piO w v P) fun _ _ g _ => ⟨rfl, ?_⟩; try dsimp only at g) | (refine pu_ (rf_no _) fun _ _ g _ => ⟨rfl, ?_⟩; try dsimp only at g) | ((first | (refine W.ret ?_; (try simp only [zAb, zA0, zA8]); refine endW.of (.inl rfl) rfl ?_) | refine endW.of (.inr rfl) rfl ?_); generalize e : zAc .. = r; simp (disch := omega) [hX, hZ, hlen, hto, htk, hdp, List.length_cons, kc, c48, c31] at e; subst e; (refine hk _ _ ?_ ?_; ((try dsimp only); omega); exact ut_)))
theorem nb_mR {p d : Nat} (S w T rest : B8) (c c2 : UInt8) (r : B8) (hc48 : ¬ c.toNat = 48) (v : Int) (hS : S = w ++ rest) (hl : S.length < 30000) (P1 : Pu tree.getF 53 [.str S, .str [45]] (.str T)) (P2 : Pu tree.getF 32 [.str T, .str [48, 49, 50, 51, 52, 53, 54, 55, 56, 57]] (.str rest)) (P3 : Pu tree.getF 53 [.str w, .str [45]] (.str (c :: c2 :: r))) (P : Pu tree.getF 75 [.str w, .int .i64 10, .int .i64 64] (.tup [.int .i64 v, .ifc 122 (.int .i64 1)])) {h : CHeap} {K : KT} (hk : ∀ n' ty, h.next ≤ n' → zA9 ty n' → K (.agg [.int .i64 3, .int .i64 v, .str [], .nils, .nils]) ⟨zA5 h.ents p (rdr rest 2), n', ty⟩) (hf : Fit h := by exact ft_) (hg : zA4 h.ents p = some (rdr S 0) := by exact ge2_) (hp : p < h.next := by exact lt_) : Wc tree.getF 31 [.ptr p d 0] h K := by
 obtain ⟨hu, hut, hX⟩ := fx4 hf
 have hZ := fx6 hf hg
 have hlen : (S.length : Int) - (rest.length : Int) = (w.length : Int) := by rw [hS, List.length_append]; omega
 have hle : w.length ≤ S.length := by rw [hS, List.length_append]; omega
 have hto : ((w.length : Nat) : Int).toNat = w.length := by omega
 have htk : S.take w.length = w := by rw [hS]; simp
 have hdp : S.drop w.length = rest := by rw [hS]; simp
 have kc : (c :: c2 :: r)[0]? = some c := rfl
 have c48 : ¬ (c.toNat : Int) = 48 := by omega
 refine Wc.mkG 31 c31 (by kernel_rfl) rfl ?_
 generalize e : zAa .. = r
 simp (disch := omega) [c31] at e
 subst e
 repeat (first | refine st_ rfl ?_ | ((first | refine rg_ ?_ | refine go_ ?_); refine gw_ (by simp (disch := omega) [hX, hZ, hlen, hto, htk, hdp, List.length_cons, kc, c48, c31]; rfl) ?_) | (refine pu_ P1 fun _ _ g _ => ⟨rfl, ?_⟩; try dsimp only at g) | (refine pu_ P2 fun _ _ g _ => ⟨rfl, ?_⟩; try dsimp only at g) | (refine pu_ P3 fun _ _ g _ => ⟨rfl, ?_⟩; try dsimp only at g) | (refine piR w (by omega) v P fun _ _ _ _ g _ => ⟨rfl, ?_⟩; try dsimp only at g) | (refine pu_ (rf_no _) fun _ _ g _ => ⟨rfl, ?_⟩; try dsimp only at g) | (refine rf_yes rest _ fun _ _ g _ => ⟨rfl, ?_⟩; try dsimp only at g) | ((first | (refine W.ret ?_; (try simp only [zAb, zA0, zA8]); refine endW.of (.inl rfl) rfl ?_) | refine endW.of (.inr rfl) rfl ?_); generalize e : zAc .. = r; simp (disch := omega) [hX, hZ, hlen, hto, htk, hdp, List.length_cons, kc, c48, c31] at e; subst e; (refine hk _ _ ?_ ?_; ((try dsimp only); omega); exact ut_)))
def isD (c : UInt8) : Bool := decide (48 ≤ c.toNat ∧ c.toNat ≤ 57)
def isNeg : B8 → Bool
 | [] => false
 | c :: _ => decide (c = 45)
def numT (S : B8) : B8 := if isNeg S then S.drop 1 else S
def numD (S : B8) : B8 := (numT S).takeWhile isD
def numR (S : B8) : B8 := (numT S).dropWhile isD
def zCo : B8 → Bool
 | c :: _ :: _ => decide (c.toNat = 48)
 | _ => false
def numV (S : B8) : Option Int :=
 if (numD S).isEmpty || zCo (numD S) then none
 else if isNeg S then (if valF 10 0 (numD S) ≤ 9223372036854775808 then some (-((valF 10 0 (numD S) : Nat) : Int)) else none)
 else if valF 10 0 (numD S) < 9223372036854775808 then some ((valF 10 0 (numD S) : Nat) : Int) else none
theorem okF_dig {c : UInt8} (h : isD c = true) : okF 10 c := by
 have h1 : 48 ≤ c.toNat ∧ c.toNat ≤ 57 := by simpa [isD] using h
 refine ⟨.inl h1, ?_⟩
 unfold digF
 repeat (first | split | omega)
theorem mem_takeD {t : B8} {c : UInt8} (h : c ∈ t.takeWhile isD) : isD c = true := by
 induction t with
 | nil => cases h
 | cons a t ih =>
  rw [List.takeWhile_cons] at h
  split at h
  · rcases List.mem_cons.1 h with rfl | h
    · assumption
    · exact ih h
  · cases h
theorem head_dropD {t r : B8} {c : UInt8} (h : t.dropWhile isD = c :: r) : isD c = false := by
 induction t with
 | nil => cases h
 | cons a t ih =>
  rw [List.dropWhile_cons] at h
  split at h
  · exact ih h
  · rename_i hn
    have := (List.cons.inj h).1
    subst this
    simpa using hn
theorem isNeg_split (S : B8) (h : isNeg S = true) : S = 45 :: S.drop 1 := by
 cases S with
 | nil => cases h
 | cons c r => have : c = 45 := by simpa [isNeg] using h
               rw [this]; rfl
theorem isNeg_no {S : B8} (h : isNeg S = false) : ∀ r, S ≠ 45 :: r := by
 rintro r rfl
 simp [isNeg] at h
theorem num_F {p d : Nat} (S : B8) (hl : S.length < 30000) {h : CHeap} {K : KT}
    (hk1 : ∀ v, numV S = some v → ∀ n' ty, h.next ≤ n' → zA9 ty n' → K (.agg [.int .i64 3, .int .i64 v, .str [], .nils, .nils]) ⟨zA5 h.ents p (rdr (numR S) 0), n', ty⟩)
    (hk0 : numV S = none → ∀ v n' ty, h.next ≤ n' → zA9 ty n' → K (.agg [.int .i64 3, .int .i64 v, .str [], .nils, .nils]) ⟨zA5 h.ents p (rdr (numR S) 2), n', ty⟩)
    (hf : Fit h) (hg : zA4 h.ents p = some (rdr S 0)) (hp : p < h.next) : Wc tree.getF 31 [.ptr p d 0] h K := by
 obtain ⟨ds, hds⟩ : ∃ ds, numD S = ds := ⟨_, rfl⟩
 obtain ⟨rest, hrest⟩ : ∃ r, numR S = r := ⟨_, rfl⟩
 have hT : numT S = ds ++ rest := by rw [← hds, ← hrest]; exact (List.takeWhile_append_dropWhile).symm
 have hdm : ∀ c ∈ ds, isD c = true := fun c hc => mem_takeD (by rw [← hds] at hc; exact hc)
 have hdr : ∀ c r, rest = c :: r → isD c = false := fun c r e => head_dropD (by rw [← hrest] at e; exact e)
 have hTl : (numT S).length ≤ S.length := by unfold numT; split; (rw [List.length_drop]; omega); exact Nat.le_refl _
 have hlen : ds.length + rest.length < 30000 := by rw [hT, List.length_append] at hTl; omega
 have hok : ∀ c ∈ ds, okF 10 c := fun c hc => okF_dig (hdm c hc)
 have P2 : Pu tree.getF 32 [.str (numT S), .str [48, 49, 50, 51, 52, 53, 54, 55, 56, 57]] (.str rest) := by
  rw [hT]
  exact tl_D ds rest (fun c hc => by simpa [isD] using hdm c hc) (fun c r e => by simpa [isD] using hdr c r e) (by omega)
 have hd45 : ∀ r, ds ≠ 45 :: r := fun r e => by
  have := hdm 45 (by rw [e]; simp)
  simp [isD] at this
 rw [hrest] at hk1 hk0
 unfold numV at hk1 hk0
 rw [hds] at hk1 hk0
 -- the word as it stands, and what ParseInt makes of it
 cases hneg : isNeg S with
 | true =>
  have hS0 := isNeg_split S hneg
  have hTS : numT S = S.drop 1 := by unfold numT; rw [if_pos hneg]
  have hS : S = (45 :: ds) ++ rest := by rw [hS0, ← hTS, hT]; rfl
  have P1 : Pu tree.getF 53 [.str S, .str [45]] (.str (numT S)) := by
   rw [hTS]
   have := tp_45 (S.drop 1) (by rw [List.length_drop]; omega)
   rw [← hS0] at this; exact this
  have P3 := tp_45 ds (by omega)
  rw [hneg] at hk1 hk0
  simp only [if_true] at hk1 hk0
  match ds, hok, hlen, hd45, hS, P3, hk1, hk0 with
  | [], hok, hlen, hd45, hS, P3, hk1, hk0 => exact nb_nil S [45] (numT S) rest 0 hS hl P1 P2 P3 pi_min (fun n' ty g1 g2 => hk0 rfl 0 n' ty g1 g2) hf hg hp
  | [c], hok, hlen, hd45, hS, P3, hk1, hk0 =>
   have hv : valF 10 0 [c] ≤ 9223372036854775808 := by have := (hok c (by simp)).2; simp [valF]; omega
   have := hk1 (-((valF 10 0 [c] : Nat) : Int)) (by simp [zCo, hv])
   exact nb_1 S (45 :: [c]) (numT S) rest c _ hS hl P1 P2 P3 (pi_neg [c] (by simp) (by simp) hok hv _ rfl) this hf hg hp
  | c :: c2 :: r, hok, hlen, hd45, hS, P3, hk1, hk0 =>
   have hll : (c :: c2 :: r).length < 80000 := by omega
   by_cases hz : c.toNat = 48
   · have hc : c = 48 := UInt8.toNat_inj.1 hz
     have h0 := hk0 (by simp [zCo, hz])
     subst hc
     rcases Nat.lt_or_ge 9223372036854775808 (valF 10 0 (48 :: c2 :: r)) with g | g
     · rcases Nat.lt_or_ge (valF 10 0 (48 :: c2 :: r)) 18446744073709551616 with g2 | g2
       · exact nb_zR S _ (numT S) rest c2 r _ hS hl P1 P2 P3 (pi_no1 _ (by simp) hll hok ⟨g, g2⟩) (h0 _) hf hg hp
       · exact nb_zR S _ (numT S) rest c2 r _ hS hl P1 P2 P3 (pi_no2 _ (by simp) hll hok g2) (h0 _) hf hg hp
     · exact nb_zok S _ (numT S) rest c2 r _ hS hl P1 P2 P3 (pi_neg _ (by simp) hll hok g _ rfl) (h0 _) hf hg hp
   · have hzb : zCo (c :: c2 :: r) = false := by simp [zCo, hz]
     rw [hzb] at hk1 hk0
     simp only [List.isEmpty_cons, Bool.or_false, Bool.false_eq_true, if_false] at hk1 hk0
     rcases Nat.lt_or_ge 9223372036854775808 (valF 10 0 (c :: c2 :: r)) with g | g
     · have h0 := hk0 (by rw [if_neg (by omega)])
       rcases Nat.lt_or_ge (valF 10 0 (c :: c2 :: r)) 18446744073709551616 with g2 | g2
       · exact nb_mR S _ (numT S) rest c c2 r hz _ hS hl P1 P2 P3 (pi_no1 _ (by simp) hll hok ⟨g, g2⟩) (h0 _) hf hg hp
       · exact nb_mR S _ (numT S) rest c c2 r hz _ hS hl P1 P2 P3 (pi_no2 _ (by simp) hll hok g2) (h0 _) hf hg hp
     · exact nb_mok S _ (numT S) rest c c2 r hz _ hS hl P1 P2 P3 (pi_neg _ (by simp) hll hok g _ rfl) (hk1 _ (by rw [if_pos g])) hf hg hp
 | false =>
  have hTS : numT S = S := by unfold numT; rw [if_neg (by rw [hneg]; simp)]
  have hS : S = ds ++ rest := by rw [← hT, hTS]
  have P1 : Pu tree.getF 53 [.str S, .str [45]] (.str (numT S)) := by
   rw [hTS]; exact tp_no S (by omega) (isNeg_no hneg)
  have P3 := tp_no ds (by omega) hd45
  rw [hneg] at hk1 hk0
  simp only [Bool.false_eq_true, if_false] at hk1 hk0
  match ds, hok, hlen, hdm, hS, P3, hk1, hk0 with
  | [], hok, hlen, hdm, hS, P3, hk1, hk0 => exact nb_nil S [] (numT S) rest 0 hS hl P1 P2 P3 pi_nil (fun n' ty g1 g2 => hk0 rfl 0 n' ty g1 g2) hf hg hp
  | [c], hok, hlen, hdm, hS, P3, hk1, hk0 =>
   have hcd : 48 ≤ c.toNat ∧ c.toNat ≤ 57 := by simpa [isD] using hdm c (by simp)
   have hv : valF 10 0 [c] < 9223372036854775808 := by have := (hok c (by simp)).2; simp [valF]; omega
   have := hk1 ((valF 10 0 [c] : Nat) : Int) (by simp [zCo, hv])
   exact nb_1 S [c] (numT S) rest c _ hS hl P1 P2 P3 (pi_pos c [] hcd (by simp) hok hv _ rfl) this hf hg hp
  | c :: c2 :: r, hok, hlen, hdm, hS, P3, hk1, hk0 =>
   have hll : (c :: c2 :: r).length < 80000 := by omega
   have hcd : 48 ≤ c.toNat ∧ c.toNat ≤ 57 := by simpa [isD] using hdm c (by simp)
   by_cases hz : c.toNat = 48
   · have hc : c = 48 := UInt8.toNat_inj.1 hz
     have h0 := hk0 (by simp [zCo, hz])
     subst hc
     rcases Nat.lt_or_ge (valF 10 0 (48 :: c2 :: r)) 9223372036854775808 with g | g
     · exact nb_zok S _ (numT S) rest c2 r _ hS hl P1 P2 P3 (pi_pos _ _ hcd hll hok g _ rfl) (h0 _) hf hg hp
     · rcases Nat.lt_or_ge (valF 10 0 (48 :: c2 :: r)) 18446744073709551616 with g2 | g2
       · exact nb_zR S _ (numT S) rest c2 r _ hS hl P1 P2 P3 (pi_po1 _ _ hcd hll hok ⟨g, g2⟩) (h0 _) hf hg hp
       · exact nb_zR S _ (numT S) rest c2 r _ hS hl P1 P2 P3 (pi_po2 _ _ hcd hll hok g2) (h0 _) hf hg hp
   · have hzb : zCo (c :: c2 :: r) = false := by simp [zCo, hz]
     rw [hzb] at hk1 hk0
     simp only [List.isEmpty_cons, Bool.or_false, Bool.false_eq_true, if_false] at hk1 hk0
     rcases Nat.lt_or_ge (valF 10 0 (c :: c2 :: r)) 9223372036854775808 with g | g
     · exact nb_mok S _ (numT S) rest c c2 r hz _ hS hl P1 P2 P3 (pi_pos _ _ hcd hll hok g _ rfl) (hk1 _ (by rw [if_pos g])) hf hg hp
     · have h0 := hk0 (by rw [if_neg (by omega)])
       rcases Nat.lt_or_ge (valF 10 0 (c :: c2 :: r)) 18446744073709551616 with g2 | g2
       · exact nb_mR S _ (numT S) rest c c2 r hz _ hS hl P1 P2 P3 (pi_po1 _ _ hcd hll hok ⟨g, g2⟩) (h0 _) hf hg hp
       · exact nb_mR S _ (numT S) rest c c2 r hz _ hS hl P1 P2 P3 (pi_po2 _ _ hcd hll hok g2) (h0 _) hf hg hp
def isSp (c : UInt8) : Bool := decide (c = 9 ∨ c = 10 ∨ c = 13 ∨ c = 32)
def zA3 (s : B8) : B8 := s.dropWhile isSp
theorem sp_all : (List.range 256).all (fun k => isB (isSp (UInt8.ofNat k)) (nth (marks zCv zC3) k)) = true := by kernel_rfl
theorem sp_in (c : UInt8) : inSet (marks zCv zC3) c (isSp c) := by
 have h1 := List.all_eq_true.1 sp_all c.toNat (List.mem_range.2 c.toNat_lt)
 rw [UInt8.ofNat_toNat] at h1
 exact isB_eq h1
theorem mem_takeP {f : UInt8 → Bool} {t : B8} {c : UInt8} (h : c ∈ t.takeWhile f) : f c = true := by
 induction t with
 | nil => cases h
 | cons a t ih =>
  rw [List.takeWhile_cons] at h
  split at h
  · rcases List.mem_cons.1 h with rfl | h
    · assumption
    · exact ih h
  · cases h
theorem head_dropP {f : UInt8 → Bool} {t r : B8} {c : UInt8} (h : t.dropWhile f = c :: r) : f c = false := by
 induction t with
 | nil => cases h
 | cons a t ih =>
  rw [List.dropWhile_cons] at h
  split at h
  · exact ih h
  · rename_i hn
    have := (List.cons.inj h).1
    subst this
    simpa using hn
theorem zAf (s : B8) : (zA3 s).length ≤ s.length := by
 have := congrArg List.length (List.takeWhile_append_dropWhile (p := isSp) (l := s))
 rw [List.length_append] at this
 unfold zA3; omega
theorem sk_F {p d : Nat} (s : B8) (e : Int) (hl : s.length < 90000) {h : CHeap} {K : KT} (hk : ∀ n' ty, h.next ≤ n' → zA9 ty n' → K (.tup []) ⟨zA5 h.ents p (rdr (zA3 s) e), n', ty⟩) (hf : Fit h := by exact ft_) (hg : zA4 h.ents p = some (rdr s e) := by exact ge2_) (hp : p < h.next := by exact lt_) : Wc tree.getF 13 [.ptr p d 0] h K := by
 have e0 := List.takeWhile_append_dropWhile (p := isSp) (l := s)
 refine skip_spec p d (s.takeWhile isSp) (zA3 s) e ?_ ?_ ?_ h ?_ hf.1 hp K fun n' hn => hk n' h.tys hn (hf.2.le hn)
 · have := congrArg List.length e0
   rw [List.length_append] at this
   unfold zA3; omega
 · intro c hc
   have := sp_in c
   rwa [mem_takeP hc] at this
 · intro c r hc
   have := sp_in c
   rwa [head_dropP hc] at this
 · unfold zA3; rw [e0]; exact hg
def isF (w s : B8) : Bool := decide (w.length ≤ s.length) && (s.take w.length == w)
def zAi (w s : B8) : B8 := if isF w s then s.drop w.length else s
theorem zBm (w s : B8) : (zAi w s).length ≤ s.length := by
 unfold zAi; split; (rw [List.length_drop]; omega); exact Nat.le_refl _
theorem cut_F (s w : B8) (hl : s.length < 90000) : Pu tree.getF 52 [.str s, .str w] (.tup [.str (zAi w s), .bool (isF w s)]) :=
 fun h hf K hk => cut_spec s w (isF w s) (by omega) rfl h hf.1 K fun n' hn => hk n' h.tys hn (hf.2.le hn)
theorem tk_F {p d : Nat} (s w : B8) (e : Int) (hl : s.length < 90000) {h : CHeap} {K : KT} (hk : ∀ n' ty, h.next ≤ n' → zA9 ty n' → K (.bool (isF w (zA3 s))) ⟨zA5 h.ents p (rdr (zAi w (zA3 s)) (e)), n', ty⟩) (hf : Fit h := by exact ft_) (hg : zA4 h.ents p = some (rdr s e) := by exact ge2_) (hp : p < h.next := by exact lt_) : Wc tree.getF 30 [.ptr p d 0, .str w] h K := by
 obtain ⟨hu, hut, hX⟩ := fx4 hf
 have hZ := fx6 hf hg
 refine Wc.mkG 30 c30 (by kernel_rfl) rfl ?_
 generalize e : zAa .. = r
 simp (disch := omega) [c30] at e
 subst e
 repeat (first | refine st_ rfl ?_ | ((first | refine rg_ ?_ | refine go_ ?_); refine gw_ (by simp (disch := omega) [hX, hZ, c30]; rfl) ?_) | (refine W.loop ?_; try (generalize e : dropped .. = r; simp (disch := omega) [hX, hZ, c30] at e; subst e; try dsimp only)) | (refine sk_F s e hl fun _ _ g _ => ⟨rfl, ?_⟩; try dsimp only at g) | (refine pu_ (cut_F (zA3 s) w (by have := zAf s; omega)) fun _ _ g _ => ⟨rfl, ?_⟩; try dsimp only at g) | ((first | (refine W.ret ?_; (try simp only [zAb, zA0, zA8]); refine endW.of (.inl rfl) rfl ?_) | refine endW.of (.inr rfl) rfl ?_); generalize e : zAc .. = r; simp (disch := omega) [hX, hZ, c30] at e; subst e; (refine hk _ _ ?_ ?_; omega; exact ut_)))
theorem nd_no {p d : Nat} (s w : B8) (e : Int) (hl : s.length < 90000) (hw : isF w (zA3 s) = true) {h : CHeap} {K : KT} (hk : ∀ n' ty, h.next ≤ n' → zA9 ty n' → K (.tup []) ⟨zA5 h.ents p (rdr (zAi w (zA3 s)) (e)), n', ty⟩) (hf : Fit h := by exact ft_) (hg : zA4 h.ents p = some (rdr s e) := by exact ge2_) (hp : p < h.next := by exact lt_) : Wc tree.getF 50 [.ptr p d 0, .str w] h K := by
 obtain ⟨hu, hut, hX⟩ := fx4 hf
 have hZ := fx6 hf hg
 refine Wc.mkG 50 c50 (by kernel_rfl) rfl ?_
 generalize e : zAa .. = r
 simp (disch := omega) [c50] at e
 subst e
 repeat (first | refine st_ rfl ?_ | ((first | refine rg_ ?_ | refine go_ ?_); refine gw_ (by simp (disch := omega) [hX, hZ, hw, c50]; rfl) ?_) | (refine W.loop ?_; try (generalize e : dropped .. = r; simp (disch := omega) [hX, hZ, hw, c50] at e; subst e; try dsimp only)) | (refine tk_F s w e hl fun _ _ g _ => ⟨rfl, ?_⟩; try dsimp only at g) | (refine pu_ (rf_no 2) fun _ _ g _ => ⟨rfl, ?_⟩; try dsimp only at g) | ((first | (refine W.ret ?_; (try simp only [zAb, zA0, zA8]); refine endW.of (.inl rfl) rfl ?_) | refine endW.of (.inr rfl) rfl ?_); generalize e : zAc .. = r; simp (disch := omega) [hX, hZ, hw, c50] at e; subst e; (refine hk _ _ ?_ ?_; omega; exact ut_)))
theorem nd_yes {p d : Nat} (s w : B8) (e : Int) (hl : s.length < 90000) (hw : isF w (zA3 s) = false) (he : e = 0) {h : CHeap} {K : KT} (hk : ∀ n' ty, h.next ≤ n' → zA9 ty n' → K (.tup []) ⟨zA5 h.ents p (rdr (zA3 s) (2)), n', ty⟩) (hf : Fit h := by exact ft_) (hg : zA4 h.ents p = some (rdr s e) := by exact ge2_) (hp : p < h.next := by exact lt_) : Wc tree.getF 50 [.ptr p d 0, .str w] h K := by
 obtain ⟨hu, hut, hX⟩ := fx4 hf
 have hZ := fx6 hf hg
 subst he
 refine Wc.mkG 50 c50 (by kernel_rfl) rfl ?_
 generalize e : zAa .. = r
 simp (disch := omega) [c50] at e
 subst e
 repeat (first | refine st_ rfl ?_ | ((first | refine rg_ ?_ | refine go_ ?_); refine gw_ (by simp (disch := omega) [hX, hZ, hw, zAi, c50]; rfl) ?_) | (refine W.loop ?_; try (generalize e : dropped .. = r; simp (disch := omega) [hX, hZ, hw, zAi, c50] at e; subst e; try dsimp only)) | (refine tk_F s w 0 hl fun _ _ g _ => ⟨rfl, ?_⟩; try dsimp only at g) | (refine rf_yes (zA3 s) 2 fun _ _ g _ => ⟨rfl, ?_⟩; try dsimp only at g) | ((first | (refine W.ret ?_; (try simp only [zAb, zA0, zA8]); refine endW.of (.inl rfl) rfl ?_) | refine endW.of (.inr rfl) rfl ?_); generalize e : zAc .. = r; simp (disch := omega) [hX, hZ, hw, zAi, c50] at e; subst e; (refine hk _ _ ?_ ?_; omega; exact ut_)))
theorem nd_ag {p d : Nat} (s w : B8) (e : Int) (hl : s.length < 90000) (hw : isF w (zA3 s) = false) (he : e ≠ 0) {h : CHeap} {K : KT} (hk : ∀ n' ty, h.next ≤ n' → zA9 ty n' → K (.tup []) ⟨zA5 h.ents p (rdr (zA3 s) (e)), n', ty⟩) (hf : Fit h := by exact ft_) (hg : zA4 h.ents p = some (rdr s e) := by exact ge2_) (hp : p < h.next := by exact lt_) : Wc tree.getF 50 [.ptr p d 0, .str w] h K := by
 obtain ⟨hu, hut, hX⟩ := fx4 hf
 have hZ := fx6 hf hg
 refine Wc.mkG 50 c50 (by kernel_rfl) rfl ?_
 generalize e : zAa .. = r
 simp (disch := omega) [c50] at e
 subst e
 repeat (first | refine st_ rfl ?_ | ((first | refine rg_ ?_ | refine go_ ?_); refine gw_ (by simp (disch := omega) [hX, hZ, hw, zAi, c50]; rfl) ?_) | (refine W.loop ?_; try (generalize e : dropped .. = r; simp (disch := omega) [hX, hZ, hw, zAi, c50] at e; subst e; try dsimp only)) | (refine tk_F s w e hl fun _ _ g _ => ⟨rfl, ?_⟩; try dsimp only at g) | (refine rf_ag (zA3 s) e 2 true he fun _ _ g _ => ⟨rfl, ?_⟩; try dsimp only at g) | ((first | (refine W.ret ?_; (try simp only [zAb, zA0, zA8]); refine endW.of (.inl rfl) rfl ?_) | refine endW.of (.inr rfl) rfl ?_); generalize e : zAc .. = r; simp (disch := omega) [hX, hZ, hw, zAi, c50] at e; subst e; (refine hk _ _ ?_ ?_; omega; exact ut_)))
theorem tx_ok {p d : Nat} (s t : B8) (k : Nat) (e : Int) (hl : s.length < 30000) (hu1 : unqV (zA3 s) = some (t, k)) (hk1 : k ≤ (zA3 s).length) {h : CHeap} {K : KT} (hk : ∀ n' ty, h.next ≤ n' → zA9 ty n' → K (.str t) ⟨zA5 h.ents p (rdr ((zA3 s).drop k) (e)), n', ty⟩) (hf : Fit h := by exact ft_) (hg : zA4 h.ents p = some (rdr s e) := by exact ge2_) (hp : p < h.next := by exact lt_) : Wc tree.getF 27 [.ptr p d 0] h K := by
 obtain ⟨hu, hut, hX⟩ := fx4 hf
 have hZ := fx6 hf hg
 have hss := zAf s
 have hl0 : s.length < 90000 := by omega
 have hk2 : (k : Int) ≤ ((zA3 s).length : Int) := by omega
 have hq := uq_F (zA3 s) (by omega)
 rw [show unqR (zA3 s) = .tup [.str t, .int .i64 (k : Int), .int .i64 0] by unfold unqR; rw [hu1]] at hq
 refine Wc.mkG 27 c27 (by kernel_rfl) rfl ?_
 generalize e : zAa .. = r
 simp (disch := omega) [c27] at e
 subst e
 repeat (first | refine st_ rfl ?_ | ((first | refine rg_ ?_ | refine go_ ?_); refine gw_ (by simp (disch := omega) [hX, hZ, zAi, hss, hk1, hk2, c27]; rfl) ?_) | (refine W.loop ?_; try (generalize e : dropped .. = r; simp (disch := omega) [hX, hZ, zAi, hss, hk1, hk2, c27] at e; subst e; try dsimp only)) | (refine sk_F s e hl0 fun _ _ g _ => ⟨rfl, ?_⟩; try dsimp only at g) | (refine pu_ hq fun _ _ g _ => ⟨rfl, ?_⟩; try dsimp only at g) | (refine pu_ (rf_no 0) fun _ _ g _ => ⟨rfl, ?_⟩; try dsimp only at g) | ((first | (refine W.ret ?_; (try simp only [zAb, zA0, zA8]); refine endW.of (.inl rfl) rfl ?_) | refine endW.of (.inr rfl) rfl ?_); generalize e : zAc .. = r; simp (disch := omega) [hX, hZ, zAi, hss, hk1, hk2, c27] at e; subst e; (refine hk _ _ ?_ ?_; omega; exact ut_)))
theorem tx_no {p d : Nat} (s : B8) (e : Int) (hl : s.length < 30000) (hu1 : unqV (zA3 s) = none) (he : e = 0) {h : CHeap} {K : KT} (hk : ∀ n' ty, h.next ≤ n' → zA9 ty n' → K (.str []) ⟨zA5 h.ents p (rdr (zA3 s) (2)), n', ty⟩) (hf : Fit h := by exact ft_) (hg : zA4 h.ents p = some (rdr s e) := by exact ge2_) (hp : p < h.next := by exact lt_) : Wc tree.getF 27 [.ptr p d 0] h K := by
 obtain ⟨hu, hut, hX⟩ := fx4 hf
 have hZ := fx6 hf hg
 subst he
 have hss := zAf s
 have hl0 : s.length < 90000 := by omega
 have hq := uq_F (zA3 s) (by omega)
 rw [show unqR (zA3 s) = .tup [.str [], .int .i64 0, .int .i64 2] by unfold unqR; rw [hu1]] at hq
 refine Wc.mkG 27 c27 (by kernel_rfl) rfl ?_
 generalize e : zAa .. = r
 simp (disch := omega) [c27] at e
 subst e
 repeat (first | refine st_ rfl ?_ | ((first | refine rg_ ?_ | refine go_ ?_); refine gw_ (by simp (disch := omega) [hX, hZ, zAi, hss, c27]; rfl) ?_) | (refine W.loop ?_; try (generalize e : dropped .. = r; simp (disch := omega) [hX, hZ, zAi, hss, c27] at e; subst e; try dsimp only)) | (refine sk_F s 0 hl0 fun _ _ g _ => ⟨rfl, ?_⟩; try dsimp only at g) | (refine pu_ hq fun _ _ g _ => ⟨rfl, ?_⟩; try dsimp only at g) | (refine rf_yes (zA3 s) 2 fun _ _ g _ => ⟨rfl, ?_⟩; try dsimp only at g) | ((first | (refine W.ret ?_; (try simp only [zAb, zA0, zA8]); refine endW.of (.inl rfl) rfl ?_) | refine endW.of (.inr rfl) rfl ?_); generalize e : zAc .. = r; simp (disch := omega) [hX, hZ, zAi, hss, c27] at e; subst e; (refine hk _ _ ?_ ?_; omega; exact ut_)))
abbrev ixLoop : CCode := (.loop true (.seq (.region [.g (.bin .lss (.var 1) (.var 2))] [(3, 0)] [] []) (.seq (.cond (.var 3) .skip (.exit 0)) (.seq (.block 1 (.seq (.region [.v 1, .m (.loc 0)] [(5, 1)] [] []) (.seq (.region [.v 4, .v 0, .v 5, .g (.idxAddr 1 (.loc 1) (.loc 0)), .l 0, .h .eql 4 0] [(6, 5)] [] []) (.cond (.var 6) (.seq (.region [.v 5, .m (.loc 0)] [(7, 1)] [] []) .ret) .skip)))) (.region [.g (.bin .add (.var 1) (.k 1)), .m (.loc 0)] [(1, 1)] [] [])))))
theorem ix_yes (ns : List (B8)) (w : B8) (i : Nat) (hl : ns.length < 90000) (hx : ns[i]? = some w) {Q : QT} (v3 v5 v6 : CVal) (h : CHeap) (hf : Fit h)
    (hk : ∀ (v3 v5 v6 : CVal) n' ty, h.next ≤ n' → zA9 ty n' → Q .ret ⟨[.imm .none 1 (ns.map .str), .int .i64 (i : Int), .int .i64 (ns.length : Int), v3, .str w, v5, v6, .int .i64 (i : Int)], ⟨h.ents, n', ty⟩, []⟩) : W tree.getF ixLoop ⟨[.imm .none 1 (ns.map .str), .int .i64 (i : Int), .int .i64 (ns.length : Int), v3, .str w, v5, v6, .int .i64 0], h, []⟩ Q := by
 obtain ⟨hu, hut, hX⟩ := fx4 hf
 obtain ⟨hi, hx2⟩ := List.getElem?_eq_some_iff.1 hx
 have hx3 : nth (ns.map CVal.str) i = .str w := zDo CVal.str ns i _ hx
 have hdl : (i : Int) < (ns.length : Int) := by omega
 have hi2 : (i : Int).toNat = i := by omega
 refine W.loop ?_
 repeat (first | refine st_ rfl ?_ | ((first | refine rg_ ?_ | refine go_ ?_); refine gw_ (by simp (disch := omega) [hX, hx, hx2, hx3, hi2, hdl, hi]; rfl) ?_) | (refine W.loop ?_; try (generalize e : dropped .. = r; simp (disch := omega) [hX, hx, hx2, hx3, hi2, hdl, hi] at e; subst e; try dsimp only)))
 all_goals ((try refine W.ret ?_); (try simp only [zAb, zA0, zAh, zA8, reduceIte]); refine hk _ _ _ _ _ ?_ ?_; omega; exact ut_)
theorem ix_no (ns : List (B8)) (w x : B8) (i : Nat) (hl : ns.length < 90000) (hx : ns[i]? = some x) (hne : w ≠ x) {Q : QT} (v3 v5 v6 : CVal) (h : CHeap) (hf : Fit h)
    (hk : ∀ (v3 v5 v6 : CVal) n' ty, h.next ≤ n' → zA9 ty n' → W tree.getF ixLoop ⟨[.imm .none 1 (ns.map .str), .int .i64 ((i : Int) + 1), .int .i64 (ns.length : Int), v3, .str w, v5, v6, .int .i64 0], ⟨h.ents, n', ty⟩, []⟩ Q) : W tree.getF ixLoop ⟨[.imm .none 1 (ns.map .str), .int .i64 (i : Int), .int .i64 (ns.length : Int), v3, .str w, v5, v6, .int .i64 0], h, []⟩ Q := by
 obtain ⟨hu, hut, hX⟩ := fx4 hf
 obtain ⟨hi, hx2⟩ := List.getElem?_eq_some_iff.1 hx
 have hne2 : (w == x) = false := by simp [hne]
 have hx3 : nth (ns.map CVal.str) i = .str x := zDo CVal.str ns i _ hx
 have hdl : (i : Int) < (ns.length : Int) := by omega
 have hi2 : (i : Int).toNat = i := by omega
 refine W.loop ?_
 repeat (first | refine st_ rfl ?_ | ((first | refine rg_ ?_ | refine go_ ?_); refine gw_ (by simp (disch := omega) [hX, hx, hx2, hx3, hi2, hdl, hi, hne2]; rfl) ?_))
 show W tree.getF ixLoop (dropped true _ _) Q
 generalize e : dropped .. = r
 simp (disch := omega) [hX] at e
 subst e
 refine hk _ _ _ _ _ ?_ ?_; omega; exact ut_
theorem ix_end (ns : List (B8)) (w : B8) (i : Nat) (hl : ns.length < 90000) (hx : ns.length ≤ i) {Q : QT} (v3 v5 v6 : CVal) (h : CHeap) (hf : Fit h)
    (hk : ∀ (v3 v5 v6 : CVal) n' ty, h.next ≤ n' → zA9 ty n' → Q (.exit 0) ⟨[.imm .none 1 (ns.map .str), .int .i64 (i : Int), .int .i64 (ns.length : Int), v3, .str w, v5, v6, .int .i64 0], ⟨h.ents, n', ty⟩, []⟩) : W tree.getF ixLoop ⟨[.imm .none 1 (ns.map .str), .int .i64 (i : Int), .int .i64 (ns.length : Int), v3, .str w, v5, v6, .int .i64 0], h, []⟩ Q := by
 obtain ⟨hu, hut, hX⟩ := fx4 hf
 have hdl : (ns.length : Int) ≤ (i : Int) := by omega
 refine W.loop ?_
 repeat (first | refine st_ rfl ?_ | ((first | refine rg_ ?_ | refine go_ ?_); refine gw_ (by simp (disch := omega) [hX, hdl]; rfl) ?_) | (refine W.loop ?_; try (generalize e : dropped .. = r; simp (disch := omega) [hX, hdl] at e; subst e; try dsimp only)))
 all_goals (refine hk _ _ _ _ _ ?_ ?_; omega; exact ut_)
theorem ix_loop (ns : List (B8)) (w : B8) (hl : ns.length < 90000) (b : Bool) {Q : QT} (h0 : CHeap)
    (hy : b = true → ∀ (j : Nat) (v3 v5 v6 : CVal) n' ty, h0.next ≤ n' → zA9 ty n' → Q .ret ⟨[.imm .none 1 (ns.map .str), .int .i64 (j : Int), .int .i64 (ns.length : Int), v3, .str w, v5, v6, .int .i64 (j : Int)], ⟨h0.ents, n', ty⟩, []⟩)
    (hn : b = false → ∀ (j : Nat) (v3 v5 v6 : CVal) n' ty, h0.next ≤ n' → zA9 ty n' → Q (.exit 0) ⟨[.imm .none 1 (ns.map .str), .int .i64 (j : Int), .int .i64 (ns.length : Int), v3, .str w, v5, v6, .int .i64 0], ⟨h0.ents, n', ty⟩, []⟩) :
    ∀ (m i n : Nat) (ty : NN) (v3 v5 v6 : CVal), ns.length ≤ i + m → (ns.drop i).contains w = b → Fit ⟨h0.ents, n, ty⟩ → h0.next ≤ n → W tree.getF ixLoop ⟨[.imm .none 1 (ns.map .str), .int .i64 (i : Int), .int .i64 (ns.length : Int), v3, .str w, v5, v6, .int .i64 0], ⟨h0.ents, n, ty⟩, []⟩ Q := by
 intro m
 induction m with
 | zero =>
  intro i n ty v3 v5 v6 hi hb hf hn2
  have hr : b = false := by rw [← hb, List.drop_eq_nil_of_le (by omega)]; rfl
  exact ix_end ns w i hl (by omega) v3 v5 v6 _ hf fun v3 v5 v6 n' ty g1 g2 => hn hr i v3 v5 v6 n' ty (by (try dsimp only at g1); omega) g2
 | succ m ih =>
  intro i n ty v3 v5 v6 hi hb hf hn2
  rcases Nat.lt_or_ge i ns.length with g | g
  · have hx : ns[i]? = some ns[i] := List.getElem?_eq_getElem g
    rw [List.drop_eq_getElem_cons g] at hb
    by_cases he : w = ns[i]
    · have hr : b = true := by rw [← hb, ← he]; simp
      exact ix_yes ns w i hl (by rw [hx, ← he]) v3 v5 v6 _ hf fun v3 v5 v6 n' ty g1 g2 => hy hr i v3 v5 v6 n' ty (by (try dsimp only at g1); omega) g2
    · have hr : (ns.drop (i + 1)).contains w = b := by rw [← hb, List.contains_cons]; simp [he]
      refine ix_no ns w ns[i] i hl hx he v3 v5 v6 _ hf fun v3 v5 v6 n' ty g1 g2 => ?_
      (try dsimp only at g1)
      have := ih (i + 1) n' ty v3 v5 v6 (by omega) hr ⟨hf.1.le g1, g2⟩ (by omega)
      rwa [show ((i + 1 : Nat) : Int) = (i : Int) + 1 by omega] at this
  · have hr : b = false := by rw [← hb, List.drop_eq_nil_of_le g]; rfl
    exact ix_end ns w i hl g v3 v5 v6 _ hf fun v3 v5 v6 n' ty g1 g2 => hn hr i v3 v5 v6 n' ty (by (try dsimp only at g1); omega) g2
theorem ixf_yes (ns : List (B8)) (w : B8) (hl : ns.length < 90000) (hb : ns.contains w = true) {h : CHeap} {K : KT} (hk : ∀ (j : Nat) n' ty, h.next ≤ n' → zA9 ty n' → K (.int .i64 (j : Int)) ⟨h.ents, n', ty⟩) (hf : Fit h := by exact ft_) : Wc tree.getF 18 [.imm .none 1 (ns.map .str), .str w] h K := by
 obtain ⟨hu, hut, hX⟩ := fx4 hf
 refine Wc.mkG 18 c18 (by kernel_rfl) rfl ?_
 generalize e : zAa .. = r
 simp (disch := omega) [c18] at e
 subst e
 repeat (first | refine st_ rfl ?_ | ((first | refine rg_ ?_ | refine go_ ?_); refine gw_ (by simp (disch := omega) [hX]; rfl) ?_))
 refine ix_loop ns w hl true h (fun _ j v3 v5 v6 n' ty g1 g2 => ?_) (fun hb1 => by cases hb1) ns.length 0 _ _ _ _ _ (by omega) (by simpa using hb) ⟨un2_, ut_⟩ (by (try dsimp only); omega)
 (try simp only [zAb, zA0, zAh, zA8, reduceIte])
 (first | (refine W.ret ?_; (try simp only [zAb, zA0, zA8]); refine endW.of (.inl rfl) rfl ?_) | refine endW.of (.inl rfl) rfl ?_ | refine endW.of (.inr rfl) rfl ?_); generalize e : zAc .. = r; simp (disch := omega) [hX] at e; subst e
 refine hk j _ _ ?_ ?_; omega; exact ut_
theorem ixf_no (ns : List (B8)) (w : B8) (hl : ns.length < 90000) (hb : ns.contains w = false) : Pu tree.getF 18 [.imm .none 1 (ns.map .str), .str w] (.int .i64 (-1)) := by
 intro h hf K hk
 obtain ⟨hu, hut, hX⟩ := fx4 hf
 refine Wc.mkG 18 c18 (by kernel_rfl) rfl ?_
 generalize e : zAa .. = r
 simp (disch := omega) [c18] at e
 subst e
 repeat (first | refine st_ rfl ?_ | ((first | refine rg_ ?_ | refine go_ ?_); refine gw_ (by simp (disch := omega) [hX]; rfl) ?_))
 refine ix_loop ns w hl false h (fun hb1 => by cases hb1) (fun _ j v3 v5 v6 n' ty g1 g2 => ?_) ns.length 0 _ _ _ _ _ (by omega) (by simpa using hb) ⟨un2_, ut_⟩ (by (try dsimp only); omega)
 (try simp only [zAb, zA0, zAh, zA8, reduceIte])
 repeat (first | refine st_ rfl ?_ | ((first | refine rg_ ?_ | refine go_ ?_); refine gw_ (by simp (disch := omega) [hX]; rfl) ?_))
 (first | (refine W.ret ?_; (try simp only [zAb, zA0, zA8]); refine endW.of (.inl rfl) rfl ?_) | refine endW.of (.inl rfl) rfl ?_ | refine endW.of (.inr rfl) rfl ?_); generalize e : zAc .. = r; simp (disch := omega) [hX] at e; subst e
 refine hk _ _ ?_ ?_; omega; exact ut_
theorem ixf_nil (w : B8) : Pu tree.getF 18 [.nils, .str w] (.int .i64 (-1)) := by
 intro h hf K hk
 obtain ⟨hu, hut, hX⟩ := fx4 hf
 refine Wc.mkG 18 c18 (by kernel_rfl) rfl ?_
 generalize e : zAa .. = r
 simp (disch := omega) [c18] at e
 subst e
 repeat (first | refine st_ rfl ?_ | ((first | refine rg_ ?_ | refine go_ ?_); refine gw_ (by simp (disch := omega) [hX]; rfl) ?_) | (refine W.loop ?_; try (generalize e : dropped .. = r; simp (disch := omega) [hX] at e; subst e; try dsimp only)) | ((first | (refine W.ret ?_; (try simp only [zAb, zA0, zA8]); refine endW.of (.inl rfl) rfl ?_) | refine endW.of (.inr rfl) rfl ?_); generalize e : zAc .. = r; simp (disch := omega) [hX] at e; subst e; (refine hk _ _ ?_ ?_; omega; exact ut_)))
def zCw (ns : List (B8)) : CVal := if ns.isEmpty then .nils else .imm .none 1 (ns.map .str)
theorem cn_F (ns : List (B8)) (w : B8) (hl : ns.length < 90000) : Pu tree.getF 51 [zCw ns, .str w] (.bool (ns.contains w)) := by
 intro h hf K hk
 obtain ⟨hu, hut, hX⟩ := fx4 hf
 have hjj : ∀ j : Nat, (0 : Int) ≤ (j : Int) := fun j => by omega
 unfold zCw
 match ns with
 | [] =>
  simp only [List.isEmpty_nil, if_true]
  simp only [List.contains_nil] at hk
  refine Wc.mkG 51 c51 (by kernel_rfl) rfl ?_
  generalize e : zAa .. = r
  simp (disch := omega) [c51] at e
  subst e
  repeat (first | refine st_ rfl ?_ | ((first | refine rg_ ?_ | refine go_ ?_); refine gw_ (by simp (disch := omega) [hX, hjj, c51]; rfl) ?_) | (refine W.loop ?_; try (generalize e : dropped .. = r; simp (disch := omega) [hX, hjj, c51] at e; subst e; try dsimp only)) | (refine pu_ (ixf_nil w) fun _ _ g _ => ⟨rfl, ?_⟩; try dsimp only at g) | ((first | (refine W.ret ?_; (try simp only [zAb, zA0, zA8]); refine endW.of (.inl rfl) rfl ?_) | refine endW.of (.inr rfl) rfl ?_); generalize e : zAc .. = r; simp (disch := omega) [hX, hjj, c51] at e; subst e; (refine hk _ _ ?_ ?_; omega; exact ut_)))
 | a :: r =>
  simp only [List.isEmpty_cons, if_false, Bool.false_eq_true]
  cases hb : (a :: r).contains w with
  | true =>
   rw [hb] at hk
   refine Wc.mkG 51 c51 (by kernel_rfl) rfl ?_
   generalize e : zAa .. = r
   simp (disch := omega) [c51] at e
   subst e
   repeat (first | refine st_ rfl ?_ | ((first | refine rg_ ?_ | refine go_ ?_); refine gw_ (by simp (disch := omega) [hX, hjj, c51]; rfl) ?_) | (refine W.loop ?_; try (generalize e : dropped .. = r; simp (disch := omega) [hX, hjj, c51] at e; subst e; try dsimp only)) | (refine ixf_yes (a :: r) w hl hb fun j _ _ g _ => ⟨rfl, ?_⟩; try dsimp only at g) | ((first | (refine W.ret ?_; (try simp only [zAb, zA0, zA8]); refine endW.of (.inl rfl) rfl ?_) | refine endW.of (.inr rfl) rfl ?_); generalize e : zAc .. = r; simp (disch := omega) [hX, hjj, c51] at e; subst e; (refine hk _ _ ?_ ?_; omega; exact ut_)))
  | false =>
   rw [hb] at hk
   refine Wc.mkG 51 c51 (by kernel_rfl) rfl ?_
   generalize e : zAa .. = r
   simp (disch := omega) [c51] at e
   subst e
   repeat (first | refine st_ rfl ?_ | ((first | refine rg_ ?_ | refine go_ ?_); refine gw_ (by simp (disch := omega) [hX, hjj, c51]; rfl) ?_) | (refine W.loop ?_; try (generalize e : dropped .. = r; simp (disch := omega) [hX, hjj, c51] at e; subst e; try dsimp only)) | (refine pu_ (ixf_no (a :: r) w hl hb) fun _ _ g _ => ⟨rfl, ?_⟩; try dsimp only at g) | ((first | (refine W.ret ?_; (try simp only [zAb, zA0, zA8]); refine endW.of (.inl rfl) rfl ?_) | refine endW.of (.inr rfl) rfl ?_); generalize e : zAc .. = r; simp (disch := omega) [hX, hjj, c51] at e; subst e; (refine hk _ _ ?_ ?_; omega; exact ut_)))
inductive PR where
 | ok (v : CVal) (r : B8)
 | err (e : Int)
def kidsV (vs : List CVal) : CVal := if vs.isEmpty then .nils else .imm .none 5 vs
def nNul : CVal := .agg [.int .i64 1, .int .i64 0, .str [], .nils, .nils]
def nBool (b : Int) : CVal := .agg [.int .i64 2, .int .i64 b, .str [], .nils, .nils]
def nInt (v : Int) : CVal := .agg [.int .i64 3, .int .i64 v, .str [], .nils, .nils]
def nStr (t : B8) : CVal := .agg [.int .i64 4, .int .i64 0, .str t, .nils, .nils]
def nList (vs : List CVal) : CVal := .agg [.int .i64 5, .int .i64 0, .str [], kidsV vs, .nils]
def nTab (ns : List (B8)) (vs : List CVal) : CVal := .agg [.int .i64 6, .int .i64 0, .str [], kidsV vs, zCw ns]
def nZero : CVal := .agg [.int .i64 0, .int .i64 0, .str [], .nils, .nils]
def isE : B8 → Bool
 | [] => false
 | c :: _ => decide (c = 46 ∨ c = 101 ∨ c = 69)
def listF (T : B8 → PR) : Nat → List CVal → B8 → PR
 | 0, _, _ => .err 2
 | m + 1, vs, s => match T s with
  | .err e => .err e
  | .ok v r =>
   if isF [44] (zA3 r) = true then listF T m (vs ++ [v]) ((zA3 r).drop 1)
   else if isF [93] (zA3 r) = true then .ok (nList (vs ++ [v])) ((zA3 r).drop 1)
   else .err 2
def tabF (T : B8 → PR) : Nat → List (B8) → List CVal → B8 → PR
 | 0, _, _, _ => .err 2
 | m + 1, ns, vs, s => match unqV (zA3 s) with
  | none => .err 2
  | some (t, k) =>
   if ns.contains t = true then .err 5
   else if isF [58] (zA3 ((zA3 s).drop k)) = true then (match T ((zA3 ((zA3 s).drop k)).drop 1) with
    | .err e => .err e
    | .ok v r =>
     if isF [44] (zA3 r) = true then tabF T m (ns ++ [t]) (vs ++ [v]) ((zA3 r).drop 1)
     else if isF [125] (zA3 r) = true then .ok (nTab (ns ++ [t]) (vs ++ [v])) ((zA3 r).drop 1)
     else .err 2)
   else .err 2
def zEi (T : B8 → PR) (s : B8) : PR := if isF [93] (zA3 s) = true then .ok (nList []) ((zA3 s).drop 1) else listF T (s.length + 1) [] (zA3 s)
def tabR (T : B8 → PR) (s : B8) : PR := if isF [125] (zA3 s) = true then .ok (nTab [] []) ((zA3 s).drop 1) else tabF T (s.length + 1) [] [] (zA3 s)
def zEu (s : B8) : PR :=
 if isF [110, 117, 108, 108] s = true then .ok nNul (s.drop 4)
 else if isF [116, 114, 117, 101] s = true then .ok (nBool 1) (s.drop 4)
 else if isF [102, 97, 108, 115, 101] s = true then .ok (nBool 0) (s.drop 5)
 else match numV s with
  | none => .err 2
  | some v => if isE (numR s) = true then .err 2 else .ok (nInt v) (numR s)
def zBy : Nat → Nat → B8 → PR
 | 0, _, _ => .err 2
 | m + 1, d, s =>
  if isF [34] (zA3 s) = true then (match unqV (zA3 s) with
   | none => .err 2
   | some (t, k) => .ok (nStr t) ((zA3 s).drop k))
  else if isF [91] (zA3 s) = true then (if 20 ≤ d then .err 3 else zEi (zBy m (d + 1)) ((zA3 s).drop 1))
  else if isF [123] (zA3 s) = true then (if 20 ≤ d then .err 3 else tabR (zBy m (d + 1)) ((zA3 s).drop 1))
  else zEu (zA3 s)
theorem isF_1 (c : UInt8) (s : B8) : isF [c] s = (match s with | [] => false | a :: _ => a == c) := by
 cases s with
 | nil => rfl
 | cons a r => simp [isF]
theorem isF_head {c : UInt8} {s : B8} (h : isF [c] s = true) : s = c :: s.drop 1 := by
 rw [isF_1] at h
 cases s with
 | nil => cases h
 | cons a r => simp at h; rw [h]; rfl
theorem isF_two {c c2 : UInt8} {s : B8} (h : isF [c] s = true) (hne : c ≠ c2) : isF [c2] s = false := by
 rw [isF_head h, isF_1]; simpa using hne
theorem zAy (s : B8) : zA3 (zA3 s) = zA3 s := by
 cases hs : zA3 s with
 | nil => rfl
 | cons c r =>
  have := head_dropP hs
  show List.dropWhile isSp (c :: r) = c :: r
  rw [List.dropWhile_cons]; simp [this]
theorem isE_skip {s : B8} (h : isE s = true) : zA3 s = s := by
 cases s with
 | nil => cases h
 | cons c r =>
  have : isSp c = false := by
   have h1 : c = 46 ∨ c = 101 ∨ c = 69 := by simpa [isE] using h
   rcases h1 with rfl | rfl | rfl <;> rfl
  show List.dropWhile isSp (c :: r) = c :: r
  rw [List.dropWhile_cons]; simp [this]
theorem isE_no {s : B8} (h : isE s = true) {c : UInt8} (hc : c ≠ 46 ∧ c ≠ 101 ∧ c ≠ 69) : isF [c] s = false := by
 cases s with
 | nil => cases h
 | cons a r =>
  have h1 : a = 46 ∨ a = 101 ∨ a = 69 := by simpa [isE] using h
  rw [isF_1]
  simp only [beq_eq_false_iff_ne]
  rintro rfl
  rcases h1 with e | e | e
  · exact hc.1 e
  · exact hc.2.1 e
  · exact hc.2.2 e
def LN (L : CVal) : Prop := L = .nils ∨ ∃ k es, L = .imm .none k es
theorem LN.z {L : CVal} (h : LN L) : L.strip = L ∧ L.whole = true ∧ L.isUndef = false ∧ L.cells.length = 1 ∧ L.flat = true := by
 rcases h with rfl | ⟨k, es, rfl⟩ <;> exact ⟨rfl, rfl, rfl, rfl, rfl⟩
def Node (v : CVal) : Prop := ∃ (k n : Int) (s : B8) (L N : CVal), v = .agg [.int .i64 k, .int .i64 n, .str s, L, N] ∧ LN L ∧ LN N
theorem kids_LN (vs : List CVal) : LN (kidsV vs) := by
 unfold kidsV; split
 · exact .inl rfl
 · exact .inr ⟨_, _, rfl⟩
theorem names_LN (ns : List (B8)) : LN (zCw ns) := by
 unfold zCw; split
 · exact .inl rfl
 · exact .inr ⟨_, _, rfl⟩
theorem Node.nZero : Node nZero := ⟨0, 0, [], .nils, .nils, rfl, .inl rfl, .inl rfl⟩
theorem Node.nNul : Node nNul := ⟨1, 0, [], .nils, .nils, rfl, .inl rfl, .inl rfl⟩
theorem Node.nBool (b : Int) : Node (nBool b) := ⟨2, b, [], .nils, .nils, rfl, .inl rfl, .inl rfl⟩
theorem Node.nInt (b : Int) : Node (nInt b) := ⟨3, b, [], .nils, .nils, rfl, .inl rfl, .inl rfl⟩
theorem Node.nStr (t : B8) : Node (nStr t) := ⟨4, 0, t, .nils, .nils, rfl, .inl rfl, .inl rfl⟩
theorem Node.nList (vs : List CVal) : Node (nList vs) := ⟨5, 0, [], _, _, rfl, kids_LN vs, .inl rfl⟩
theorem Node.nTab (ns : List (B8)) (vs : List CVal) : Node (nTab ns vs) := ⟨6, 0, [], _, _, rfl, kids_LN vs, names_LN ns⟩
def Out (x : PR) (s : B8) (v : CVal) (s' : B8) (e' : Int) : Prop :=
 (x = .ok v s' ∧ e' = 0 ∨ x = .err e' ∧ e' ≠ 0 ∨ x = .err 2 ∧ e' = 0 ∧ isE s' = true) ∧ Node v ∧ s'.length ≤ s.length
def PC (f : Nat) (F : B8 → PR) (d : Int) (M : Nat) : Prop :=
 ∀ (s : B8), s.length < M → ∀ (p dd : Nat) (h : CHeap) (K : KT), (∀ v s' e' n' ty, Out (F s) s v s' e' → h.next ≤ n' → zA9 ty n' → K v ⟨zA5 h.ents p (rdr s' e'), n', ty⟩) →
  Fit h → zA4 h.ents p = some (rdr s 0) → p < h.next → Wc tree.getF f [.ptr p dd 0, .int .i64 d] h K
end Go.Proofs.YtdanefpnfnippaaGreatDoor.IrJ
