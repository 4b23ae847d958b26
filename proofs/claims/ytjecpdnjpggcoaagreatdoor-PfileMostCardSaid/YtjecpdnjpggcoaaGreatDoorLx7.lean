/- What the functions of the law 'PfileMost' do: part 7 of 8. -/
import Derived.Test.YtjecpdnjpggcoaaGreatDoorLx6
namespace Go.Proofs.YtjecpdnjpggcoaaGreatDoor.IrM
open Go Go.CI
open Go.LexF hiding spacesB lettersB
set_option maxRecDepth 100000
set_option maxHeartbeats 4000000
set_option linter.unusedVariables false
set_option linter.unusedSimpArgs false
attribute [local irreducible] W Wo Wc WoR
attribute [local simp] goR regOut checkOne swapOne sameAt nthOp CVal.beq beqs CVal.block storesTo zAa zAe zBg evalE evalP evalL zAy nth setNth COp.cls COp.isStore CVal.isUndef CVal.whole CVal.cells CHeap.put CHeap.get CHeap.set wantedC zA2 zA0 partOf zB9 evalBin evalInt evalStr zB8 initVar descOf List.take List.drop CVal.lenOf CVal.isStr CVal.bare CVal.strip CVal.flat zAo zBm zB6 finishC cut fillCells setCells szOf szOf_desc elems bytesOf evalAppend fillElems mkElem setElem List.replicate sy_nbeq sy_neqF sy_leT sy_leF zAj dropped sy_wrap64 zAx zAc zBb sy_ibeqF sy_ieqF sy_ileT sy_ileF sy_iltT sy_iltF sy_ltT sy_ltF zAg zA8 eqVal extL extE keyIs findKV nthKV setKV CHeap.ty lookupN CHeap.note CHeap.tyOk dropAll freezeVal freezeAll freezeFlat cellsEq cellEq zAk zAq pMakeNoZero zBi pClone pIndex hasPair rowOf byteVals idxFrom hasFront idxSub
abbrev endsLoop : CCode := (.loop true (.seq (.seq (.region [.v 0, .n 0, .f 2 0, .l 0, .g (.bin .eql (.loc 0) (.const (.int .i64 0))), .m (.loc 0), ⟨.mv (.var 0), (some (0, true))⟩, ⟨.mv (.var 1), (some (1, true))⟩, ⟨.call false 21 [(.loc 1), (.const (.int .i64 4)), (.loc 0)], (some (2, true))⟩, ⟨.not (.loc 0), (some (3, true))⟩, .g (.pick (.loc 4) (.loc 0) (.const (.bool false)))] [(2, 10)] [] []) (.cond (.var 2) .skip (.exit 0))) (.block 1 (.region [.v 3, .g (.callv false (.loc 0) [])] [] [] []))))
abbrev cloM (rb d1 q dq db d2 : Nat) : CVal := .fn (.func 40) [] [.ptr rb d1 0, .ptr q dq 0, .ptr db d2 0]
abbrev cloE (rb d1 q dq : Nat) : CVal := .fn (.func 44) [] [.ptr rb d1 0, .ptr q dq 0]
abbrev eltF : CVal := .agg [.int .i64 0, .str [105, 110, 116, 51, 50], .str [], .str [97], .int .u64 ((1 : Nat) : Int), .int .i64 0, .int .i64 0]
abbrev eltV : CVal := .agg [.str [66], .int .i64 0]
theorem el_fld_n (p d q dq rb d1 db d2 : Nat) (hpq : p ≠ q) (hrp : rb ≠ p) (l : List Tok) (hll : l.length < 100000) (a : Nat) (to : Int) (nm : List UInt8) (Q : CExit → CSt → Prop) (v2 : CVal) (h : CHeap) (hf : Fit h) (hg : zA2 h.ents p = some (pr l (a : Int) 0 to)) (hp : p < h.next) (hqn : q < h.next) (hrb : zA2 h.ents rb = some (.cells [.ptr p d 0]))  (hq : zA2 h.ents q = some (.cells [.str nm, .nils, .nils, .nils, .nils, .nils, .nils])) (b0 b1 b2 b3 b4 : Nat) (hl0 : l[a + 0]? = some (1, [105, 110, 116, 51, 50], 0, b0)) (hl1 : l[a + 1]? = some (1, [97], 0, b1)) (hl2 : l[a + 2]? = some (4, [61], 0, b2)) (hl3 : l[a + 3]? = some (2, [], 1, b3)) (hl4 : l[a + 4]? = some (4, [59], 0, b4))
    (hk : ∀ z n' ty w, h.next ≤ z → z < n' → zAb ty n' → W tree.getF endsLoop ⟨[.ptr p d 0, .str [125], w, cloM rb d1 q dq db d2], ⟨(z, .tok 0) :: zA0 (zA0 h.ents p (pr l ((a : Int) + 1 + 1 + 1 + 1 + 1) 0 to)) q (.cells [.str nm, .imm (.own z 0) 7 [.agg [.int .i64 0, .str [105, 110, 116, 51, 50], .str [], .str [97], .int .u64 ((1 : Nat) : Int), .int .i64 0, .int .i64 0]], .nils, .nils, .nils, .nils, .nils]), n', ty⟩, []⟩ Q) : W tree.getF endsLoop ⟨[.ptr p d 0, .str [125], v2, cloM rb d1 q dq db d2], h, []⟩ Q := by
 obtain ⟨hu, hut, hX⟩ := fx4 hf
 have hZ := fxq hf hpq hg hq
 have ⟨hrb2, hrn⟩ := fxr hf hrp hrb
 refine W.loop ?_
 repeat (first | refine sq_ ?_ | refine bl_ ?_ | ((first | refine rg_ ?_ | refine go_ ?_); generalize e : goR _ _ _ _ _ _ _ _ = r; simp (disch := omega) [hX, hZ, zA5, zA6, zA4, hrb, hrb2, List.length_append, List.length_cons, List.length_nil, c40] at e; replace e : some _ = _ := e; subst e; (try dsimp only [goW])) | refine ct_ rfl ?_ | refine cf_ rfl ?_ | refine sk_ ?_ | refine ex_ ?_ | (refine zB7 hl0 a 0 to rfl fun _ _ g _ => ⟨rfl, ?_⟩; try dsimp only at g) | (refine zB7 hl0 a 0 to rfl fun _ _ g _ => ⟨rfl, ?_⟩; try dsimp only at g) | (refine p_is hl0 a 0 to false rfl fun _ _ g _ => ⟨rfl, ?_⟩; try dsimp only at g) | (refine p_word hl0 a 0 to fun _ _ g _ => ⟨rfl, ?_⟩; try dsimp only at g) | (refine pu_ (zBc 66 (by decide)) fun _ _ g _ => ⟨rfl, ?_⟩; try dsimp only at g) | (refine pu_ (p_failsF p d _) fun _ _ g _ => ⟨rfl, ?_⟩; try dsimp only at g) | (refine pu_ (p_mostF p d _ (by omega)) fun _ _ g _ => ⟨rfl, ?_⟩; try dsimp only at g) | (refine p_field hl0 hl1 hl2 hl3 hl4 0 to rfl rfl rfl (zBc 97 (by decide)) fun _ _ g _ => ⟨rfl, ?_⟩; try dsimp only at g) | (refine Wc.mkG 40 c40 (by kernel_rfl) rfl ?_; generalize e : zAa _ _ _ = r; simp (disch := omega) [hX, hZ, zA5, zA6, zA4, hrb, hrb2, List.length_append, List.length_cons, List.length_nil, c40] at e; subst e) | ((first | (refine W.ret ?_; (try simp only [zAl, zA3, zAf]); refine endW.of (.inl rfl) rfl ?_) | refine endW.of (.inr rfl) rfl ?_); generalize e : zAo _ _ _ = r; simp (disch := omega) [hX, hZ, zA5, zA6, zA4, hrb, hrb2, List.length_append, List.length_cons, List.length_nil, c40] at e; subst e; (try dsimp only [goW]); refine ⟨rfl, ?_⟩))
 show W tree.getF endsLoop (dropped true _ _) Q
 generalize e : dropped _ _ _ = r0
 simp (disch := omega) [hX, hZ, zA5, zA6, zA4, hrb, hrb2, List.length_append, List.length_cons, List.length_nil] at e
 subst e
 try dsimp only
 refine hk _ _ _ _ ?_ ?_ ?_
 · (try dsimp only); omega
 · (try dsimp only); omega
 · exact ut_
theorem el_fld_o (p d q dq rb d1 db d2 : Nat) (hpq : p ≠ q) (hrp : rb ≠ p) (l : List Tok) (hll : l.length < 100000) (a : Nat) (to : Int) (nm : List UInt8) (Q : CExit → CSt → Prop) (v2 : CVal) (h : CHeap) (hf : Fit h) (hg : zA2 h.ents p = some (pr l (a : Int) 0 to)) (hp : p < h.next) (hqn : q < h.next) (hrb : zA2 h.ents rb = some (.cells [.ptr p d 0])) (iq vq : Nat) (ts : List CVal) (hts : ts.length < 30) (hti : zA2 h.ents iq = some (.tok vq)) (hip : iq ≠ p) (hiq : iq ≠ q) (hin : iq < h.next) (hq : zA2 h.ents q = some (.cells [.str nm, .imm (.own iq vq) 7 ts, .nils, .nils, .nils, .nils, .nils])) (b0 b1 b2 b3 b4 : Nat) (hl0 : l[a + 0]? = some (1, [105, 110, 116, 51, 50], 0, b0)) (hl1 : l[a + 1]? = some (1, [97], 0, b1)) (hl2 : l[a + 2]? = some (4, [61], 0, b2)) (hl3 : l[a + 3]? = some (2, [], 1, b3)) (hl4 : l[a + 4]? = some (4, [59], 0, b4))
    (hk : ∀ n' ty w, h.next ≤ n' → zAb ty n' → W tree.getF endsLoop ⟨[.ptr p d 0, .str [125], w, cloM rb d1 q dq db d2], ⟨zA0 (zA0 (zA0 h.ents p (pr l ((a : Int) + 1 + 1 + 1 + 1 + 1) 0 to)) iq (.tok (vq + 1))) q (.cells [.str nm, .imm (.own iq (vq + 1)) 7 (ts ++ [.agg [.int .i64 0, .str [105, 110, 116, 51, 50], .str [], .str [97], .int .u64 ((1 : Nat) : Int), .int .i64 0, .int .i64 0]]), .nils, .nils, .nils, .nils, .nils]), n', ty⟩, []⟩ Q) : W tree.getF endsLoop ⟨[.ptr p d 0, .str [125], v2, cloM rb d1 q dq db d2], h, []⟩ Q := by
 obtain ⟨hu, hut, hX⟩ := fx4 hf
 have hZ := fxi hf hpq hg hq hti hip hiq
 have ⟨hrb2, hrn⟩ := fxr hf hrp hrb
 refine W.loop ?_
 repeat (first | refine sq_ ?_ | refine bl_ ?_ | ((first | refine rg_ ?_ | refine go_ ?_); generalize e : goR _ _ _ _ _ _ _ _ = r; simp (disch := omega) [hX, hZ, zA5, zA6, zA4, hrb, hrb2, zAd, List.length_append, List.length_cons, List.length_nil, c40] at e; replace e : some _ = _ := e; subst e; (try dsimp only [goW])) | refine ct_ rfl ?_ | refine cf_ rfl ?_ | refine sk_ ?_ | refine ex_ ?_ | (refine zB7 hl0 a 0 to rfl fun _ _ g _ => ⟨rfl, ?_⟩; try dsimp only at g) | (refine zB7 hl0 a 0 to rfl fun _ _ g _ => ⟨rfl, ?_⟩; try dsimp only at g) | (refine p_is hl0 a 0 to false rfl fun _ _ g _ => ⟨rfl, ?_⟩; try dsimp only at g) | (refine p_word hl0 a 0 to fun _ _ g _ => ⟨rfl, ?_⟩; try dsimp only at g) | (refine pu_ (zBc 66 (by decide)) fun _ _ g _ => ⟨rfl, ?_⟩; try dsimp only at g) | (refine pu_ (p_failsF p d _) fun _ _ g _ => ⟨rfl, ?_⟩; try dsimp only at g) | (refine pu_ (p_mostF p d _ (by omega)) fun _ _ g _ => ⟨rfl, ?_⟩; try dsimp only at g) | (refine p_field hl0 hl1 hl2 hl3 hl4 0 to rfl rfl rfl (zBc 97 (by decide)) fun _ _ g _ => ⟨rfl, ?_⟩; try dsimp only at g) | (refine Wc.mkG 40 c40 (by kernel_rfl) rfl ?_; generalize e : zAa _ _ _ = r; simp (disch := omega) [hX, hZ, zA5, zA6, zA4, hrb, hrb2, zAd, List.length_append, List.length_cons, List.length_nil, c40] at e; subst e) | ((first | (refine W.ret ?_; (try simp only [zAl, zA3, zAf]); refine endW.of (.inl rfl) rfl ?_) | refine endW.of (.inr rfl) rfl ?_); generalize e : zAo _ _ _ = r; simp (disch := omega) [hX, hZ, zA5, zA6, zA4, hrb, hrb2, zAd, List.length_append, List.length_cons, List.length_nil, c40] at e; subst e; (try dsimp only [goW]); refine ⟨rfl, ?_⟩))
 show W tree.getF endsLoop (dropped true _ _) Q
 generalize e : dropped _ _ _ = r0
 simp (disch := omega) [hX, hZ, zA5, zA6, zA4, hrb, hrb2, zAd, List.length_append, List.length_cons, List.length_nil] at e
 subst e
 try dsimp only
 refine hk _ _ _ ?_ ?_
 · (try dsimp only); omega
 · exact ut_
theorem el_fld_X (p d q dq rb d1 db d2 : Nat) (hpq : p ≠ q) (hrp : rb ≠ p) (l : List Tok) (hll : l.length < 100000) (a : Nat) (to : Int) (nm : List UInt8) (Q : CExit → CSt → Prop) (v2 : CVal) (h : CHeap) (hf : Fit h) (hg : zA2 h.ents p = some (pr l (a : Int) 0 to)) (hp : p < h.next) (hqn : q < h.next) (hrb : zA2 h.ents rb = some (.cells [.ptr p d 0])) (iq vq : Nat) (ts : List CVal) (hts : ts.length = 30) (hti : zA2 h.ents iq = some (.tok vq)) (hip : iq ≠ p) (hiq : iq ≠ q) (hin : iq < h.next) (hq : zA2 h.ents q = some (.cells [.str nm, .imm (.own iq vq) 7 ts, .nils, .nils, .nils, .nils, .nils])) (b0 b1 b2 b3 b4 : Nat) (hl0 : l[a + 0]? = some (1, [105, 110, 116, 51, 50], 0, b0)) (hl1 : l[a + 1]? = some (1, [97], 0, b1)) (hl2 : l[a + 2]? = some (4, [61], 0, b2)) (hl3 : l[a + 3]? = some (2, [], 1, b3)) (hl4 : l[a + 4]? = some (4, [59], 0, b4))
    (hk : ∀ n' ty w, h.next ≤ n' → zAb ty n' → Q (.exit 0) ⟨[.ptr p d 0, .str [125], w, cloM rb d1 q dq db d2], ⟨zA0 (zA0 (zA0 h.ents p (pr l ((a : Int) + 1 + 1 + 1 + 1 + 1) 3 (b0 : Int))) iq (.tok (vq + 1))) q (.cells [.str nm, .imm (.own iq (vq + 1)) 7 (ts ++ [.agg [.int .i64 0, .str [105, 110, 116, 51, 50], .str [], .str [97], .int .u64 ((1 : Nat) : Int), .int .i64 0, .int .i64 0]]), .nils, .nils, .nils, .nils, .nils]), n', ty⟩, []⟩) : W tree.getF endsLoop ⟨[.ptr p d 0, .str [125], v2, cloM rb d1 q dq db d2], h, []⟩ Q := by
 obtain ⟨hu, hut, hX⟩ := fx4 hf
 have hZ := fxi hf hpq hg hq hti hip hiq
 have ⟨hrb2, hrn⟩ := fxr hf hrp hrb
 refine W.loop ?_
 repeat (first | refine sq_ ?_ | refine bl_ ?_ | ((first | refine rg_ ?_ | refine go_ ?_); generalize e : goR _ _ _ _ _ _ _ _ = r; simp (disch := omega) [hX, hZ, zA5, zA6, zA4, hrb, hrb2, zAd, List.length_append, List.length_cons, List.length_nil, c40] at e; replace e : some _ = _ := e; subst e; (try dsimp only [goW])) | refine ct_ rfl ?_ | refine cf_ rfl ?_ | refine sk_ ?_ | refine ex_ ?_ | (refine W.loop ?_; try (generalize e : dropped _ _ _ = r; simp (disch := omega) [hX, hZ, zA5, zA6, zA4, hrb, hrb2, zAd, List.length_append, List.length_cons, List.length_nil, c40] at e; subst e; try dsimp only)) | (refine zB7 hl0 a 0 to rfl fun _ _ g _ => ⟨rfl, ?_⟩; try dsimp only at g) | (refine zB7 hl0 a 0 to rfl fun _ _ g _ => ⟨rfl, ?_⟩; try dsimp only at g) | (refine p_is hl0 a 0 to false rfl fun _ _ g _ => ⟨rfl, ?_⟩; try dsimp only at g) | (refine p_word hl0 a 0 to fun _ _ g _ => ⟨rfl, ?_⟩; try dsimp only at g) | (refine pu_ (zBc 66 (by decide)) fun _ _ g _ => ⟨rfl, ?_⟩; try dsimp only at g) | (refine pu_ (p_failsF p d _) fun _ _ g _ => ⟨rfl, ?_⟩; try dsimp only at g) | (refine p_mostT hl0 a to (by omega) fun _ _ g _ => ⟨rfl, ?_⟩; try dsimp only at g) | (refine p_field hl0 hl1 hl2 hl3 hl4 3 b0 rfl rfl rfl (zBc 97 (by decide)) fun _ _ g _ => ⟨rfl, ?_⟩; try dsimp only at g) | (simp only [thenW_exit, zAf, zAl, reduceIte]; (try simp only [zB1])) | (refine Wc.mkG 40 c40 (by kernel_rfl) rfl ?_; generalize e : zAa _ _ _ = r; simp (disch := omega) [hX, hZ, zA5, zA6, zA4, hrb, hrb2, zAd, List.length_append, List.length_cons, List.length_nil, c40] at e; subst e) | ((first | (refine W.ret ?_; (try simp only [zAl, zA3, zAf]); refine endW.of (.inl rfl) rfl ?_) | refine endW.of (.inr rfl) rfl ?_); generalize e : zAo _ _ _ = r; simp (disch := omega) [hX, hZ, zA5, zA6, zA4, hrb, hrb2, zAd, List.length_append, List.length_cons, List.length_nil, c40] at e; subst e; (try dsimp only [goW]); refine ⟨rfl, ?_⟩))
 all_goals ((try simp only [zAl, zA3, zAf]); refine hk _ _ _ ?_ ?_; (try dsimp only); omega; exact ut_)
theorem el_val_n (p d q dq rb d1 db d2 : Nat) (hpq : p ≠ q) (hrp : rb ≠ p) (l : List Tok) (hll : l.length < 100000) (a : Nat) (to : Int) (nm : List UInt8) (Q : CExit → CSt → Prop) (v2 : CVal) (h : CHeap) (hf : Fit h) (hg : zA2 h.ents p = some (pr l (a : Int) 0 to)) (hp : p < h.next) (hqn : q < h.next) (hrb : zA2 h.ents rb = some (.cells [.ptr p d 0]))  (hq : zA2 h.ents q = some (.cells [.str nm, .nils])) (b0 b1 b2 b3 : Nat) (hl0 : l[a + 0]? = some (1, [66], 0, b0)) (hl1 : l[a + 1]? = some (4, [61], 0, b1)) (hl2 : l[a + 2]? = some (2, [], 0, b2)) (hl3 : l[a + 3]? = some (4, [59], 0, b3))
    (hk : ∀ z n' ty w, h.next ≤ z → z < n' → zAb ty n' → W tree.getF endsLoop ⟨[.ptr p d 0, .str [125], w, cloE rb d1 q dq], ⟨(z, .tok 0) :: zA0 (zA0 h.ents p (pr l ((a : Int) + 1 + 1 + 1 + 1) 0 to)) q (.cells [.str nm, .imm (.own z 0) 2 [.agg [.str [66], .int .i64 0]]]), n', ty⟩, []⟩ Q) : W tree.getF endsLoop ⟨[.ptr p d 0, .str [125], v2, cloE rb d1 q dq], h, []⟩ Q := by
 obtain ⟨hu, hut, hX⟩ := fx4 hf
 have hZ := fxq hf hpq hg hq
 have ⟨hrb2, hrn⟩ := fxr hf hrp hrb
 refine W.loop ?_
 repeat (first | refine sq_ ?_ | refine bl_ ?_ | ((first | refine rg_ ?_ | refine go_ ?_); generalize e : goR _ _ _ _ _ _ _ _ = r; simp (disch := omega) [hX, hZ, zA5, zA6, zA4, hrb, hrb2, List.length_append, List.length_cons, List.length_nil, c44] at e; replace e : some _ = _ := e; subst e; (try dsimp only [goW])) | refine ct_ rfl ?_ | refine cf_ rfl ?_ | refine sk_ ?_ | refine ex_ ?_ | (refine zB7 hl0 a 0 to rfl fun _ _ g _ => ⟨rfl, ?_⟩; try dsimp only at g) | (refine zB7 hl0 a 0 to rfl fun _ _ g _ => ⟨rfl, ?_⟩; try dsimp only at g) | (refine p_word hl0 a 0 to fun _ _ g _ => ⟨rfl, ?_⟩; try dsimp only at g) | (refine pu_ (zBc 66 (by decide)) fun _ _ g _ => ⟨rfl, ?_⟩; try dsimp only at g) | (refine pu_ (p_failsF p d _) fun _ _ g _ => ⟨rfl, ?_⟩; try dsimp only at g) | (refine pu_ (p_mostF p d _ (by omega)) fun _ _ g _ => ⟨rfl, ?_⟩; try dsimp only at g) | (refine p_plain hl0 a 0 to (zBc 66 (by decide)) rfl fun _ _ g _ => ⟨rfl, ?_⟩; try dsimp only at g) | (refine p_sign hl1 (a + 1) 0 to rfl fun _ _ g _ => ⟨rfl, ?_⟩; try dsimp only at g) | (refine zB7 hl2 (a + 1 + 1) 0 to rfl fun _ _ g _ => ⟨rfl, ?_⟩; try dsimp only at g) | (refine p_word hl2 (a + 1 + 1) 0 to fun _ _ g _ => ⟨rfl, ?_⟩; try dsimp only at g) | (refine p_next hl2 (a + 1 + 1) 0 to fun _ _ g _ => ⟨rfl, ?_⟩; try dsimp only at g) | (refine p_sign hl3 (a + 1 + 1 + 1) 0 to rfl fun _ _ g _ => ⟨rfl, ?_⟩; try dsimp only at g) | (refine Wc.mkG 44 c44 (by kernel_rfl) rfl ?_; generalize e : zAa _ _ _ = r; simp (disch := omega) [hX, hZ, zA5, zA6, zA4, hrb, hrb2, List.length_append, List.length_cons, List.length_nil, c44] at e; subst e) | ((first | (refine W.ret ?_; (try simp only [zAl, zA3, zAf]); refine endW.of (.inl rfl) rfl ?_) | refine endW.of (.inr rfl) rfl ?_); generalize e : zAo _ _ _ = r; simp (disch := omega) [hX, hZ, zA5, zA6, zA4, hrb, hrb2, List.length_append, List.length_cons, List.length_nil, c44] at e; subst e; (try dsimp only [goW]); refine ⟨rfl, ?_⟩))
 show W tree.getF endsLoop (dropped true _ _) Q
 generalize e : dropped _ _ _ = r0
 simp (disch := omega) [hX, hZ, zA5, zA6, zA4, hrb, hrb2, List.length_append, List.length_cons, List.length_nil] at e
 subst e
 try dsimp only
 refine hk _ _ _ _ ?_ ?_ ?_
 · (try dsimp only); omega
 · (try dsimp only); omega
 · exact ut_
theorem el_val_o (p d q dq rb d1 db d2 : Nat) (hpq : p ≠ q) (hrp : rb ≠ p) (l : List Tok) (hll : l.length < 100000) (a : Nat) (to : Int) (nm : List UInt8) (Q : CExit → CSt → Prop) (v2 : CVal) (h : CHeap) (hf : Fit h) (hg : zA2 h.ents p = some (pr l (a : Int) 0 to)) (hp : p < h.next) (hqn : q < h.next) (hrb : zA2 h.ents rb = some (.cells [.ptr p d 0])) (iq vq : Nat) (ts : List CVal) (hts : ts.length < 30) (hti : zA2 h.ents iq = some (.tok vq)) (hip : iq ≠ p) (hiq : iq ≠ q) (hin : iq < h.next) (hq : zA2 h.ents q = some (.cells [.str nm, .imm (.own iq vq) 2 ts])) (b0 b1 b2 b3 : Nat) (hl0 : l[a + 0]? = some (1, [66], 0, b0)) (hl1 : l[a + 1]? = some (4, [61], 0, b1)) (hl2 : l[a + 2]? = some (2, [], 0, b2)) (hl3 : l[a + 3]? = some (4, [59], 0, b3))
    (hk : ∀ n' ty w, h.next ≤ n' → zAb ty n' → W tree.getF endsLoop ⟨[.ptr p d 0, .str [125], w, cloE rb d1 q dq], ⟨zA0 (zA0 (zA0 h.ents p (pr l ((a : Int) + 1 + 1 + 1 + 1) 0 to)) iq (.tok (vq + 1))) q (.cells [.str nm, .imm (.own iq (vq + 1)) 2 (ts ++ [.agg [.str [66], .int .i64 0]])]), n', ty⟩, []⟩ Q) : W tree.getF endsLoop ⟨[.ptr p d 0, .str [125], v2, cloE rb d1 q dq], h, []⟩ Q := by
 obtain ⟨hu, hut, hX⟩ := fx4 hf
 have hZ := fxi hf hpq hg hq hti hip hiq
 have ⟨hrb2, hrn⟩ := fxr hf hrp hrb
 refine W.loop ?_
 repeat (first | refine sq_ ?_ | refine bl_ ?_ | ((first | refine rg_ ?_ | refine go_ ?_); generalize e : goR _ _ _ _ _ _ _ _ = r; simp (disch := omega) [hX, hZ, zA5, zA6, zA4, hrb, hrb2, zAd, List.length_append, List.length_cons, List.length_nil, c44] at e; replace e : some _ = _ := e; subst e; (try dsimp only [goW])) | refine ct_ rfl ?_ | refine cf_ rfl ?_ | refine sk_ ?_ | refine ex_ ?_ | (refine zB7 hl0 a 0 to rfl fun _ _ g _ => ⟨rfl, ?_⟩; try dsimp only at g) | (refine zB7 hl0 a 0 to rfl fun _ _ g _ => ⟨rfl, ?_⟩; try dsimp only at g) | (refine p_word hl0 a 0 to fun _ _ g _ => ⟨rfl, ?_⟩; try dsimp only at g) | (refine pu_ (zBc 66 (by decide)) fun _ _ g _ => ⟨rfl, ?_⟩; try dsimp only at g) | (refine pu_ (p_failsF p d _) fun _ _ g _ => ⟨rfl, ?_⟩; try dsimp only at g) | (refine pu_ (p_mostF p d _ (by omega)) fun _ _ g _ => ⟨rfl, ?_⟩; try dsimp only at g) | (refine p_plain hl0 a 0 to (zBc 66 (by decide)) rfl fun _ _ g _ => ⟨rfl, ?_⟩; try dsimp only at g) | (refine p_sign hl1 (a + 1) 0 to rfl fun _ _ g _ => ⟨rfl, ?_⟩; try dsimp only at g) | (refine zB7 hl2 (a + 1 + 1) 0 to rfl fun _ _ g _ => ⟨rfl, ?_⟩; try dsimp only at g) | (refine p_word hl2 (a + 1 + 1) 0 to fun _ _ g _ => ⟨rfl, ?_⟩; try dsimp only at g) | (refine p_next hl2 (a + 1 + 1) 0 to fun _ _ g _ => ⟨rfl, ?_⟩; try dsimp only at g) | (refine p_sign hl3 (a + 1 + 1 + 1) 0 to rfl fun _ _ g _ => ⟨rfl, ?_⟩; try dsimp only at g) | (refine Wc.mkG 44 c44 (by kernel_rfl) rfl ?_; generalize e : zAa _ _ _ = r; simp (disch := omega) [hX, hZ, zA5, zA6, zA4, hrb, hrb2, zAd, List.length_append, List.length_cons, List.length_nil, c44] at e; subst e) | ((first | (refine W.ret ?_; (try simp only [zAl, zA3, zAf]); refine endW.of (.inl rfl) rfl ?_) | refine endW.of (.inr rfl) rfl ?_); generalize e : zAo _ _ _ = r; simp (disch := omega) [hX, hZ, zA5, zA6, zA4, hrb, hrb2, zAd, List.length_append, List.length_cons, List.length_nil, c44] at e; subst e; (try dsimp only [goW]); refine ⟨rfl, ?_⟩))
 show W tree.getF endsLoop (dropped true _ _) Q
 generalize e : dropped _ _ _ = r0
 simp (disch := omega) [hX, hZ, zA5, zA6, zA4, hrb, hrb2, zAd, List.length_append, List.length_cons, List.length_nil] at e
 subst e
 try dsimp only
 refine hk _ _ _ ?_ ?_
 · (try dsimp only); omega
 · exact ut_
theorem el_val_X (p d q dq rb d1 db d2 : Nat) (hpq : p ≠ q) (hrp : rb ≠ p) (l : List Tok) (hll : l.length < 100000) (a : Nat) (to : Int) (nm : List UInt8) (Q : CExit → CSt → Prop) (v2 : CVal) (h : CHeap) (hf : Fit h) (hg : zA2 h.ents p = some (pr l (a : Int) 0 to)) (hp : p < h.next) (hqn : q < h.next) (hrb : zA2 h.ents rb = some (.cells [.ptr p d 0])) (iq vq : Nat) (ts : List CVal) (hts : ts.length = 30) (hti : zA2 h.ents iq = some (.tok vq)) (hip : iq ≠ p) (hiq : iq ≠ q) (hin : iq < h.next) (hq : zA2 h.ents q = some (.cells [.str nm, .imm (.own iq vq) 2 ts])) (b0 b1 b2 b3 : Nat) (hl0 : l[a + 0]? = some (1, [66], 0, b0)) (hl1 : l[a + 1]? = some (4, [61], 0, b1)) (hl2 : l[a + 2]? = some (2, [], 0, b2)) (hl3 : l[a + 3]? = some (4, [59], 0, b3))
    (hk : ∀ n' ty w, h.next ≤ n' → zAb ty n' → Q (.exit 0) ⟨[.ptr p d 0, .str [125], w, cloE rb d1 q dq], ⟨zA0 (zA0 (zA0 h.ents p (pr l ((a : Int) + 1 + 1 + 1 + 1) 3 (b0 : Int))) iq (.tok (vq + 1))) q (.cells [.str nm, .imm (.own iq (vq + 1)) 2 (ts ++ [.agg [.str [66], .int .i64 0]])]), n', ty⟩, []⟩) : W tree.getF endsLoop ⟨[.ptr p d 0, .str [125], v2, cloE rb d1 q dq], h, []⟩ Q := by
 obtain ⟨hu, hut, hX⟩ := fx4 hf
 have hZ := fxi hf hpq hg hq hti hip hiq
 have ⟨hrb2, hrn⟩ := fxr hf hrp hrb
 refine W.loop ?_
 repeat (first | refine sq_ ?_ | refine bl_ ?_ | ((first | refine rg_ ?_ | refine go_ ?_); generalize e : goR _ _ _ _ _ _ _ _ = r; simp (disch := omega) [hX, hZ, zA5, zA6, zA4, hrb, hrb2, zAd, List.length_append, List.length_cons, List.length_nil, c44] at e; replace e : some _ = _ := e; subst e; (try dsimp only [goW])) | refine ct_ rfl ?_ | refine cf_ rfl ?_ | refine sk_ ?_ | refine ex_ ?_ | (refine W.loop ?_; try (generalize e : dropped _ _ _ = r; simp (disch := omega) [hX, hZ, zA5, zA6, zA4, hrb, hrb2, zAd, List.length_append, List.length_cons, List.length_nil, c44] at e; subst e; try dsimp only)) | (refine zB7 hl0 a 0 to rfl fun _ _ g _ => ⟨rfl, ?_⟩; try dsimp only at g) | (refine zB7 hl0 a 0 to rfl fun _ _ g _ => ⟨rfl, ?_⟩; try dsimp only at g) | (refine p_word hl0 a 0 to fun _ _ g _ => ⟨rfl, ?_⟩; try dsimp only at g) | (refine pu_ (zBc 66 (by decide)) fun _ _ g _ => ⟨rfl, ?_⟩; try dsimp only at g) | (refine pu_ (p_failsF p d _) fun _ _ g _ => ⟨rfl, ?_⟩; try dsimp only at g) | (refine p_mostT hl0 a to (by omega) fun _ _ g _ => ⟨rfl, ?_⟩; try dsimp only at g) | (refine p_plain hl0 a 3 b0 (zBc 66 (by decide)) rfl fun _ _ g _ => ⟨rfl, ?_⟩; try dsimp only at g) | (refine p_sign hl1 (a + 1) 3 b0 rfl fun _ _ g _ => ⟨rfl, ?_⟩; try dsimp only at g) | (refine zB7 hl2 (a + 1 + 1) 3 b0 rfl fun _ _ g _ => ⟨rfl, ?_⟩; try dsimp only at g) | (refine p_word hl2 (a + 1 + 1) 3 b0 fun _ _ g _ => ⟨rfl, ?_⟩; try dsimp only at g) | (refine p_next hl2 (a + 1 + 1) 3 b0 fun _ _ g _ => ⟨rfl, ?_⟩; try dsimp only at g) | (refine p_sign hl3 (a + 1 + 1 + 1) 3 b0 rfl fun _ _ g _ => ⟨rfl, ?_⟩; try dsimp only at g) | (simp only [thenW_exit, zAf, zAl, reduceIte]; (try simp only [zB1])) | (refine Wc.mkG 44 c44 (by kernel_rfl) rfl ?_; generalize e : zAa _ _ _ = r; simp (disch := omega) [hX, hZ, zA5, zA6, zA4, hrb, hrb2, zAd, List.length_append, List.length_cons, List.length_nil, c44] at e; subst e) | ((first | (refine W.ret ?_; (try simp only [zAl, zA3, zAf]); refine endW.of (.inl rfl) rfl ?_) | refine endW.of (.inr rfl) rfl ?_); generalize e : zAo _ _ _ = r; simp (disch := omega) [hX, hZ, zA5, zA6, zA4, hrb, hrb2, zAd, List.length_append, List.length_cons, List.length_nil, c44] at e; subst e; (try dsimp only [goW]); refine ⟨rfl, ?_⟩))
 all_goals ((try simp only [zAl, zA3, zAf]); refine hk _ _ _ ?_ ?_; (try dsimp only); omega; exact ut_)
theorem el_endM (p d q dq rb d1 db d2 : Nat) (l : List Tok) (hll : l.length < 100000) (a : Nat) (to : Int) (Q : CExit → CSt → Prop) (v2 : CVal) (h : CHeap) (hf : Fit h) (hg : zA2 h.ents p = some (pr l (a : Int) 0 to)) (hp : p < h.next) (b0 : Nat) (hl0 : l[a + 0]? = some (4, [125], 0, b0))
    (hk : ∀ n' ty w, h.next ≤ n' → zAb ty n' → Q (.exit 0) ⟨[.ptr p d 0, .str [125], w, cloM rb d1 q dq db d2], ⟨zA0 h.ents p (pr l ((a : Int) + 1) 0 to), n', ty⟩, []⟩) : W tree.getF endsLoop ⟨[.ptr p d 0, .str [125], v2, cloM rb d1 q dq db d2], h, []⟩ Q := by
 obtain ⟨hu, hut, hX⟩ := fx4 hf
 have hZ := fx6 hf hg
 refine W.loop ?_
 repeat (first | refine sq_ ?_ | refine bl_ ?_ | ((first | refine rg_ ?_ | refine go_ ?_); generalize e : goR _ _ _ _ _ _ _ _ = r; simp (disch := omega) [hX, hZ, zA5, zA6, zA4] at e; replace e : some _ = _ := e; subst e; (try dsimp only [goW])) | refine ct_ rfl ?_ | refine cf_ rfl ?_ | refine sk_ ?_ | refine ex_ ?_ | (refine p_takeT hl0 a 0 to rfl fun _ _ g _ => ⟨rfl, ?_⟩; try dsimp only at g))
 all_goals ((try simp only [zAl, zA3, zAf]); refine hk _ _ _ ?_ ?_; (try dsimp only); omega; exact ut_)
theorem el_endE (p d q dq rb d1 db d2 : Nat) (l : List Tok) (hll : l.length < 100000) (a : Nat) (to : Int) (Q : CExit → CSt → Prop) (v2 : CVal) (h : CHeap) (hf : Fit h) (hg : zA2 h.ents p = some (pr l (a : Int) 0 to)) (hp : p < h.next) (b0 : Nat) (hl0 : l[a + 0]? = some (4, [125], 0, b0))
    (hk : ∀ n' ty w, h.next ≤ n' → zAb ty n' → Q (.exit 0) ⟨[.ptr p d 0, .str [125], w, cloE rb d1 q dq], ⟨zA0 h.ents p (pr l ((a : Int) + 1) 0 to), n', ty⟩, []⟩) : W tree.getF endsLoop ⟨[.ptr p d 0, .str [125], v2, cloE rb d1 q dq], h, []⟩ Q := by
 obtain ⟨hu, hut, hX⟩ := fx4 hf
 have hZ := fx6 hf hg
 refine W.loop ?_
 repeat (first | refine sq_ ?_ | refine bl_ ?_ | ((first | refine rg_ ?_ | refine go_ ?_); generalize e : goR _ _ _ _ _ _ _ _ = r; simp (disch := omega) [hX, hZ, zA5, zA6, zA4] at e; replace e : some _ = _ := e; subst e; (try dsimp only [goW])) | refine ct_ rfl ?_ | refine cf_ rfl ?_ | refine sk_ ?_ | refine ex_ ?_ | (refine p_takeT hl0 a 0 to rfl fun _ _ g _ => ⟨rfl, ?_⟩; try dsimp only at g))
 all_goals ((try simp only [zAl, zA3, zAf]); refine hk _ _ _ ?_ ?_; (try dsimp only); omega; exact ut_)
abbrev tF3 : List Tk3 := [(1, [105, 110, 116, 51, 50], 0), (1, [97], 0), (4, [61], 0), (2, [], 1), (4, [59], 0)]
abbrev tV3 : List Tk3 := [(1, [66], 0), (4, [61], 0), (2, [], 0), (4, [59], 0)]
def Rz (R : CVal) : Prop := R = .nils ∨ ∃ k ts, R = .imm .none k ts
theorem el_flds {n0 m0 : Nat} {E0 RO : List (Nat × CObj)} (p d q dq rb d1 db d2 : Nat) (hpq : p ≠ q) (hrp : rb ≠ p) (hro : (rb, CObj.cells [.ptr p d 0]) ∈ RO) (l : List Tok) (hll : l.length < 100000) (to : Int) (nm : List UInt8) (Q : CExit → CSt → Prop) (v2 : CVal) (a r : Nat) (U : List Tk3) (h : CHeap)
    (S : S1 n0 m0 E0 RO p q l a 0 to (fun L => .cells [.str nm, L, .nils, .nils, .nils, .nils, .nils]) 7 .nils [] 0 h) (hsuf : (l.drop a).map strip = (List.replicate r tF3).flatten ++ (4, [125], 0) :: U)
    (hF : ∀ h' a' e' to' L ts i w, S1 n0 m0 E0 RO p q l a' e' to' (fun L => .cells [.str nm, L, .nils, .nils, .nils, .nils, .nils]) 7 L ts i h' → (r ≤ 30 ∧ e' = 0 ∧ ts = List.replicate r eltF ∧ a' = a + 5 * r + 1 ∧ to' = to ∨ 30 < r ∧ e' = 3 ∧ ts.length = 31) → h.next ≤ h'.next → Q (.exit 0) ⟨[.ptr p d 0, .str [125], w, cloM rb d1 q dq db d2], h', []⟩) :
    W tree.getF endsLoop ⟨[.ptr p d 0, .str [125], v2, cloM rb d1 q dq db d2], h, []⟩ Q := by
 refine rounds (n0 := n0) (m0 := m0) (E0 := E0) (RO := RO) (p := p) (q := q) (l := l) to (C := (fun L => .cells [.str nm, L, .nils, .nils, .nils, .nils, .nils])) (k := 7) eltF tF3 ((4, [125], 0) :: U) 5 1 (fun h => ∀ w, W tree.getF endsLoop ⟨[.ptr p d 0, .str [125], w, cloM rb d1 q dq db d2], h, []⟩ Q) (fun h => ∀ w, Q (.exit 0) ⟨[.ptr p d 0, .str [125], w, cloM rb d1 q dq db d2], h, []⟩) h.next ?_ ?_ ?_ ?_ a r (by omega) ?_ r a .nils 0 0 h S (by omega) (by omega) (by omega) hsuf (by omega) v2
 · intro a h ro hf hg hp hqn hq ⟨y, hT⟩ hk w
   obtain ⟨b0, hl0⟩ := zA9 (j := 0) hT rfl
   obtain ⟨b1, hl1⟩ := zA9 (j := 1) hT rfl
   obtain ⟨b2, hl2⟩ := zA9 (j := 2) hT rfl
   obtain ⟨b3, hl3⟩ := zA9 (j := 3) hT rfl
   obtain ⟨b4, hl4⟩ := zA9 (j := 4) hT rfl
   exact el_fld_n p d q dq rb d1 db d2 hpq hrp l hll a to nm Q w h hf hg hp hqn (ro _ hro).1 hq b0 b1 b2 b3 b4 hl0 hl1 hl2 hl3 hl4 fun z n' ty w' g1 g2 g3 => hk z n' ty _ (by (try dsimp only [List.length_cons, List.length_nil]); omega) g1 g2 g3 w'
 · intro a h i v ts ro hf hg hp hqn hts hti hip hiq hin hq ⟨y, hT⟩ hk w
   obtain ⟨b0, hl0⟩ := zA9 (j := 0) hT rfl
   obtain ⟨b1, hl1⟩ := zA9 (j := 1) hT rfl
   obtain ⟨b2, hl2⟩ := zA9 (j := 2) hT rfl
   obtain ⟨b3, hl3⟩ := zA9 (j := 3) hT rfl
   obtain ⟨b4, hl4⟩ := zA9 (j := 4) hT rfl
   exact el_fld_o p d q dq rb d1 db d2 hpq hrp l hll a to nm Q w h hf hg hp hqn (ro _ hro).1 i v ts hts hti hip hiq hin hq b0 b1 b2 b3 b4 hl0 hl1 hl2 hl3 hl4 fun n' ty w' g1 g3 => hk n' ty _ (by (try dsimp only [List.length_cons, List.length_nil]); omega) g1 g3 w'
 · intro a h i v ts ro hf hg hp hqn hts hti hip hiq hin hq ⟨y, hT⟩ hk w
   obtain ⟨b0, hl0⟩ := zA9 (j := 0) hT rfl
   obtain ⟨b1, hl1⟩ := zA9 (j := 1) hT rfl
   obtain ⟨b2, hl2⟩ := zA9 (j := 2) hT rfl
   obtain ⟨b3, hl3⟩ := zA9 (j := 3) hT rfl
   obtain ⟨b4, hl4⟩ := zA9 (j := 4) hT rfl
   exact el_fld_X p d q dq rb d1 db d2 hpq hrp l hll a to nm Q w h hf hg hp hqn (ro _ hro).1 i v ts hts hti hip hiq hin hq b0 b1 b2 b3 b4 hl0 hl1 hl2 hl3 hl4 fun n' ty w' g1 g3 => hk n' ty _ _ (by (try dsimp only [List.length_cons, List.length_nil]); omega) g1 g3 w'
 · intro a h ro hf hg hp hU hk w
   obtain ⟨b0, hl0⟩ := zA9 (j := 0) (x := [(4, [125], 0)]) (y := U) hU rfl
   exact el_endM p d q dq rb d1 db d2 l hll a to Q w h hf hg hp b0 hl0 fun n' ty w' g1 g3 => hk n' ty _ (by (try dsimp only [List.length_cons, List.length_nil]); omega) g1 g3 w'
 · intro h' a' e' to' L ts i S' hc g w
   exact hF h' a' e' to' L ts i w S' hc g
theorem el_vals {n0 m0 : Nat} {E0 RO : List (Nat × CObj)} (p d q dq rb d1 db d2 : Nat) (hpq : p ≠ q) (hrp : rb ≠ p) (hro : (rb, CObj.cells [.ptr p d 0]) ∈ RO) (l : List Tok) (hll : l.length < 100000) (to : Int) (nm : List UInt8) (Q : CExit → CSt → Prop) (v2 : CVal) (a r : Nat) (U : List Tk3) (h : CHeap)
    (S : S1 n0 m0 E0 RO p q l a 0 to (fun L => .cells [.str nm, L]) 2 .nils [] 0 h) (hsuf : (l.drop a).map strip = (List.replicate r tV3).flatten ++ (4, [125], 0) :: U)
    (hF : ∀ h' a' e' to' L ts i w, S1 n0 m0 E0 RO p q l a' e' to' (fun L => .cells [.str nm, L]) 2 L ts i h' → (r ≤ 30 ∧ e' = 0 ∧ ts = List.replicate r eltV ∧ a' = a + 4 * r + 1 ∧ to' = to ∨ 30 < r ∧ e' = 3 ∧ ts.length = 31) → h.next ≤ h'.next → Q (.exit 0) ⟨[.ptr p d 0, .str [125], w, cloE rb d1 q dq], h', []⟩) :
    W tree.getF endsLoop ⟨[.ptr p d 0, .str [125], v2, cloE rb d1 q dq], h, []⟩ Q := by
 refine rounds (n0 := n0) (m0 := m0) (E0 := E0) (RO := RO) (p := p) (q := q) (l := l) to (C := (fun L => .cells [.str nm, L])) (k := 2) eltV tV3 ((4, [125], 0) :: U) 4 1 (fun h => ∀ w, W tree.getF endsLoop ⟨[.ptr p d 0, .str [125], w, cloE rb d1 q dq], h, []⟩ Q) (fun h => ∀ w, Q (.exit 0) ⟨[.ptr p d 0, .str [125], w, cloE rb d1 q dq], h, []⟩) h.next ?_ ?_ ?_ ?_ a r (by omega) ?_ r a .nils 0 0 h S (by omega) (by omega) (by omega) hsuf (by omega) v2
 · intro a h ro hf hg hp hqn hq ⟨y, hT⟩ hk w
   obtain ⟨b0, hl0⟩ := zA9 (j := 0) hT rfl
   obtain ⟨b1, hl1⟩ := zA9 (j := 1) hT rfl
   obtain ⟨b2, hl2⟩ := zA9 (j := 2) hT rfl
   obtain ⟨b3, hl3⟩ := zA9 (j := 3) hT rfl
   exact el_val_n p d q dq rb d1 db d2 hpq hrp l hll a to nm Q w h hf hg hp hqn (ro _ hro).1 hq b0 b1 b2 b3 hl0 hl1 hl2 hl3 fun z n' ty w' g1 g2 g3 => hk z n' ty _ (by (try dsimp only [List.length_cons, List.length_nil]); omega) g1 g2 g3 w'
 · intro a h i v ts ro hf hg hp hqn hts hti hip hiq hin hq ⟨y, hT⟩ hk w
   obtain ⟨b0, hl0⟩ := zA9 (j := 0) hT rfl
   obtain ⟨b1, hl1⟩ := zA9 (j := 1) hT rfl
   obtain ⟨b2, hl2⟩ := zA9 (j := 2) hT rfl
   obtain ⟨b3, hl3⟩ := zA9 (j := 3) hT rfl
   exact el_val_o p d q dq rb d1 db d2 hpq hrp l hll a to nm Q w h hf hg hp hqn (ro _ hro).1 i v ts hts hti hip hiq hin hq b0 b1 b2 b3 hl0 hl1 hl2 hl3 fun n' ty w' g1 g3 => hk n' ty _ (by (try dsimp only [List.length_cons, List.length_nil]); omega) g1 g3 w'
 · intro a h i v ts ro hf hg hp hqn hts hti hip hiq hin hq ⟨y, hT⟩ hk w
   obtain ⟨b0, hl0⟩ := zA9 (j := 0) hT rfl
   obtain ⟨b1, hl1⟩ := zA9 (j := 1) hT rfl
   obtain ⟨b2, hl2⟩ := zA9 (j := 2) hT rfl
   obtain ⟨b3, hl3⟩ := zA9 (j := 3) hT rfl
   exact el_val_X p d q dq rb d1 db d2 hpq hrp l hll a to nm Q w h hf hg hp hqn (ro _ hro).1 i v ts hts hti hip hiq hin hq b0 b1 b2 b3 hl0 hl1 hl2 hl3 fun n' ty w' g1 g3 => hk n' ty _ _ (by (try dsimp only [List.length_cons, List.length_nil]); omega) g1 g3 w'
 · intro a h ro hf hg hp hU hk w
   obtain ⟨b0, hl0⟩ := zA9 (j := 0) (x := [(4, [125], 0)]) (y := U) hU rfl
   exact el_endE p d q dq rb d1 db d2 l hll a to Q w h hf hg hp b0 hl0 fun n' ty w' g1 g3 => hk n' ty _ (by (try dsimp only [List.length_cons, List.length_nil]); omega) g1 g3 w'
 · intro h' a' e' to' L ts i S' hc g w
   exact hF h' a' e' to' L ts i w S' hc g
theorem p_msgF_ok (l : List Tok) (hll : l.length < 100000) (a : Nat) (nm : List UInt8) (b0 b1 b2 : Nat) (hl0 : l[a + 0]? = some (1, [109, 101, 115, 115, 97, 103, 101], 0, b0)) (hl1 : l[a + 1]? = some (1, nm, 0, b1)) (hl2 : l[a + 2]? = some (4, [123], 0, b2)) (r : Nat) (hr : r ≤ 30) (U : List Tk3) (hsuf : (l.drop (a + 3)).map strip = (List.replicate r tF3).flatten ++ (4, [125], 0) :: U) (to : Int) (hP : PlainOk nm) (dp : Int) (hdp : 0 ≤ dp ∧ dp < 20) (h : CHeap) (p d : Nat) (hf : Fit h) (hg : zA2 h.ents p = some (pr l (a : Int) 0 to)) (hp : p < h.next) (K : CVal → CHeap → Prop)
    (hk : ∀ n2 ty R, Rz R → h.next ≤ n2 → zAb ty n2 → K (.agg [.str nm, R, .nils, .nils, .nils, .nils, .nils]) ⟨zA0 h.ents p (pr l ((a + 3 + 5 * r + 1 : Nat) : Int) 0 to), n2, ty⟩) : Wc tree.getF 28 [.ptr p d 0, .int .i64 dp] h K := by
 obtain ⟨hu, hut, hX⟩ := fx4 hf
 have hZ := fx6 hf hg
 refine Wc.mkG 28 c28 (by kernel_rfl) rfl ?_
 generalize e : zAa _ _ _ = r
 simp (disch := omega) [hX, hZ, c28] at e
 subst e
 repeat (first | refine sq_ ?_ | refine bl_ ?_ | ((first | refine rg_ ?_ | refine go_ ?_); generalize e : goR _ _ _ _ _ _ _ _ = r; simp (disch := omega) [hX, hZ, zA5, zA6, zA4, c39, c28] at e; replace e : some _ = _ := e; subst e; (try dsimp only [goW])) | refine ct_ rfl ?_ | refine cf_ rfl ?_ | refine sk_ ?_ | refine ex_ ?_ | (refine p_next hl0 a 0 to fun n0 ty0 hn0 hun0 => ⟨rfl, ?_⟩; try dsimp only at hn0) | (refine p_plain hl1 (a + 1) 0 to hP rfl fun _ _ g _ => ⟨rfl, ?_⟩; try dsimp only at g) | (refine p_sign hl2 (a + 1 + 1) 0 to rfl fun n2 ty2 hn2 hun2 => ⟨rfl, ?_⟩; try dsimp only at hn2) | (refine pu_ (p_failsF p d _) fun _ _ g _ => ⟨rfl, ?_⟩; try dsimp only at g) | (refine Wc.mkG 39 c39 (by kernel_rfl) rfl ?_; generalize e : zAa _ _ _ = r; simp (disch := omega) [hX, hZ, zA5, zA6, zA4, c39, c28] at e; subst e) | ((first | (refine W.ret ?_; (try simp only [zAl, zA3, zAf]); refine endW.of (.inl rfl) rfl ?_) | refine endW.of (.inr rfl) rfl ?_); generalize e : zAo _ _ _ = r; simp (disch := omega) [hX, hZ, zA5, zA6, zA4, c39, c28] at e; subst e; (try dsimp only [goW]); refine ⟨rfl, ?_⟩))
 refine el_flds (n0 := h.next) (m0 := n2) (E0 := h.ents) (RO := [(h.next, .cells [.ptr p d 0]), (h.next + 1 + 1, .cells [.str [], .nils, .nils, .nils, .nils, .nils, .nils])]) p d _ _ _ _ _ _ (by (try dsimp only); omega) (by (try dsimp only); omega) (by simp) l hll to nm _ _ (a + 3) r U _ ?_ hsuf ?_
 · exact {
    g := by exact ge2_
    gq := by simp [zA2]
    s := .inl ⟨rfl, rfl⟩
    ro := by
     intro y hy
     simp only [List.mem_cons, List.not_mem_nil, or_false] at hy
     rcases hy with rfl | rfl
     all_goals refine ⟨?_, ?_, ?_, ?_⟩
     all_goals first
      | (simp (disch := omega) [zA2, sy_nbeq, sy_neqF]; done)
      | ((try dsimp only); omega)
    d := by
     have e4 : ((a : Int) + 1 + 1 + 1) = ((a + 3 : Nat) : Int) := by omega
     rw [← e4]
     exact ⟨[_, _, _, _], rfl, fun x hx => (by simp at hx; rcases hx with rfl | rfl | rfl | rfl <;> (try dsimp only) <;> omega), hu.set⟩
    tt := TokTop.under (n := n2) un_ (Nat.le_refl _)
    np := hp
    nq := by (try dsimp only); omega
    nm := by (try dsimp only); omega
    mh := by (try dsimp only); omega
    qm := by (try dsimp only); omega
    lp := by (try dsimp only); omega
    lq := by (try dsimp only); omega
    pq := by (try dsimp only); omega
    f := by exact fit_ }
 · intro h' a' e' to' L ts i w S' hc g'
   try dsimp only at g'
   have hd := S'.d.drop
   have hq := S'.gq
   have hS := S'.s
   have htt : ∀ m', n2 ≤ m' → zAc h'.ents m' = h'.ents := fun m' hm => S'.tt.drop hm
   have hut' := S'.f.2
   have hqn := S'.nq
   have hsame := zAs hq
   have hrc := (S'.ro (h.next + 1 + 1, .cells [.str [], .nils, .nils, .nils, .nils, .nils, .nils]) (by simp)).1
   (try dsimp only at hrc)
   have hrc2 : ∀ x, zA2 (zA0 h'.ents (h.next + 1 + 1) x) (h.next + 1 + 1) = some x := fun x => zA7 hrc
   have hd2 : ∀ x, zAx (zA0 h'.ents (h.next + 1 + 1) x) h.next = _ := fun x => (S'.d.set (p := h.next + 1 + 1) (x := x) (by omega)).drop
   rcases hc with ⟨_, rfl, rfl, rfl, rfl⟩ | ⟨hc, _, _⟩
   rotate_left
   · exfalso; omega
   all_goals (rcases hS with ⟨rfl, eI'⟩ | ⟨vI, rfl, zI, tI', nI1, nI2, nI3, nI4⟩)
   all_goals
    repeat (first | refine sq_ ?_ | refine bl_ ?_ | ((first | refine rg_ ?_ | refine go_ ?_); generalize e : goR _ _ _ _ _ _ _ _ = r; simp (disch := omega) [hd, hq, zAs hq, htt, hrc, hrc2, hd2, c39, c28] at e; replace e : some _ = _ := e; subst e; (try dsimp only [goW])) | refine ct_ rfl ?_ | refine cf_ rfl ?_ | refine sk_ ?_ | refine ex_ ?_ | (refine Wc.mkG 39 c39 (by kernel_rfl) rfl ?_; generalize e : zAa _ _ _ = r; simp (disch := omega) [hd, hq, zAs hq, htt, hrc, hrc2, hd2, c39, c28] at e; subst e) | ((first | (refine W.ret ?_; (try simp only [zAl, zA3, zAf]); refine endW.of (.inl rfl) rfl ?_) | refine endW.of (.inr rfl) rfl ?_); generalize e : zAo _ _ _ = r; simp (disch := omega) [hd, hq, zAs hq, htt, hrc, hrc2, hd2, c39, c28] at e; subst e; (try dsimp only [goW]); (first | refine ⟨rfl, ?_⟩ | (refine hk _ _ _ ?_ ?_ ?_; (focus ((first | exact .inl rfl | exact .inr ⟨_, _, rfl⟩); done)); omega; exact ut_))))
theorem p_msgF_x (l : List Tok) (hll : l.length < 100000) (a : Nat) (nm : List UInt8) (b0 b1 b2 : Nat) (hl0 : l[a + 0]? = some (1, [109, 101, 115, 115, 97, 103, 101], 0, b0)) (hl1 : l[a + 1]? = some (1, nm, 0, b1)) (hl2 : l[a + 2]? = some (4, [123], 0, b2)) (r : Nat) (hr : 30 < r) (U : List Tk3) (hsuf : (l.drop (a + 3)).map strip = (List.replicate r tF3).flatten ++ (4, [125], 0) :: U) (to : Int) (hP : PlainOk nm) (dp : Int) (hdp : 0 ≤ dp ∧ dp < 20) (h : CHeap) (p d : Nat) (hf : Fit h) (hg : zA2 h.ents p = some (pr l (a : Int) 0 to)) (hp : p < h.next) (K : CVal → CHeap → Prop)
    (hk : ∀ n2 ty R (a' : Nat) to', Rz R → h.next ≤ n2 → zAb ty n2 → K (.agg [.str nm, R, .nils, .nils, .nils, .nils, .nils]) ⟨zA0 h.ents p (pr l (a' : Int) 3 to'), n2, ty⟩) : Wc tree.getF 28 [.ptr p d 0, .int .i64 dp] h K := by
 obtain ⟨hu, hut, hX⟩ := fx4 hf
 have hZ := fx6 hf hg
 refine Wc.mkG 28 c28 (by kernel_rfl) rfl ?_
 generalize e : zAa _ _ _ = r
 simp (disch := omega) [hX, hZ, c28] at e
 subst e
 repeat (first | refine sq_ ?_ | refine bl_ ?_ | ((first | refine rg_ ?_ | refine go_ ?_); generalize e : goR _ _ _ _ _ _ _ _ = r; simp (disch := omega) [hX, hZ, zA5, zA6, zA4, c39, c28] at e; replace e : some _ = _ := e; subst e; (try dsimp only [goW])) | refine ct_ rfl ?_ | refine cf_ rfl ?_ | refine sk_ ?_ | refine ex_ ?_ | (refine p_next hl0 a 0 to fun n0 ty0 hn0 hun0 => ⟨rfl, ?_⟩; try dsimp only at hn0) | (refine p_plain hl1 (a + 1) 0 to hP rfl fun _ _ g _ => ⟨rfl, ?_⟩; try dsimp only at g) | (refine p_sign hl2 (a + 1 + 1) 0 to rfl fun n2 ty2 hn2 hun2 => ⟨rfl, ?_⟩; try dsimp only at hn2) | (refine pu_ (p_failsF p d _) fun _ _ g _ => ⟨rfl, ?_⟩; try dsimp only at g) | (refine Wc.mkG 39 c39 (by kernel_rfl) rfl ?_; generalize e : zAa _ _ _ = r; simp (disch := omega) [hX, hZ, zA5, zA6, zA4, c39, c28] at e; subst e) | ((first | (refine W.ret ?_; (try simp only [zAl, zA3, zAf]); refine endW.of (.inl rfl) rfl ?_) | refine endW.of (.inr rfl) rfl ?_); generalize e : zAo _ _ _ = r; simp (disch := omega) [hX, hZ, zA5, zA6, zA4, c39, c28] at e; subst e; (try dsimp only [goW]); refine ⟨rfl, ?_⟩))
 refine el_flds (n0 := h.next) (m0 := n2) (E0 := h.ents) (RO := [(h.next, .cells [.ptr p d 0]), (h.next + 1 + 1, .cells [.str [], .nils, .nils, .nils, .nils, .nils, .nils])]) p d _ _ _ _ _ _ (by (try dsimp only); omega) (by (try dsimp only); omega) (by simp) l hll to nm _ _ (a + 3) r U _ ?_ hsuf ?_
 · exact {
    g := by exact ge2_
    gq := by simp [zA2]
    s := .inl ⟨rfl, rfl⟩
    ro := by
     intro y hy
     simp only [List.mem_cons, List.not_mem_nil, or_false] at hy
     rcases hy with rfl | rfl
     all_goals refine ⟨?_, ?_, ?_, ?_⟩
     all_goals first
      | (simp (disch := omega) [zA2, sy_nbeq, sy_neqF]; done)
      | ((try dsimp only); omega)
    d := by
     have e4 : ((a : Int) + 1 + 1 + 1) = ((a + 3 : Nat) : Int) := by omega
     rw [← e4]
     exact ⟨[_, _, _, _], rfl, fun x hx => (by simp at hx; rcases hx with rfl | rfl | rfl | rfl <;> (try dsimp only) <;> omega), hu.set⟩
    tt := TokTop.under (n := n2) un_ (Nat.le_refl _)
    np := hp
    nq := by (try dsimp only); omega
    nm := by (try dsimp only); omega
    mh := by (try dsimp only); omega
    qm := by (try dsimp only); omega
    lp := by (try dsimp only); omega
    lq := by (try dsimp only); omega
    pq := by (try dsimp only); omega
    f := by exact fit_ }
 · intro h' a' e' to' L ts i w S' hc g'
   try dsimp only at g'
   have hd := S'.d.drop
   have hq := S'.gq
   have hS := S'.s
   have htt : ∀ m', n2 ≤ m' → zAc h'.ents m' = h'.ents := fun m' hm => S'.tt.drop hm
   have hut' := S'.f.2
   have hqn := S'.nq
   have hsame := zAs hq
   have hrc := (S'.ro (h.next + 1 + 1, .cells [.str [], .nils, .nils, .nils, .nils, .nils, .nils]) (by simp)).1
   (try dsimp only at hrc)
   have hrc2 : ∀ x, zA2 (zA0 h'.ents (h.next + 1 + 1) x) (h.next + 1 + 1) = some x := fun x => zA7 hrc
   have hd2 : ∀ x, zAx (zA0 h'.ents (h.next + 1 + 1) x) h.next = _ := fun x => (S'.d.set (p := h.next + 1 + 1) (x := x) (by omega)).drop
   rcases hc with ⟨hc, _, _, _, _⟩ | ⟨_, rfl, hc⟩
   · exfalso; omega
   all_goals (rcases hS with ⟨rfl, eI'⟩ | ⟨vI, rfl, zI, tI', nI1, nI2, nI3, nI4⟩)
   all_goals
    repeat (first | refine sq_ ?_ | refine bl_ ?_ | ((first | refine rg_ ?_ | refine go_ ?_); generalize e : goR _ _ _ _ _ _ _ _ = r; simp (disch := omega) [hd, hq, zAs hq, htt, hrc, hrc2, hd2, c39, c28] at e; replace e : some _ = _ := e; subst e; (try dsimp only [goW])) | refine ct_ rfl ?_ | refine cf_ rfl ?_ | refine sk_ ?_ | refine ex_ ?_ | (refine Wc.mkG 39 c39 (by kernel_rfl) rfl ?_; generalize e : zAa _ _ _ = r; simp (disch := omega) [hd, hq, zAs hq, htt, hrc, hrc2, hd2, c39, c28] at e; subst e) | ((first | (refine W.ret ?_; (try simp only [zAl, zA3, zAf]); refine endW.of (.inl rfl) rfl ?_) | refine endW.of (.inr rfl) rfl ?_); generalize e : zAo _ _ _ = r; simp (disch := omega) [hd, hq, zAs hq, htt, hrc, hrc2, hd2, c39, c28] at e; subst e; (try dsimp only [goW]); (first | refine ⟨rfl, ?_⟩ | (refine hk _ _ _ _ _ ?_ ?_ ?_; (focus ((first | exact .inl rfl | exact .inr ⟨_, _, rfl⟩); done)); omega; exact ut_))))
theorem p_enuV_ok (l : List Tok) (hll : l.length < 100000) (a : Nat) (nm : List UInt8) (b0 b1 b2 : Nat) (hl0 : l[a + 0]? = some (1, [101, 110, 117, 109], 0, b0)) (hl1 : l[a + 1]? = some (1, nm, 0, b1)) (hl2 : l[a + 2]? = some (4, [123], 0, b2)) (r : Nat) (hr : r ≤ 30) (U : List Tk3) (hsuf : (l.drop (a + 3)).map strip = (List.replicate r tV3).flatten ++ (4, [125], 0) :: U) (to : Int) (hP : PlainOk nm)  (h : CHeap) (p d : Nat) (hf : Fit h) (hg : zA2 h.ents p = some (pr l (a : Int) 0 to)) (hp : p < h.next) (K : CVal → CHeap → Prop)
    (hk : ∀ n2 ty R, Rz R → h.next ≤ n2 → zAb ty n2 → K (.agg [.str nm, R]) ⟨zA0 h.ents p (pr l ((a + 3 + 4 * r + 1 : Nat) : Int) 0 to), n2, ty⟩) : Wc tree.getF 29 [.ptr p d 0] h K := by
 obtain ⟨hu, hut, hX⟩ := fx4 hf
 have hZ := fx6 hf hg
 refine Wc.mkG 29 c29 (by kernel_rfl) rfl ?_
 generalize e : zAa _ _ _ = r
 simp (disch := omega) [hX, hZ, c29] at e
 subst e
 repeat (first | refine sq_ ?_ | refine bl_ ?_ | ((first | refine rg_ ?_ | refine go_ ?_); generalize e : goR _ _ _ _ _ _ _ _ = r; simp (disch := omega) [hX, hZ, zA5, zA6, zA4, c39, c29] at e; replace e : some _ = _ := e; subst e; (try dsimp only [goW])) | refine ct_ rfl ?_ | refine cf_ rfl ?_ | refine sk_ ?_ | refine ex_ ?_ | (refine p_next hl0 a 0 to fun n0 ty0 hn0 hun0 => ⟨rfl, ?_⟩; try dsimp only at hn0) | (refine p_plain hl1 (a + 1) 0 to hP rfl fun _ _ g _ => ⟨rfl, ?_⟩; try dsimp only at g) | (refine p_sign hl2 (a + 1 + 1) 0 to rfl fun n2 ty2 hn2 hun2 => ⟨rfl, ?_⟩; try dsimp only at hn2) | (refine pu_ (p_failsF p d _) fun _ _ g _ => ⟨rfl, ?_⟩; try dsimp only at g) | (refine Wc.mkG 39 c39 (by kernel_rfl) rfl ?_; generalize e : zAa _ _ _ = r; simp (disch := omega) [hX, hZ, zA5, zA6, zA4, c39, c29] at e; subst e) | ((first | (refine W.ret ?_; (try simp only [zAl, zA3, zAf]); refine endW.of (.inl rfl) rfl ?_) | refine endW.of (.inr rfl) rfl ?_); generalize e : zAo _ _ _ = r; simp (disch := omega) [hX, hZ, zA5, zA6, zA4, c39, c29] at e; subst e; (try dsimp only [goW]); refine ⟨rfl, ?_⟩))
 refine el_vals (n0 := h.next) (m0 := n2) (E0 := h.ents) (RO := [(h.next, .cells [.ptr p d 0]), (h.next + 1, .cells [.str [], .nils])]) p d _ _ _ _ 0 0 (by (try dsimp only); omega) (by (try dsimp only); omega) (by simp) l hll to nm _ _ (a + 3) r U _ ?_ hsuf ?_
 · exact {
    g := by exact ge2_
    gq := by simp [zA2]
    s := .inl ⟨rfl, rfl⟩
    ro := by
     intro y hy
     simp only [List.mem_cons, List.not_mem_nil, or_false] at hy
     rcases hy with rfl | rfl
     all_goals refine ⟨?_, ?_, ?_, ?_⟩
     all_goals first
      | (simp (disch := omega) [zA2, sy_nbeq, sy_neqF]; done)
      | ((try dsimp only); omega)
    d := by
     have e4 : ((a : Int) + 1 + 1 + 1) = ((a + 3 : Nat) : Int) := by omega
     rw [← e4]
     exact ⟨[_, _, _], rfl, fun x hx => (by simp at hx; rcases hx with rfl | rfl | rfl <;> (try dsimp only) <;> omega), hu.set⟩
    tt := TokTop.under (n := n2) un_ (Nat.le_refl _)
    np := hp
    nq := by (try dsimp only); omega
    nm := by (try dsimp only); omega
    mh := by (try dsimp only); omega
    qm := by (try dsimp only); omega
    lp := by (try dsimp only); omega
    lq := by (try dsimp only); omega
    pq := by (try dsimp only); omega
    f := by exact fit_ }
 · intro h' a' e' to' L ts i w S' hc g'
   try dsimp only at g'
   have hd := S'.d.drop
   have hq := S'.gq
   have hS := S'.s
   have htt : ∀ m', n2 ≤ m' → zAc h'.ents m' = h'.ents := fun m' hm => S'.tt.drop hm
   have hut' := S'.f.2
   have hqn := S'.nq
   have hsame := zAs hq
   have hrc := (S'.ro (h.next + 1, .cells [.str [], .nils]) (by simp)).1
   (try dsimp only at hrc)
   have hrc2 : ∀ x, zA2 (zA0 h'.ents (h.next + 1) x) (h.next + 1) = some x := fun x => zA7 hrc
   have hd2 : ∀ x, zAx (zA0 h'.ents (h.next + 1) x) h.next = _ := fun x => (S'.d.set (p := h.next + 1) (x := x) (by omega)).drop
   rcases hc with ⟨_, rfl, rfl, rfl, rfl⟩ | ⟨hc, _, _⟩
   rotate_left
   · exfalso; omega
   all_goals (rcases hS with ⟨rfl, eI'⟩ | ⟨vI, rfl, zI, tI', nI1, nI2, nI3, nI4⟩)
   all_goals
    repeat (first | refine sq_ ?_ | refine bl_ ?_ | ((first | refine rg_ ?_ | refine go_ ?_); generalize e : goR _ _ _ _ _ _ _ _ = r; simp (disch := omega) [hd, hq, zAs hq, htt, hrc, hrc2, hd2, c39, c29] at e; replace e : some _ = _ := e; subst e; (try dsimp only [goW])) | refine ct_ rfl ?_ | refine cf_ rfl ?_ | refine sk_ ?_ | refine ex_ ?_ | (refine Wc.mkG 39 c39 (by kernel_rfl) rfl ?_; generalize e : zAa _ _ _ = r; simp (disch := omega) [hd, hq, zAs hq, htt, hrc, hrc2, hd2, c39, c29] at e; subst e) | ((first | (refine W.ret ?_; (try simp only [zAl, zA3, zAf]); refine endW.of (.inl rfl) rfl ?_) | refine endW.of (.inr rfl) rfl ?_); generalize e : zAo _ _ _ = r; simp (disch := omega) [hd, hq, zAs hq, htt, hrc, hrc2, hd2, c39, c29] at e; subst e; (try dsimp only [goW]); (first | refine ⟨rfl, ?_⟩ | (refine hk _ _ _ ?_ ?_ ?_; (focus ((first | exact .inl rfl | exact .inr ⟨_, _, rfl⟩); done)); omega; exact ut_))))
theorem p_enuV_x (l : List Tok) (hll : l.length < 100000) (a : Nat) (nm : List UInt8) (b0 b1 b2 : Nat) (hl0 : l[a + 0]? = some (1, [101, 110, 117, 109], 0, b0)) (hl1 : l[a + 1]? = some (1, nm, 0, b1)) (hl2 : l[a + 2]? = some (4, [123], 0, b2)) (r : Nat) (hr : 30 < r) (U : List Tk3) (hsuf : (l.drop (a + 3)).map strip = (List.replicate r tV3).flatten ++ (4, [125], 0) :: U) (to : Int) (hP : PlainOk nm)  (h : CHeap) (p d : Nat) (hf : Fit h) (hg : zA2 h.ents p = some (pr l (a : Int) 0 to)) (hp : p < h.next) (K : CVal → CHeap → Prop)
    (hk : ∀ n2 ty R (a' : Nat) to', Rz R → h.next ≤ n2 → zAb ty n2 → K (.agg [.str nm, R]) ⟨zA0 h.ents p (pr l (a' : Int) 3 to'), n2, ty⟩) : Wc tree.getF 29 [.ptr p d 0] h K := by
 obtain ⟨hu, hut, hX⟩ := fx4 hf
 have hZ := fx6 hf hg
 refine Wc.mkG 29 c29 (by kernel_rfl) rfl ?_
 generalize e : zAa _ _ _ = r
 simp (disch := omega) [hX, hZ, c29] at e
 subst e
 repeat (first | refine sq_ ?_ | refine bl_ ?_ | ((first | refine rg_ ?_ | refine go_ ?_); generalize e : goR _ _ _ _ _ _ _ _ = r; simp (disch := omega) [hX, hZ, zA5, zA6, zA4, c39, c29] at e; replace e : some _ = _ := e; subst e; (try dsimp only [goW])) | refine ct_ rfl ?_ | refine cf_ rfl ?_ | refine sk_ ?_ | refine ex_ ?_ | (refine p_next hl0 a 0 to fun n0 ty0 hn0 hun0 => ⟨rfl, ?_⟩; try dsimp only at hn0) | (refine p_plain hl1 (a + 1) 0 to hP rfl fun _ _ g _ => ⟨rfl, ?_⟩; try dsimp only at g) | (refine p_sign hl2 (a + 1 + 1) 0 to rfl fun n2 ty2 hn2 hun2 => ⟨rfl, ?_⟩; try dsimp only at hn2) | (refine pu_ (p_failsF p d _) fun _ _ g _ => ⟨rfl, ?_⟩; try dsimp only at g) | (refine Wc.mkG 39 c39 (by kernel_rfl) rfl ?_; generalize e : zAa _ _ _ = r; simp (disch := omega) [hX, hZ, zA5, zA6, zA4, c39, c29] at e; subst e) | ((first | (refine W.ret ?_; (try simp only [zAl, zA3, zAf]); refine endW.of (.inl rfl) rfl ?_) | refine endW.of (.inr rfl) rfl ?_); generalize e : zAo _ _ _ = r; simp (disch := omega) [hX, hZ, zA5, zA6, zA4, c39, c29] at e; subst e; (try dsimp only [goW]); refine ⟨rfl, ?_⟩))
 refine el_vals (n0 := h.next) (m0 := n2) (E0 := h.ents) (RO := [(h.next, .cells [.ptr p d 0]), (h.next + 1, .cells [.str [], .nils])]) p d _ _ _ _ 0 0 (by (try dsimp only); omega) (by (try dsimp only); omega) (by simp) l hll to nm _ _ (a + 3) r U _ ?_ hsuf ?_
 · exact {
    g := by exact ge2_
    gq := by simp [zA2]
    s := .inl ⟨rfl, rfl⟩
    ro := by
     intro y hy
     simp only [List.mem_cons, List.not_mem_nil, or_false] at hy
     rcases hy with rfl | rfl
     all_goals refine ⟨?_, ?_, ?_, ?_⟩
     all_goals first
      | (simp (disch := omega) [zA2, sy_nbeq, sy_neqF]; done)
      | ((try dsimp only); omega)
    d := by
     have e4 : ((a : Int) + 1 + 1 + 1) = ((a + 3 : Nat) : Int) := by omega
     rw [← e4]
     exact ⟨[_, _, _], rfl, fun x hx => (by simp at hx; rcases hx with rfl | rfl | rfl <;> (try dsimp only) <;> omega), hu.set⟩
    tt := TokTop.under (n := n2) un_ (Nat.le_refl _)
    np := hp
    nq := by (try dsimp only); omega
    nm := by (try dsimp only); omega
    mh := by (try dsimp only); omega
    qm := by (try dsimp only); omega
    lp := by (try dsimp only); omega
    lq := by (try dsimp only); omega
    pq := by (try dsimp only); omega
    f := by exact fit_ }
 · intro h' a' e' to' L ts i w S' hc g'
   try dsimp only at g'
   have hd := S'.d.drop
   have hq := S'.gq
   have hS := S'.s
   have htt : ∀ m', n2 ≤ m' → zAc h'.ents m' = h'.ents := fun m' hm => S'.tt.drop hm
   have hut' := S'.f.2
   have hqn := S'.nq
   have hsame := zAs hq
   have hrc := (S'.ro (h.next + 1, .cells [.str [], .nils]) (by simp)).1
   (try dsimp only at hrc)
   have hrc2 : ∀ x, zA2 (zA0 h'.ents (h.next + 1) x) (h.next + 1) = some x := fun x => zA7 hrc
   have hd2 : ∀ x, zAx (zA0 h'.ents (h.next + 1) x) h.next = _ := fun x => (S'.d.set (p := h.next + 1) (x := x) (by omega)).drop
   rcases hc with ⟨hc, _, _, _, _⟩ | ⟨_, rfl, hc⟩
   · exfalso; omega
   all_goals (rcases hS with ⟨rfl, eI'⟩ | ⟨vI, rfl, zI, tI', nI1, nI2, nI3, nI4⟩)
   all_goals
    repeat (first | refine sq_ ?_ | refine bl_ ?_ | ((first | refine rg_ ?_ | refine go_ ?_); generalize e : goR _ _ _ _ _ _ _ _ = r; simp (disch := omega) [hd, hq, zAs hq, htt, hrc, hrc2, hd2, c39, c29] at e; replace e : some _ = _ := e; subst e; (try dsimp only [goW])) | refine ct_ rfl ?_ | refine cf_ rfl ?_ | refine sk_ ?_ | refine ex_ ?_ | (refine Wc.mkG 39 c39 (by kernel_rfl) rfl ?_; generalize e : zAa _ _ _ = r; simp (disch := omega) [hd, hq, zAs hq, htt, hrc, hrc2, hd2, c39, c29] at e; subst e) | ((first | (refine W.ret ?_; (try simp only [zAl, zA3, zAf]); refine endW.of (.inl rfl) rfl ?_) | refine endW.of (.inr rfl) rfl ?_); generalize e : zAo _ _ _ = r; simp (disch := omega) [hd, hq, zAs hq, htt, hrc, hrc2, hd2, c39, c29] at e; subst e; (try dsimp only [goW]); (first | refine ⟨rfl, ?_⟩ | (refine hk _ _ _ _ _ ?_ ?_ ?_; (focus ((first | exact .inl rfl | exact .inr ⟨_, _, rfl⟩); done)); omega; exact ut_))))
def Rn (R : CVal) : Prop := R = .nils ∨ ∃ i, R = .ref i 0 7 0 1
abbrev MCok (p d : Nat) (l : List Tok) (a : Nat) (dp : Int) (a9 : Nat) : Prop := ∀ (to : Int) (h : CHeap), Fit h → zA2 h.ents p = some (pr l (a : Int) 0 to) → p < h.next → ∀ (K : CVal → CHeap → Prop), (∀ n2 ty nm R1 R2 R3, Rz R1 → Rz R2 → Rn R3 → h.next ≤ n2 → zAb ty n2 → K (.agg [.str nm, R1, R2, R3, .nils, .nils, .nils]) ⟨zA0 h.ents p (pr l (a9 : Int) 0 to), n2, ty⟩) → Wc tree.getF 28 [.ptr p d 0, .int .i64 dp] h K
abbrev MCx (p d : Nat) (l : List Tok) (a : Nat) (dp : Int) : Prop := ∀ (to : Int) (h : CHeap), Fit h → zA2 h.ents p = some (pr l (a : Int) 0 to) → p < h.next → ∀ (K : CVal → CHeap → Prop), (∀ n2 ty nm R1 R2 R3 (a' : Nat) (to' : Int), Rz R1 → Rz R2 → Rn R3 → h.next ≤ n2 → zAb ty n2 → K (.agg [.str nm, R1, R2, R3, .nils, .nils, .nils]) ⟨zA0 h.ents p (pr l (a' : Int) 3 to'), n2, ty⟩) → Wc tree.getF 28 [.ptr p d 0, .int .i64 dp] h K
abbrev ECok (p d : Nat) (l : List Tok) (a : Nat) (a9 : Nat) : Prop := ∀ (to : Int) (h : CHeap), Fit h → zA2 h.ents p = some (pr l (a : Int) 0 to) → p < h.next → ∀ (K : CVal → CHeap → Prop), (∀ n2 ty nm R1, Rz R1 → h.next ≤ n2 → zAb ty n2 → K (.agg [.str nm, R1]) ⟨zA0 h.ents p (pr l (a9 : Int) 0 to), n2, ty⟩) → Wc tree.getF 29 [.ptr p d 0] h K
abbrev ECx (p d : Nat) (l : List Tok) (a : Nat) : Prop := ∀ (to : Int) (h : CHeap), Fit h → zA2 h.ents p = some (pr l (a : Int) 0 to) → p < h.next → ∀ (K : CVal → CHeap → Prop), (∀ n2 ty nm R1 (a' : Nat) (to' : Int), Rz R1 → h.next ≤ n2 → zAb ty n2 → K (.agg [.str nm, R1]) ⟨zA0 h.ents p (pr l (a' : Int) 3 to'), n2, ty⟩) → Wc tree.getF 29 [.ptr p d 0] h K
theorem fl_mg_ok (p d q dq : Nat) (hpq : p ≠ q) (l : List Tok) (hll : l.length < 100000) (a : Nat) (to : Int) (LI LE : CVal) (Q : CExit → CSt → Prop) (v1 v2 v3 v5 v6 v7 : CVal) (h : CHeap) (hf : Fit h) (hg : zA2 h.ents p = some (pr l (a : Int) 0 to)) (hp : p < h.next) (hqn : q < h.next) (hq : zA2 h.ents q = some (.cells [.str [], LI, .nils, LE])) (b0 : Nat) (hl0 : l[a + 0]? = some (1, [109, 101, 115, 115, 97, 103, 101], 0, b0)) (a9 : Nat) (hM : MCok p d l a 0 a9)
    (hk : ∀ z n' ty w1 w2 w3 w5 w6 w7 x, h.next ≤ z → z < n' → zAb ty n' → W tree.getF zB3 ⟨[.ptr p d 0, w1, w2, w3, .ptr q dq 0, w5, w6, w7], ⟨(z, .tok 0) :: zA0 (zA0 h.ents p (pr l (a9 : Int) 0 to)) q (.cells [.str [], LI, .imm (.own z 0) 7 [x], LE]), n', ty⟩, []⟩ Q) : W tree.getF zB3 ⟨[.ptr p d 0, v1, v2, v3, .ptr q dq 0, v5, v6, v7], h, []⟩ Q := by
 obtain ⟨hu, hut, hX⟩ := fx4 hf
 have hZ := fxq hf hpq hg hq
 refine W.loop ?_
 repeat' (first | refine sq_ ?_ | refine bl_ ?_ | ((first | refine rg_ ?_ | refine go_ ?_); generalize e : goR _ _ _ _ _ _ _ _ = r; simp (disch := omega) [hX, hZ, zA5, zA6, zA4, List.length_append, List.length_cons, List.length_nil] at e; replace e : some _ = _ := e; subst e; (try dsimp only [goW])) | refine ct_ rfl ?_ | refine cf_ rfl ?_ | refine sk_ ?_ | refine ex_ ?_ | (refine p_word hl0 a 0 to fun _ _ g _ => ⟨rfl, ?_⟩; try dsimp only at g) | (refine zB7 hl0 a 0 to rfl fun _ _ g _ => ⟨rfl, ?_⟩; try dsimp only at g) | (refine p_is hl0 a 0 to false rfl fun _ _ g _ => ⟨rfl, ?_⟩; try dsimp only at g) | (refine p_is hl0 a 0 to true rfl fun _ _ g _ => ⟨rfl, ?_⟩; try dsimp only at g) | (refine pu_ (p_mostF p d _ (by omega)) fun _ _ g _ => ⟨rfl, ?_⟩; try dsimp only at g) | (refine hM to _ ?_ ?_ ?_ _ fun n40 ty40 nm R1 R2 R3 hR1 hR2 hR3 hn40 hun40 => ⟨rfl, ?_⟩; exact ft_; exact ge2_; exact lt_; (try dsimp only at hn40); (rcases hR1 with rfl | ⟨k1, t1, rfl⟩ <;> rcases hR2 with rfl | ⟨k2, t2, rfl⟩ <;> rcases hR3 with rfl | ⟨k3, rfl⟩)))
 all_goals
  show W tree.getF zB3 (dropped true _ _) Q
  generalize e : dropped _ _ _ = r0
  simp (disch := omega) [hX, hZ, zA5, zA6, zA4, List.length_append, List.length_cons, List.length_nil] at e
  subst e
  try dsimp only
  refine hk _ _ _ _ _ _ _ _ _ _ ?_ ?_ ?_
  · (try dsimp only); omega
  · (try dsimp only); omega
  · exact ut_
theorem fl_mg_x (p d q dq : Nat) (hpq : p ≠ q) (l : List Tok) (hll : l.length < 100000) (a : Nat) (to : Int) (LI LE : CVal) (Q : CExit → CSt → Prop) (v1 v2 v3 v5 v6 v7 : CVal) (h : CHeap) (hf : Fit h) (hg : zA2 h.ents p = some (pr l (a : Int) 0 to)) (hp : p < h.next) (hqn : q < h.next) (hq : zA2 h.ents q = some (.cells [.str [], LI, .nils, LE])) (b0 : Nat) (hl0 : l[a + 0]? = some (1, [109, 101, 115, 115, 97, 103, 101], 0, b0)) (hM : MCx p d l a 0)
    (hk : ∀ z n' ty w1 w2 w3 w5 w6 w7 x (a' : Nat) (to' : Int), h.next ≤ z → z < n' → zAb ty n' → Q (.exit 0) ⟨[.ptr p d 0, w1, w2, w3, .ptr q dq 0, w5, w6, w7], ⟨(z, .tok 0) :: zA0 (zA0 h.ents p (pr l (a' : Int) 3 to')) q (.cells [.str [], LI, .imm (.own z 0) 7 [x], LE]), n', ty⟩, []⟩) : W tree.getF zB3 ⟨[.ptr p d 0, v1, v2, v3, .ptr q dq 0, v5, v6, v7], h, []⟩ Q := by
 obtain ⟨hu, hut, hX⟩ := fx4 hf
 have hZ := fxq hf hpq hg hq
 refine W.loop ?_
 repeat' (first | refine sq_ ?_ | refine bl_ ?_ | ((first | refine rg_ ?_ | refine go_ ?_); generalize e : goR _ _ _ _ _ _ _ _ = r; simp (disch := omega) [hX, hZ, zA5, zA6, zA4, List.length_append, List.length_cons, List.length_nil] at e; replace e : some _ = _ := e; subst e; (try dsimp only [goW])) | refine ct_ rfl ?_ | refine cf_ rfl ?_ | refine sk_ ?_ | refine ex_ ?_ | (refine W.loop ?_; try (generalize e : dropped _ _ _ = r; simp (disch := omega) [hX, hZ, zA5, zA6, zA4, List.length_append, List.length_cons, List.length_nil] at e; subst e; try dsimp only)) | (refine p_word hl0 a 0 to fun _ _ g _ => ⟨rfl, ?_⟩; try dsimp only at g) | (refine zB7 hl0 a 0 to rfl fun _ _ g _ => ⟨rfl, ?_⟩; try dsimp only at g) | (refine p_is hl0 a 0 to false rfl fun _ _ g _ => ⟨rfl, ?_⟩; try dsimp only at g) | (refine p_is hl0 a 0 to true rfl fun _ _ g _ => ⟨rfl, ?_⟩; try dsimp only at g) | (refine pu_ (p_mostF p d _ (by omega)) fun _ _ g _ => ⟨rfl, ?_⟩; try dsimp only at g) | (refine hM to _ ?_ ?_ ?_ _ fun n40 ty40 nm R1 R2 R3 a' to' hR1 hR2 hR3 hn40 hun40 => ⟨rfl, ?_⟩; exact ft_; exact ge2_; exact lt_; (try dsimp only at hn40); (rcases hR1 with rfl | ⟨k1, t1, rfl⟩ <;> rcases hR2 with rfl | ⟨k2, t2, rfl⟩ <;> rcases hR3 with rfl | ⟨k3, rfl⟩)) | (simp only [thenW_exit, zAf, zAl, reduceIte]; (try simp only [zB1])))
 all_goals ((try simp only [zAl, zA3, zAf]); refine hk _ _ _ _ _ _ _ _ _ _ _ _ ?_ ?_ ?_; (try dsimp only); omega; (try dsimp only); omega; exact ut_)
theorem fl_eg_ok (p d q dq : Nat) (hpq : p ≠ q) (l : List Tok) (hll : l.length < 100000) (a : Nat) (to : Int) (LI LM : CVal) (Q : CExit → CSt → Prop) (v1 v2 v3 v5 v6 v7 : CVal) (h : CHeap) (hf : Fit h) (hg : zA2 h.ents p = some (pr l (a : Int) 0 to)) (hp : p < h.next) (hqn : q < h.next) (hq : zA2 h.ents q = some (.cells [.str [], LI, LM, .nils])) (b0 : Nat) (hl0 : l[a + 0]? = some (1, [101, 110, 117, 109], 0, b0)) (a9 : Nat) (hM : ECok p d l a a9)
    (hk : ∀ z n' ty w1 w2 w3 w5 w6 w7 x, h.next ≤ z → z < n' → zAb ty n' → W tree.getF zB3 ⟨[.ptr p d 0, w1, w2, w3, .ptr q dq 0, w5, w6, w7], ⟨(z, .tok 0) :: zA0 (zA0 h.ents p (pr l (a9 : Int) 0 to)) q (.cells [.str [], LI, LM, .imm (.own z 0) 2 [x]]), n', ty⟩, []⟩ Q) : W tree.getF zB3 ⟨[.ptr p d 0, v1, v2, v3, .ptr q dq 0, v5, v6, v7], h, []⟩ Q := by
 obtain ⟨hu, hut, hX⟩ := fx4 hf
 have hZ := fxq hf hpq hg hq
 refine W.loop ?_
 repeat' (first | refine sq_ ?_ | refine bl_ ?_ | ((first | refine rg_ ?_ | refine go_ ?_); generalize e : goR _ _ _ _ _ _ _ _ = r; simp (disch := omega) [hX, hZ, zA5, zA6, zA4, List.length_append, List.length_cons, List.length_nil] at e; replace e : some _ = _ := e; subst e; (try dsimp only [goW])) | refine ct_ rfl ?_ | refine cf_ rfl ?_ | refine sk_ ?_ | refine ex_ ?_ | (refine p_word hl0 a 0 to fun _ _ g _ => ⟨rfl, ?_⟩; try dsimp only at g) | (refine zB7 hl0 a 0 to rfl fun _ _ g _ => ⟨rfl, ?_⟩; try dsimp only at g) | (refine p_is hl0 a 0 to false rfl fun _ _ g _ => ⟨rfl, ?_⟩; try dsimp only at g) | (refine p_is hl0 a 0 to true rfl fun _ _ g _ => ⟨rfl, ?_⟩; try dsimp only at g) | (refine pu_ (p_mostF p d _ (by omega)) fun _ _ g _ => ⟨rfl, ?_⟩; try dsimp only at g) | (refine hM to _ ?_ ?_ ?_ _ fun n40 ty40 nm R1 hR1 hn40 hun40 => ⟨rfl, ?_⟩; exact ft_; exact ge2_; exact lt_; (try dsimp only at hn40); (rcases hR1 with rfl | ⟨k1, t1, rfl⟩)))
 all_goals
  show W tree.getF zB3 (dropped true _ _) Q
  generalize e : dropped _ _ _ = r0
  simp (disch := omega) [hX, hZ, zA5, zA6, zA4, List.length_append, List.length_cons, List.length_nil] at e
  subst e
  try dsimp only
  refine hk _ _ _ _ _ _ _ _ _ _ ?_ ?_ ?_
  · (try dsimp only); omega
  · (try dsimp only); omega
  · exact ut_
theorem fl_eg_x (p d q dq : Nat) (hpq : p ≠ q) (l : List Tok) (hll : l.length < 100000) (a : Nat) (to : Int) (LI LM : CVal) (Q : CExit → CSt → Prop) (v1 v2 v3 v5 v6 v7 : CVal) (h : CHeap) (hf : Fit h) (hg : zA2 h.ents p = some (pr l (a : Int) 0 to)) (hp : p < h.next) (hqn : q < h.next) (hq : zA2 h.ents q = some (.cells [.str [], LI, LM, .nils])) (b0 : Nat) (hl0 : l[a + 0]? = some (1, [101, 110, 117, 109], 0, b0)) (hM : ECx p d l a)
    (hk : ∀ z n' ty w1 w2 w3 w5 w6 w7 x (a' : Nat) (to' : Int), h.next ≤ z → z < n' → zAb ty n' → Q (.exit 0) ⟨[.ptr p d 0, w1, w2, w3, .ptr q dq 0, w5, w6, w7], ⟨(z, .tok 0) :: zA0 (zA0 h.ents p (pr l (a' : Int) 3 to')) q (.cells [.str [], LI, LM, .imm (.own z 0) 2 [x]]), n', ty⟩, []⟩) : W tree.getF zB3 ⟨[.ptr p d 0, v1, v2, v3, .ptr q dq 0, v5, v6, v7], h, []⟩ Q := by
 obtain ⟨hu, hut, hX⟩ := fx4 hf
 have hZ := fxq hf hpq hg hq
 refine W.loop ?_
 repeat' (first | refine sq_ ?_ | refine bl_ ?_ | ((first | refine rg_ ?_ | refine go_ ?_); generalize e : goR _ _ _ _ _ _ _ _ = r; simp (disch := omega) [hX, hZ, zA5, zA6, zA4, List.length_append, List.length_cons, List.length_nil] at e; replace e : some _ = _ := e; subst e; (try dsimp only [goW])) | refine ct_ rfl ?_ | refine cf_ rfl ?_ | refine sk_ ?_ | refine ex_ ?_ | (refine W.loop ?_; try (generalize e : dropped _ _ _ = r; simp (disch := omega) [hX, hZ, zA5, zA6, zA4, List.length_append, List.length_cons, List.length_nil] at e; subst e; try dsimp only)) | (refine p_word hl0 a 0 to fun _ _ g _ => ⟨rfl, ?_⟩; try dsimp only at g) | (refine zB7 hl0 a 0 to rfl fun _ _ g _ => ⟨rfl, ?_⟩; try dsimp only at g) | (refine p_is hl0 a 0 to false rfl fun _ _ g _ => ⟨rfl, ?_⟩; try dsimp only at g) | (refine p_is hl0 a 0 to true rfl fun _ _ g _ => ⟨rfl, ?_⟩; try dsimp only at g) | (refine pu_ (p_mostF p d _ (by omega)) fun _ _ g _ => ⟨rfl, ?_⟩; try dsimp only at g) | (refine hM to _ ?_ ?_ ?_ _ fun n40 ty40 nm R1 a' to' hR1 hn40 hun40 => ⟨rfl, ?_⟩; exact ft_; exact ge2_; exact lt_; (try dsimp only at hn40); (rcases hR1 with rfl | ⟨k1, t1, rfl⟩)) | (simp only [thenW_exit, zAf, zAl, reduceIte]; (try simp only [zB1])))
 all_goals ((try simp only [zAl, zA3, zAf]); refine hk _ _ _ _ _ _ _ _ _ _ _ _ ?_ ?_ ?_; (try dsimp only); omega; (try dsimp only); omega; exact ut_)
def LO (k : Nat) (R : CVal) (n : Nat) : Prop := R = .nils ∧ n = 0 ∨ ∃ i v ts, R = .imm (.own i v) k ts ∧ ts.length = n
def LFz (R : CVal) (n : Nat) : Prop := R = .nils ∧ n = 0 ∨ ∃ k ts, R = .imm .none k ts ∧ ts.length = n
theorem LO.of {m0 p q k : Nat} {L : CVal} {ts : List CVal} {i : Nat} {h : CHeap} (s : LS m0 p q k L ts i h) : LO k L ts.length := by
 rcases s with ⟨h1, h2⟩ | ⟨v, h1, _⟩
 · exact .inl ⟨h1, by rw [h2]; rfl⟩
 · exact .inr ⟨i, v, ts, h1, rfl⟩
theorem LO.nil {k : Nat} : LO k .nils 0 := .inl ⟨rfl, rfl⟩
def FEn (n0 : Nat) (E0 : List (Nat × CObj)) (p q : Nat) (l : List Tok) (e' : Int) (P : Nat → Nat → Nat → Prop) (h : CHeap) : Prop := ∃ RI RM RE nI nM nE, ∃ (a' : Nat) (to' : Int), P nI nM nE ∧ zA2 h.ents p = some (pr l (a' : Int) e' to') ∧ zA2 h.ents q = some (.cells [.str [], RI, RM, RE]) ∧ Over n0 (zA0 E0 p (pr l (a' : Int) e' to')) h.ents ∧ LO 1 RI nI ∧ LO 7 RM nM ∧ LO 2 RE nE ∧ n0 ≤ q ∧ Fit h
def HLp (p d : Nat) (l : List Tok) (e' : Int) (P : Nat → Nat → Nat → Prop) : Prop := ∀ (n0 m0 : Nat) (E0 : List (Nat × CObj)) (q dq : Nat) (to : Int) (Q : CExit → CSt → Prop) (v1 v2 v3 v5 v6 v7 : CVal) (h : CHeap), S1 n0 m0 E0 [] p q l 4 0 to (fun _ => .cells [.str [], .nils, .nils, .nils]) 1 .nils [] 0 h → (∀ w1 w2 w3 w5 w6 w7 h', FEn n0 E0 p q l e' P h' → h.next ≤ h'.next → Q (.exit 0) ⟨[.ptr p d 0, w1, w2, w3, .ptr q dq 0, w5, w6, w7], h', []⟩) → W tree.getF zB3 ⟨[.ptr p d 0, v1, v2, v3, .ptr q dq 0, v5, v6, v7], h, []⟩ Q
theorem S1.re {n0 m0 : Nat} {E0 RO : List (Nat × CObj)} {p q : Nat} {l : List Tok} {a : Nat} {e to : Int} {C C' : CVal → CObj} {k k' i : Nat} {h : CHeap} (S : S1 n0 m0 E0 RO p q l a e to C k .nils [] i h) (hC : C' .nils = C .nils) : S1 n0 m0 E0 RO p q l a e to C' k' .nils [] i h :=
 { g := S.g, gq := by rw [hC]; exact S.gq, s := .inl ⟨rfl, rfl⟩, ro := S.ro, d := S.d, tt := S.tt, np := S.np, nq := S.nq, nm := S.nm, mh := S.mh, qm := S.qm, lp := S.lp, lq := S.lq, pq := S.pq, f := S.f }
theorem FEn.of0 {n0 m0 : Nat} {E0 RO : List (Nat × CObj)} {p q : Nat} {l : List Tok} {a' : Nat} {e' to' : Int} {L : CVal} {ts : List CVal} {i : Nat} {h : CHeap} {P : Nat → Nat → Nat → Prop} (S : S1 n0 m0 E0 RO p q l a' e' to' (fun L => .cells [.str [], L, .nils, .nils]) 1 L ts i h) (hP : P ts.length 0 0) : FEn n0 E0 p q l e' P h :=
 ⟨L, .nils, .nils, ts.length, 0, 0, a', to', hP, S.g, S.gq, S.d, LO.of S.s, LO.nil, LO.nil, S.nq, S.f⟩
theorem FEn.of1 {n0 m0 : Nat} {E0 RO : List (Nat × CObj)} {p q : Nat} {l : List Tok} {a' : Nat} {e' to' : Int} {L : CVal} {ts : List CVal} {i : Nat} {h : CHeap} {P : Nat → Nat → Nat → Prop} (S : S1 n0 m0 E0 RO p q l a' e' to' (fun L => .cells [.str [], .nils, L, .nils]) 7 L ts i h) (hP : P 0 ts.length 0) : FEn n0 E0 p q l e' P h :=
 ⟨.nils, L, .nils, 0, ts.length, 0, a', to', hP, S.g, S.gq, S.d, LO.nil, LO.of S.s, LO.nil, S.nq, S.f⟩
theorem FEn.of2 {n0 m0 : Nat} {E0 RO : List (Nat × CObj)} {p q : Nat} {l : List Tok} {a' : Nat} {e' to' : Int} {L : CVal} {ts : List CVal} {i : Nat} {h : CHeap} {P : Nat → Nat → Nat → Prop} (S : S1 n0 m0 E0 RO p q l a' e' to' (fun L => .cells [.str [], .nils, .nils, L]) 2 L ts i h) (hP : P 0 0 ts.length) : FEn n0 E0 p q l e' P h :=
 ⟨.nils, .nils, L, 0, 0, ts.length, a', to', hP, S.g, S.gq, S.d, LO.nil, LO.nil, LO.of S.s, S.nq, S.f⟩
theorem HL_msg0_ok (p d : Nat) (l : List Tok) (hll : l.length < 100000) (r : Nat) (hr : r ≤ 30) (hsuf : (l.drop 4).map strip = (List.replicate r [(1, [109, 101, 115, 115, 97, 103, 101], 0), (1, [65], 0), (4, [123], 0), (4, [125], 0)]).flatten ++ [(5, [], 0)]) : HLp p d l 0 (fun nI nM nE => nI = 0 ∧ nM = r ∧ nE = 0) := by
 intro n0 m0 E0 q dq to Q v1 v2 v3 v5 v6 v7 h S hF
 have hpq := S.pq
 refine rounds (n0 := n0) (m0 := m0) (E0 := E0) (RO := []) (p := p) (q := q) (l := l) to (C := (fun L => .cells [.str [], .nils, L, .nils])) (k := 7) (.agg [.str [65], .nils, .nils, .nils, .nils, .nils, .nils]) [(1, [109, 101, 115, 115, 97, 103, 101], 0), (1, [65], 0), (4, [123], 0), (4, [125], 0)] [(5, [], 0)] 3 0 (fun h => ∀ w1 w2 w3 w5 w6 w7, W tree.getF zB3 ⟨[.ptr p d 0, w1, w2, w3, .ptr q dq 0, w5, w6, w7], h, []⟩ Q) (fun h => ∀ w1 w2 w3 w5 w6 w7, Q (.exit 0) ⟨[.ptr p d 0, w1, w2, w3, .ptr q dq 0, w5, w6, w7], h, []⟩) h.next ?_ ?_ ?_ ?_ 4 r (by omega) ?_ r 4 .nils 0 0 h (S.re rfl) (by omega) (by omega) (by omega) hsuf (by omega) v1 v2 v3 v5 v6 v7
 · intro a h ro hf hg hp hqn hq ⟨y, hT⟩ hk w1 w2 w3 w5 w6 w7
   obtain ⟨b0, hl0⟩ := zA9 (j := 0) hT rfl
   obtain ⟨b1, hl1⟩ := zA9 (j := 1) hT rfl
   obtain ⟨b2, hl2⟩ := zA9 (j := 2) hT rfl
   obtain ⟨b3, hl3⟩ := zA9 (j := 3) hT rfl
   exact fl_msg0_n p d q dq hpq l hll a to .nils .nils Q w1 w2 w3 w5 w6 w7 h hf hg hp hqn hq b0 b1 b2 b3 [65] (zBc 65 (by decide)) hl0 hl1 hl2 hl3 fun z n' ty w1' w2' w3' w5' w6' w7' g1 g2 g3 => hk z n' ty _ (by (try dsimp only [List.length_cons, List.length_nil]); omega) g1 g2 g3 w1' w2' w3' w5' w6' w7'
 · intro a h i v ts ro hf hg hp hqn hts hti hip hiq hin hq ⟨y, hT⟩ hk w1 w2 w3 w5 w6 w7
   obtain ⟨b0, hl0⟩ := zA9 (j := 0) hT rfl
   obtain ⟨b1, hl1⟩ := zA9 (j := 1) hT rfl
   obtain ⟨b2, hl2⟩ := zA9 (j := 2) hT rfl
   obtain ⟨b3, hl3⟩ := zA9 (j := 3) hT rfl
   exact fl_msg0_o p d q dq hpq l hll a to .nils .nils Q w1 w2 w3 w5 w6 w7 h hf hg hp hqn i v ts hts hti hip hiq hin hq b0 b1 b2 b3 [65] (zBc 65 (by decide)) hl0 hl1 hl2 hl3 fun n' ty w1' w2' w3' w5' w6' w7' g1 g3 => hk n' ty _ (by (try dsimp only [List.length_cons, List.length_nil]); omega) g1 g3 w1' w2' w3' w5' w6' w7'
 · intro a h i v ts ro hf hg hp hqn hts hti hip hiq hin hq ⟨y, hT⟩ hk w1 w2 w3 w5 w6 w7
   obtain ⟨b0, hl0⟩ := zA9 (j := 0) hT rfl
   obtain ⟨b1, hl1⟩ := zA9 (j := 1) hT rfl
   obtain ⟨b2, hl2⟩ := zA9 (j := 2) hT rfl
   obtain ⟨b3, hl3⟩ := zA9 (j := 3) hT rfl
   exact fl_msg0_X p d q dq hpq l hll a to .nils .nils Q w1 w2 w3 w5 w6 w7 h hf hg hp hqn i v ts hts hti hip hiq hin hq b0 b1 b2 b3 [65] (zBc 65 (by decide)) hl0 hl1 hl2 hl3 fun n' ty w1' w2' w3' w5' w6' w7' g1 g3 => hk n' ty _ _ (by (try dsimp only [List.length_cons, List.length_nil]); omega) g1 g3 w1' w2' w3' w5' w6' w7'
 · intro a h ro hf hg hp hU hk w1 w2 w3 w5 w6 w7
   obtain ⟨b0, hl0⟩ := zA9 (j := 0) (x := [(5, [], 0)]) (y := []) hU rfl
   refine fl_end p d q dq l hll a to Q w1 w2 w3 w5 w6 w7 h hf hg hp b0 hl0 fun n' ty w1' w2' w3' w5' w6' w7' g1 g3 => ?_
   have := hk n' ty (a : Int) rfl g1 g3 w1' w2' w3' w5' w6' w7'
   rw [zAs hg] at this
   exact this
 · intro h' a' e' to' L ts i S' hc g w1 w2 w3 w5 w6 w7
   rcases hc with ⟨_, rfl, hts, _, _⟩ | ⟨hc, _, _⟩
   · exact hF _ _ _ _ _ _ h' (FEn.of1 S' (by subst hts; simp)) g
   · exfalso; omega
theorem HL_msg0_x (p d : Nat) (l : List Tok) (hll : l.length < 100000) (r : Nat) (hr : 30 < r) (hsuf : (l.drop 4).map strip = (List.replicate r [(1, [109, 101, 115, 115, 97, 103, 101], 0), (1, [65], 0), (4, [123], 0), (4, [125], 0)]).flatten ++ [(5, [], 0)]) : HLp p d l 3 (fun _ _ _ => True) := by
 intro n0 m0 E0 q dq to Q v1 v2 v3 v5 v6 v7 h S hF
 have hpq := S.pq
 refine rounds (n0 := n0) (m0 := m0) (E0 := E0) (RO := []) (p := p) (q := q) (l := l) to (C := (fun L => .cells [.str [], .nils, L, .nils])) (k := 7) (.agg [.str [65], .nils, .nils, .nils, .nils, .nils, .nils]) [(1, [109, 101, 115, 115, 97, 103, 101], 0), (1, [65], 0), (4, [123], 0), (4, [125], 0)] [(5, [], 0)] 3 0 (fun h => ∀ w1 w2 w3 w5 w6 w7, W tree.getF zB3 ⟨[.ptr p d 0, w1, w2, w3, .ptr q dq 0, w5, w6, w7], h, []⟩ Q) (fun h => ∀ w1 w2 w3 w5 w6 w7, Q (.exit 0) ⟨[.ptr p d 0, w1, w2, w3, .ptr q dq 0, w5, w6, w7], h, []⟩) h.next ?_ ?_ ?_ ?_ 4 r (by omega) ?_ r 4 .nils 0 0 h (S.re rfl) (by omega) (by omega) (by omega) hsuf (by omega) v1 v2 v3 v5 v6 v7
 · intro a h ro hf hg hp hqn hq ⟨y, hT⟩ hk w1 w2 w3 w5 w6 w7
   obtain ⟨b0, hl0⟩ := zA9 (j := 0) hT rfl
   obtain ⟨b1, hl1⟩ := zA9 (j := 1) hT rfl
   obtain ⟨b2, hl2⟩ := zA9 (j := 2) hT rfl
   obtain ⟨b3, hl3⟩ := zA9 (j := 3) hT rfl
   exact fl_msg0_n p d q dq hpq l hll a to .nils .nils Q w1 w2 w3 w5 w6 w7 h hf hg hp hqn hq b0 b1 b2 b3 [65] (zBc 65 (by decide)) hl0 hl1 hl2 hl3 fun z n' ty w1' w2' w3' w5' w6' w7' g1 g2 g3 => hk z n' ty _ (by (try dsimp only [List.length_cons, List.length_nil]); omega) g1 g2 g3 w1' w2' w3' w5' w6' w7'
 · intro a h i v ts ro hf hg hp hqn hts hti hip hiq hin hq ⟨y, hT⟩ hk w1 w2 w3 w5 w6 w7
   obtain ⟨b0, hl0⟩ := zA9 (j := 0) hT rfl
   obtain ⟨b1, hl1⟩ := zA9 (j := 1) hT rfl
   obtain ⟨b2, hl2⟩ := zA9 (j := 2) hT rfl
   obtain ⟨b3, hl3⟩ := zA9 (j := 3) hT rfl
   exact fl_msg0_o p d q dq hpq l hll a to .nils .nils Q w1 w2 w3 w5 w6 w7 h hf hg hp hqn i v ts hts hti hip hiq hin hq b0 b1 b2 b3 [65] (zBc 65 (by decide)) hl0 hl1 hl2 hl3 fun n' ty w1' w2' w3' w5' w6' w7' g1 g3 => hk n' ty _ (by (try dsimp only [List.length_cons, List.length_nil]); omega) g1 g3 w1' w2' w3' w5' w6' w7'
 · intro a h i v ts ro hf hg hp hqn hts hti hip hiq hin hq ⟨y, hT⟩ hk w1 w2 w3 w5 w6 w7
   obtain ⟨b0, hl0⟩ := zA9 (j := 0) hT rfl
   obtain ⟨b1, hl1⟩ := zA9 (j := 1) hT rfl
   obtain ⟨b2, hl2⟩ := zA9 (j := 2) hT rfl
   obtain ⟨b3, hl3⟩ := zA9 (j := 3) hT rfl
   exact fl_msg0_X p d q dq hpq l hll a to .nils .nils Q w1 w2 w3 w5 w6 w7 h hf hg hp hqn i v ts hts hti hip hiq hin hq b0 b1 b2 b3 [65] (zBc 65 (by decide)) hl0 hl1 hl2 hl3 fun n' ty w1' w2' w3' w5' w6' w7' g1 g3 => hk n' ty _ _ (by (try dsimp only [List.length_cons, List.length_nil]); omega) g1 g3 w1' w2' w3' w5' w6' w7'
 · intro a h ro hf hg hp hU hk w1 w2 w3 w5 w6 w7
   obtain ⟨b0, hl0⟩ := zA9 (j := 0) (x := [(5, [], 0)]) (y := []) hU rfl
   refine fl_end p d q dq l hll a to Q w1 w2 w3 w5 w6 w7 h hf hg hp b0 hl0 fun n' ty w1' w2' w3' w5' w6' w7' g1 g3 => ?_
   have := hk n' ty (a : Int) rfl g1 g3 w1' w2' w3' w5' w6' w7'
   rw [zAs hg] at this
   exact this
 · intro h' a' e' to' L ts i S' hc g w1 w2 w3 w5 w6 w7
   rcases hc with ⟨hc, _, _, _, _⟩ | ⟨_, rfl, hc⟩
   · exfalso; omega
   · exact hF _ _ _ _ _ _ h' (FEn.of1 S' trivial) g
theorem HL_enu0_ok (p d : Nat) (l : List Tok) (hll : l.length < 100000) (r : Nat) (hr : r ≤ 30) (hsuf : (l.drop 4).map strip = (List.replicate r [(1, [101, 110, 117, 109], 0), (1, [65], 0), (4, [123], 0), (4, [125], 0)]).flatten ++ [(5, [], 0)]) : HLp p d l 0 (fun nI nM nE => nI = 0 ∧ nM = 0 ∧ nE = r) := by
 intro n0 m0 E0 q dq to Q v1 v2 v3 v5 v6 v7 h S hF
 have hpq := S.pq
 refine rounds (n0 := n0) (m0 := m0) (E0 := E0) (RO := []) (p := p) (q := q) (l := l) to (C := (fun L => .cells [.str [], .nils, .nils, L])) (k := 2) (.agg [.str [65], .nils]) [(1, [101, 110, 117, 109], 0), (1, [65], 0), (4, [123], 0), (4, [125], 0)] [(5, [], 0)] 3 0 (fun h => ∀ w1 w2 w3 w5 w6 w7, W tree.getF zB3 ⟨[.ptr p d 0, w1, w2, w3, .ptr q dq 0, w5, w6, w7], h, []⟩ Q) (fun h => ∀ w1 w2 w3 w5 w6 w7, Q (.exit 0) ⟨[.ptr p d 0, w1, w2, w3, .ptr q dq 0, w5, w6, w7], h, []⟩) h.next ?_ ?_ ?_ ?_ 4 r (by omega) ?_ r 4 .nils 0 0 h (S.re rfl) (by omega) (by omega) (by omega) hsuf (by omega) v1 v2 v3 v5 v6 v7
 · intro a h ro hf hg hp hqn hq ⟨y, hT⟩ hk w1 w2 w3 w5 w6 w7
   obtain ⟨b0, hl0⟩ := zA9 (j := 0) hT rfl
   obtain ⟨b1, hl1⟩ := zA9 (j := 1) hT rfl
   obtain ⟨b2, hl2⟩ := zA9 (j := 2) hT rfl
   obtain ⟨b3, hl3⟩ := zA9 (j := 3) hT rfl
   exact fl_enu0_n p d q dq hpq l hll a to .nils .nils Q w1 w2 w3 w5 w6 w7 h hf hg hp hqn hq b0 b1 b2 b3 [65] (zBc 65 (by decide)) hl0 hl1 hl2 hl3 fun z n' ty w1' w2' w3' w5' w6' w7' g1 g2 g3 => hk z n' ty _ (by (try dsimp only [List.length_cons, List.length_nil]); omega) g1 g2 g3 w1' w2' w3' w5' w6' w7'
 · intro a h i v ts ro hf hg hp hqn hts hti hip hiq hin hq ⟨y, hT⟩ hk w1 w2 w3 w5 w6 w7
   obtain ⟨b0, hl0⟩ := zA9 (j := 0) hT rfl
   obtain ⟨b1, hl1⟩ := zA9 (j := 1) hT rfl
   obtain ⟨b2, hl2⟩ := zA9 (j := 2) hT rfl
   obtain ⟨b3, hl3⟩ := zA9 (j := 3) hT rfl
   exact fl_enu0_o p d q dq hpq l hll a to .nils .nils Q w1 w2 w3 w5 w6 w7 h hf hg hp hqn i v ts hts hti hip hiq hin hq b0 b1 b2 b3 [65] (zBc 65 (by decide)) hl0 hl1 hl2 hl3 fun n' ty w1' w2' w3' w5' w6' w7' g1 g3 => hk n' ty _ (by (try dsimp only [List.length_cons, List.length_nil]); omega) g1 g3 w1' w2' w3' w5' w6' w7'
 · intro a h i v ts ro hf hg hp hqn hts hti hip hiq hin hq ⟨y, hT⟩ hk w1 w2 w3 w5 w6 w7
   obtain ⟨b0, hl0⟩ := zA9 (j := 0) hT rfl
   obtain ⟨b1, hl1⟩ := zA9 (j := 1) hT rfl
   obtain ⟨b2, hl2⟩ := zA9 (j := 2) hT rfl
   obtain ⟨b3, hl3⟩ := zA9 (j := 3) hT rfl
   exact fl_enu0_X p d q dq hpq l hll a to .nils .nils Q w1 w2 w3 w5 w6 w7 h hf hg hp hqn i v ts hts hti hip hiq hin hq b0 b1 b2 b3 [65] (zBc 65 (by decide)) hl0 hl1 hl2 hl3 fun n' ty w1' w2' w3' w5' w6' w7' g1 g3 => hk n' ty _ _ (by (try dsimp only [List.length_cons, List.length_nil]); omega) g1 g3 w1' w2' w3' w5' w6' w7'
 · intro a h ro hf hg hp hU hk w1 w2 w3 w5 w6 w7
   obtain ⟨b0, hl0⟩ := zA9 (j := 0) (x := [(5, [], 0)]) (y := []) hU rfl
   refine fl_end p d q dq l hll a to Q w1 w2 w3 w5 w6 w7 h hf hg hp b0 hl0 fun n' ty w1' w2' w3' w5' w6' w7' g1 g3 => ?_
   have := hk n' ty (a : Int) rfl g1 g3 w1' w2' w3' w5' w6' w7'
   rw [zAs hg] at this
   exact this
 · intro h' a' e' to' L ts i S' hc g w1 w2 w3 w5 w6 w7
   rcases hc with ⟨_, rfl, hts, _, _⟩ | ⟨hc, _, _⟩
   · exact hF _ _ _ _ _ _ h' (FEn.of2 S' (by subst hts; simp)) g
   · exfalso; omega
theorem HL_enu0_x (p d : Nat) (l : List Tok) (hll : l.length < 100000) (r : Nat) (hr : 30 < r) (hsuf : (l.drop 4).map strip = (List.replicate r [(1, [101, 110, 117, 109], 0), (1, [65], 0), (4, [123], 0), (4, [125], 0)]).flatten ++ [(5, [], 0)]) : HLp p d l 3 (fun _ _ _ => True) := by
 intro n0 m0 E0 q dq to Q v1 v2 v3 v5 v6 v7 h S hF
 have hpq := S.pq
 refine rounds (n0 := n0) (m0 := m0) (E0 := E0) (RO := []) (p := p) (q := q) (l := l) to (C := (fun L => .cells [.str [], .nils, .nils, L])) (k := 2) (.agg [.str [65], .nils]) [(1, [101, 110, 117, 109], 0), (1, [65], 0), (4, [123], 0), (4, [125], 0)] [(5, [], 0)] 3 0 (fun h => ∀ w1 w2 w3 w5 w6 w7, W tree.getF zB3 ⟨[.ptr p d 0, w1, w2, w3, .ptr q dq 0, w5, w6, w7], h, []⟩ Q) (fun h => ∀ w1 w2 w3 w5 w6 w7, Q (.exit 0) ⟨[.ptr p d 0, w1, w2, w3, .ptr q dq 0, w5, w6, w7], h, []⟩) h.next ?_ ?_ ?_ ?_ 4 r (by omega) ?_ r 4 .nils 0 0 h (S.re rfl) (by omega) (by omega) (by omega) hsuf (by omega) v1 v2 v3 v5 v6 v7
 · intro a h ro hf hg hp hqn hq ⟨y, hT⟩ hk w1 w2 w3 w5 w6 w7
   obtain ⟨b0, hl0⟩ := zA9 (j := 0) hT rfl
   obtain ⟨b1, hl1⟩ := zA9 (j := 1) hT rfl
   obtain ⟨b2, hl2⟩ := zA9 (j := 2) hT rfl
   obtain ⟨b3, hl3⟩ := zA9 (j := 3) hT rfl
   exact fl_enu0_n p d q dq hpq l hll a to .nils .nils Q w1 w2 w3 w5 w6 w7 h hf hg hp hqn hq b0 b1 b2 b3 [65] (zBc 65 (by decide)) hl0 hl1 hl2 hl3 fun z n' ty w1' w2' w3' w5' w6' w7' g1 g2 g3 => hk z n' ty _ (by (try dsimp only [List.length_cons, List.length_nil]); omega) g1 g2 g3 w1' w2' w3' w5' w6' w7'
 · intro a h i v ts ro hf hg hp hqn hts hti hip hiq hin hq ⟨y, hT⟩ hk w1 w2 w3 w5 w6 w7
   obtain ⟨b0, hl0⟩ := zA9 (j := 0) hT rfl
   obtain ⟨b1, hl1⟩ := zA9 (j := 1) hT rfl
   obtain ⟨b2, hl2⟩ := zA9 (j := 2) hT rfl
   obtain ⟨b3, hl3⟩ := zA9 (j := 3) hT rfl
   exact fl_enu0_o p d q dq hpq l hll a to .nils .nils Q w1 w2 w3 w5 w6 w7 h hf hg hp hqn i v ts hts hti hip hiq hin hq b0 b1 b2 b3 [65] (zBc 65 (by decide)) hl0 hl1 hl2 hl3 fun n' ty w1' w2' w3' w5' w6' w7' g1 g3 => hk n' ty _ (by (try dsimp only [List.length_cons, List.length_nil]); omega) g1 g3 w1' w2' w3' w5' w6' w7'
 · intro a h i v ts ro hf hg hp hqn hts hti hip hiq hin hq ⟨y, hT⟩ hk w1 w2 w3 w5 w6 w7
   obtain ⟨b0, hl0⟩ := zA9 (j := 0) hT rfl
   obtain ⟨b1, hl1⟩ := zA9 (j := 1) hT rfl
   obtain ⟨b2, hl2⟩ := zA9 (j := 2) hT rfl
   obtain ⟨b3, hl3⟩ := zA9 (j := 3) hT rfl
   exact fl_enu0_X p d q dq hpq l hll a to .nils .nils Q w1 w2 w3 w5 w6 w7 h hf hg hp hqn i v ts hts hti hip hiq hin hq b0 b1 b2 b3 [65] (zBc 65 (by decide)) hl0 hl1 hl2 hl3 fun n' ty w1' w2' w3' w5' w6' w7' g1 g3 => hk n' ty _ _ (by (try dsimp only [List.length_cons, List.length_nil]); omega) g1 g3 w1' w2' w3' w5' w6' w7'
 · intro a h ro hf hg hp hU hk w1 w2 w3 w5 w6 w7
   obtain ⟨b0, hl0⟩ := zA9 (j := 0) (x := [(5, [], 0)]) (y := []) hU rfl
   refine fl_end p d q dq l hll a to Q w1 w2 w3 w5 w6 w7 h hf hg hp b0 hl0 fun n' ty w1' w2' w3' w5' w6' w7' g1 g3 => ?_
   have := hk n' ty (a : Int) rfl g1 g3 w1' w2' w3' w5' w6' w7'
   rw [zAs hg] at this
   exact this
 · intro h' a' e' to' L ts i S' hc g w1 w2 w3 w5 w6 w7
   rcases hc with ⟨hc, _, _, _, _⟩ | ⟨_, rfl, hc⟩
   · exfalso; omega
   · exact hF _ _ _ _ _ _ h' (FEn.of2 S' trivial) g
theorem HL_imp_ok (p d : Nat) (l : List Tok) (hll : l.length < 100000) (r : Nat) (hr : r ≤ 30) (hsuf : (l.drop 4).map strip = (List.replicate r [(1, [105, 109, 112, 111, 114, 116], 0), (3, [120], 0), (4, [59], 0)]).flatten ++ [(5, [], 0)]) : HLp p d l 0 (fun nI nM nE => nI = r ∧ nM = 0 ∧ nE = 0) := by
 intro n0 m0 E0 q dq to Q v1 v2 v3 v5 v6 v7 h S hF
 have hpq := S.pq
 refine rounds (n0 := n0) (m0 := m0) (E0 := E0) (RO := []) (p := p) (q := q) (l := l) to (C := (fun L => .cells [.str [], L, .nils, .nils])) (k := 1) (.str [120]) [(1, [105, 109, 112, 111, 114, 116], 0), (3, [120], 0), (4, [59], 0)] [(5, [], 0)] 3 0 (fun h => ∀ w1 w2 w3 w5 w6 w7, W tree.getF zB3 ⟨[.ptr p d 0, w1, w2, w3, .ptr q dq 0, w5, w6, w7], h, []⟩ Q) (fun h => ∀ w1 w2 w3 w5 w6 w7, Q (.exit 0) ⟨[.ptr p d 0, w1, w2, w3, .ptr q dq 0, w5, w6, w7], h, []⟩) h.next ?_ ?_ ?_ ?_ 4 r (by omega) ?_ r 4 .nils 0 0 h (S.re rfl) (by omega) (by omega) (by omega) hsuf (by omega) v1 v2 v3 v5 v6 v7
 · intro a h ro hf hg hp hqn hq ⟨y, hT⟩ hk w1 w2 w3 w5 w6 w7
   obtain ⟨b0, hl0⟩ := zA9 (j := 0) hT rfl
   obtain ⟨b1, hl1⟩ := zA9 (j := 1) hT rfl
   obtain ⟨b2, hl2⟩ := zA9 (j := 2) hT rfl
   exact fl_impx_n p d q dq hpq l hll a to .nils .nils Q w1 w2 w3 w5 w6 w7 h hf hg hp hqn hq b0 b1 b2 [120] hl0 hl1 hl2 fun z n' ty w1' w2' w3' w5' w6' w7' g1 g2 g3 => hk z n' ty _ (by (try dsimp only [List.length_cons, List.length_nil]); omega) g1 g2 g3 w1' w2' w3' w5' w6' w7'
 · intro a h i v ts ro hf hg hp hqn hts hti hip hiq hin hq ⟨y, hT⟩ hk w1 w2 w3 w5 w6 w7
   obtain ⟨b0, hl0⟩ := zA9 (j := 0) hT rfl
   obtain ⟨b1, hl1⟩ := zA9 (j := 1) hT rfl
   obtain ⟨b2, hl2⟩ := zA9 (j := 2) hT rfl
   exact fl_impx_o p d q dq hpq l hll a to .nils .nils Q w1 w2 w3 w5 w6 w7 h hf hg hp hqn i v ts hts hti hip hiq hin hq b0 b1 b2 [120] hl0 hl1 hl2 fun n' ty w1' w2' w3' w5' w6' w7' g1 g3 => hk n' ty _ (by (try dsimp only [List.length_cons, List.length_nil]); omega) g1 g3 w1' w2' w3' w5' w6' w7'
 · intro a h i v ts ro hf hg hp hqn hts hti hip hiq hin hq ⟨y, hT⟩ hk w1 w2 w3 w5 w6 w7
   obtain ⟨b0, hl0⟩ := zA9 (j := 0) hT rfl
   obtain ⟨b1, hl1⟩ := zA9 (j := 1) hT rfl
   obtain ⟨b2, hl2⟩ := zA9 (j := 2) hT rfl
   exact fl_impx_X p d q dq hpq l hll a to .nils .nils Q w1 w2 w3 w5 w6 w7 h hf hg hp hqn i v ts hts hti hip hiq hin hq b0 b1 b2 [120] hl0 hl1 hl2 fun n' ty w1' w2' w3' w5' w6' w7' g1 g3 => hk n' ty _ _ (by (try dsimp only [List.length_cons, List.length_nil]); omega) g1 g3 w1' w2' w3' w5' w6' w7'
 · intro a h ro hf hg hp hU hk w1 w2 w3 w5 w6 w7
   obtain ⟨b0, hl0⟩ := zA9 (j := 0) (x := [(5, [], 0)]) (y := []) hU rfl
   refine fl_end p d q dq l hll a to Q w1 w2 w3 w5 w6 w7 h hf hg hp b0 hl0 fun n' ty w1' w2' w3' w5' w6' w7' g1 g3 => ?_
   have := hk n' ty (a : Int) rfl g1 g3 w1' w2' w3' w5' w6' w7'
   rw [zAs hg] at this
   exact this
 · intro h' a' e' to' L ts i S' hc g w1 w2 w3 w5 w6 w7
   rcases hc with ⟨_, rfl, hts, _, _⟩ | ⟨hc, _, _⟩
   · exact hF _ _ _ _ _ _ h' (FEn.of0 S' (by subst hts; simp)) g
   · exfalso; omega
theorem HL_imp_x (p d : Nat) (l : List Tok) (hll : l.length < 100000) (r : Nat) (hr : 30 < r) (hsuf : (l.drop 4).map strip = (List.replicate r [(1, [105, 109, 112, 111, 114, 116], 0), (3, [120], 0), (4, [59], 0)]).flatten ++ [(5, [], 0)]) : HLp p d l 3 (fun _ _ _ => True) := by
 intro n0 m0 E0 q dq to Q v1 v2 v3 v5 v6 v7 h S hF
 have hpq := S.pq
 refine rounds (n0 := n0) (m0 := m0) (E0 := E0) (RO := []) (p := p) (q := q) (l := l) to (C := (fun L => .cells [.str [], L, .nils, .nils])) (k := 1) (.str [120]) [(1, [105, 109, 112, 111, 114, 116], 0), (3, [120], 0), (4, [59], 0)] [(5, [], 0)] 3 0 (fun h => ∀ w1 w2 w3 w5 w6 w7, W tree.getF zB3 ⟨[.ptr p d 0, w1, w2, w3, .ptr q dq 0, w5, w6, w7], h, []⟩ Q) (fun h => ∀ w1 w2 w3 w5 w6 w7, Q (.exit 0) ⟨[.ptr p d 0, w1, w2, w3, .ptr q dq 0, w5, w6, w7], h, []⟩) h.next ?_ ?_ ?_ ?_ 4 r (by omega) ?_ r 4 .nils 0 0 h (S.re rfl) (by omega) (by omega) (by omega) hsuf (by omega) v1 v2 v3 v5 v6 v7
 · intro a h ro hf hg hp hqn hq ⟨y, hT⟩ hk w1 w2 w3 w5 w6 w7
   obtain ⟨b0, hl0⟩ := zA9 (j := 0) hT rfl
   obtain ⟨b1, hl1⟩ := zA9 (j := 1) hT rfl
   obtain ⟨b2, hl2⟩ := zA9 (j := 2) hT rfl
   exact fl_impx_n p d q dq hpq l hll a to .nils .nils Q w1 w2 w3 w5 w6 w7 h hf hg hp hqn hq b0 b1 b2 [120] hl0 hl1 hl2 fun z n' ty w1' w2' w3' w5' w6' w7' g1 g2 g3 => hk z n' ty _ (by (try dsimp only [List.length_cons, List.length_nil]); omega) g1 g2 g3 w1' w2' w3' w5' w6' w7'
 · intro a h i v ts ro hf hg hp hqn hts hti hip hiq hin hq ⟨y, hT⟩ hk w1 w2 w3 w5 w6 w7
   obtain ⟨b0, hl0⟩ := zA9 (j := 0) hT rfl
   obtain ⟨b1, hl1⟩ := zA9 (j := 1) hT rfl
   obtain ⟨b2, hl2⟩ := zA9 (j := 2) hT rfl
   exact fl_impx_o p d q dq hpq l hll a to .nils .nils Q w1 w2 w3 w5 w6 w7 h hf hg hp hqn i v ts hts hti hip hiq hin hq b0 b1 b2 [120] hl0 hl1 hl2 fun n' ty w1' w2' w3' w5' w6' w7' g1 g3 => hk n' ty _ (by (try dsimp only [List.length_cons, List.length_nil]); omega) g1 g3 w1' w2' w3' w5' w6' w7'
 · intro a h i v ts ro hf hg hp hqn hts hti hip hiq hin hq ⟨y, hT⟩ hk w1 w2 w3 w5 w6 w7
   obtain ⟨b0, hl0⟩ := zA9 (j := 0) hT rfl
   obtain ⟨b1, hl1⟩ := zA9 (j := 1) hT rfl
   obtain ⟨b2, hl2⟩ := zA9 (j := 2) hT rfl
   exact fl_impx_X p d q dq hpq l hll a to .nils .nils Q w1 w2 w3 w5 w6 w7 h hf hg hp hqn i v ts hts hti hip hiq hin hq b0 b1 b2 [120] hl0 hl1 hl2 fun n' ty w1' w2' w3' w5' w6' w7' g1 g3 => hk n' ty _ _ (by (try dsimp only [List.length_cons, List.length_nil]); omega) g1 g3 w1' w2' w3' w5' w6' w7'
 · intro a h ro hf hg hp hU hk w1 w2 w3 w5 w6 w7
   obtain ⟨b0, hl0⟩ := zA9 (j := 0) (x := [(5, [], 0)]) (y := []) hU rfl
   refine fl_end p d q dq l hll a to Q w1 w2 w3 w5 w6 w7 h hf hg hp b0 hl0 fun n' ty w1' w2' w3' w5' w6' w7' g1 g3 => ?_
   have := hk n' ty (a : Int) rfl g1 g3 w1' w2' w3' w5' w6' w7'
   rw [zAs hg] at this
   exact this
 · intro h' a' e' to' L ts i S' hc g w1 w2 w3 w5 w6 w7
   rcases hc with ⟨hc, _, _, _, _⟩ | ⟨_, rfl, hc⟩
   · exfalso; omega
   · exact hF _ _ _ _ _ _ h' (FEn.of0 S' trivial) g
theorem HL_mg_ok (p d : Nat) (l : List Tok) (hll : l.length < 100000) (b0 : Nat) (hl0 : l[4 + 0]? = some (1, [109, 101, 115, 115, 97, 103, 101], 0, b0)) (a9 : Nat) (b9 : Nat) (hl9 : l[a9 + 0]? = some (5, [], 0, b9)) (hM : MCok p d l 4 0 a9) : HLp p d l 0 (fun nI nM nE => nI = 0 ∧ nM = 1 ∧ nE = 0) := by
 intro n0 m0 E0 q dq to Q v1 v2 v3 v5 v6 v7 h S hF
 have S' := S.re (C' := (fun L => .cells [.str [], .nils, L, .nils])) (k' := 7) rfl
 refine fl_mg_ok p d q dq S.pq l hll 4 to .nils .nils Q v1 v2 v3 v5 v6 v7 h S.f S.g S.lp S.lq S.gq b0 hl0 a9 hM fun z n' ty w1 w2 w3 w5 w6 w7 x g1 g2 g3 => ?_
 have S2 := S'.nil (a' := a9) (e' := 0) (to' := to) (x := x) rfl g1 g2 g3
 refine fl_end p d q dq l hll a9 to Q w1 w2 w3 w5 w6 w7 _ S2.f S2.g S2.lp b9 hl9 fun n'' ty' u1 u2 u3 u5 u6 u7 g4 g5 => ?_
 exact hF _ _ _ _ _ _ _ (FEn.of1 (S2.skip g4 g5) (by simp)) (by (try dsimp only at g4); (try dsimp only); omega)
theorem HL_mg_x (p d : Nat) (l : List Tok) (hll : l.length < 100000) (b0 : Nat) (hl0 : l[4 + 0]? = some (1, [109, 101, 115, 115, 97, 103, 101], 0, b0)) (hM : MCx p d l 4 0) : HLp p d l 3 (fun _ _ _ => True) := by
 intro n0 m0 E0 q dq to Q v1 v2 v3 v5 v6 v7 h S hF
 have S' := S.re (C' := (fun L => .cells [.str [], .nils, L, .nils])) (k' := 7) rfl
 refine fl_mg_x p d q dq S.pq l hll 4 to .nils .nils Q v1 v2 v3 v5 v6 v7 h S.f S.g S.lp S.lq S.gq b0 hl0 hM fun z n' ty w1 w2 w3 w5 w6 w7 x a' to' g1 g2 g3 => ?_
 exact hF _ _ _ _ _ _ _ (FEn.of1 (S'.nil (a' := a') (e' := 3) (to' := to') (x := x) rfl g1 g2 g3) trivial) (by (try dsimp only); omega)
theorem HL_eg_ok (p d : Nat) (l : List Tok) (hll : l.length < 100000) (b0 : Nat) (hl0 : l[4 + 0]? = some (1, [101, 110, 117, 109], 0, b0)) (a9 : Nat) (b9 : Nat) (hl9 : l[a9 + 0]? = some (5, [], 0, b9)) (hM : ECok p d l 4 a9) : HLp p d l 0 (fun nI nM nE => nI = 0 ∧ nM = 0 ∧ nE = 1) := by
 intro n0 m0 E0 q dq to Q v1 v2 v3 v5 v6 v7 h S hF
 have S' := S.re (C' := (fun L => .cells [.str [], .nils, .nils, L])) (k' := 2) rfl
 refine fl_eg_ok p d q dq S.pq l hll 4 to .nils .nils Q v1 v2 v3 v5 v6 v7 h S.f S.g S.lp S.lq S.gq b0 hl0 a9 hM fun z n' ty w1 w2 w3 w5 w6 w7 x g1 g2 g3 => ?_
 have S2 := S'.nil (a' := a9) (e' := 0) (to' := to) (x := x) rfl g1 g2 g3
 refine fl_end p d q dq l hll a9 to Q w1 w2 w3 w5 w6 w7 _ S2.f S2.g S2.lp b9 hl9 fun n'' ty' u1 u2 u3 u5 u6 u7 g4 g5 => ?_
 exact hF _ _ _ _ _ _ _ (FEn.of2 (S2.skip g4 g5) (by simp)) (by (try dsimp only at g4); (try dsimp only); omega)
theorem HL_eg_x (p d : Nat) (l : List Tok) (hll : l.length < 100000) (b0 : Nat) (hl0 : l[4 + 0]? = some (1, [101, 110, 117, 109], 0, b0)) (hM : ECx p d l 4) : HLp p d l 3 (fun _ _ _ => True) := by
 intro n0 m0 E0 q dq to Q v1 v2 v3 v5 v6 v7 h S hF
 have S' := S.re (C' := (fun L => .cells [.str [], .nils, .nils, L])) (k' := 2) rfl
 refine fl_eg_x p d q dq S.pq l hll 4 to .nils .nils Q v1 v2 v3 v5 v6 v7 h S.f S.g S.lp S.lq S.gq b0 hl0 hM fun z n' ty w1 w2 w3 w5 w6 w7 x a' to' g1 g2 g3 => ?_
 exact hF _ _ _ _ _ _ _ (FEn.of2 (S'.nil (a' := a') (e' := 3) (to' := to') (x := x) rfl g1 g2 g3) trivial) (by (try dsimp only); omega)
theorem file_G (l : List Tok) (hll : l.length < 100000) (b0 b1 b2 b3 : Nat) (hl0 : l[0]? = some (1, [115, 121, 110, 116, 97, 120], 0, b0)) (hl1 : l[1]? = some (4, [61], 0, b1)) (hl2 : l[2]? = some (3, [112, 114, 111, 116, 111, 51], 0, b2)) (hl3 : l[3]? = some (4, [59], 0, b3)) (e' : Int) (P : Nat → Nat → Nat → Prop) (to : Int) (h : CHeap) (p d : Nat) (H : HLp p d l e' P) (hf : Fit h) (hg : zA2 h.ents p = some (pr l ((0 : Nat) : Int) 0 to)) (hp : p < h.next) (K : CVal → CHeap → Prop)
    (hk : ∀ n2 ty (a' : Nat) (to' : Int) RI RM RE nI nM nE, h.next ≤ n2 → zAb ty n2 → P nI nM nE → LFz RI nI → LFz RM nM → LFz RE nE → K (.agg [.str [], RI, RM, RE]) ⟨zA0 h.ents p (pr l (a' : Int) e' to'), n2, ty⟩) : Wc tree.getF 13 [.ptr p d 0] h K := by
 obtain ⟨hu, hut, hX⟩ := fx4 hf
 have hZ := fx6 hf hg
 refine Wc.mkG 13 c13 (by kernel_rfl) rfl ?_
 generalize e : zAa _ _ _ = r
 simp (disch := omega) [hX, hZ, c13] at e
 subst e
 repeat (first | refine sq_ ?_ | refine bl_ ?_ | ((first | refine rg_ ?_ | refine go_ ?_); generalize e : goR _ _ _ _ _ _ _ _ = r; simp (disch := omega) [hX, hZ, zA5, zA6, zA4] at e; replace e : some _ = _ := e; subst e; (try dsimp only [goW])) | refine ct_ rfl ?_ | refine cf_ rfl ?_ | refine sk_ ?_ | refine ex_ ?_ | (refine p_needs hl0 (((0 : Nat) : Int)) 0 to rfl fun _ _ g _ => ⟨rfl, ?_⟩; try dsimp only at g) | (refine p_sign hl1 (((0 : Nat) : Int) + 1) 0 to rfl fun n2 ty2 hn2 hun2 => ⟨rfl, ?_⟩; try dsimp only at hn2) | (refine p_needs hl2 (((0 : Nat) : Int) + 1 + 1) 0 to rfl fun _ _ g _ => ⟨rfl, ?_⟩; try dsimp only at g) | (refine p_sign hl3 (((0 : Nat) : Int) + 1 + 1 + 1) 0 to rfl fun n4 ty4 hn4 hun4 => ⟨rfl, ?_⟩; try dsimp only at hn4))
 refine H h.next n4 h.ents _ _ to _ _ _ _ _ _ _ _ ?_ ?_
 · exact {
    g := by exact ge2_
    gq := by simp [zA2]
    s := .inl ⟨rfl, rfl⟩
    ro := fun y hy => by cases hy
    d := by
     have e4 : (((0 : Nat) : Int) + 1 + 1 + 1 + 1) = ((4 : Nat) : Int) := by omega
     first | exact ⟨[_], by rw [← e4]; rfl, fun x hx => (by simp at hx; subst hx; (try dsimp only); omega), hu.set⟩ | exact ⟨[_], rfl, fun x hx => (by simp at hx; subst hx; (try dsimp only); omega), hu.set⟩
    tt := TokTop.under (n := n4) un_ (Nat.le_refl _)
    np := hp
    nq := by (try dsimp only); omega
    nm := by (try dsimp only); omega
    mh := by (try dsimp only); omega
    qm := by (try dsimp only); omega
    lp := by (try dsimp only); omega
    lq := by (try dsimp only); omega
    pq := by (try dsimp only); omega
    f := by exact fit_ }
 · intro w1 w2 w3 w5 w6 w7 h' hF g'
   try dsimp only at g'
   obtain ⟨RI, RM, RE, nI, nM, nE, a', to', hP, hgp, hq, hov, hI, hM, hE, hqn, hfit⟩ := hF
   have hd := hov.drop
   have hut' := hfit.2
   have hsame := zAs hq
   rcases hI with ⟨rfl, eI'⟩ | ⟨iI, vI, tI, rfl, eI'⟩ <;> rcases hM with ⟨rfl, eM'⟩ | ⟨iM, vM, tM, rfl, eM'⟩ <;> rcases hE with ⟨rfl, eE'⟩ | ⟨iE, vE, tE, rfl, eE'⟩
   all_goals
    repeat (first | refine sq_ ?_ | refine bl_ ?_ | ((first | refine rg_ ?_ | refine go_ ?_); generalize e : goR _ _ _ _ _ _ _ _ = r; simp (disch := omega) [hd, hq, zAs hq, c13] at e; replace e : some _ = _ := e; subst e; (try dsimp only [goW])) | refine ct_ rfl ?_ | refine cf_ rfl ?_ | refine sk_ ?_ | refine ex_ ?_ | ((first | (refine W.ret ?_; (try simp only [zAl, zA3, zAf]); refine endW.of (.inl rfl) rfl ?_) | refine endW.of (.inr rfl) rfl ?_); generalize e : zAo _ _ _ = r; simp (disch := omega) [hd, hq, zAs hq, c13] at e; subst e; (try dsimp only [goW]); (refine hk _ _ a' to' _ _ _ nI nM nE ?_ ?_ hP ?_ ?_ ?_; omega; exact ut_; (focus ((first | exact .inl ⟨rfl, eI'⟩ | exact .inr ⟨_, _, rfl, eI'⟩); done)); (focus ((first | exact .inl ⟨rfl, eM'⟩ | exact .inr ⟨_, _, rfl, eM'⟩); done)); (focus ((first | exact .inl ⟨rfl, eE'⟩ | exact .inr ⟨_, _, rfl, eE'⟩); done)))))
theorem parse_ok (s : List UInt8) (l : List Tok) (hll : l.length < 100000) (LX : Pu tree.getF 12 [.str s] (.tup [.imm .none 4 (l.map tokV), .int .i64 0, .int .i64 0])) (U : List Tk3) (hst : l.map strip = [(1, [115, 121, 110, 116, 97, 120], 0), (4, [61], 0), (3, [112, 114, 111, 116, 111, 51], 0), (4, [59], 0)] ++ U) (P : Nat → Nat → Nat → Prop) (H : ∀ p d, HLp p d l 0 P) (h : CHeap) (hf : Fit h) (K : CVal → CHeap → Prop)
    (hk : ∀ n2 ty RI RM RE nI nM nE, h.next ≤ n2 → zAb ty n2 → P nI nM nE → LFz RI nI → LFz RM nM → LFz RE nE → K (.tup [.agg [.str [], RI, RM, RE], .int .i64 0, .int .i64 0]) ⟨h.ents, n2, ty⟩) : Wc tree.getF 6 [.str s] h K := by
 have hst0 : (l.drop 0).map strip = _ := hst
 obtain ⟨b0, hl0⟩ := zA9 (j := 0) hst0 rfl
 obtain ⟨b1, hl1⟩ := zA9 (j := 1) hst0 rfl
 obtain ⟨b2, hl2⟩ := zA9 (j := 2) hst0 rfl
 obtain ⟨b3, hl3⟩ := zA9 (j := 3) hst0 rfl
 rw [Nat.zero_add] at hl0 hl1 hl2 hl3
 obtain ⟨hu, hut, hX⟩ := fx4 hf
 refine Wc.mkG 6 c6 (by kernel_rfl) rfl ?_
 generalize e : zAa _ _ _ = r
 simp (disch := omega) [hX, c6] at e
 subst e
 repeat' (first | refine sq_ ?_ | refine bl_ ?_ | ((first | refine rg_ ?_ | refine go_ ?_); generalize e : goR _ _ _ _ _ _ _ _ = r; simp (disch := omega) [hX, zA5, zA6, zA4, c6] at e; replace e : some _ = _ := e; subst e; (try dsimp only [goW])) | refine ct_ rfl ?_ | refine cf_ rfl ?_ | refine sk_ ?_ | refine ex_ ?_ | (refine LX _ ?_ _ fun n1 tyn1 hn1 hun1 => ⟨rfl, ?_⟩; exact fit_; (try dsimp only at hn1)) | (refine file_G l hll b0 b1 b2 b3 hl0 hl1 hl2 hl3 0 P 0 _ _ _ (H _ _) ?_ ?_ ?_ _ fun n9 ty9 a9 to9 RI RM RE nI nM nE hn9 hun9 hP hRI hRM hRE => ⟨rfl, ?_⟩; exact fit_; (focus ((simp (disch := omega) [zA2]); done)); (try dsimp only); omega; (try dsimp only at hn9); (rcases hRI with ⟨rfl, eI'⟩ | ⟨kI, tI, rfl, eI'⟩ <;> rcases hRM with ⟨rfl, eM'⟩ | ⟨kM, tM, rfl, eM'⟩ <;> rcases hRE with ⟨rfl, eE'⟩ | ⟨kE, tE, rfl, eE'⟩)) | ((first | (refine W.ret ?_; (try simp only [zAl, zA3, zAf]); refine endW.of (.inl rfl) rfl ?_) | refine endW.of (.inr rfl) rfl ?_); generalize e : zAo _ _ _ = r; simp (disch := omega) [hX, zA5, zA6, zA4, c6] at e; subst e; (try dsimp only [goW]); (refine hk _ _ _ _ _ nI nM nE ?_ ?_ hP ?_ ?_ ?_; omega; exact ut_; (focus ((first | exact .inl ⟨rfl, eI'⟩ | exact .inr ⟨_, _, rfl, eI'⟩); done)); (focus ((first | exact .inl ⟨rfl, eM'⟩ | exact .inr ⟨_, _, rfl, eM'⟩); done)); (focus ((first | exact .inl ⟨rfl, eE'⟩ | exact .inr ⟨_, _, rfl, eE'⟩); done)))))
theorem parse_x (s : List UInt8) (l : List Tok) (hll : l.length < 100000) (LX : Pu tree.getF 12 [.str s] (.tup [.imm .none 4 (l.map tokV), .int .i64 0, .int .i64 0])) (U : List Tk3) (hst : l.map strip = [(1, [115, 121, 110, 116, 97, 120], 0), (4, [61], 0), (3, [112, 114, 111, 116, 111, 51], 0), (4, [59], 0)] ++ U) (P : Nat → Nat → Nat → Prop) (H : ∀ p d, HLp p d l 3 P) (h : CHeap) (hf : Fit h) (K : CVal → CHeap → Prop)
    (hk : ∀ n2 ty (to' : Int), h.next ≤ n2 → zAb ty n2 → K (.tup [.agg [.str [], .nils, .nils, .nils], .int .i64 3, .int .i64 to']) ⟨h.ents, n2, ty⟩) : Wc tree.getF 6 [.str s] h K := by
 have hst0 : (l.drop 0).map strip = _ := hst
 obtain ⟨b0, hl0⟩ := zA9 (j := 0) hst0 rfl
 obtain ⟨b1, hl1⟩ := zA9 (j := 1) hst0 rfl
 obtain ⟨b2, hl2⟩ := zA9 (j := 2) hst0 rfl
 obtain ⟨b3, hl3⟩ := zA9 (j := 3) hst0 rfl
 rw [Nat.zero_add] at hl0 hl1 hl2 hl3
 obtain ⟨hu, hut, hX⟩ := fx4 hf
 refine Wc.mkG 6 c6 (by kernel_rfl) rfl ?_
 generalize e : zAa _ _ _ = r
 simp (disch := omega) [hX, c6] at e
 subst e
 repeat' (first | refine sq_ ?_ | refine bl_ ?_ | ((first | refine rg_ ?_ | refine go_ ?_); generalize e : goR _ _ _ _ _ _ _ _ = r; simp (disch := omega) [hX, zA5, zA6, zA4, c6] at e; replace e : some _ = _ := e; subst e; (try dsimp only [goW])) | refine ct_ rfl ?_ | refine cf_ rfl ?_ | refine sk_ ?_ | refine ex_ ?_ | (refine LX _ ?_ _ fun n1 tyn1 hn1 hun1 => ⟨rfl, ?_⟩; exact fit_; (try dsimp only at hn1)) | (refine file_G l hll b0 b1 b2 b3 hl0 hl1 hl2 hl3 3 P 0 _ _ _ (H _ _) ?_ ?_ ?_ _ fun n9 ty9 a9 to9 RI RM RE nI nM nE hn9 hun9 hP hRI hRM hRE => ⟨rfl, ?_⟩; exact fit_; (focus ((simp (disch := omega) [zA2]); done)); (try dsimp only); omega; (try dsimp only at hn9); (rcases hRI with ⟨rfl, eI'⟩ | ⟨kI, tI, rfl, eI'⟩ <;> rcases hRM with ⟨rfl, eM'⟩ | ⟨kM, tM, rfl, eM'⟩ <;> rcases hRE with ⟨rfl, eE'⟩ | ⟨kE, tE, rfl, eE'⟩)) | ((first | (refine W.ret ?_; (try simp only [zAl, zA3, zAf]); refine endW.of (.inl rfl) rfl ?_) | refine endW.of (.inr rfl) rfl ?_); generalize e : zAo _ _ _ = r; simp (disch := omega) [hX, zA5, zA6, zA4, c6] at e; subst e; (try dsimp only [goW]); (refine hk _ _ to9 ?_ ?_; omega; exact ut_)))
abbrev NCok (p d : Nat) (l : List Tok) (a : Nat) (dp : Int) (a9 : Nat) : Prop := ∀ (to : Int) (h : CHeap), Fit h → zA2 h.ents p = some (pr l (a : Int) 0 to) → p < h.next → ∀ (K : CVal → CHeap → Prop), (∀ n2 ty nm R1, Rn R1 → h.next ≤ n2 → zAb ty n2 → K (.agg [.str nm, .nils, .nils, R1, .nils, .nils, .nils]) ⟨zA0 h.ents p (pr l (a9 : Int) 0 to), n2, ty⟩) → Wc tree.getF 28 [.ptr p d 0, .int .i64 dp] h K
abbrev NCx (p d : Nat) (l : List Tok) (a : Nat) (dp : Int) : Prop := ∀ (to : Int) (h : CHeap), Fit h → zA2 h.ents p = some (pr l (a : Int) 0 to) → p < h.next → ∀ (K : CVal → CHeap → Prop), (∀ n2 ty nm R1 (a' : Nat) (to' : Int), Rn R1 → h.next ≤ n2 → zAb ty n2 → K (.agg [.str nm, .nils, .nils, R1, .nils, .nils, .nils]) ⟨zA0 h.ents p (pr l (a' : Int) 3 to'), n2, ty⟩) → Wc tree.getF 28 [.ptr p d 0, .int .i64 dp] h K
theorem p_nest_ok (p d : Nat) (l : List Tok) (hll : l.length < 100000) (a : Nat) (nm : List UInt8) (b0 b1 b2 b3 : Nat) (hl0 : l[a + 0]? = some (1, [109, 101, 115, 115, 97, 103, 101], 0, b0)) (hl1 : l[a + 1]? = some (1, nm, 0, b1)) (hl2 : l[a + 2]? = some (4, [123], 0, b2)) (hl3 : l[a + 3]? = some (1, [109, 101, 115, 115, 97, 103, 101], 0, b3)) (hP : PlainOk nm) (dp : Int) (hdp : 0 ≤ dp ∧ dp < 20) (a9 : Nat) (hM : NCok p d l (a + 3) (dp + 1) a9) (b9 : Nat) (hl9 : l[a9]? = some (4, [125], 0, b9)) : NCok p d l a dp (a9 + 1) := by
 intro to h hf hg hp K hk
 obtain ⟨hu, hut, hX⟩ := fx4 hf
 have hZ := fx6 hf hg
 refine Wc.mkG 28 c28 (by kernel_rfl) rfl ?_
 generalize e : zAa _ _ _ = r
 simp (disch := omega) [hX, hZ, c28] at e
 subst e
 repeat' (first | refine sq_ ?_ | refine bl_ ?_ | ((first | refine rg_ ?_ | refine go_ ?_); generalize e : goR _ _ _ _ _ _ _ _ = r; simp (disch := omega) [hX, hZ, zA5, zA6, zA4, c39, c40, c28] at e; replace e : some _ = _ := e; subst e; (try dsimp only [goW])) | refine ct_ rfl ?_ | refine cf_ rfl ?_ | refine sk_ ?_ | refine ex_ ?_ | (refine W.loop ?_; try (generalize e : dropped _ _ _ = r; simp (disch := omega) [hX, hZ, zA5, zA6, zA4, c39, c40, c28] at e; subst e; try dsimp only)) | (refine p_next hl0 a 0 to fun _ _ g _ => ⟨rfl, ?_⟩; try dsimp only at g) | (refine p_plain hl1 (a + 1) 0 to hP rfl fun _ _ g _ => ⟨rfl, ?_⟩; try dsimp only at g) | (refine p_sign hl2 (a + 1 + 1) 0 to rfl fun _ _ g _ => ⟨rfl, ?_⟩; try dsimp only at g) | (refine pu_ (p_failsF p d _) fun _ _ g _ => ⟨rfl, ?_⟩; try dsimp only at g) | (refine zB7 hl3 (a + 1 + 1 + 1) 0 to rfl fun _ _ g _ => ⟨rfl, ?_⟩; try dsimp only at g) | (refine p_is hl3 (a + 1 + 1 + 1) 0 to true rfl fun _ _ g _ => ⟨rfl, ?_⟩; try dsimp only at g) | (refine pu_ (p_mostF p d _ (by omega)) fun _ _ g _ => ⟨rfl, ?_⟩; try dsimp only at g) | (refine hM to _ ?_ ?_ ?_ _ fun n40 ty40 nm2 R1 hR1 hn40 hun40 => ⟨rfl, ?_⟩; exact ft_; exact ge2_; exact lt_; (try dsimp only at hn40); (rcases hR1 with rfl | ⟨k1, rfl⟩)) | (refine p_takeT hl9 a9 0 to rfl fun _ _ g _ => ⟨rfl, ?_⟩; try dsimp only at g) | (simp only [thenW_exit, zAf, zAl, reduceIte]; (try simp only [zB1])) | (simp only [zB1]) | (refine Wc.mkG 39 c39 (by kernel_rfl) rfl ?_; generalize e : zAa _ _ _ = r; simp (disch := omega) [hX, hZ, zA5, zA6, zA4, c39, c40, c28] at e; subst e) | (refine Wc.mkG 40 c40 (by kernel_rfl) rfl ?_; generalize e : zAa _ _ _ = r; simp (disch := omega) [hX, hZ, zA5, zA6, zA4, c39, c40, c28] at e; subst e) | ((first | (refine W.ret ?_; (try simp only [zAl, zA3, zAf]); refine endW.of (.inl rfl) rfl ?_) | refine endW.of (.inr rfl) rfl ?_); generalize e : zAo _ _ _ = r; simp (disch := omega) [hX, hZ, zA5, zA6, zA4, c39, c40, c28] at e; subst e; (try dsimp only [goW]); (first | refine ⟨rfl, ?_⟩ | (refine hk _ _ _ _ ?_ ?_ ?_; (focus ((first | exact .inl rfl | exact .inr ⟨_, rfl⟩); done)); omega; exact ut_))))
theorem p_nest_x (p d : Nat) (l : List Tok) (hll : l.length < 100000) (a : Nat) (nm : List UInt8) (b0 b1 b2 b3 : Nat) (hl0 : l[a + 0]? = some (1, [109, 101, 115, 115, 97, 103, 101], 0, b0)) (hl1 : l[a + 1]? = some (1, nm, 0, b1)) (hl2 : l[a + 2]? = some (4, [123], 0, b2)) (hl3 : l[a + 3]? = some (1, [109, 101, 115, 115, 97, 103, 101], 0, b3)) (hP : PlainOk nm) (dp : Int) (hdp : 0 ≤ dp ∧ dp < 20) (hM : NCx p d l (a + 3) (dp + 1)) : NCx p d l a dp := by
 intro to h hf hg hp K hk
 obtain ⟨hu, hut, hX⟩ := fx4 hf
 have hZ := fx6 hf hg
 refine Wc.mkG 28 c28 (by kernel_rfl) rfl ?_
 generalize e : zAa _ _ _ = r
 simp (disch := omega) [hX, hZ, c28] at e
 subst e
 repeat' (first | refine sq_ ?_ | refine bl_ ?_ | ((first | refine rg_ ?_ | refine go_ ?_); generalize e : goR _ _ _ _ _ _ _ _ = r; simp (disch := omega) [hX, hZ, zA5, zA6, zA4, c39, c40, c28] at e; replace e : some _ = _ := e; subst e; (try dsimp only [goW])) | refine ct_ rfl ?_ | refine cf_ rfl ?_ | refine sk_ ?_ | refine ex_ ?_ | (refine W.loop ?_; try (generalize e : dropped _ _ _ = r; simp (disch := omega) [hX, hZ, zA5, zA6, zA4, c39, c40, c28] at e; subst e; try dsimp only)) | (refine p_next hl0 a 0 to fun _ _ g _ => ⟨rfl, ?_⟩; try dsimp only at g) | (refine p_plain hl1 (a + 1) 0 to hP rfl fun _ _ g _ => ⟨rfl, ?_⟩; try dsimp only at g) | (refine p_sign hl2 (a + 1 + 1) 0 to rfl fun _ _ g _ => ⟨rfl, ?_⟩; try dsimp only at g) | (refine pu_ (p_failsF p d _) fun _ _ g _ => ⟨rfl, ?_⟩; try dsimp only at g) | (refine zB7 hl3 (a + 1 + 1 + 1) 0 to rfl fun _ _ g _ => ⟨rfl, ?_⟩; try dsimp only at g) | (refine p_is hl3 (a + 1 + 1 + 1) 0 to true rfl fun _ _ g _ => ⟨rfl, ?_⟩; try dsimp only at g) | (refine pu_ (p_mostF p d _ (by omega)) fun _ _ g _ => ⟨rfl, ?_⟩; try dsimp only at g) | (refine hM to _ ?_ ?_ ?_ _ fun n40 ty40 nm2 R1 a' to' hR1 hn40 hun40 => ⟨rfl, ?_⟩; exact ft_; exact ge2_; exact lt_; (try dsimp only at hn40); (rcases hR1 with rfl | ⟨k1, rfl⟩)) | (simp only [thenW_exit, zAf, zAl, reduceIte]; (try simp only [zB1])) | (simp only [zB1]) | (refine Wc.mkG 39 c39 (by kernel_rfl) rfl ?_; generalize e : zAa _ _ _ = r; simp (disch := omega) [hX, hZ, zA5, zA6, zA4, c39, c40, c28] at e; subst e) | (refine Wc.mkG 40 c40 (by kernel_rfl) rfl ?_; generalize e : zAa _ _ _ = r; simp (disch := omega) [hX, hZ, zA5, zA6, zA4, c39, c40, c28] at e; subst e) | ((first | (refine W.ret ?_; (try simp only [zAl, zA3, zAf]); refine endW.of (.inl rfl) rfl ?_) | refine endW.of (.inr rfl) rfl ?_); generalize e : zAo _ _ _ = r; simp (disch := omega) [hX, hZ, zA5, zA6, zA4, c39, c40, c28] at e; subst e; (try dsimp only [goW]); (first | refine ⟨rfl, ?_⟩ | (refine hk _ _ _ _ a' to' ?_ ?_ ?_; (focus ((first | exact .inl rfl | exact .inr ⟨_, rfl⟩); done)); omega; exact ut_))))
theorem p_deep (p d : Nat) (l : List Tok) (hll : l.length < 100000) (a : Nat) (nm : List UInt8) (b0 b1 b2 : Nat) (hl0 : l[a + 0]? = some (1, [109, 101, 115, 115, 97, 103, 101], 0, b0)) (hl1 : l[a + 1]? = some (1, nm, 0, b1)) (hl2 : l[a + 2]? = some (4, [123], 0, b2)) (hP : PlainOk nm) : NCx p d l a 20 := by
 intro to h hf hg hp K hk
 obtain ⟨hu, hut, hX⟩ := fx4 hf
 have hZ := fx6 hf hg
 refine Wc.mkG 28 c28 (by kernel_rfl) rfl ?_
 generalize e : zAa _ _ _ = r
 simp (disch := omega) [hX, hZ, c28] at e
 subst e
 repeat (first | refine sq_ ?_ | refine bl_ ?_ | ((first | refine rg_ ?_ | refine go_ ?_); generalize e : goR _ _ _ _ _ _ _ _ = r; simp (disch := omega) [hX, hZ, zA5, zA6, zA4, c39, c28] at e; replace e : some _ = _ := e; subst e; (try dsimp only [goW])) | refine ct_ rfl ?_ | refine cf_ rfl ?_ | refine sk_ ?_ | refine ex_ ?_ | (refine W.loop ?_; try (generalize e : dropped _ _ _ = r; simp (disch := omega) [hX, hZ, zA5, zA6, zA4, c39, c28] at e; subst e; try dsimp only)) | (refine p_failsT hl0 a 0 to rfl fun _ _ g _ => ⟨rfl, ?_⟩; try dsimp only at g) | (refine p_next hl0 a 3 b0 fun _ _ g _ => ⟨rfl, ?_⟩; try dsimp only at g) | (refine p_plain hl1 (a + 1) 3 b0 hP rfl fun _ _ g _ => ⟨rfl, ?_⟩; try dsimp only at g) | (refine p_sign hl2 (a + 1 + 1) 3 b0 rfl fun _ _ g _ => ⟨rfl, ?_⟩; try dsimp only at g) | (simp only [thenW_exit, zAf, zAl, reduceIte]; (try simp only [zB1])) | (refine Wc.mkG 39 c39 (by kernel_rfl) rfl ?_; generalize e : zAa _ _ _ = r; simp (disch := omega) [hX, hZ, zA5, zA6, zA4, c39, c28] at e; subst e) | ((first | (refine W.ret ?_; (try simp only [zAl, zA3, zAf]); refine endW.of (.inl rfl) rfl ?_) | refine endW.of (.inr rfl) rfl ?_); generalize e : zAo _ _ _ = r; simp (disch := omega) [hX, hZ, zA5, zA6, zA4, c39, c28] at e; subst e; (try dsimp only [goW]); (first | refine ⟨rfl, ?_⟩ | (refine hk _ _ _ .nils (a + 3) (b0 : Int) ?_ ?_ ?_; (focus ((first | exact .inl rfl | exact .inr ⟨_, rfl⟩); done)); omega; exact ut_))))
end Go.Proofs.YtjecpdnjpggcoaaGreatDoor.IrM
