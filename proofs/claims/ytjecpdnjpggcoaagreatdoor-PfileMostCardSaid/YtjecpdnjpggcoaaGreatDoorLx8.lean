/- What the functions of the law 'PfileMost' do: part 8 of 8. -/
import Derived.Test.YtjecpdnjpggcoaaGreatDoorLx7
namespace Go.Proofs.YtjecpdnjpggcoaaGreatDoor.IrM
open Go Go.CI
open Go.LexF hiding spacesB lettersB
set_option maxRecDepth 100000
set_option maxHeartbeats 4000000
set_option linter.unusedVariables false
set_option linter.unusedSimpArgs false
attribute [local irreducible] W Wo Wc WoR
attribute [local simp] goR regOut checkOne swapOne sameAt nthOp CVal.beq beqs CVal.block storesTo zAa zAe zBg evalE evalP evalL zAy nth setNth COp.cls COp.isStore CVal.isUndef CVal.whole CVal.cells CHeap.put CHeap.get CHeap.set wantedC zA2 zA0 partOf zB9 evalBin evalInt evalStr zB8 initVar descOf List.take List.drop CVal.lenOf CVal.isStr CVal.bare CVal.strip CVal.flat zAo zBm zB6 finishC cut fillCells setCells szOf szOf_desc elems bytesOf evalAppend fillElems mkElem setElem List.replicate sy_nbeq sy_neqF sy_leT sy_leF zAj dropped sy_wrap64 zAx zAc zBb sy_ibeqF sy_ieqF sy_ileT sy_ileF sy_iltT sy_iltF sy_ltT sy_ltF zAg zA8 eqVal extL extE keyIs findKV nthKV setKV CHeap.ty lookupN CHeap.note CHeap.tyOk dropAll freezeVal freezeAll freezeFlat cellsEq cellEq zAk zAq pMakeNoZero zBi pClone pIndex hasPair rowOf byteVals idxFrom hasFront idxSub
theorem begins_i32  : Pu tree.getF 54 [.str [105, 110, 116, 51, 50]] (.bool false) := by
 intro h hf K hk
 obtain ⟨hu, hut, hX⟩ := fx4 hf
 refine Wc.mkG 54 c54 (by kernel_rfl) rfl ?_
 generalize e : zAa _ _ _ = r
 simp (disch := omega) [hX, zA5, zA6, zA4, c54] at e
 subst e
 repeat (first | refine sq_ ?_ | refine bl_ ?_ | ((first | refine rg_ ?_ | refine go_ ?_); generalize e : goR _ _ _ _ _ _ _ _ = r; simp (disch := omega) [hX, zA5, zA6, zA4, c71, c14, c54] at e; replace e : some _ = _ := e; subst e; (try dsimp only [goW])) | refine ct_ rfl ?_ | refine cf_ rfl ?_ | refine sk_ ?_ | refine ex_ ?_ | (refine W.loop ?_; try (generalize e : dropped _ _ _ = r; simp (disch := omega) [hX, zA5, zA6, zA4, c71, c14, c54] at e; subst e; try dsimp only)) | (refine Wc.mkG 71 c71 (by kernel_rfl) rfl ?_; generalize e : zAa _ _ _ = r; simp (disch := omega) [hX, zA5, zA6, zA4, c71, c14, c54] at e; subst e) | (refine Wc.mkG 14 c14 (by kernel_rfl) rfl ?_; generalize e : zAa _ _ _ = r; simp (disch := omega) [hX, zA5, zA6, zA4, c71, c14, c54] at e; subst e) | ((first | (refine W.ret ?_; (try simp only [zAl, zA3, zAf]); refine endW.of (.inl rfl) rfl ?_) | refine endW.of (.inr rfl) rfl ?_); generalize e : zAo _ _ _ = r; simp (disch := omega) [hX, zA5, zA6, zA4, c71, c14, c54] at e; subst e; (try dsimp only [goW]); (first | refine ⟨rfl, ?_⟩ | (refine hk _ _ ?_ ?_; omega; exact ut_))))
theorem p_oneof_n (p d q dq : Nat) (hpq : p ≠ q) (l : List Tok) (hll : l.length < 100000) (a : Nat) (to : Int) (nm : List UInt8) (h : CHeap) (hf : Fit h) (hg : zA2 h.ents p = some (pr l (a : Int) 0 to)) (hp : p < h.next) (hqn : q < h.next) (K : CVal → CHeap → Prop)  (hq : zA2 h.ents q = some (.cells [.str nm, .nils, .nils, .nils, .nils, .nils, .nils])) (b0 b1 b2 b3 b4 b5 b6 b7 b8 : Nat) (hl0 : l[a + 0]? = some (1, [111, 110, 101, 111, 102], 0, b0)) (hl1 : l[a + 1]? = some (1, [97], 0, b1)) (hl2 : l[a + 2]? = some (4, [123], 0, b2)) (hl3 : l[a + 3]? = some (1, [105, 110, 116, 51, 50], 0, b3)) (hl4 : l[a + 4]? = some (1, [98], 0, b4)) (hl5 : l[a + 5]? = some (4, [61], 0, b5)) (hl6 : l[a + 6]? = some (2, [], 1, b6)) (hl7 : l[a + 7]? = some (4, [59], 0, b7)) (hl8 : l[a + 8]? = some (4, [125], 0, b8))
    (hk : ∀ z1 z2 n' ty, h.next ≤ z1 → z1 < z2 → z2 < n' → zAb ty n' → K (.tup []) ⟨(z2, .tok 0) :: (z1, .tok 0) :: zA0 (zA0 h.ents p (pr l ((a : Int) + 1 + 1 + 1 + 1 + 1 + 1 + 1 + 1 + 1) 0 to)) q (.cells [.str nm, .imm (.own z2 0) 7 [.agg [.int .i64 0, .str [105, 110, 116, 51, 50], .str [], .str [98], .int .u64 ((1 : Nat) : Int), .int .i64 0, .int .i64 (1)]], .imm (.own z1 0) 1 [.str [97]], .nils, .nils, .nils, .nils]), n', ty⟩) : Wc tree.getF 41 [.ptr p d 0, .ptr q dq 0] h K := by
 obtain ⟨hu, hut, hX⟩ := fx4 hf
 have hZ := fxn hf hpq hg hq
 refine Wc.mkG 41 c41 (by kernel_rfl) rfl ?_
 generalize e : zAa _ _ _ = r
 simp (disch := omega) [hX, hZ, zA5, zA6, zA4, List.length_append, List.length_cons, List.length_nil, c41] at e
 subst e
 repeat (first | refine sq_ ?_ | refine bl_ ?_ | ((first | refine rg_ ?_ | refine go_ ?_); generalize e : goR _ _ _ _ _ _ _ _ = r; simp (disch := omega) [hX, hZ, zA5, zA6, zA4, List.length_append, List.length_cons, List.length_nil, c39, c53, c41] at e; replace e : some _ = _ := e; subst e; (try dsimp only [goW])) | refine ct_ rfl ?_ | refine cf_ rfl ?_ | refine sk_ ?_ | refine ex_ ?_ | (refine W.loop ?_; try (generalize e : dropped _ _ _ = r; simp (disch := omega) [hX, hZ, zA5, zA6, zA4, List.length_append, List.length_cons, List.length_nil, c39, c53, c41] at e; subst e; try dsimp only)) | (refine pu_ (p_mostF p d _ (by omega)) fun _ _ g _ => ⟨rfl, ?_⟩; try dsimp only at g) | (refine p_next hl0 a 0 to fun _ _ g _ => ⟨rfl, ?_⟩; try dsimp only at g) | (refine p_plain hl1 (a + 1) 0 to (zBc 97 (by decide)) rfl fun _ _ g _ => ⟨rfl, ?_⟩; try dsimp only at g) | (refine p_sign hl2 (a + 1 + 1) 0 to rfl fun _ _ g _ => ⟨rfl, ?_⟩; try dsimp only at g) | (refine p_is hl3 (a + 1 + 1 + 1) 0 to false rfl fun _ _ g _ => ⟨rfl, ?_⟩; try dsimp only at g) | (refine pu_ (p_failsF p d _) fun _ _ g _ => ⟨rfl, ?_⟩; try dsimp only at g) | (refine zB7 hl3 (a + 1 + 1 + 1) 0 to rfl fun _ _ g _ => ⟨rfl, ?_⟩; try dsimp only at g) | (refine p_word hl3 (a + 1 + 1 + 1) 0 to fun _ _ g _ => ⟨rfl, ?_⟩; try dsimp only at g) | (refine pu_ begins_i32 fun _ _ g _ => ⟨rfl, ?_⟩; try dsimp only at g) | (refine p_field hl3 hl4 hl5 hl6 hl7 0 to rfl rfl rfl (zBc 98 (by decide)) fun _ _ g _ => ⟨rfl, ?_⟩; try dsimp only at g) | (refine p_takeT hl8 (a + 1 + 1 + 1 + 1 + 1 + 1 + 1 + 1) 0 to rfl fun _ _ g _ => ⟨rfl, ?_⟩; try dsimp only at g) | (simp only [thenW_exit, zAf, zAl, reduceIte]; (try simp only [zB1])) | (refine Wc.mkG 39 c39 (by kernel_rfl) rfl ?_; generalize e : zAa _ _ _ = r; simp (disch := omega) [hX, hZ, zA5, zA6, zA4, List.length_append, List.length_cons, List.length_nil, c39, c53, c41] at e; subst e) | (refine Wc.mkG 53 c53 (by kernel_rfl) rfl ?_; generalize e : zAa _ _ _ = r; simp (disch := omega) [hX, hZ, zA5, zA6, zA4, List.length_append, List.length_cons, List.length_nil, c39, c53, c41] at e; subst e) | ((first | (refine W.ret ?_; (try simp only [zAl, zA3, zAf]); refine endW.of (.inl rfl) rfl ?_) | refine endW.of (.inr rfl) rfl ?_); generalize e : zAo _ _ _ = r; simp (disch := omega) [hX, hZ, zA5, zA6, zA4, List.length_append, List.length_cons, List.length_nil, c39, c53, c41] at e; subst e; (try dsimp only [goW]); (first | refine ⟨rfl, ?_⟩ | (refine hk _ _ _ _ ?_ ?_ ?_ ?_; omega; omega; omega; exact ut_))))
theorem p_oneof_o (p d q dq : Nat) (hpq : p ≠ q) (l : List Tok) (hll : l.length < 100000) (a : Nat) (to : Int) (nm : List UInt8) (h : CHeap) (hf : Fit h) (hg : zA2 h.ents p = some (pr l (a : Int) 0 to)) (hp : p < h.next) (hqn : q < h.next) (K : CVal → CHeap → Prop) (iq vq : Nat) (os : List CVal) (hti : zA2 h.ents iq = some (.tok vq)) (hip : iq ≠ p) (hiq : iq ≠ q) (hin : iq < h.next) (j1 v1 : Nat) (ts : List CVal) (htj : zA2 h.ents j1 = some (.tok v1)) (hjp : j1 ≠ p) (hjq : j1 ≠ q) (hij : j1 ≠ iq) (hjn : j1 < h.next) (hos : os.length < 30) (hts : ts.length < 30) (hq : zA2 h.ents q = some (.cells [.str nm, .imm (.own j1 v1) 7 ts, .imm (.own iq vq) 1 os, .nils, .nils, .nils, .nils])) (b0 b1 b2 b3 b4 b5 b6 b7 b8 : Nat) (hl0 : l[a + 0]? = some (1, [111, 110, 101, 111, 102], 0, b0)) (hl1 : l[a + 1]? = some (1, [97], 0, b1)) (hl2 : l[a + 2]? = some (4, [123], 0, b2)) (hl3 : l[a + 3]? = some (1, [105, 110, 116, 51, 50], 0, b3)) (hl4 : l[a + 4]? = some (1, [98], 0, b4)) (hl5 : l[a + 5]? = some (4, [61], 0, b5)) (hl6 : l[a + 6]? = some (2, [], 1, b6)) (hl7 : l[a + 7]? = some (4, [59], 0, b7)) (hl8 : l[a + 8]? = some (4, [125], 0, b8))
    (hk : ∀ n' ty, h.next ≤ n' → zAb ty n' → K (.tup []) ⟨zA0 (zA0 (zA0 (zA0 h.ents p (pr l ((a : Int) + 1 + 1 + 1 + 1 + 1 + 1 + 1 + 1 + 1) 0 to)) iq (.tok (vq + 1))) j1 (.tok (v1 + 1))) q (.cells [.str nm, .imm (.own j1 (v1 + 1)) 7 (ts ++ [.agg [.int .i64 0, .str [105, 110, 116, 51, 50], .str [], .str [98], .int .u64 ((1 : Nat) : Int), .int .i64 0, .int .i64 ((os.length : Int) + 1)]]), .imm (.own iq (vq + 1)) 1 (os ++ [.str [97]]), .nils, .nils, .nils, .nils]), n', ty⟩) : Wc tree.getF 41 [.ptr p d 0, .ptr q dq 0] h K := by
 obtain ⟨hu, hut, hX⟩ := fx4 hf
 have hZ := fxj hf hpq hg hq hti hip hiq htj hjp hjq hij
 refine Wc.mkG 41 c41 (by kernel_rfl) rfl ?_
 generalize e : zAa _ _ _ = r
 simp (disch := omega) [hX, hZ, zA5, zA6, zA4, zAd, List.length_append, List.length_cons, List.length_nil, c41] at e
 subst e
 repeat (first | refine sq_ ?_ | refine bl_ ?_ | ((first | refine rg_ ?_ | refine go_ ?_); generalize e : goR _ _ _ _ _ _ _ _ = r; simp (disch := omega) [hX, hZ, zA5, zA6, zA4, zAd, List.length_append, List.length_cons, List.length_nil, c39, c53, c41] at e; replace e : some _ = _ := e; subst e; (try dsimp only [goW])) | refine ct_ rfl ?_ | refine cf_ rfl ?_ | refine sk_ ?_ | refine ex_ ?_ | (refine W.loop ?_; try (generalize e : dropped _ _ _ = r; simp (disch := omega) [hX, hZ, zA5, zA6, zA4, zAd, List.length_append, List.length_cons, List.length_nil, c39, c53, c41] at e; subst e; try dsimp only)) | (refine pu_ (p_mostF p d _ (by omega)) fun _ _ g _ => ⟨rfl, ?_⟩; try dsimp only at g) | (refine p_next hl0 a 0 to fun _ _ g _ => ⟨rfl, ?_⟩; try dsimp only at g) | (refine p_plain hl1 (a + 1) 0 to (zBc 97 (by decide)) rfl fun _ _ g _ => ⟨rfl, ?_⟩; try dsimp only at g) | (refine p_sign hl2 (a + 1 + 1) 0 to rfl fun _ _ g _ => ⟨rfl, ?_⟩; try dsimp only at g) | (refine p_is hl3 (a + 1 + 1 + 1) 0 to false rfl fun _ _ g _ => ⟨rfl, ?_⟩; try dsimp only at g) | (refine pu_ (p_failsF p d _) fun _ _ g _ => ⟨rfl, ?_⟩; try dsimp only at g) | (refine zB7 hl3 (a + 1 + 1 + 1) 0 to rfl fun _ _ g _ => ⟨rfl, ?_⟩; try dsimp only at g) | (refine p_word hl3 (a + 1 + 1 + 1) 0 to fun _ _ g _ => ⟨rfl, ?_⟩; try dsimp only at g) | (refine pu_ begins_i32 fun _ _ g _ => ⟨rfl, ?_⟩; try dsimp only at g) | (refine p_field hl3 hl4 hl5 hl6 hl7 0 to rfl rfl rfl (zBc 98 (by decide)) fun _ _ g _ => ⟨rfl, ?_⟩; try dsimp only at g) | (refine p_takeT hl8 (a + 1 + 1 + 1 + 1 + 1 + 1 + 1 + 1) 0 to rfl fun _ _ g _ => ⟨rfl, ?_⟩; try dsimp only at g) | (simp only [thenW_exit, zAf, zAl, reduceIte]; (try simp only [zB1])) | (refine Wc.mkG 39 c39 (by kernel_rfl) rfl ?_; generalize e : zAa _ _ _ = r; simp (disch := omega) [hX, hZ, zA5, zA6, zA4, zAd, List.length_append, List.length_cons, List.length_nil, c39, c53, c41] at e; subst e) | (refine Wc.mkG 53 c53 (by kernel_rfl) rfl ?_; generalize e : zAa _ _ _ = r; simp (disch := omega) [hX, hZ, zA5, zA6, zA4, zAd, List.length_append, List.length_cons, List.length_nil, c39, c53, c41] at e; subst e) | ((first | (refine W.ret ?_; (try simp only [zAl, zA3, zAf]); refine endW.of (.inl rfl) rfl ?_) | refine endW.of (.inr rfl) rfl ?_); generalize e : zAo _ _ _ = r; simp (disch := omega) [hX, hZ, zA5, zA6, zA4, zAd, List.length_append, List.length_cons, List.length_nil, c39, c53, c41] at e; subst e; (try dsimp only [goW]); (first | refine ⟨rfl, ?_⟩ | (refine hk _ _ ?_ ?_; omega; exact ut_))))
theorem p_oneof_X (p d q dq : Nat) (hpq : p ≠ q) (l : List Tok) (hll : l.length < 100000) (a : Nat) (to : Int) (nm : List UInt8) (h : CHeap) (hf : Fit h) (hg : zA2 h.ents p = some (pr l (a : Int) 0 to)) (hp : p < h.next) (hqn : q < h.next) (K : CVal → CHeap → Prop) (iq vq : Nat) (os : List CVal) (hti : zA2 h.ents iq = some (.tok vq)) (hip : iq ≠ p) (hiq : iq ≠ q) (hin : iq < h.next) (j1 v1 : Nat) (ts : List CVal) (htj : zA2 h.ents j1 = some (.tok v1)) (hjp : j1 ≠ p) (hjq : j1 ≠ q) (hij : j1 ≠ iq) (hjn : j1 < h.next) (hos : os.length = 30) (hq : zA2 h.ents q = some (.cells [.str nm, .imm (.own j1 v1) 7 ts, .imm (.own iq vq) 1 os, .nils, .nils, .nils, .nils])) (b0 b1 b2 b3 : Nat) (hl0 : l[a + 0]? = some (1, [111, 110, 101, 111, 102], 0, b0)) (hl1 : l[a + 1]? = some (1, [97], 0, b1)) (hl2 : l[a + 2]? = some (4, [123], 0, b2)) (hl3 : l[a + 3]? = some (1, [105, 110, 116, 51, 50], 0, b3))
    (hk : ∀ n' ty, h.next ≤ n' → zAb ty n' → K (.tup []) ⟨zA0 (zA0 (zA0 h.ents p (pr l ((a : Int) + 1 + 1 + 1) 3 (b0 : Int))) iq (.tok (vq + 1))) q (.cells [.str nm, .imm (.own j1 v1) 7 ts, .imm (.own iq (vq + 1)) 1 (os ++ [.str [97]]), .nils, .nils, .nils, .nils]), n', ty⟩) : Wc tree.getF 41 [.ptr p d 0, .ptr q dq 0] h K := by
 obtain ⟨hu, hut, hX⟩ := fx4 hf
 have hZ := fxj hf hpq hg hq hti hip hiq htj hjp hjq hij
 refine Wc.mkG 41 c41 (by kernel_rfl) rfl ?_
 generalize e : zAa _ _ _ = r
 simp (disch := omega) [hX, hZ, zA5, zA6, zA4, zAd, List.length_append, List.length_cons, List.length_nil, c41] at e
 subst e
 repeat (first | refine sq_ ?_ | refine bl_ ?_ | ((first | refine rg_ ?_ | refine go_ ?_); generalize e : goR _ _ _ _ _ _ _ _ = r; simp (disch := omega) [hX, hZ, zA5, zA6, zA4, zAd, List.length_append, List.length_cons, List.length_nil, c39, c53, c41] at e; replace e : some _ = _ := e; subst e; (try dsimp only [goW])) | refine ct_ rfl ?_ | refine cf_ rfl ?_ | refine sk_ ?_ | refine ex_ ?_ | (refine W.loop ?_; try (generalize e : dropped _ _ _ = r; simp (disch := omega) [hX, hZ, zA5, zA6, zA4, zAd, List.length_append, List.length_cons, List.length_nil, c39, c53, c41] at e; subst e; try dsimp only)) | (refine p_mostT hl0 a to (by omega) fun _ _ g _ => ⟨rfl, ?_⟩; try dsimp only at g) | (refine p_next hl0 a 3 b0 fun _ _ g _ => ⟨rfl, ?_⟩; try dsimp only at g) | (refine p_plain hl1 (a + 1) 3 b0 (zBc 97 (by decide)) rfl fun _ _ g _ => ⟨rfl, ?_⟩; try dsimp only at g) | (refine p_sign hl2 (a + 1 + 1) 3 b0 rfl fun _ _ g _ => ⟨rfl, ?_⟩; try dsimp only at g) | (refine p_is hl3 (a + 1 + 1 + 1) 3 b0 false rfl fun _ _ g _ => ⟨rfl, ?_⟩; try dsimp only at g) | (refine pu_ (p_failsF p d _) fun _ _ g _ => ⟨rfl, ?_⟩; try dsimp only at g) | (simp only [thenW_exit, zAf, zAl, reduceIte]; (try simp only [zB1])) | (refine Wc.mkG 39 c39 (by kernel_rfl) rfl ?_; generalize e : zAa _ _ _ = r; simp (disch := omega) [hX, hZ, zA5, zA6, zA4, zAd, List.length_append, List.length_cons, List.length_nil, c39, c53, c41] at e; subst e) | (refine Wc.mkG 53 c53 (by kernel_rfl) rfl ?_; generalize e : zAa _ _ _ = r; simp (disch := omega) [hX, hZ, zA5, zA6, zA4, zAd, List.length_append, List.length_cons, List.length_nil, c39, c53, c41] at e; subst e) | ((first | (refine W.ret ?_; (try simp only [zAl, zA3, zAf]); refine endW.of (.inl rfl) rfl ?_) | refine endW.of (.inr rfl) rfl ?_); generalize e : zAo _ _ _ = r; simp (disch := omega) [hX, hZ, zA5, zA6, zA4, zAd, List.length_append, List.length_cons, List.length_nil, c39, c53, c41] at e; subst e; (try dsimp only [goW]); (first | refine ⟨rfl, ?_⟩ | (refine hk _ _ ?_ ?_; omega; exact ut_))))
theorem el_one_n (p d q dq rb d1 db d2 : Nat) (hpq : p ≠ q) (hrp : rb ≠ p) (l : List Tok) (hll : l.length < 100000) (a : Nat) (to : Int) (nm : List UInt8) (Q : CExit → CSt → Prop) (v2 : CVal) (h : CHeap) (hf : Fit h) (hg : zA2 h.ents p = some (pr l (a : Int) 0 to)) (hp : p < h.next) (hqn : q < h.next) (hrb : zA2 h.ents rb = some (.cells [.ptr p d 0]))  (hq : zA2 h.ents q = some (.cells [.str nm, .nils, .nils, .nils, .nils, .nils, .nils])) (b0 b1 b2 b3 b4 b5 b6 b7 b8 : Nat) (hl0 : l[a + 0]? = some (1, [111, 110, 101, 111, 102], 0, b0)) (hl1 : l[a + 1]? = some (1, [97], 0, b1)) (hl2 : l[a + 2]? = some (4, [123], 0, b2)) (hl3 : l[a + 3]? = some (1, [105, 110, 116, 51, 50], 0, b3)) (hl4 : l[a + 4]? = some (1, [98], 0, b4)) (hl5 : l[a + 5]? = some (4, [61], 0, b5)) (hl6 : l[a + 6]? = some (2, [], 1, b6)) (hl7 : l[a + 7]? = some (4, [59], 0, b7)) (hl8 : l[a + 8]? = some (4, [125], 0, b8))
    (hk : ∀ z1 z2 n' ty w, h.next ≤ z1 → z1 < z2 → z2 < n' → zAb ty n' → W tree.getF endsLoop ⟨[.ptr p d 0, .str [125], w, cloM rb d1 q dq db d2], ⟨(z2, .tok 0) :: (z1, .tok 0) :: zA0 (zA0 h.ents p (pr l ((a : Int) + 1 + 1 + 1 + 1 + 1 + 1 + 1 + 1 + 1) 0 to)) q (.cells [.str nm, .imm (.own z2 0) 7 [.agg [.int .i64 0, .str [105, 110, 116, 51, 50], .str [], .str [98], .int .u64 ((1 : Nat) : Int), .int .i64 0, .int .i64 (1)]], .imm (.own z1 0) 1 [.str [97]], .nils, .nils, .nils, .nils]), n', ty⟩, []⟩ Q) : W tree.getF endsLoop ⟨[.ptr p d 0, .str [125], v2, cloM rb d1 q dq db d2], h, []⟩ Q := by
 obtain ⟨hu, hut, hX⟩ := fx4 hf
 have hZ := fxn hf hpq hg hq
 have ⟨hrb2, hrn⟩ := fxr hf hrp hrb
 refine W.loop ?_
 repeat (first | refine sq_ ?_ | refine bl_ ?_ | ((first | refine rg_ ?_ | refine go_ ?_); generalize e : goR _ _ _ _ _ _ _ _ = r; simp (disch := omega) [hX, hZ, zA5, zA6, zA4, hrb, hrb2, List.length_append, List.length_cons, List.length_nil, c40] at e; replace e : some _ = _ := e; subst e; (try dsimp only [goW])) | refine ct_ rfl ?_ | refine cf_ rfl ?_ | refine sk_ ?_ | refine ex_ ?_ | (refine zB7 hl0 a 0 to rfl fun _ _ g _ => ⟨rfl, ?_⟩; try dsimp only at g) | (refine zB7 hl0 a 0 to rfl fun _ _ g _ => ⟨rfl, ?_⟩; try dsimp only at g) | (refine p_is hl0 a 0 to false rfl fun _ _ g _ => ⟨rfl, ?_⟩; try dsimp only at g) | (refine p_is hl0 a 0 to false rfl fun _ _ g _ => ⟨rfl, ?_⟩; try dsimp only at g) | (refine p_is hl0 a 0 to true rfl fun _ _ g _ => ⟨rfl, ?_⟩; try dsimp only at g) | (refine p_oneof_n p d q dq hpq l hll a to nm _ ?_ ?_ ?_ ?_ _  ?_ b0 b1 b2 b3 b4 b5 b6 b7 b8 hl0 hl1 hl2 hl3 hl4 hl5 hl6 hl7 hl8 fun z1 z2 n40 ty40 hz1 hz2 hn40 hun40 => ⟨rfl, ?_⟩; exact ft_; exact ge2_; exact lt_; exact lt_; exact ge2_; (try dsimp only at hn40); (try dsimp only at hz1)) | (refine Wc.mkG 40 c40 (by kernel_rfl) rfl ?_; generalize e : zAa _ _ _ = r; simp (disch := omega) [hX, hZ, zA5, zA6, zA4, hrb, hrb2, List.length_append, List.length_cons, List.length_nil, c40] at e; subst e) | ((first | (refine W.ret ?_; (try simp only [zAl, zA3, zAf]); refine endW.of (.inl rfl) rfl ?_) | refine endW.of (.inr rfl) rfl ?_); generalize e : zAo _ _ _ = r; simp (disch := omega) [hX, hZ, zA5, zA6, zA4, hrb, hrb2, List.length_append, List.length_cons, List.length_nil, c40] at e; subst e; (try dsimp only [goW]); refine ⟨rfl, ?_⟩))
 show W tree.getF endsLoop (dropped true _ _) Q
 generalize e : dropped _ _ _ = r0
 simp (disch := omega) [hX, hZ, zA5, zA6, zA4, hrb, hrb2, List.length_append, List.length_cons, List.length_nil] at e
 subst e
 try dsimp only
 refine hk z1 z2 _ _ _ ?_ ?_ ?_ ?_
 · (try dsimp only); omega
 · (try dsimp only); omega
 · (try dsimp only); omega
 · exact ut_
theorem el_one_o (p d q dq rb d1 db d2 : Nat) (hpq : p ≠ q) (hrp : rb ≠ p) (l : List Tok) (hll : l.length < 100000) (a : Nat) (to : Int) (nm : List UInt8) (Q : CExit → CSt → Prop) (v2 : CVal) (h : CHeap) (hf : Fit h) (hg : zA2 h.ents p = some (pr l (a : Int) 0 to)) (hp : p < h.next) (hqn : q < h.next) (hrb : zA2 h.ents rb = some (.cells [.ptr p d 0])) (iq vq : Nat) (os : List CVal) (hti : zA2 h.ents iq = some (.tok vq)) (hip : iq ≠ p) (hiq : iq ≠ q) (hin : iq < h.next) (j1 v1 : Nat) (ts : List CVal) (htj : zA2 h.ents j1 = some (.tok v1)) (hjp : j1 ≠ p) (hjq : j1 ≠ q) (hij : j1 ≠ iq) (hjn : j1 < h.next) (hos : os.length < 30) (hts : ts.length < 30) (hq : zA2 h.ents q = some (.cells [.str nm, .imm (.own j1 v1) 7 ts, .imm (.own iq vq) 1 os, .nils, .nils, .nils, .nils])) (b0 b1 b2 b3 b4 b5 b6 b7 b8 : Nat) (hl0 : l[a + 0]? = some (1, [111, 110, 101, 111, 102], 0, b0)) (hl1 : l[a + 1]? = some (1, [97], 0, b1)) (hl2 : l[a + 2]? = some (4, [123], 0, b2)) (hl3 : l[a + 3]? = some (1, [105, 110, 116, 51, 50], 0, b3)) (hl4 : l[a + 4]? = some (1, [98], 0, b4)) (hl5 : l[a + 5]? = some (4, [61], 0, b5)) (hl6 : l[a + 6]? = some (2, [], 1, b6)) (hl7 : l[a + 7]? = some (4, [59], 0, b7)) (hl8 : l[a + 8]? = some (4, [125], 0, b8))
    (hk : ∀ n' ty w, h.next ≤ n' → zAb ty n' → W tree.getF endsLoop ⟨[.ptr p d 0, .str [125], w, cloM rb d1 q dq db d2], ⟨zA0 (zA0 (zA0 (zA0 h.ents p (pr l ((a : Int) + 1 + 1 + 1 + 1 + 1 + 1 + 1 + 1 + 1) 0 to)) iq (.tok (vq + 1))) j1 (.tok (v1 + 1))) q (.cells [.str nm, .imm (.own j1 (v1 + 1)) 7 (ts ++ [.agg [.int .i64 0, .str [105, 110, 116, 51, 50], .str [], .str [98], .int .u64 ((1 : Nat) : Int), .int .i64 0, .int .i64 ((os.length : Int) + 1)]]), .imm (.own iq (vq + 1)) 1 (os ++ [.str [97]]), .nils, .nils, .nils, .nils]), n', ty⟩, []⟩ Q) : W tree.getF endsLoop ⟨[.ptr p d 0, .str [125], v2, cloM rb d1 q dq db d2], h, []⟩ Q := by
 obtain ⟨hu, hut, hX⟩ := fx4 hf
 have hZ := fxj hf hpq hg hq hti hip hiq htj hjp hjq hij
 have ⟨hrb2, hrn⟩ := fxr hf hrp hrb
 refine W.loop ?_
 repeat (first | refine sq_ ?_ | refine bl_ ?_ | ((first | refine rg_ ?_ | refine go_ ?_); generalize e : goR _ _ _ _ _ _ _ _ = r; simp (disch := omega) [hX, hZ, zA5, zA6, zA4, hrb, hrb2, zAd, List.length_append, List.length_cons, List.length_nil, c40] at e; replace e : some _ = _ := e; subst e; (try dsimp only [goW])) | refine ct_ rfl ?_ | refine cf_ rfl ?_ | refine sk_ ?_ | refine ex_ ?_ | (refine zB7 hl0 a 0 to rfl fun _ _ g _ => ⟨rfl, ?_⟩; try dsimp only at g) | (refine zB7 hl0 a 0 to rfl fun _ _ g _ => ⟨rfl, ?_⟩; try dsimp only at g) | (refine p_is hl0 a 0 to false rfl fun _ _ g _ => ⟨rfl, ?_⟩; try dsimp only at g) | (refine p_is hl0 a 0 to false rfl fun _ _ g _ => ⟨rfl, ?_⟩; try dsimp only at g) | (refine p_is hl0 a 0 to true rfl fun _ _ g _ => ⟨rfl, ?_⟩; try dsimp only at g) | (refine p_oneof_o p d q dq hpq l hll a to nm _ ?_ ?_ ?_ ?_ _ iq vq os ?_ hip hiq ?_ j1 v1 ts ?_ hjp hjq hij ?_ hos hts ?_ b0 b1 b2 b3 b4 b5 b6 b7 b8 hl0 hl1 hl2 hl3 hl4 hl5 hl6 hl7 hl8 fun n40 ty40 hn40 hun40 => ⟨rfl, ?_⟩; exact ft_; exact ge2_; exact lt_; exact lt_; exact ge2_; exact lt_; exact ge2_; exact lt_; exact ge2_; (try dsimp only at hn40)) | (refine Wc.mkG 40 c40 (by kernel_rfl) rfl ?_; generalize e : zAa _ _ _ = r; simp (disch := omega) [hX, hZ, zA5, zA6, zA4, hrb, hrb2, zAd, List.length_append, List.length_cons, List.length_nil, c40] at e; subst e) | ((first | (refine W.ret ?_; (try simp only [zAl, zA3, zAf]); refine endW.of (.inl rfl) rfl ?_) | refine endW.of (.inr rfl) rfl ?_); generalize e : zAo _ _ _ = r; simp (disch := omega) [hX, hZ, zA5, zA6, zA4, hrb, hrb2, zAd, List.length_append, List.length_cons, List.length_nil, c40] at e; subst e; (try dsimp only [goW]); refine ⟨rfl, ?_⟩))
 show W tree.getF endsLoop (dropped true _ _) Q
 generalize e : dropped _ _ _ = r0
 simp (disch := omega) [hX, hZ, zA5, zA6, zA4, hrb, hrb2, zAd, List.length_append, List.length_cons, List.length_nil] at e
 subst e
 try dsimp only
 refine hk _ _ _ ?_ ?_
 · (try dsimp only); omega
 · exact ut_
theorem el_one_X (p d q dq rb d1 db d2 : Nat) (hpq : p ≠ q) (hrp : rb ≠ p) (l : List Tok) (hll : l.length < 100000) (a : Nat) (to : Int) (nm : List UInt8) (Q : CExit → CSt → Prop) (v2 : CVal) (h : CHeap) (hf : Fit h) (hg : zA2 h.ents p = some (pr l (a : Int) 0 to)) (hp : p < h.next) (hqn : q < h.next) (hrb : zA2 h.ents rb = some (.cells [.ptr p d 0])) (iq vq : Nat) (os : List CVal) (hti : zA2 h.ents iq = some (.tok vq)) (hip : iq ≠ p) (hiq : iq ≠ q) (hin : iq < h.next) (j1 v1 : Nat) (ts : List CVal) (htj : zA2 h.ents j1 = some (.tok v1)) (hjp : j1 ≠ p) (hjq : j1 ≠ q) (hij : j1 ≠ iq) (hjn : j1 < h.next) (hos : os.length = 30) (hq : zA2 h.ents q = some (.cells [.str nm, .imm (.own j1 v1) 7 ts, .imm (.own iq vq) 1 os, .nils, .nils, .nils, .nils])) (b0 b1 b2 b3 : Nat) (hl0 : l[a + 0]? = some (1, [111, 110, 101, 111, 102], 0, b0)) (hl1 : l[a + 1]? = some (1, [97], 0, b1)) (hl2 : l[a + 2]? = some (4, [123], 0, b2)) (hl3 : l[a + 3]? = some (1, [105, 110, 116, 51, 50], 0, b3))
    (hk : ∀ n' ty w, h.next ≤ n' → zAb ty n' → Q (.exit 0) ⟨[.ptr p d 0, .str [125], w, cloM rb d1 q dq db d2], ⟨zA0 (zA0 (zA0 h.ents p (pr l ((a : Int) + 1 + 1 + 1) 3 (b0 : Int))) iq (.tok (vq + 1))) q (.cells [.str nm, .imm (.own j1 v1) 7 ts, .imm (.own iq (vq + 1)) 1 (os ++ [.str [97]]), .nils, .nils, .nils, .nils]), n', ty⟩, []⟩) : W tree.getF endsLoop ⟨[.ptr p d 0, .str [125], v2, cloM rb d1 q dq db d2], h, []⟩ Q := by
 obtain ⟨hu, hut, hX⟩ := fx4 hf
 have hZ := fxj hf hpq hg hq hti hip hiq htj hjp hjq hij
 have ⟨hrb2, hrn⟩ := fxr hf hrp hrb
 refine W.loop ?_
 repeat (first | refine sq_ ?_ | refine bl_ ?_ | ((first | refine rg_ ?_ | refine go_ ?_); generalize e : goR _ _ _ _ _ _ _ _ = r; simp (disch := omega) [hX, hZ, zA5, zA6, zA4, hrb, hrb2, zAd, List.length_append, List.length_cons, List.length_nil, c40] at e; replace e : some _ = _ := e; subst e; (try dsimp only [goW])) | refine ct_ rfl ?_ | refine cf_ rfl ?_ | refine sk_ ?_ | refine ex_ ?_ | (refine W.loop ?_; try (generalize e : dropped _ _ _ = r; simp (disch := omega) [hX, hZ, zA5, zA6, zA4, hrb, hrb2, zAd, List.length_append, List.length_cons, List.length_nil, c40] at e; subst e; try dsimp only)) | (refine zB7 hl0 a 0 to rfl fun _ _ g _ => ⟨rfl, ?_⟩; try dsimp only at g) | (refine zB7 hl0 a 0 to rfl fun _ _ g _ => ⟨rfl, ?_⟩; try dsimp only at g) | (refine p_is hl0 a 0 to false rfl fun _ _ g _ => ⟨rfl, ?_⟩; try dsimp only at g) | (refine p_is hl0 a 0 to false rfl fun _ _ g _ => ⟨rfl, ?_⟩; try dsimp only at g) | (refine p_is hl0 a 0 to true rfl fun _ _ g _ => ⟨rfl, ?_⟩; try dsimp only at g) | (refine p_oneof_X p d q dq hpq l hll a to nm _ ?_ ?_ ?_ ?_ _ iq vq os ?_ hip hiq ?_ j1 v1 ts ?_ hjp hjq hij ?_ hos ?_ b0 b1 b2 b3 hl0 hl1 hl2 hl3 fun n40 ty40 hn40 hun40 => ⟨rfl, ?_⟩; exact ft_; exact ge2_; exact lt_; exact lt_; exact ge2_; exact lt_; exact ge2_; exact lt_; exact ge2_; (try dsimp only at hn40)) | (simp only [thenW_exit, zAf, zAl, reduceIte]; (try simp only [zB1])) | (refine Wc.mkG 40 c40 (by kernel_rfl) rfl ?_; generalize e : zAa _ _ _ = r; simp (disch := omega) [hX, hZ, zA5, zA6, zA4, hrb, hrb2, zAd, List.length_append, List.length_cons, List.length_nil, c40] at e; subst e) | ((first | (refine W.ret ?_; (try simp only [zAl, zA3, zAf]); refine endW.of (.inl rfl) rfl ?_) | refine endW.of (.inr rfl) rfl ?_); generalize e : zAo _ _ _ = r; simp (disch := omega) [hX, hZ, zA5, zA6, zA4, hrb, hrb2, zAd, List.length_append, List.length_cons, List.length_nil, c40] at e; subst e; (try dsimp only [goW]); refine ⟨rfl, ?_⟩))
 all_goals ((try simp only [zAl, zA3, zAf]); refine hk _ _ _ ?_ ?_; (try dsimp only); omega; exact ut_)
structure S2 (n0 m0 : Nat) (E0 RO : List (Nat × CObj)) (p q : Nat) (l : List Tok) (a : Nat) (e to : Int) (nm : List UInt8) (j jo : Nat) (F O : CVal) (h : CHeap) : Prop where
 g : zA2 h.ents p = some (pr l (a : Int) e to)
 gq : zA2 h.ents q = some (.cells [.str nm, F, O, .nils, .nils, .nils, .nils])
 s : F = .nils ∧ O = .nils ∧ j = 0 ∧ jo = 0 ∨ ∃ i2 v2 os i1 v1 ts, F = .imm (.own i1 v1) 7 ts ∧ O = .imm (.own i2 v2) 1 os ∧ ts.length = j ∧ os.length = jo ∧ 0 < jo ∧ zA2 h.ents i2 = some (.tok v2) ∧ i2 ≠ p ∧ i2 ≠ q ∧ m0 ≤ i2 ∧ i2 < h.next ∧ zA2 h.ents i1 = some (.tok v1) ∧ i1 ≠ p ∧ i1 ≠ q ∧ i1 ≠ i2 ∧ m0 ≤ i1 ∧ i1 < h.next
 ro : Ro m0 p q RO h
 d : Over n0 (zA0 E0 p (pr l (a : Int) e to)) h.ents
 tt : TokTop m0 h.ents
 np : p < n0
 nq : n0 ≤ q
 nm' : n0 ≤ m0
 mh : m0 ≤ h.next
 qm : q < m0
 lp : p < h.next
 lq : q < h.next
 pq : p ≠ q
 f : Fit h
theorem S2.nil {n0 m0 : Nat} {E0 RO : List (Nat × CObj)} {p q : Nat} {l : List Tok} {a a' : Nat} {e to e' to' : Int} {nm : List UInt8} {h : CHeap} {n' : Nat} {ty : List (Nat × Nat)} {b : Int} {z1 z2 : Nat} {x y : CVal} {F O : CVal} (S : S2 n0 m0 E0 RO p q l a e to nm 0 0 F O h) (hb : b = (a' : Int)) (hz : h.next ≤ z1) (hz2 : z1 < z2) (hn : z2 < n') (ht : zAb ty n') :
    S2 n0 m0 E0 RO p q l a' e' to' nm 1 1 (.imm (.own z2 0) 7 [x]) (.imm (.own z1 0) 1 [y]) ⟨(z2, .tok 0) :: (z1, .tok 0) :: zA0 (zA0 h.ents p (pr l b e' to')) q (.cells [.str nm, .imm (.own z2 0) 7 [x], .imm (.own z1 0) 1 [y], .nils, .nils, .nils, .nils]), n', ty⟩ := by
 subst hb
 have hlp := S.lp; have hlq := S.lq; have hnp := S.np; have hnq := S.nq; have hpq := S.pq; have hqm := S.qm; have hnm := S.nm'; have hmh := S.mh
 have hqp : q ≠ p := fun e => hpq e.symm
 have hzp : (z1 == p) = false := by simp; omega
 have hzq : (z1 == q) = false := by simp; omega
 have hyp : (z2 == p) = false := by simp; omega
 have hyq : (z2 == q) = false := by simp; omega
 have hyz : (z2 == z1) = false := by simp; omega
 exact {
  g := by simp only [zA2, hzp, hyp, Bool.false_eq_true, if_false]; exact (zA1 hpq).trans (zA7 S.g)
  gq := by simp only [zA2, hzq, hyq, Bool.false_eq_true, if_false]; exact zA7 ((zA1 hqp).trans S.gq)
  s := .inr ⟨z1, 0, [y], z2, 0, [x], rfl, rfl, rfl, rfl, by omega, by simp [zA2, hyz], by omega, by omega, by omega, by (try dsimp only); omega, by simp [zA2], by omega, by omega, by omega, by omega, hn⟩
  ro := by
   intro y hy
   obtain ⟨h1, h2, h3, h4⟩ := S.ro y hy
   have hzy : (z1 == y.1) = false := by simp; omega
   have hzy2 : (z2 == y.1) = false := by simp; omega
   refine ⟨?_, h2, h3, h4⟩
   simp only [zA2, hzy, hzy2, Bool.false_eq_true, if_false]
   exact (zA1 h3).trans ((zA1 h2).trans h1)
  d := (((S.d.setP hnp).set hnq).cons (by omega)).cons (by omega)
  tt := ((S.tt.setC (by omega)).setC hqm).cons.cons
  np := hnp
  nq := hnq
  nm' := hnm
  mh := by (try dsimp only); omega
  qm := hqm
  lp := by (try dsimp only); omega
  lq := by (try dsimp only); omega
  pq := hpq
  f := ⟨Under.cons hn (Under.cons (show z1 < n' by omega) (S.f.1.set.set.le (show h.next ≤ n' by omega))), ht⟩ }
theorem S2.both {n0 m0 : Nat} {E0 RO : List (Nat × CObj)} {p q : Nat} {l : List Tok} {a a' : Nat} {e to e' to' : Int} {nm : List UInt8} {h : CHeap} {n' : Nat} {ty : List (Nat × Nat)} {b : Int} {i1 v1 i2 v2 : Nat} {ts os : List CVal} {x y : CVal} {j jo : Nat} (S : S2 n0 m0 E0 RO p q l a e to nm j jo (.imm (.own i1 v1) 7 ts) (.imm (.own i2 v2) 1 os) h) (ht2 : zA2 h.ents i2 = some (.tok v2)) (h2p : i2 ≠ p) (h2q : i2 ≠ q) (h20 : m0 ≤ i2) (h2n : i2 < h.next) (ht1 : zA2 h.ents i1 = some (.tok v1)) (h1p : i1 ≠ p) (h1q : i1 ≠ q) (h12 : i1 ≠ i2) (h10 : m0 ≤ i1) (h1n : i1 < h.next) (hj : ts.length = j) (hjo : os.length = jo) (hb : b = (a' : Int)) (hn : h.next ≤ n') (ht : zAb ty n') :
    S2 n0 m0 E0 RO p q l a' e' to' nm (j + 1) (jo + 1) (.imm (.own i1 (v1 + 1)) 7 (ts ++ [x])) (.imm (.own i2 (v2 + 1)) 1 (os ++ [y])) ⟨zA0 (zA0 (zA0 (zA0 h.ents p (pr l b e' to')) i2 (.tok (v2 + 1))) i1 (.tok (v1 + 1))) q (.cells [.str nm, (.imm (.own i1 (v1 + 1)) 7 (ts ++ [x])), (.imm (.own i2 (v2 + 1)) 1 (os ++ [y])), .nils, .nils, .nils, .nils]), n', ty⟩ := by
 subst hb
 have hlp := S.lp; have hlq := S.lq; have hnp := S.np; have hnq := S.nq; have hpq := S.pq; have hqm := S.qm; have hnm := S.nm'; have hmh := S.mh
 have hqp : q ≠ p := fun e => hpq e.symm
 have hp2 : p ≠ i2 := fun e => h2p e.symm
 have hp1 : p ≠ i1 := fun e => h1p e.symm
 have hq2 : q ≠ i2 := fun e => h2q e.symm
 have hq1 : q ≠ i1 := fun e => h1q e.symm
 have h21 : i2 ≠ i1 := fun e => h12 e.symm
 exact {
  g := (zA1 hpq).trans ((zA1 hp1).trans ((zA1 hp2).trans (zA7 S.g)))
  gq := zA7 ((zA1 hq1).trans ((zA1 hq2).trans ((zA1 hqp).trans S.gq)))
  s := .inr ⟨i2, v2 + 1, os ++ [y], i1, v1 + 1, ts ++ [x], rfl, rfl, by simp [hj], by simp [hjo], by omega, (zA1 h2q).trans ((zA1 h21).trans (zA7 ((zA1 h2p).trans ht2))), h2p, h2q, h20, by (try dsimp only); omega, (zA1 h1q).trans (zA7 ((zA1 h12).trans ((zA1 h1p).trans ht1))), h1p, h1q, h12, h10, by (try dsimp only); omega⟩
  ro := by
   intro y hy
   obtain ⟨h1, h2, h3, h4⟩ := S.ro y hy
   refine ⟨?_, h2, h3, h4⟩
   exact (zA1 h3).trans ((zA1 (by omega)).trans ((zA1 (by omega)).trans ((zA1 h2).trans h1)))
  d := (((S.d.setP hnp).set (by omega)).set (by omega)).set hnq
  tt := (((S.tt.setC (by omega)).setT).setT).setC hqm
  np := hnp
  nq := hnq
  nm' := hnm
  mh := by (try dsimp only); omega
  qm := hqm
  lp := by (try dsimp only); omega
  lq := by (try dsimp only); omega
  pq := hpq
  f := ⟨S.f.1.set.set.set.set.le hn, ht⟩ }
theorem S2.one {n0 m0 : Nat} {E0 RO : List (Nat × CObj)} {p q : Nat} {l : List Tok} {a a' : Nat} {e to e' to' : Int} {nm : List UInt8} {h : CHeap} {n' : Nat} {ty : List (Nat × Nat)} {b : Int} {i1 v1 i2 v2 : Nat} {ts os : List CVal} {x y : CVal} {j jo : Nat} (S : S2 n0 m0 E0 RO p q l a e to nm j jo (.imm (.own i1 v1) 7 ts) (.imm (.own i2 v2) 1 os) h) (ht2 : zA2 h.ents i2 = some (.tok v2)) (h2p : i2 ≠ p) (h2q : i2 ≠ q) (h20 : m0 ≤ i2) (h2n : i2 < h.next) (ht1 : zA2 h.ents i1 = some (.tok v1)) (h1p : i1 ≠ p) (h1q : i1 ≠ q) (h12 : i1 ≠ i2) (h10 : m0 ≤ i1) (h1n : i1 < h.next) (hj : ts.length = j) (hjo : os.length = jo) (hb : b = (a' : Int)) (hn : h.next ≤ n') (ht : zAb ty n') :
    S2 n0 m0 E0 RO p q l a' e' to' nm j (jo + 1) (.imm (.own i1 v1) 7 ts) (.imm (.own i2 (v2 + 1)) 1 (os ++ [y])) ⟨zA0 (zA0 (zA0 h.ents p (pr l b e' to')) i2 (.tok (v2 + 1))) q (.cells [.str nm, (.imm (.own i1 v1) 7 ts), (.imm (.own i2 (v2 + 1)) 1 (os ++ [y])), .nils, .nils, .nils, .nils]), n', ty⟩ := by
 subst hb
 have hlp := S.lp; have hlq := S.lq; have hnp := S.np; have hnq := S.nq; have hpq := S.pq; have hqm := S.qm; have hnm := S.nm'; have hmh := S.mh
 have hqp : q ≠ p := fun e => hpq e.symm
 have hp2 : p ≠ i2 := fun e => h2p e.symm
 have hp1 : p ≠ i1 := fun e => h1p e.symm
 have hq2 : q ≠ i2 := fun e => h2q e.symm
 have hq1 : q ≠ i1 := fun e => h1q e.symm
 have h21 : i2 ≠ i1 := fun e => h12 e.symm
 exact {
  g := (zA1 hpq).trans ((zA1 hp2).trans (zA7 S.g))
  gq := zA7 ((zA1 hq2).trans ((zA1 hqp).trans S.gq))
  s := .inr ⟨i2, v2 + 1, os ++ [y], i1, v1, ts, rfl, rfl, hj, by simp [hjo], by omega, (zA1 h2q).trans (zA7 ((zA1 h2p).trans ht2)), h2p, h2q, h20, by (try dsimp only); omega, (zA1 h1q).trans ((zA1 h12).trans ((zA1 h1p).trans ht1)), h1p, h1q, h12, h10, by (try dsimp only); omega⟩
  ro := by
   intro y hy
   obtain ⟨h1, h2, h3, h4⟩ := S.ro y hy
   refine ⟨?_, h2, h3, h4⟩
   exact (zA1 h3).trans ((zA1 (by omega)).trans ((zA1 h2).trans h1))
  d := ((S.d.setP hnp).set (by omega)).set hnq
  tt := ((S.tt.setC (by omega)).setT).setC hqm
  np := hnp
  nq := hnq
  nm' := hnm
  mh := by (try dsimp only); omega
  qm := hqm
  lp := by (try dsimp only); omega
  lq := by (try dsimp only); omega
  pq := hpq
  f := ⟨S.f.1.set.set.set.le hn, ht⟩ }
theorem S2.pass {n0 m0 : Nat} {E0 RO : List (Nat × CObj)} {p q : Nat} {l : List Tok} {a a' : Nat} {e to e' to' : Int} {nm : List UInt8} {h : CHeap} {n' : Nat} {ty : List (Nat × Nat)} {b : Int} {j jo : Nat} {F O : CVal} (S : S2 n0 m0 E0 RO p q l a e to nm j jo F O h) (hb : b = (a' : Int)) (hn : h.next ≤ n') (ht : zAb ty n') :
    S2 n0 m0 E0 RO p q l a' e' to' nm j jo F O ⟨zA0 h.ents p (pr l b e' to'), n', ty⟩ := by
 subst hb
 have hlp := S.lp; have hlq := S.lq; have hnp := S.np; have hnq := S.nq; have hpq := S.pq; have hqm := S.qm; have hnm := S.nm'; have hmh := S.mh
 have hqp : q ≠ p := fun e => hpq e.symm
 exact {
  g := zA7 S.g
  gq := (zA1 hqp).trans S.gq
  s := by
   rcases S.s with s | ⟨i2, v2, os, i1, v1, ts, c1, c2, c3, c4, c5, c6, c7, c8, c9, c10, c11, c12, c13, c14, c15, c16⟩
   · exact .inl s
   · exact .inr ⟨i2, v2, os, i1, v1, ts, c1, c2, c3, c4, c5, (zA1 c7).trans c6, c7, c8, c9, by (try dsimp only); omega, (zA1 c12).trans c11, c12, c13, c14, c15, by (try dsimp only); omega⟩
  ro := by
   intro y hy
   obtain ⟨h1, h2, h3, h4⟩ := S.ro y hy
   exact ⟨(zA1 h2).trans h1, h2, h3, h4⟩
  d := S.d.setP hnp
  tt := S.tt.setC (by omega)
  np := hnp
  nq := hnq
  nm' := hnm
  mh := by (try dsimp only); omega
  qm := hqm
  lp := by (try dsimp only); omega
  lq := by (try dsimp only); omega
  pq := hpq
  f := ⟨S.f.1.set.le hn, ht⟩ }
abbrev tO3 : List Tk3 := [(1, [111, 110, 101, 111, 102], 0), (1, [97], 0), (4, [123], 0), (1, [105, 110, 116, 51, 50], 0), (1, [98], 0), (4, [61], 0), (2, [], 1), (4, [59], 0), (4, [125], 0)]
theorem el_ones {n0 m0 : Nat} {E0 RO : List (Nat × CObj)} (p d q dq rb d1 db d2 : Nat) (hpq : p ≠ q) (hrp : rb ≠ p) (hro : (rb, CObj.cells [.ptr p d 0]) ∈ RO) (l : List Tok) (hll : l.length < 100000) (to : Int) (nm : List UInt8) (Q : CExit → CSt → Prop) (U : List Tk3) (a9 r9 n9 : Nat)
    (hF : ∀ h' a' e' to' j jo F O w, S2 n0 m0 E0 RO p q l a' e' to' nm j jo F O h' → (r9 ≤ 30 ∧ e' = 0 ∧ a' = a9 + 9 * r9 + 1 ∧ to' = to ∨ 30 < r9 ∧ e' = 3) → n9 ≤ h'.next → Q (.exit 0) ⟨[.ptr p d 0, .str [125], w, cloM rb d1 q dq db d2], h', []⟩) :
    ∀ (r a j : Nat) (F O w : CVal) (h : CHeap), S2 n0 m0 E0 RO p q l a 0 to nm j j F O h → j ≤ 30 → j + r = r9 → a = a9 + 9 * j → (l.drop a).map strip = (List.replicate r tO3).flatten ++ (4, [125], 0) :: U → n9 ≤ h.next → W tree.getF endsLoop ⟨[.ptr p d 0, .str [125], w, cloM rb d1 q dq db d2], h, []⟩ Q := by
 intro r
 induction r with
 | zero =>
  intro a j F O w h S hj hjr ha hsuf hn
  obtain ⟨b0, hl0⟩ := zA9 (j := 0) (x := [(4, [125], 0)]) (y := U) hsuf rfl
  refine el_endM p d q dq rb d1 db d2 l hll a to Q w h S.f S.g S.lp b0 hl0 fun n' ty w' g1 g3 => ?_
  exact hF _ (a + 1) 0 to j j F O w' (S.pass (by omega) g1 g3) (.inl ⟨by omega, rfl, by omega, rfl⟩) (by (try dsimp only); omega)
 | succ r ih =>
  intro a j F O w h S hj hjr ha hsuf hn
  have hT : (l.drop a).map strip = tO3 ++ ((List.replicate r tO3).flatten ++ (4, [125], 0) :: U) := by rw [hsuf, List.replicate_succ, List.flatten_cons, List.append_assoc]
  have hs2 := suf (m := 9) hT rfl
  have hq := S.gq
  rcases S.s with ⟨rfl, rfl, rfl, _⟩ | ⟨i2, v2, os, i1, v1, ts, rfl, rfl, c3, c4, c5, c6, c7, c8, c9, c10, c11, c12, c13, c14, c15, c16⟩
  ·
   obtain ⟨b0, hl0⟩ := zA9 (j := 0) hT rfl
   obtain ⟨b1, hl1⟩ := zA9 (j := 1) hT rfl
   obtain ⟨b2, hl2⟩ := zA9 (j := 2) hT rfl
   obtain ⟨b3, hl3⟩ := zA9 (j := 3) hT rfl
   obtain ⟨b4, hl4⟩ := zA9 (j := 4) hT rfl
   obtain ⟨b5, hl5⟩ := zA9 (j := 5) hT rfl
   obtain ⟨b6, hl6⟩ := zA9 (j := 6) hT rfl
   obtain ⟨b7, hl7⟩ := zA9 (j := 7) hT rfl
   obtain ⟨b8, hl8⟩ := zA9 (j := 8) hT rfl
   exact el_one_n p d q dq rb d1 db d2 hpq hrp l hll a to nm Q w h S.f S.g S.lp S.lq (S.ro _ hro).1 hq b0 b1 b2 b3 b4 b5 b6 b7 b8 hl0 hl1 hl2 hl3 hl4 hl5 hl6 hl7 hl8 fun z1 z2 n' ty w' g1 g2 g3 g4 => ih (a + 9) 1 _ _ w' _ (S.nil (by omega) g1 g2 g3 g4) (by omega) (by omega) (by omega) hs2 (by (try dsimp only); omega)
  · rcases Nat.lt_or_ge j 30 with hlt | hge
    ·
     obtain ⟨b0, hl0⟩ := zA9 (j := 0) hT rfl
     obtain ⟨b1, hl1⟩ := zA9 (j := 1) hT rfl
     obtain ⟨b2, hl2⟩ := zA9 (j := 2) hT rfl
     obtain ⟨b3, hl3⟩ := zA9 (j := 3) hT rfl
     obtain ⟨b4, hl4⟩ := zA9 (j := 4) hT rfl
     obtain ⟨b5, hl5⟩ := zA9 (j := 5) hT rfl
     obtain ⟨b6, hl6⟩ := zA9 (j := 6) hT rfl
     obtain ⟨b7, hl7⟩ := zA9 (j := 7) hT rfl
     obtain ⟨b8, hl8⟩ := zA9 (j := 8) hT rfl
     exact el_one_o p d q dq rb d1 db d2 hpq hrp l hll a to nm Q w h S.f S.g S.lp S.lq (S.ro _ hro).1 i2 v2 os c6 c7 c8 c10 i1 v1 ts c11 c12 c13 c14 c16 (by omega) (by omega) hq b0 b1 b2 b3 b4 b5 b6 b7 b8 hl0 hl1 hl2 hl3 hl4 hl5 hl6 hl7 hl8 fun n' ty w' g1 g3 => ih (a + 9) (j + 1) _ _ w' _ (S.both c6 c7 c8 c9 c10 c11 c12 c13 c14 c15 c16 c3 c4 (by omega) g1 g3) (by omega) (by omega) (by omega) hs2 (by (try dsimp only); omega)
    ·
     obtain ⟨b0, hl0⟩ := zA9 (j := 0) hT rfl
     obtain ⟨b1, hl1⟩ := zA9 (j := 1) hT rfl
     obtain ⟨b2, hl2⟩ := zA9 (j := 2) hT rfl
     obtain ⟨b3, hl3⟩ := zA9 (j := 3) hT rfl
     obtain ⟨b4, hl4⟩ := zA9 (j := 4) hT rfl
     obtain ⟨b5, hl5⟩ := zA9 (j := 5) hT rfl
     obtain ⟨b6, hl6⟩ := zA9 (j := 6) hT rfl
     obtain ⟨b7, hl7⟩ := zA9 (j := 7) hT rfl
     obtain ⟨b8, hl8⟩ := zA9 (j := 8) hT rfl
     exact el_one_X p d q dq rb d1 db d2 hpq hrp l hll a to nm Q w h S.f S.g S.lp S.lq (S.ro _ hro).1 i2 v2 os c6 c7 c8 c10 i1 v1 ts c11 c12 c13 c14 c16 (by omega) hq b0 b1 b2 b3 hl0 hl1 hl2 hl3 fun n' ty w' g1 g3 => hF _ (a + 3) 3 b0 j (j + 1) _ _ w' (S.one (x := .nils) c6 c7 c8 c9 c10 c11 c12 c13 c14 c15 c16 c3 c4 (by omega) g1 g3) (.inr ⟨by omega, rfl⟩) (by (try dsimp only); omega)
theorem p_msgO_ok (l : List Tok) (hll : l.length < 100000) (a : Nat) (nm : List UInt8) (b0 b1 b2 : Nat) (hl0 : l[a + 0]? = some (1, [109, 101, 115, 115, 97, 103, 101], 0, b0)) (hl1 : l[a + 1]? = some (1, nm, 0, b1)) (hl2 : l[a + 2]? = some (4, [123], 0, b2)) (r : Nat) (hr : r ≤ 30) (U : List Tk3) (hsuf : (l.drop (a + 3)).map strip = (List.replicate r tO3).flatten ++ (4, [125], 0) :: U) (to : Int) (hP : PlainOk nm) (dp : Int) (hdp : 0 ≤ dp ∧ dp < 20) (h : CHeap) (p d : Nat) (hf : Fit h) (hg : zA2 h.ents p = some (pr l (a : Int) 0 to)) (hp : p < h.next) (K : CVal → CHeap → Prop)
    (hk : ∀ n2 ty R1 R2, Rz R1 → Rz R2 → h.next ≤ n2 → zAb ty n2 → K (.agg [.str nm, R1, R2, .nils, .nils, .nils, .nils]) ⟨zA0 h.ents p (pr l ((a + 3 + 9 * r + 1 : Nat) : Int) 0 to), n2, ty⟩) : Wc tree.getF 28 [.ptr p d 0, .int .i64 dp] h K := by
 obtain ⟨hu, hut, hX⟩ := fx4 hf
 have hZ := fx6 hf hg
 refine Wc.mkG 28 c28 (by kernel_rfl) rfl ?_
 generalize e : zAa _ _ _ = r
 simp (disch := omega) [hX, hZ, c28] at e
 subst e
 repeat (first | refine sq_ ?_ | refine bl_ ?_ | ((first | refine rg_ ?_ | refine go_ ?_); generalize e : goR _ _ _ _ _ _ _ _ = r; simp (disch := omega) [hX, hZ, zA5, zA6, zA4, c39, c28] at e; replace e : some _ = _ := e; subst e; (try dsimp only [goW])) | refine ct_ rfl ?_ | refine cf_ rfl ?_ | refine sk_ ?_ | refine ex_ ?_ | (refine p_next hl0 a 0 to fun n0 ty0 hn0 hun0 => ⟨rfl, ?_⟩; try dsimp only at hn0) | (refine p_plain hl1 (a + 1) 0 to hP rfl fun _ _ g _ => ⟨rfl, ?_⟩; try dsimp only at g) | (refine p_sign hl2 (a + 1 + 1) 0 to rfl fun n2 ty2 hn2 hun2 => ⟨rfl, ?_⟩; try dsimp only at hn2) | (refine pu_ (p_failsF p d _) fun _ _ g _ => ⟨rfl, ?_⟩; try dsimp only at g) | (refine Wc.mkG 39 c39 (by kernel_rfl) rfl ?_; generalize e : zAa _ _ _ = r; simp (disch := omega) [hX, hZ, zA5, zA6, zA4, c39, c28] at e; subst e) | ((first | (refine W.ret ?_; (try simp only [zAl, zA3, zAf]); refine endW.of (.inl rfl) rfl ?_) | refine endW.of (.inr rfl) rfl ?_); generalize e : zAo _ _ _ = r; simp (disch := omega) [hX, hZ, zA5, zA6, zA4, c39, c28] at e; subst e; (try dsimp only [goW]); refine ⟨rfl, ?_⟩))
 refine el_ones (n0 := h.next) (m0 := n2) (E0 := h.ents) (RO := [(h.next, .cells [.ptr p d 0]), (h.next + 1 + 1, .cells [.str [], .nils, .nils, .nils, .nils, .nils, .nils])]) p d _ _ _ _ _ _ (by (try dsimp only); omega) (by (try dsimp only); omega) (by simp) l hll to nm _ U (a + 3) r h.next ?_ r (a + 3) 0 .nils .nils _ _ ?_ (by omega) (by omega) (by omega) hsuf (by (try dsimp only); omega)
 rotate_left
 · exact {
    g := by exact ge2_
    gq := by simp [zA2]
    s := .inl ⟨rfl, rfl, rfl, rfl⟩
    ro := by
     intro y hy
     simp only [List.mem_cons, List.not_mem_nil, or_false] at hy
     rcases hy with rfl | rfl
     all_goals refine ⟨?_, ?_, ?_, ?_⟩
     all_goals first
      | (simp (disch := omega) [zA2, sy_nbeq, sy_neqF]; done)
      | ((try dsimp only); omega)
    d := by
     have e4 : ((a : Int) + 1 + 1 + 1) = ((a + 3 : Nat) : Int) := by omega
     rw [← e4]
     exact ⟨[_, _, _, _], rfl, fun x hx => (by simp at hx; rcases hx with rfl | rfl | rfl | rfl <;> (try dsimp only) <;> omega), hu.set⟩
    tt := TokTop.under (n := n2) un_ (Nat.le_refl _)
    np := hp
    nq := by (try dsimp only); omega
    nm' := by (try dsimp only); omega
    mh := by (try dsimp only); omega
    qm := by (try dsimp only); omega
    lp := by (try dsimp only); omega
    lq := by (try dsimp only); omega
    pq := by (try dsimp only); omega
    f := by exact fit_ }
 · intro h' a' e' to' j jo F O w S' hc g'
   try dsimp only at g'
   have hd := S'.d.drop
   have hq := S'.gq
   have hS := S'.s
   have htt : ∀ m', n2 ≤ m' → zAc h'.ents m' = h'.ents := fun m' hm => S'.tt.drop hm
   have hut' := S'.f.2
   have hqn := S'.nq
   have hsame := zAs hq
   have hrc := (S'.ro (h.next + 1 + 1, .cells [.str [], .nils, .nils, .nils, .nils, .nils, .nils]) (by simp)).1
   (try dsimp only at hrc)
   have hrc2 : ∀ x, zA2 (zA0 h'.ents (h.next + 1 + 1) x) (h.next + 1 + 1) = some x := fun x => zA7 hrc
   have hd2 : ∀ x, zAx (zA0 h'.ents (h.next + 1 + 1) x) h.next = _ := fun x => (S'.d.set (p := h.next + 1 + 1) (x := x) (by omega)).drop
   rcases hc with ⟨_, rfl, rfl, rfl⟩ | ⟨hc, _⟩
   rotate_left
   · exfalso; omega
   all_goals (rcases hS with ⟨rfl, rfl, _, _⟩ | ⟨i2, v2, os, i1, v1, ts, rfl, rfl, c3, c4, c5, c6, c7, c8, c9, c10, c11, c12, c13, c14, c15, c16⟩)
   all_goals
    repeat (first | refine sq_ ?_ | refine bl_ ?_ | ((first | refine rg_ ?_ | refine go_ ?_); generalize e : goR _ _ _ _ _ _ _ _ = r; simp (disch := omega) [hd, hq, zAs hq, htt, hrc, hrc2, hd2, c39, c28] at e; replace e : some _ = _ := e; subst e; (try dsimp only [goW])) | refine ct_ rfl ?_ | refine cf_ rfl ?_ | refine sk_ ?_ | refine ex_ ?_ | (refine Wc.mkG 39 c39 (by kernel_rfl) rfl ?_; generalize e : zAa _ _ _ = r; simp (disch := omega) [hd, hq, zAs hq, htt, hrc, hrc2, hd2, c39, c28] at e; subst e) | ((first | (refine W.ret ?_; (try simp only [zAl, zA3, zAf]); refine endW.of (.inl rfl) rfl ?_) | refine endW.of (.inr rfl) rfl ?_); generalize e : zAo _ _ _ = r; simp (disch := omega) [hd, hq, zAs hq, htt, hrc, hrc2, hd2, c39, c28] at e; subst e; (try dsimp only [goW]); (first | refine ⟨rfl, ?_⟩ | (refine hk _ _ _ _ ?_ ?_ ?_ ?_; (focus ((first | exact .inl rfl | exact .inr ⟨_, _, rfl⟩); done)); (focus ((first | exact .inl rfl | exact .inr ⟨_, _, rfl⟩); done)); omega; exact ut_))))
theorem p_msgO_x (l : List Tok) (hll : l.length < 100000) (a : Nat) (nm : List UInt8) (b0 b1 b2 : Nat) (hl0 : l[a + 0]? = some (1, [109, 101, 115, 115, 97, 103, 101], 0, b0)) (hl1 : l[a + 1]? = some (1, nm, 0, b1)) (hl2 : l[a + 2]? = some (4, [123], 0, b2)) (r : Nat) (hr : 30 < r) (U : List Tk3) (hsuf : (l.drop (a + 3)).map strip = (List.replicate r tO3).flatten ++ (4, [125], 0) :: U) (to : Int) (hP : PlainOk nm) (dp : Int) (hdp : 0 ≤ dp ∧ dp < 20) (h : CHeap) (p d : Nat) (hf : Fit h) (hg : zA2 h.ents p = some (pr l (a : Int) 0 to)) (hp : p < h.next) (K : CVal → CHeap → Prop)
    (hk : ∀ n2 ty R1 R2 (a' : Nat) to', Rz R1 → Rz R2 → h.next ≤ n2 → zAb ty n2 → K (.agg [.str nm, R1, R2, .nils, .nils, .nils, .nils]) ⟨zA0 h.ents p (pr l (a' : Int) 3 to'), n2, ty⟩) : Wc tree.getF 28 [.ptr p d 0, .int .i64 dp] h K := by
 obtain ⟨hu, hut, hX⟩ := fx4 hf
 have hZ := fx6 hf hg
 refine Wc.mkG 28 c28 (by kernel_rfl) rfl ?_
 generalize e : zAa _ _ _ = r
 simp (disch := omega) [hX, hZ, c28] at e
 subst e
 repeat (first | refine sq_ ?_ | refine bl_ ?_ | ((first | refine rg_ ?_ | refine go_ ?_); generalize e : goR _ _ _ _ _ _ _ _ = r; simp (disch := omega) [hX, hZ, zA5, zA6, zA4, c39, c28] at e; replace e : some _ = _ := e; subst e; (try dsimp only [goW])) | refine ct_ rfl ?_ | refine cf_ rfl ?_ | refine sk_ ?_ | refine ex_ ?_ | (refine p_next hl0 a 0 to fun n0 ty0 hn0 hun0 => ⟨rfl, ?_⟩; try dsimp only at hn0) | (refine p_plain hl1 (a + 1) 0 to hP rfl fun _ _ g _ => ⟨rfl, ?_⟩; try dsimp only at g) | (refine p_sign hl2 (a + 1 + 1) 0 to rfl fun n2 ty2 hn2 hun2 => ⟨rfl, ?_⟩; try dsimp only at hn2) | (refine pu_ (p_failsF p d _) fun _ _ g _ => ⟨rfl, ?_⟩; try dsimp only at g) | (refine Wc.mkG 39 c39 (by kernel_rfl) rfl ?_; generalize e : zAa _ _ _ = r; simp (disch := omega) [hX, hZ, zA5, zA6, zA4, c39, c28] at e; subst e) | ((first | (refine W.ret ?_; (try simp only [zAl, zA3, zAf]); refine endW.of (.inl rfl) rfl ?_) | refine endW.of (.inr rfl) rfl ?_); generalize e : zAo _ _ _ = r; simp (disch := omega) [hX, hZ, zA5, zA6, zA4, c39, c28] at e; subst e; (try dsimp only [goW]); refine ⟨rfl, ?_⟩))
 refine el_ones (n0 := h.next) (m0 := n2) (E0 := h.ents) (RO := [(h.next, .cells [.ptr p d 0]), (h.next + 1 + 1, .cells [.str [], .nils, .nils, .nils, .nils, .nils, .nils])]) p d _ _ _ _ _ _ (by (try dsimp only); omega) (by (try dsimp only); omega) (by simp) l hll to nm _ U (a + 3) r h.next ?_ r (a + 3) 0 .nils .nils _ _ ?_ (by omega) (by omega) (by omega) hsuf (by (try dsimp only); omega)
 rotate_left
 · exact {
    g := by exact ge2_
    gq := by simp [zA2]
    s := .inl ⟨rfl, rfl, rfl, rfl⟩
    ro := by
     intro y hy
     simp only [List.mem_cons, List.not_mem_nil, or_false] at hy
     rcases hy with rfl | rfl
     all_goals refine ⟨?_, ?_, ?_, ?_⟩
     all_goals first
      | (simp (disch := omega) [zA2, sy_nbeq, sy_neqF]; done)
      | ((try dsimp only); omega)
    d := by
     have e4 : ((a : Int) + 1 + 1 + 1) = ((a + 3 : Nat) : Int) := by omega
     rw [← e4]
     exact ⟨[_, _, _, _], rfl, fun x hx => (by simp at hx; rcases hx with rfl | rfl | rfl | rfl <;> (try dsimp only) <;> omega), hu.set⟩
    tt := TokTop.under (n := n2) un_ (Nat.le_refl _)
    np := hp
    nq := by (try dsimp only); omega
    nm' := by (try dsimp only); omega
    mh := by (try dsimp only); omega
    qm := by (try dsimp only); omega
    lp := by (try dsimp only); omega
    lq := by (try dsimp only); omega
    pq := by (try dsimp only); omega
    f := by exact fit_ }
 · intro h' a' e' to' j jo F O w S' hc g'
   try dsimp only at g'
   have hd := S'.d.drop
   have hq := S'.gq
   have hS := S'.s
   have htt : ∀ m', n2 ≤ m' → zAc h'.ents m' = h'.ents := fun m' hm => S'.tt.drop hm
   have hut' := S'.f.2
   have hqn := S'.nq
   have hsame := zAs hq
   have hrc := (S'.ro (h.next + 1 + 1, .cells [.str [], .nils, .nils, .nils, .nils, .nils, .nils]) (by simp)).1
   (try dsimp only at hrc)
   have hrc2 : ∀ x, zA2 (zA0 h'.ents (h.next + 1 + 1) x) (h.next + 1 + 1) = some x := fun x => zA7 hrc
   have hd2 : ∀ x, zAx (zA0 h'.ents (h.next + 1 + 1) x) h.next = _ := fun x => (S'.d.set (p := h.next + 1 + 1) (x := x) (by omega)).drop
   rcases hc with ⟨hc, _, _, _⟩ | ⟨_, rfl⟩
   · exfalso; omega
   all_goals (rcases hS with ⟨rfl, rfl, _, _⟩ | ⟨i2, v2, os, i1, v1, ts, rfl, rfl, c3, c4, c5, c6, c7, c8, c9, c10, c11, c12, c13, c14, c15, c16⟩)
   all_goals
    repeat (first | refine sq_ ?_ | refine bl_ ?_ | ((first | refine rg_ ?_ | refine go_ ?_); generalize e : goR _ _ _ _ _ _ _ _ = r; simp (disch := omega) [hd, hq, zAs hq, htt, hrc, hrc2, hd2, c39, c28] at e; replace e : some _ = _ := e; subst e; (try dsimp only [goW])) | refine ct_ rfl ?_ | refine cf_ rfl ?_ | refine sk_ ?_ | refine ex_ ?_ | (refine Wc.mkG 39 c39 (by kernel_rfl) rfl ?_; generalize e : zAa _ _ _ = r; simp (disch := omega) [hd, hq, zAs hq, htt, hrc, hrc2, hd2, c39, c28] at e; subst e) | ((first | (refine W.ret ?_; (try simp only [zAl, zA3, zAf]); refine endW.of (.inl rfl) rfl ?_) | refine endW.of (.inr rfl) rfl ?_); generalize e : zAo _ _ _ = r; simp (disch := omega) [hd, hq, zAs hq, htt, hrc, hrc2, hd2, c39, c28] at e; subst e; (try dsimp only [goW]); (first | refine ⟨rfl, ?_⟩ | (refine hk _ _ _ _ _ _ ?_ ?_ ?_ ?_; (focus ((first | exact .inl rfl | exact .inr ⟨_, _, rfl⟩); done)); (focus ((first | exact .inl rfl | exact .inr ⟨_, _, rfl⟩); done)); omega; exact ut_))))
theorem HLp.mono {p d : Nat} {l : List Tok} {e' : Int} {P P' : Nat → Nat → Nat → Prop} (H : HLp p d l e' P) (h : ∀ nI nM nE, P nI nM nE → P' nI nM nE) : HLp p d l e' P' := by
 intro n0 m0 E0 q dq to Q v1 v2 v3 v5 v6 v7 h1 S hF
 refine H n0 m0 E0 q dq to Q v1 v2 v3 v5 v6 v7 h1 S fun w1 w2 w3 w5 w6 w7 h' hE g => hF w1 w2 w3 w5 w6 w7 h' ?_ g
 obtain ⟨RI, RM, RE, nI, nM, nE, a', to', hP, r⟩ := hE
 exact ⟨RI, RM, RE, nI, nM, nE, a', to', h _ _ _ hP, r⟩
theorem flat_len {T : List Tk3} (r : Nat) : ((List.replicate r T).flatten).length = T.length * r := by
 induction r with
 | zero => rfl
 | succ r ih => rw [List.replicate_succ, List.flatten_cons, List.length_append, ih, Nat.mul_succ]; omega
theorem nest_ok (p d : Nat) (l : List Tok) (hll : l.length < 100000) : ∀ (r a : Nat) (dp : Int) (U : List Tk3), 1 ≤ r → 0 ≤ dp → dp + r ≤ 20 → (l.drop a).map strip = (List.replicate r [(1, [109, 101, 115, 115, 97, 103, 101], 0), (1, [65], 0), (4, [123], 0)]).flatten ++ (List.replicate r (4, [125], 0) ++ U) → NCok p d l a dp (a + 4 * r) := by
 intro r
 induction r with
 | zero => intro a dp U h; omega
 | succ r ih =>
  intro a dp U _ h0 h1 hsuf
  have hT : (l.drop a).map strip = [(1, [109, 101, 115, 115, 97, 103, 101], 0), (1, [65], 0), (4, [123], 0)] ++ ((List.replicate r [(1, [109, 101, 115, 115, 97, 103, 101], 0), (1, [65], 0), (4, [123], 0)]).flatten ++ (List.replicate (r + 1) (4, [125], 0) ++ U)) := by rw [hsuf, List.replicate_succ (n := r) (a := [(1, [109, 101, 115, 115, 97, 103, 101], 0), (1, [65], 0), (4, [123], 0)]), List.flatten_cons, List.append_assoc]
  obtain ⟨b0, hl0⟩ := zA9 (j := 0) hT rfl
  obtain ⟨b1, hl1⟩ := zA9 (j := 1) hT rfl
  obtain ⟨b2, hl2⟩ := zA9 (j := 2) hT rfl
  have hs3 := suf (m := 3) hT rfl
  rcases Nat.eq_zero_or_pos r with rfl | hr
  · obtain ⟨b3, hl3⟩ := zA9 (j := 0) (x := [(4, [125], 0)]) (y := U) hs3 rfl
    intro to h hf hg hp K hk
    refine p_message0 hl0 hl1 hl2 hl3 to (zBc 65 (by decide)) dp ⟨h0, by omega⟩ (fun n2 ty g1 g2 => ?_) hll hf hg hp
    have := hk n2 ty [65] .nils (.inl rfl) g1 g2
    rw [show ((a : Int) + 1 + 1 + 1 + 1) = ((a + 4 * (0 + 1) : Nat) : Int) from by omega]
    exact this
  · obtain ⟨r', rfl⟩ : ∃ r', r = r' + 1 := ⟨r - 1, by omega⟩
    have hs3' : (l.drop (a + 3)).map strip = [(1, [109, 101, 115, 115, 97, 103, 101], 0), (1, [65], 0), (4, [123], 0)] ++ ((List.replicate r' [(1, [109, 101, 115, 115, 97, 103, 101], 0), (1, [65], 0), (4, [123], 0)]).flatten ++ (List.replicate (r' + 1 + 1) (4, [125], 0) ++ U)) := by rw [hs3, List.replicate_succ (n := r') (a := [(1, [109, 101, 115, 115, 97, 103, 101], 0), (1, [65], 0), (4, [123], 0)]), List.flatten_cons, List.append_assoc]
    obtain ⟨b3, hl3⟩ := zA9 (j := 0) hs3' rfl
    have hin : (l.drop (a + 3)).map strip = (List.replicate (r' + 1) [(1, [109, 101, 115, 115, 97, 103, 101], 0), (1, [65], 0), (4, [123], 0)]).flatten ++ (List.replicate (r' + 1) (4, [125], 0) ++ ((4, [125], 0) :: U)) := by
     rw [hs3, List.replicate_succ' (n := r' + 1)]; simp
    have hN := ih (a + 3) (dp + 1) ((4, [125], 0) :: U) (by omega) (by omega) (by push_cast at h1 ⊢; omega) hin
    have hin2 := suf (m := 3 * (r' + 1)) hin (by rw [flat_len]; rfl)
    have hin3 := suf (m := r' + 1) hin2 (by simp)
    obtain ⟨b9, hl9⟩ := zA9 (j := 0) (x := [(4, [125], 0)]) (y := U) hin3 rfl
    have e9 : a + 3 + 3 * (r' + 1) + (r' + 1) + 0 = a + 3 + 4 * (r' + 1) := by omega
    rw [e9] at hl9
    have := p_nest_ok p d l hll a [65] b0 b1 b2 b3 hl0 hl1 hl2 hl3 (zBc 65 (by decide)) dp ⟨h0, by omega⟩ _ hN b9 hl9
    rw [show a + 4 * (r' + 1 + 1) = a + 3 + 4 * (r' + 1) + 1 from by omega]
    exact this
theorem nest_x (p d : Nat) (l : List Tok) (hll : l.length < 100000) : ∀ (j r a : Nat) (dp : Int) (y : List Tk3), dp + j = 20 → 0 ≤ dp → 20 < dp + r → (l.drop a).map strip = (List.replicate r [(1, [109, 101, 115, 115, 97, 103, 101], 0), (1, [65], 0), (4, [123], 0)]).flatten ++ y → NCx p d l a dp := by
 intro j
 induction j with
 | zero =>
  intro r a dp y hj h0 hr hsuf
  obtain ⟨r', rfl⟩ : ∃ r', r = r' + 1 := ⟨r - 1, by omega⟩
  have hT : (l.drop a).map strip = [(1, [109, 101, 115, 115, 97, 103, 101], 0), (1, [65], 0), (4, [123], 0)] ++ ((List.replicate r' [(1, [109, 101, 115, 115, 97, 103, 101], 0), (1, [65], 0), (4, [123], 0)]).flatten ++ y) := by rw [hsuf, List.replicate_succ, List.flatten_cons, List.append_assoc]
  obtain ⟨b0, hl0⟩ := zA9 (j := 0) hT rfl
  obtain ⟨b1, hl1⟩ := zA9 (j := 1) hT rfl
  obtain ⟨b2, hl2⟩ := zA9 (j := 2) hT rfl
  obtain rfl : dp = 20 := by omega
  exact p_deep p d l hll a [65] b0 b1 b2 hl0 hl1 hl2 (zBc 65 (by decide))
 | succ j ih =>
  intro r a dp y hj h0 hr hsuf
  push_cast at hj
  obtain ⟨r', rfl⟩ : ∃ r', r = r' + 2 := ⟨r - 2, by omega⟩
  have hT : (l.drop a).map strip = [(1, [109, 101, 115, 115, 97, 103, 101], 0), (1, [65], 0), (4, [123], 0)] ++ ((List.replicate (r' + 1) [(1, [109, 101, 115, 115, 97, 103, 101], 0), (1, [65], 0), (4, [123], 0)]).flatten ++ y) := by rw [hsuf, List.replicate_succ, List.flatten_cons, List.append_assoc]
  obtain ⟨b0, hl0⟩ := zA9 (j := 0) hT rfl
  obtain ⟨b1, hl1⟩ := zA9 (j := 1) hT rfl
  obtain ⟨b2, hl2⟩ := zA9 (j := 2) hT rfl
  have hs3 := suf (m := 3) hT rfl
  have hs3' : (l.drop (a + 3)).map strip = [(1, [109, 101, 115, 115, 97, 103, 101], 0), (1, [65], 0), (4, [123], 0)] ++ ((List.replicate r' [(1, [109, 101, 115, 115, 97, 103, 101], 0), (1, [65], 0), (4, [123], 0)]).flatten ++ y) := by rw [hs3, List.replicate_succ (n := r'), List.flatten_cons, List.append_assoc]
  obtain ⟨b3, hl3⟩ := zA9 (j := 0) hs3' rfl
  have hN := ih (r' + 1) (a + 3) (dp + 1) y (by omega) (by omega) (by push_cast at hr ⊢; omega) hs3
  exact p_nest_x p d l hll a [65] b0 b1 b2 b3 hl0 hl1 hl2 hl3 (zBc 65 (by decide)) dp ⟨h0, by omega⟩ hN
theorem NCok.mc {p d : Nat} {l : List Tok} {a : Nat} {dp : Int} {a9 : Nat} (H : NCok p d l a dp a9) : MCok p d l a dp a9 := fun to h hf hg hp K hk => H to h hf hg hp K fun n2 ty nm R1 hR g1 g2 => hk n2 ty nm .nils .nils R1 (.inl rfl) (.inl rfl) hR g1 g2
theorem NCx.mc {p d : Nat} {l : List Tok} {a : Nat} {dp : Int} (H : NCx p d l a dp) : MCx p d l a dp := fun to h hf hg hp K hk => H to h hf hg hp K fun n2 ty nm R1 a' to' hR g1 g2 => hk n2 ty nm .nils .nils R1 a' to' (.inl rfl) (.inl rfl) hR g1 g2
def tkPM : Nat → Nat → List Tk3
 | 0, r => (List.replicate r [(1, [109, 101, 115, 115, 97, 103, 101], 0), (1, [65], 0), (4, [123], 0), (4, [125], 0)]).flatten
 | 1, r => (List.replicate r [(1, [101, 110, 117, 109], 0), (1, [65], 0), (4, [123], 0), (4, [125], 0)]).flatten
 | 2, r => (List.replicate r [(1, [105, 109, 112, 111, 114, 116], 0), (3, [120], 0), (4, [59], 0)]).flatten
 | 3, r => [(1, [109, 101, 115, 115, 97, 103, 101], 0), (1, [77], 0), (4, [123], 0)] ++ ((List.replicate r tF3).flatten ++ [(4, [125], 0)])
 | 4, r => [(1, [101, 110, 117, 109], 0), (1, [69], 0), (4, [123], 0)] ++ ((List.replicate r tV3).flatten ++ [(4, [125], 0)])
 | 5, r => [(1, [109, 101, 115, 115, 97, 103, 101], 0), (1, [77], 0), (4, [123], 0)] ++ ((List.replicate r tO3).flatten ++ [(4, [125], 0)])
 | _, r => (List.replicate r [(1, [109, 101, 115, 115, 97, 103, 101], 0), (1, [65], 0), (4, [123], 0)]).flatten ++ List.replicate r (4, [125], 0)
def mostPM : Nat → Nat
 | 6 => 20
 | _ => 30
def cntPM : Nat → Nat → Nat
 | 0, r => r
 | 1, r => r
 | 2, r => r
 | 6, r => min r 1
 | _, _ => 1
theorem HL_all_ok (p d : Nat) (l : List Tok) (hll : l.length < 100000) (w r : Nat) (hw : w < 7) (hr : r ≤ mostPM w) (hst : l.map strip = [(1, [115, 121, 110, 116, 97, 120], 0), (4, [61], 0), (3, [112, 114, 111, 116, 111, 51], 0), (4, [59], 0)] ++ (tkPM w r ++ [(5, [], 0)])) : HLp p d l 0 (fun nI nM nE => nI + nM + nE = cntPM w r) := by
 have hst0 : (l.drop 0).map strip = _ := hst
 have hs := suf (m := 4) hst0 rfl
 rw [Nat.zero_add] at hs
 obtain rfl | rfl | rfl | rfl | rfl | rfl | rfl : w = 0 ∨ w = 1 ∨ w = 2 ∨ w = 3 ∨ w = 4 ∨ w = 5 ∨ w = 6 := by omega
 · exact (HL_msg0_ok p d l hll r hr hs).mono (by intro nI nM nE ⟨h1, h2, h3⟩; subst h1 h2 h3; simp [cntPM])
 · exact (HL_enu0_ok p d l hll r hr hs).mono (by intro nI nM nE ⟨h1, h2, h3⟩; subst h1 h2 h3; simp [cntPM])
 · exact (HL_imp_ok p d l hll r hr hs).mono (by intro nI nM nE ⟨h1, h2, h3⟩; subst h1 h2 h3; simp [cntPM])
 · have hs0 : (l.drop 4).map strip = [(1, [109, 101, 115, 115, 97, 103, 101], 0), (1, [77], 0), (4, [123], 0)] ++ ((List.replicate r tF3).flatten ++ (4, [125], 0) :: [(5, [], 0)]) := by rw [hs]; simp [tkPM]
   obtain ⟨b0, hl0⟩ := zA9 (j := 0) hs0 rfl
   obtain ⟨b1, hl1⟩ := zA9 (j := 1) hs0 rfl
   obtain ⟨b2, hl2⟩ := zA9 (j := 2) hs0 rfl
   have hs3 := suf (m := 3) hs0 rfl
   have hs4 := suf (m := 5 * r) hs3 (by rw [flat_len]; rfl)
   obtain ⟨b9, hl9⟩ := zA9 (j := 1) (x := [(4, [125], 0), (5, [], 0)]) (y := []) hs4 rfl
   exact (HL_mg_ok p d l hll b0 hl0 (4 + 3 + 5 * r + 1) b9 hl9 (fun to h hf hg hp K hk => p_msgF_ok l hll 4 [77] b0 b1 b2 hl0 hl1 hl2 r hr _ hs3 to (zBc 77 (by decide)) 0 ⟨by omega, by omega⟩ h p d hf hg hp K fun n2 ty R hR g1 g2 => hk n2 ty _ R .nils .nils hR (.inl rfl) (.inl rfl) g1 g2)).mono (by intro nI nM nE ⟨h1, h2, h3⟩; subst h1 h2 h3; simp [cntPM])
 · have hs0 : (l.drop 4).map strip = [(1, [101, 110, 117, 109], 0), (1, [69], 0), (4, [123], 0)] ++ ((List.replicate r tV3).flatten ++ (4, [125], 0) :: [(5, [], 0)]) := by rw [hs]; simp [tkPM]
   obtain ⟨b0, hl0⟩ := zA9 (j := 0) hs0 rfl
   obtain ⟨b1, hl1⟩ := zA9 (j := 1) hs0 rfl
   obtain ⟨b2, hl2⟩ := zA9 (j := 2) hs0 rfl
   have hs3 := suf (m := 3) hs0 rfl
   have hs4 := suf (m := 4 * r) hs3 (by rw [flat_len]; rfl)
   obtain ⟨b9, hl9⟩ := zA9 (j := 1) (x := [(4, [125], 0), (5, [], 0)]) (y := []) hs4 rfl
   exact (HL_eg_ok p d l hll b0 hl0 (4 + 3 + 4 * r + 1) b9 hl9 (fun to h hf hg hp K hk => p_enuV_ok l hll 4 [69] b0 b1 b2 hl0 hl1 hl2 r hr _ hs3 to (zBc 69 (by decide)) h p d hf hg hp K fun n2 ty R hR g1 g2 => hk n2 ty _ R hR g1 g2)).mono (by intro nI nM nE ⟨h1, h2, h3⟩; subst h1 h2 h3; simp [cntPM])
 · have hs0 : (l.drop 4).map strip = [(1, [109, 101, 115, 115, 97, 103, 101], 0), (1, [77], 0), (4, [123], 0)] ++ ((List.replicate r tO3).flatten ++ (4, [125], 0) :: [(5, [], 0)]) := by rw [hs]; simp [tkPM]
   obtain ⟨b0, hl0⟩ := zA9 (j := 0) hs0 rfl
   obtain ⟨b1, hl1⟩ := zA9 (j := 1) hs0 rfl
   obtain ⟨b2, hl2⟩ := zA9 (j := 2) hs0 rfl
   have hs3 := suf (m := 3) hs0 rfl
   have hs4 := suf (m := 9 * r) hs3 (by rw [flat_len]; rfl)
   obtain ⟨b9, hl9⟩ := zA9 (j := 1) (x := [(4, [125], 0), (5, [], 0)]) (y := []) hs4 rfl
   exact (HL_mg_ok p d l hll b0 hl0 (4 + 3 + 9 * r + 1) b9 hl9 (fun to h hf hg hp K hk => p_msgO_ok l hll 4 [77] b0 b1 b2 hl0 hl1 hl2 r hr _ hs3 to (zBc 77 (by decide)) 0 ⟨by omega, by omega⟩ h p d hf hg hp K fun n2 ty R1 R2 hR1 hR2 g1 g2 => hk n2 ty _ R1 R2 .nils hR1 hR2 (.inl rfl) g1 g2)).mono (by intro nI nM nE ⟨h1, h2, h3⟩; subst h1 h2 h3; simp [cntPM])
 · rcases Nat.eq_zero_or_pos r with rfl | hr0
   · exact (HL_msg0_ok p d l hll 0 (by omega) hs).mono (by intro nI nM nE ⟨h1, h2, h3⟩; subst h1 h2 h3; simp [cntPM])
   · have hr' : r ≤ 20 := hr
     have hs0 : (l.drop 4).map strip = (List.replicate r [(1, [109, 101, 115, 115, 97, 103, 101], 0), (1, [65], 0), (4, [123], 0)]).flatten ++ (List.replicate r (4, [125], 0) ++ [(5, [], 0)]) := by rw [hs]; simp [tkPM]
     obtain ⟨r', rfl⟩ : ∃ r', r = r' + 1 := ⟨r - 1, by omega⟩
     have hT : (l.drop 4).map strip = [(1, [109, 101, 115, 115, 97, 103, 101], 0), (1, [65], 0), (4, [123], 0)] ++ ((List.replicate r' [(1, [109, 101, 115, 115, 97, 103, 101], 0), (1, [65], 0), (4, [123], 0)]).flatten ++ (List.replicate (r' + 1) (4, [125], 0) ++ [(5, [], 0)])) := by rw [hs0, List.replicate_succ (n := r') (a := [(1, [109, 101, 115, 115, 97, 103, 101], 0), (1, [65], 0), (4, [123], 0)]), List.flatten_cons, List.append_assoc]
     obtain ⟨b0, hl0⟩ := zA9 (j := 0) hT rfl
     have hN := nest_ok p d l hll (r' + 1) 4 0 _ (by omega) (by omega) (by push_cast; omega) hs0
     have h1 := suf (m := 3 * (r' + 1)) hs0 (by rw [flat_len]; rfl)
     have h2 := suf (m := r' + 1) h1 (by simp)
     obtain ⟨b9, hl9⟩ := zA9 (j := 0) (x := [(5, [], 0)]) (y := []) h2 rfl
     rw [show 4 + 3 * (r' + 1) + (r' + 1) + 0 = 4 + 4 * (r' + 1) + 0 from by omega] at hl9
     exact (HL_mg_ok p d l hll b0 hl0 (4 + 4 * (r' + 1)) b9 hl9 hN.mc).mono (by intro nI nM nE ⟨h1, h2, h3⟩; subst h1 h2 h3; simp [cntPM])
theorem HL_all_x (p d : Nat) (l : List Tok) (hll : l.length < 100000) (w r : Nat) (hw : w < 7) (hr : mostPM w < r) (hst : l.map strip = [(1, [115, 121, 110, 116, 97, 120], 0), (4, [61], 0), (3, [112, 114, 111, 116, 111, 51], 0), (4, [59], 0)] ++ (tkPM w r ++ [(5, [], 0)])) : HLp p d l 3 (fun _ _ _ => True) := by
 have hst0 : (l.drop 0).map strip = _ := hst
 have hs := suf (m := 4) hst0 rfl
 rw [Nat.zero_add] at hs
 obtain rfl | rfl | rfl | rfl | rfl | rfl | rfl : w = 0 ∨ w = 1 ∨ w = 2 ∨ w = 3 ∨ w = 4 ∨ w = 5 ∨ w = 6 := by omega
 · exact (HL_msg0_x p d l hll r hr hs)
 · exact (HL_enu0_x p d l hll r hr hs)
 · exact (HL_imp_x p d l hll r hr hs)
 · have hs0 : (l.drop 4).map strip = [(1, [109, 101, 115, 115, 97, 103, 101], 0), (1, [77], 0), (4, [123], 0)] ++ ((List.replicate r tF3).flatten ++ (4, [125], 0) :: [(5, [], 0)]) := by rw [hs]; simp [tkPM]
   obtain ⟨b0, hl0⟩ := zA9 (j := 0) hs0 rfl
   obtain ⟨b1, hl1⟩ := zA9 (j := 1) hs0 rfl
   obtain ⟨b2, hl2⟩ := zA9 (j := 2) hs0 rfl
   have hs3 := suf (m := 3) hs0 rfl
   exact HL_mg_x p d l hll b0 hl0 (fun to h hf hg hp K hk => p_msgF_x l hll 4 [77] b0 b1 b2 hl0 hl1 hl2 r hr _ hs3 to (zBc 77 (by decide)) 0 ⟨by omega, by omega⟩ h p d hf hg hp K fun n2 ty R a' to' hR g1 g2 => hk n2 ty _ R .nils .nils a' to' hR (.inl rfl) (.inl rfl) g1 g2)
 · have hs0 : (l.drop 4).map strip = [(1, [101, 110, 117, 109], 0), (1, [69], 0), (4, [123], 0)] ++ ((List.replicate r tV3).flatten ++ (4, [125], 0) :: [(5, [], 0)]) := by rw [hs]; simp [tkPM]
   obtain ⟨b0, hl0⟩ := zA9 (j := 0) hs0 rfl
   obtain ⟨b1, hl1⟩ := zA9 (j := 1) hs0 rfl
   obtain ⟨b2, hl2⟩ := zA9 (j := 2) hs0 rfl
   have hs3 := suf (m := 3) hs0 rfl
   exact HL_eg_x p d l hll b0 hl0 (fun to h hf hg hp K hk => p_enuV_x l hll 4 [69] b0 b1 b2 hl0 hl1 hl2 r hr _ hs3 to (zBc 69 (by decide)) h p d hf hg hp K fun n2 ty R a' to' hR g1 g2 => hk n2 ty _ R a' to' hR g1 g2)
 · have hs0 : (l.drop 4).map strip = [(1, [109, 101, 115, 115, 97, 103, 101], 0), (1, [77], 0), (4, [123], 0)] ++ ((List.replicate r tO3).flatten ++ (4, [125], 0) :: [(5, [], 0)]) := by rw [hs]; simp [tkPM]
   obtain ⟨b0, hl0⟩ := zA9 (j := 0) hs0 rfl
   obtain ⟨b1, hl1⟩ := zA9 (j := 1) hs0 rfl
   obtain ⟨b2, hl2⟩ := zA9 (j := 2) hs0 rfl
   have hs3 := suf (m := 3) hs0 rfl
   exact HL_mg_x p d l hll b0 hl0 (fun to h hf hg hp K hk => p_msgO_x l hll 4 [77] b0 b1 b2 hl0 hl1 hl2 r hr _ hs3 to (zBc 77 (by decide)) 0 ⟨by omega, by omega⟩ h p d hf hg hp K fun n2 ty R1 R2 a' to' hR1 hR2 g1 g2 => hk n2 ty _ R1 R2 .nils a' to' hR1 hR2 (.inl rfl) g1 g2)
 · have hr' : 20 < r := hr
   have hs0 : (l.drop 4).map strip = (List.replicate r [(1, [109, 101, 115, 115, 97, 103, 101], 0), (1, [65], 0), (4, [123], 0)]).flatten ++ (List.replicate r (4, [125], 0) ++ [(5, [], 0)]) := by rw [hs]; simp [tkPM]
   obtain ⟨r', rfl⟩ : ∃ r', r = r' + 1 := ⟨r - 1, by omega⟩
   have hT : (l.drop 4).map strip = [(1, [109, 101, 115, 115, 97, 103, 101], 0), (1, [65], 0), (4, [123], 0)] ++ ((List.replicate r' [(1, [109, 101, 115, 115, 97, 103, 101], 0), (1, [65], 0), (4, [123], 0)]).flatten ++ (List.replicate (r' + 1) (4, [125], 0) ++ [(5, [], 0)])) := by rw [hs0, List.replicate_succ (n := r') (a := [(1, [109, 101, 115, 115, 97, 103, 101], 0), (1, [65], 0), (4, [123], 0)]), List.flatten_cons, List.append_assoc]
   obtain ⟨b0, hl0⟩ := zA9 (j := 0) hT rfl
   exact HL_mg_x p d l hll b0 hl0 (NCx.mc (nest_x p d l hll 20 (r' + 1) 4 0 _ (by omega) (by omega) (by push_cast; omega) hs0))
abbrev enLoopM : CCode := (.loop true (.seq (.seq (.region [.v 8, .v 9, .g (.bin .lss (.loc 1) (.loc 0))] [(10, 2)] [] []) (.cond (.var 10) .skip (.exit 1))) (.seq (.block 2 (.region [.v 11, .g (.bin .add (.loc 0) (.const (.str [125]))), .m (.loc 0)] [(11, 2)] [] [])) (.region [.v 8, .g (.bin .add (.loc 0) (.const (.int .i64 1))), .m (.loc 0)] [(8, 2)] [] []))))
abbrev ptLoopM : CCode := (.loop true (.seq (.seq (.region [.v 12, .v 9, .g (.bin .lss (.loc 1) (.loc 0))] [(13, 2)] [] []) (.cond (.var 13) .skip (.exit 3))) (.seq (.block 4 (.region [.v 5, .v 14, .g (.bin .add (.loc 1) (.loc 0)), .m (.loc 0)] [(5, 3)] [] [])) (.region [.v 12, .g (.bin .add (.loc 0) (.const (.int .i64 1))), .m (.loc 0)] [(12, 2)] [] []))))
theorem repB_len {T : List UInt8} (r : Nat) : ((List.replicate r T).flatten).length = T.length * r := by
 induction r with
 | zero => rfl
 | succ r ih => rw [List.replicate_succ, List.flatten_cons, List.length_append, ih, Nat.mul_succ]; omega
theorem rep_app (x : List UInt8) (m : Nat) (acc : List UInt8) : acc ++ x ++ (List.replicate m x).flatten = acc ++ (List.replicate (m + 1) x).flatten := by rw [List.replicate_succ, List.flatten_cons, List.append_assoc]
theorem en_all (k : Nat) (hk : k ≤ 44) (v0 v1 v2 v3 v4 v5 v6 v7 v12 v13 v14 v15 v16 v17 v18 v19 v20 v21 v22 v23 : CVal) (Q : CExit → CSt → Prop) : ∀ (m i : Nat), i + m = k → ∀ (acc : List UInt8), acc.length ≤ 100 + 30 * i → ∀ (h : CHeap) (v10 : CVal), Fit h →
    (∀ n' ty w, h.next ≤ n' → zAb ty n' → Q (.exit 1) ⟨[v0, v1, v2, v3, v4, v5, v6, v7, .int .i64 (k : Int), .int .i64 (k : Int), w, .str (acc ++ (List.replicate m [125]).flatten), v12, v13, v14, v15, v16, v17, v18, v19, v20, v21, v22, v23], ⟨h.ents, n', ty⟩, []⟩) →
    W tree.getF enLoopM ⟨[v0, v1, v2, v3, v4, v5, v6, v7, .int .i64 (i : Int), .int .i64 (k : Int), v10, .str acc, v12, v13, v14, v15, v16, v17, v18, v19, v20, v21, v22, v23], h, []⟩ Q := by
 intro m
 induction m with
 | zero =>
  intro i hi acc hacc h v10 hf hk
  obtain rfl : i = k := by omega
  simp only [List.replicate_zero, List.flatten_nil, List.append_nil] at hk
  have hno : ¬ (i : Int) < (i : Int) := by omega
  obtain ⟨hu, hut, hX⟩ := fx4 hf
  refine W.loop ?_
  repeat (first | refine sq_ ?_ | refine bl_ ?_ | ((first | refine rg_ ?_ | refine go_ ?_); generalize e : goR _ _ _ _ _ _ _ _ = r; simp (disch := omega) [hX, List.length_map, zA5, zA6, zA4] at e; replace e : some _ = _ := e; subst e; (try dsimp only [goW])) | refine ct_ rfl ?_ | refine cf_ rfl ?_ | refine sk_ ?_ | refine ex_ ?_)
  all_goals ((try simp only [zAl, zA3, zAf]); refine hk _ _ _ ?_ ?_; (try dsimp only); omega; exact ut_)
 | succ m ih =>
  intro i hi acc hacc h v10 hf hk
  have hlt1 : (i : Int) < (k : Int) := by omega
  have hih : ∀ (h' : CHeap) (v10 : CVal), h'.ents = h.ents → h.next ≤ h'.next → zAb h'.tys h'.next → W tree.getF enLoopM ⟨[v0, v1, v2, v3, v4, v5, v6, v7, .int .i64 ((i : Int) + 1), .int .i64 (k : Int), v10, .str (acc ++ [125]), v12, v13, v14, v15, v16, v17, v18, v19, v20, v21, v22, v23], h', []⟩ Q := by
   intro h' v10 e1 e2 e3
   have := ih (i + 1) (by omega) (acc ++ [125]) (by rw [List.length_append]; (try simp only [List.length_cons, List.length_nil]); omega) h' v10 ⟨by rw [e1]; exact hf.1.le e2, e3⟩ (fun n' ty w g1 g2 => by rw [e1, rep_app]; exact hk n' ty w (by omega) g2)
   have e4 : ((i + 1 : Nat) : Int) = (i : Int) + 1 := by omega
   rw [e4] at this
   exact this
  obtain ⟨hu, hut, hX⟩ := fx4 hf
  refine W.loop ?_
  repeat (first | refine sq_ ?_ | refine bl_ ?_ | ((first | refine rg_ ?_ | refine go_ ?_); generalize e : goR _ _ _ _ _ _ _ _ = r; simp (disch := omega) [hX, List.length_map, zA5, zA6, zA4] at e; replace e : some _ = _ := e; subst e; (try dsimp only [goW])) | refine ct_ rfl ?_ | refine cf_ rfl ?_ | refine sk_ ?_ | refine ex_ ?_)
  show W tree.getF enLoopM (dropped true _ _) Q
  generalize e : dropped _ _ _ = r
  simp (disch := omega) [hX] at e
  subst e
  try dsimp only
  refine hih _ _ rfl ?_ ?_
  · (try dsimp only); omega
  · exact ut_
theorem pt_all (part : List UInt8) (hpl : part.length ≤ 30) (k : Nat) (hk : k ≤ 44) (v0 v1 v2 v3 v4 v6 v7 v8 v10 v11 v15 v16 v17 v18 v19 v20 v21 v22 v23 : CVal) (Q : CExit → CSt → Prop) : ∀ (m i : Nat), i + m = k → ∀ (acc : List UInt8), acc.length ≤ 100 + 30 * i → ∀ (h : CHeap) (v13 : CVal), Fit h →
    (∀ n' ty w, h.next ≤ n' → zAb ty n' → Q (.exit 3) ⟨[v0, v1, v2, v3, v4, .str (acc ++ (List.replicate m part).flatten), v6, v7, v8, .int .i64 (k : Int), v10, v11, .int .i64 (k : Int), w, .str part, v15, v16, v17, v18, v19, v20, v21, v22, v23], ⟨h.ents, n', ty⟩, []⟩) →
    W tree.getF ptLoopM ⟨[v0, v1, v2, v3, v4, .str acc, v6, v7, v8, .int .i64 (k : Int), v10, v11, .int .i64 (i : Int), v13, .str part, v15, v16, v17, v18, v19, v20, v21, v22, v23], h, []⟩ Q := by
 intro m
 induction m with
 | zero =>
  intro i hi acc hacc h v13 hf hk
  obtain rfl : i = k := by omega
  simp only [List.replicate_zero, List.flatten_nil, List.append_nil] at hk
  have hno : ¬ (i : Int) < (i : Int) := by omega
  obtain ⟨hu, hut, hX⟩ := fx4 hf
  refine W.loop ?_
  repeat (first | refine sq_ ?_ | refine bl_ ?_ | ((first | refine rg_ ?_ | refine go_ ?_); generalize e : goR _ _ _ _ _ _ _ _ = r; simp (disch := omega) [hX, List.length_map, zA5, zA6, zA4] at e; replace e : some _ = _ := e; subst e; (try dsimp only [goW])) | refine ct_ rfl ?_ | refine cf_ rfl ?_ | refine sk_ ?_ | refine ex_ ?_)
  all_goals ((try simp only [zAl, zA3, zAf]); refine hk _ _ _ ?_ ?_; (try dsimp only); omega; exact ut_)
 | succ m ih =>
  intro i hi acc hacc h v13 hf hk
  have hlt1 : (i : Int) < (k : Int) := by omega
  have hih : ∀ (h' : CHeap) (v13 : CVal), h'.ents = h.ents → h.next ≤ h'.next → zAb h'.tys h'.next → W tree.getF ptLoopM ⟨[v0, v1, v2, v3, v4, .str (acc ++ part), v6, v7, v8, .int .i64 (k : Int), v10, v11, .int .i64 ((i : Int) + 1), v13, .str part, v15, v16, v17, v18, v19, v20, v21, v22, v23], h', []⟩ Q := by
   intro h' v13 e1 e2 e3
   have := ih (i + 1) (by omega) (acc ++ part) (by rw [List.length_append]; (try simp only [List.length_cons, List.length_nil]); omega) h' v13 ⟨by rw [e1]; exact hf.1.le e2, e3⟩ (fun n' ty w g1 g2 => by rw [e1, rep_app]; exact hk n' ty w (by omega) g2)
   have e4 : ((i + 1 : Nat) : Int) = (i : Int) + 1 := by omega
   rw [e4] at this
   exact this
  obtain ⟨hu, hut, hX⟩ := fx4 hf
  refine W.loop ?_
  repeat (first | refine sq_ ?_ | refine bl_ ?_ | ((first | refine rg_ ?_ | refine go_ ?_); generalize e : goR _ _ _ _ _ _ _ _ = r; simp (disch := omega) [hX, List.length_map, zA5, zA6, zA4] at e; replace e : some _ = _ := e; subst e; (try dsimp only [goW])) | refine ct_ rfl ?_ | refine cf_ rfl ?_ | refine sk_ ?_ | refine ex_ ?_)
  show W tree.getF ptLoopM (dropped true _ _) Q
  generalize e : dropped _ _ _ = r
  simp (disch := omega) [hX] at e
  subst e
  try dsimp only
  refine hih _ _ rfl ?_ ?_
  · (try dsimp only); omega
  · exact ut_
def pxPM : Nat → List UInt8
 | 3 => [115, 121, 110, 116, 97, 120, 32, 61, 32, 39, 112, 114, 111, 116, 111, 51, 39, 59, 109, 101, 115, 115, 97, 103, 101, 32, 77, 32, 123]
 | 4 => [115, 121, 110, 116, 97, 120, 32, 61, 32, 39, 112, 114, 111, 116, 111, 51, 39, 59, 101, 110, 117, 109, 32, 69, 32, 123]
 | 5 => [115, 121, 110, 116, 97, 120, 32, 61, 32, 39, 112, 114, 111, 116, 111, 51, 39, 59, 109, 101, 115, 115, 97, 103, 101, 32, 77, 32, 123]
 | _ => [115, 121, 110, 116, 97, 120, 32, 61, 32, 39, 112, 114, 111, 116, 111, 51, 39, 59]
def ptPM : Nat → List UInt8
 | 0 => [109, 101, 115, 115, 97, 103, 101, 32, 65, 32, 123, 125, 32]
 | 1 => [101, 110, 117, 109, 32, 65, 32, 123, 125, 32]
 | 2 => [105, 109, 112, 111, 114, 116, 32, 39, 120, 39, 59, 32]
 | 3 => [105, 110, 116, 51, 50, 32, 97, 32, 61, 32, 49, 59, 32]
 | 4 => [66, 32, 61, 32, 48, 59, 32]
 | 5 => [111, 110, 101, 111, 102, 32, 97, 32, 123, 32, 105, 110, 116, 51, 50, 32, 98, 32, 61, 32, 49, 59, 32, 125, 32]
 | _ => [109, 101, 115, 115, 97, 103, 101, 32, 65, 32, 123, 32]
def enPM : Nat → Nat → List UInt8
 | 3, _ => [125]
 | 4, _ => [125]
 | 5, _ => [125]
 | 6, k => (List.replicate k [125]).flatten
 | _, _ => []
def LexPM : Prop := ∀ w k : Nat, w < 7 → k ≤ 44 → ∃ l : List Tok, l.length < 100000 ∧ l.map strip = [(1, [115, 121, 110, 116, 97, 120], 0), (4, [61], 0), (3, [112, 114, 111, 116, 111, 51], 0), (4, [59], 0)] ++ (tkPM w k ++ [(5, [], 0)]) ∧ Pu tree.getF 12 [.str (pxPM w ++ ((List.replicate k (ptPM w)).flatten ++ enPM w k))] (.tup [.imm .none 4 (l.map tokV), .int .i64 0, .int .i64 0])
end Go.Proofs.YtjecpdnjpggcoaaGreatDoor.IrM
namespace Go.Proofs.YtjecpdnjpggcoaaGreatDoor.IrM
open Go Go.CI
open Go.LexF hiding spacesB lettersB
set_option maxRecDepth 100000
set_option linter.unusedVariables false
set_option linter.unusedSimpArgs false
theorem quoteF : ∀ (x R acc : List UInt8) (k : Nat), (∀ c ∈ x, c ≠ 39 ∧ c ≠ 10 ∧ c ≠ 92) → textF 39 (x ++ 39 :: R) acc k = some (acc ++ x, k + x.length + 1)
 | [], R, acc, k, _ => by
  show textF 39 (39 :: R) acc k = _
  unfold textF
  rw [if_pos rfl]; simp
 | c :: x, R, acc, k, h => by
  obtain ⟨h1, h2, h3⟩ := h c (by simp)
  have ih := quoteF x R (acc ++ [c]) (k + 1) (fun d hd => h d (by simp [hd]))
  show textF 39 (c :: (x ++ 39 :: R)) acc k = _
  unfold textF
  rw [if_neg h1, if_neg h2, if_neg h3, ih]
  simp; omega
theorem valid_asciis : ∀ x : List UInt8, (∀ c ∈ x, c.toNat < 128) → validF x = true
 | [], _ => by rw [validF]; rfl
 | c :: x, h => by rw [valid_ascii (h c (by simp))]; exact valid_asciis x fun d hd => h d (by simp [hd])
theorem quote_ok (x : List UInt8) (h : ∀ c ∈ x, c ≠ 39 ∧ c ≠ 10 ∧ c ≠ 92 ∧ c.toNat < 128) : TokOk (39 :: (x ++ [39])) 3 x 0 true := by
 refine ⟨by simp, fun R hR => ?_, fun R => skip_no (by decide) (by decide) _, by omega⟩
 have ht := quoteF x R [] 0 (fun c hc => ⟨(h c hc).1, (h c hc).2.1, (h c hc).2.2.1⟩)
 have e : (39 :: (x ++ [39])) ++ R = 39 :: (x ++ 39 :: R) := by simp
 rw [e]
 simp only [wordW]
 rw [nameF_no (by decide) (by decide), if_neg (by omega), if_neg (by decide), if_pos (by decide), ht]
 dsimp only
 rw [List.nil_append, valid_asciis x fun c hc => (h c hc).2.2.2]
 simp
theorem one_ok : TokOk [49] 2 [] 1 false := num_ok (x := [49]) (by decide) (by decide)
abbrev cN (x g : List UInt8) : Cel := ⟨x, 1, x, 0, g, false⟩
abbrev cS (c : UInt8) (g : List UInt8) : Cel := ⟨[c], 4, [c], 0, g, true⟩
abbrev cQ (x g : List UInt8) : Cel := ⟨39 :: (x ++ [39]), 3, x, 0, g, true⟩
abbrev d0 (g : List UInt8) : Cel := ⟨[48], 2, [], 0, g, false⟩
abbrev d1 (g : List UInt8) : Cel := ⟨[49], 2, [], 1, g, false⟩
theorem g32 : GapOk [32] := gap_sp (by decide) gap_nil
theorem sepG {p : Cel} {r : List Cel} (h : p.g = [32]) : Sep p r := .inr (.inl ⟨32, [], h, by decide⟩)
theorem sepF {p : Cel} {r : List Cel} (h : p.fr = true) : Sep p r := .inl h
theorem sepS {p : Cel} {c : UInt8} {g : List UInt8} {r : List Cel} (h : p.g = []) (hc : brk c = true) : Sep p (cS c g :: r) := .inr (.inr ⟨h, _, _, rfl, c, [], rfl, hc⟩)
theorem letter_name {c : UInt8} (h : Go.LexF.lettersB.contains c = true) : nameB [c] = true := by simp only [nameB, h, Bool.true_and]; rfl
theorem toks_strip : ∀ (ps : List Cel) (a : Nat), (toks a ps).map strip = ps.map fun p => (p.k, p.tx, p.n)
 | [], _ => rfl
 | p :: r, a => by simp only [toks, List.map_cons, toks_strip r]; rfl
def pxC : Nat → List Cel
 | 3 => [cN [115, 121, 110, 116, 97, 120] [32], cS 61 [32], cQ [112, 114, 111, 116, 111, 51] [], cS 59 [], cN [109, 101, 115, 115, 97, 103, 101] [32], cN [77] [32], cS 123 []]
 | 4 => [cN [115, 121, 110, 116, 97, 120] [32], cS 61 [32], cQ [112, 114, 111, 116, 111, 51] [], cS 59 [], cN [101, 110, 117, 109] [32], cN [69] [32], cS 123 []]
 | 5 => [cN [115, 121, 110, 116, 97, 120] [32], cS 61 [32], cQ [112, 114, 111, 116, 111, 51] [], cS 59 [], cN [109, 101, 115, 115, 97, 103, 101] [32], cN [77] [32], cS 123 []]
 | _ => [cN [115, 121, 110, 116, 97, 120] [32], cS 61 [32], cQ [112, 114, 111, 116, 111, 51] [], cS 59 []]
def ptC : Nat → List Cel
 | 0 => [cN [109, 101, 115, 115, 97, 103, 101] [32], cN [65] [32], cS 123 [], cS 125 [32]]
 | 1 => [cN [101, 110, 117, 109] [32], cN [65] [32], cS 123 [], cS 125 [32]]
 | 2 => [cN [105, 109, 112, 111, 114, 116] [32], cQ [120] [], cS 59 [32]]
 | 3 => [cN [105, 110, 116, 51, 50] [32], cN [97] [32], cS 61 [32], d1 [], cS 59 [32]]
 | 4 => [cN [66] [32], cS 61 [32], d0 [], cS 59 [32]]
 | 5 => [cN [111, 110, 101, 111, 102] [32], cN [97] [32], cS 123 [32], cN [105, 110, 116, 51, 50] [32], cN [98] [32], cS 61 [32], d1 [], cS 59 [32], cS 125 [32]]
 | _ => [cN [109, 101, 115, 115, 97, 103, 101] [32], cN [65] [32], cS 123 [32]]
def enC : Nat → Nat → List Cel
 | 3, _ => [cS 125 []]
 | 4, _ => [cS 125 []]
 | 5, _ => [cS 125 []]
 | 6, k => List.replicate k (cS 125 [])
 | _, _ => []
theorem pxC_wf (w : Nat) (hw : w < 7) : WFB (pxC w) := by
 obtain rfl | rfl | rfl | rfl | rfl | rfl | rfl : w = 0 ∨ w = 1 ∨ w = 2 ∨ w = 3 ∨ w = 4 ∨ w = 5 ∨ w = 6 := by omega
 · exact ⟨zAv (by decide), g32, sepG rfl, zAt (by decide), g32, sepG rfl, quote_ok _ (by decide), gap_nil, sepF rfl, zAt (by decide), gap_nil, sepF rfl, trivial⟩
 · exact ⟨zAv (by decide), g32, sepG rfl, zAt (by decide), g32, sepG rfl, quote_ok _ (by decide), gap_nil, sepF rfl, zAt (by decide), gap_nil, sepF rfl, trivial⟩
 · exact ⟨zAv (by decide), g32, sepG rfl, zAt (by decide), g32, sepG rfl, quote_ok _ (by decide), gap_nil, sepF rfl, zAt (by decide), gap_nil, sepF rfl, trivial⟩
 · exact ⟨zAv (by decide), g32, sepG rfl, zAt (by decide), g32, sepG rfl, quote_ok _ (by decide), gap_nil, sepF rfl, zAt (by decide), gap_nil, sepF rfl, zAv (by decide), g32, sepG rfl, zAv (by decide), g32, sepG rfl, zAt (by decide), gap_nil, sepF rfl, trivial⟩
 · exact ⟨zAv (by decide), g32, sepG rfl, zAt (by decide), g32, sepG rfl, quote_ok _ (by decide), gap_nil, sepF rfl, zAt (by decide), gap_nil, sepF rfl, zAv (by decide), g32, sepG rfl, zAv (by decide), g32, sepG rfl, zAt (by decide), gap_nil, sepF rfl, trivial⟩
 · exact ⟨zAv (by decide), g32, sepG rfl, zAt (by decide), g32, sepG rfl, quote_ok _ (by decide), gap_nil, sepF rfl, zAt (by decide), gap_nil, sepF rfl, zAv (by decide), g32, sepG rfl, zAv (by decide), g32, sepG rfl, zAt (by decide), gap_nil, sepF rfl, trivial⟩
 · exact ⟨zAv (by decide), g32, sepG rfl, zAt (by decide), g32, sepG rfl, quote_ok _ (by decide), gap_nil, sepF rfl, zAt (by decide), gap_nil, sepF rfl, trivial⟩
theorem ptC_wf (w : Nat) (hw : w < 7) : WFB (ptC w) := by
 obtain rfl | rfl | rfl | rfl | rfl | rfl | rfl : w = 0 ∨ w = 1 ∨ w = 2 ∨ w = 3 ∨ w = 4 ∨ w = 5 ∨ w = 6 := by omega
 · exact ⟨zAv (by decide), g32, sepG rfl, zAv (by decide), g32, sepG rfl, zAt (by decide), gap_nil, sepF rfl, zAt (by decide), g32, sepG rfl, trivial⟩
 · exact ⟨zAv (by decide), g32, sepG rfl, zAv (by decide), g32, sepG rfl, zAt (by decide), gap_nil, sepF rfl, zAt (by decide), g32, sepG rfl, trivial⟩
 · exact ⟨zAv (by decide), g32, sepG rfl, quote_ok _ (by decide), gap_nil, sepF rfl, zAt (by decide), g32, sepG rfl, trivial⟩
 · exact ⟨zAv (by decide), g32, sepG rfl, zAv (by decide), g32, sepG rfl, zAt (by decide), g32, sepG rfl, one_ok, gap_nil, sepS rfl (by decide), zAt (by decide), g32, sepG rfl, trivial⟩
 · exact ⟨zAv (by decide), g32, sepG rfl, zAt (by decide), g32, sepG rfl, zero_ok, gap_nil, sepS rfl (by decide), zAt (by decide), g32, sepG rfl, trivial⟩
 · exact ⟨zAv (by decide), g32, sepG rfl, zAv (by decide), g32, sepG rfl, zAt (by decide), g32, sepG rfl, zAv (by decide), g32, sepG rfl, zAv (by decide), g32, sepG rfl, zAt (by decide), g32, sepG rfl, one_ok, gap_nil, sepS rfl (by decide), zAt (by decide), g32, sepG rfl, zAt (by decide), g32, sepG rfl, trivial⟩
 · exact ⟨zAv (by decide), g32, sepG rfl, zAv (by decide), g32, sepG rfl, zAt (by decide), g32, sepG rfl, trivial⟩
theorem one_wf : WFB [cS 125 []] := ⟨zAt (by decide), gap_nil, sepF rfl, trivial⟩
theorem rep_wf {P : List Cel} (h : WFB P) : ∀ k : Nat, WFB (List.replicate k P).flatten
 | 0 => trivial
 | k + 1 => by rw [List.replicate_succ, List.flatten_cons]; exact h.app (rep_wf h k)
theorem sign_rep : ∀ k : Nat, WFB (List.replicate k (cS 125 []))
 | 0 => trivial
 | k + 1 => by rw [List.replicate_succ]; exact one_wf.app (sign_rep k)
theorem enC_wf (w k : Nat) (hw : w < 7) : WFB (enC w k) := by
 obtain rfl | rfl | rfl | rfl | rfl | rfl | rfl : w = 0 ∨ w = 1 ∨ w = 2 ∨ w = 3 ∨ w = 4 ∨ w = 5 ∨ w = 6 := by omega
 · trivial
 · trivial
 · trivial
 · exact one_wf
 · exact one_wf
 · exact one_wf
 · exact sign_rep k
theorem rnd_rep (P : List Cel) : ∀ k : Nat, rnd (List.replicate k P).flatten = (List.replicate k (rnd P)).flatten
 | 0 => rfl
 | k + 1 => by rw [List.replicate_succ, List.flatten_cons, rnd_app, rnd_rep P k, List.replicate_succ, List.flatten_cons]
theorem rnd_sign : ∀ k : Nat, rnd (List.replicate k (cS 125 [])) = (List.replicate k [125]).flatten
 | 0 => rfl
 | k + 1 => by rw [List.replicate_succ, List.replicate_succ, List.flatten_cons, ← rnd_sign k]; rfl
theorem px_txt (w : Nat) (hw : w < 7) : rnd (pxC w) = pxPM w := by
 obtain rfl | rfl | rfl | rfl | rfl | rfl | rfl : w = 0 ∨ w = 1 ∨ w = 2 ∨ w = 3 ∨ w = 4 ∨ w = 5 ∨ w = 6 := by omega
 all_goals rfl
theorem pt_txt (w : Nat) (hw : w < 7) : rnd (ptC w) = ptPM w := by
 obtain rfl | rfl | rfl | rfl | rfl | rfl | rfl : w = 0 ∨ w = 1 ∨ w = 2 ∨ w = 3 ∨ w = 4 ∨ w = 5 ∨ w = 6 := by omega
 all_goals rfl
theorem en_txt (w k : Nat) (hw : w < 7) : rnd (enC w k) = enPM w k := by
 obtain rfl | rfl | rfl | rfl | rfl | rfl | rfl : w = 0 ∨ w = 1 ∨ w = 2 ∨ w = 3 ∨ w = 4 ∨ w = 5 ∨ w = 6 := by omega
 · rfl
 · rfl
 · rfl
 · rfl
 · rfl
 · rfl
 · exact rnd_sign k
def t3 (p : Cel) : Tk3 := (p.k, p.tx, p.n)
theorem map_rep (P : List Cel) : ∀ k : Nat, ((List.replicate k P).flatten).map t3 = (List.replicate k (P.map t3)).flatten
 | 0 => rfl
 | k + 1 => by rw [List.replicate_succ, List.flatten_cons, List.map_append, map_rep P k, List.replicate_succ, List.flatten_cons]
theorem all_tk (w k : Nat) (hw : w < 7) : (pxC w ++ ((List.replicate k (ptC w)).flatten ++ enC w k)).map t3 = [(1, [115, 121, 110, 116, 97, 120], 0), (4, [61], 0), (3, [112, 114, 111, 116, 111, 51], 0), (4, [59], 0)] ++ tkPM w k := by
 rw [List.map_append, List.map_append, map_rep]
 obtain rfl | rfl | rfl | rfl | rfl | rfl | rfl : w = 0 ∨ w = 1 ∨ w = 2 ∨ w = 3 ∨ w = 4 ∨ w = 5 ∨ w = 6 := by omega
 · show _ ++ (_ ++ []) = _; rw [List.append_nil]; rfl
 · show _ ++ (_ ++ []) = _; rw [List.append_nil]; rfl
 · show _ ++ (_ ++ []) = _; rw [List.append_nil]; rfl
 · rfl
 · rfl
 · rfl
 · show _ ++ (_ ++ (List.replicate k (cS 125 [])).map t3) = _; rw [List.map_replicate]; rfl
theorem pt_len (w : Nat) (hw : w < 7) : (ptC w).length ≤ 9 ∧ (ptPM w).length ≤ 30 ∧ (pxC w).length ≤ 9 ∧ (pxPM w).length ≤ 40 := by
 obtain rfl | rfl | rfl | rfl | rfl | rfl | rfl : w = 0 ∨ w = 1 ∨ w = 2 ∨ w = 3 ∨ w = 4 ∨ w = 5 ∨ w = 6 := by omega
 all_goals decide
theorem en_len (w k : Nat) (hw : w < 7) : (enC w k).length ≤ k + 1 ∧ (enPM w k).length ≤ k + 1 := by
 obtain rfl | rfl | rfl | rfl | rfl | rfl | rfl : w = 0 ∨ w = 1 ∨ w = 2 ∨ w = 3 ∨ w = 4 ∨ w = 5 ∨ w = 6 := by omega
 all_goals (constructor <;> simp [enC, enPM])
theorem flatB_len {A : Type} {T : List A} (r : Nat) : ((List.replicate r T).flatten).length = T.length * r := by
 induction r with
 | zero => rfl
 | succ r ih => rw [List.replicate_succ, List.flatten_cons, List.length_append, ih, Nat.mul_succ]; omega
theorem lexPM : LexPM := by
 intro w k hw hk
 have hwf := ((pxC_wf w hw).app ((rep_wf (ptC_wf w hw) k).app (enC_wf w k hw))).wf
 have htx : rnd (pxC w ++ ((List.replicate k (ptC w)).flatten ++ enC w k)) = pxPM w ++ ((List.replicate k (ptPM w)).flatten ++ enPM w k) := by
  rw [rnd_app, rnd_app, rnd_rep, px_txt w hw, pt_txt w hw, en_txt w k hw]
 obtain ⟨l1, l2, l3, l4⟩ := pt_len w hw
 obtain ⟨l5, l6⟩ := en_len w k hw
 have hm1 : (ptC w).length * k ≤ 9 * 44 := Nat.mul_le_mul l1 hk
 have hm2 : (ptPM w).length * k ≤ 30 * 44 := Nat.mul_le_mul l2 hk
 have hF := lexF_cells _ hwf (by rw [htx, List.length_append, List.length_append, flatB_len]; omega)
 rw [htx] at hF
 refine ⟨toks 0 (pxC w ++ ((List.replicate k (ptC w)).flatten ++ enC w k)) ++ [(5, [], 0, (pxPM w ++ ((List.replicate k (ptPM w)).flatten ++ enPM w k)).length)], ?_, ?_, ?_⟩
 · rw [List.length_append, toks_len, List.length_append, List.length_append, flatB_len]; simp only [List.length_cons, List.length_nil]; omega
 · have h := all_tk w k hw
   rw [List.map_append, toks_strip]
   show List.map t3 _ ++ _ = _
   rw [h, List.append_assoc]; rfl
 · have LX := lex_F (pxPM w ++ ((List.replicate k (ptPM w)).flatten ++ enPM w k)) (by rw [List.length_append, List.length_append, flatB_len]; omega)
   unfold lexV at LX
   rw [hF] at LX
   exact LX
end Go.Proofs.YtjecpdnjpggcoaaGreatDoor.IrM
namespace Go.Proofs.YtjecpdnjpggcoaaGreatDoor.IrM
open Go Go.CI
open Go.LexF hiding spacesB lettersB
set_option maxRecDepth 100000
set_option maxHeartbeats 4000000
set_option linter.unusedVariables false
set_option linter.unusedSimpArgs false
attribute [local irreducible] W Wo Wc WoR
attribute [local simp] goR regOut checkOne swapOne sameAt nthOp CVal.beq beqs CVal.block storesTo zAa zAe zBg evalE evalP evalL zAy nth setNth COp.cls COp.isStore CVal.isUndef CVal.whole CVal.cells CHeap.put CHeap.get CHeap.set wantedC zA2 zA0 partOf zB9 evalBin evalInt evalStr zB8 initVar descOf List.take List.drop CVal.lenOf CVal.isStr CVal.bare CVal.strip CVal.flat zAo zBm zB6 finishC cut fillCells setCells szOf szOf_desc elems bytesOf evalAppend fillElems mkElem setElem List.replicate sy_nbeq sy_neqF sy_leT sy_leF zAj dropped sy_wrap64 zAx zAc zBb sy_ibeqF sy_ieqF sy_ileT sy_ileF sy_iltT sy_iltF sy_ltT sy_ltF zAg zA8 eqVal extL extE keyIs findKV nthKV setKV CHeap.ty lookupN CHeap.note CHeap.tyOk dropAll freezeVal freezeAll freezeFlat cellsEq cellEq zAk zAq pMakeNoZero zBi pClone pIndex hasPair rowOf byteVals idxFrom hasFront idxSub
theorem bgPM {K : CVal → CHeap → Prop} (hk : ∀ n' ty, 3 ≤ n' → zAb ty n' → K (.bool true) ⟨[], n', ty⟩) : Wc tree.getF 5 [] ⟨[], 3, []⟩ K := wc_start (m := 1000000) (by kernel_rfl) hk
theorem wYE1 {P : Prop} (h : P := by refine Wc.mkG 3 c3 (by kernel_rfl) rfl ?_; generalize e : zAa _ _ _ = r; simp (disch := omega) [noHeap, List.length_map, zAi, zA5, zA6, zA4, hkn, hwv, c3] at e; subst e; repeat' (first | refine sq_ ?_ | refine bl_ ?_ | ((first | refine rg_ ?_ | refine go_ ?_); generalize e : goR _ _ _ _ _ _ _ _ = r; simp (disch := omega) [noHeap, List.length_map, zAi, zA5, zA6, zA4, hkn, hwv, c3] at e; replace e : some _ = _ := e; subst e; (try dsimp only [goW])) | refine ct_ rfl ?_ | refine cf_ rfl ?_ | refine sk_ ?_ | refine ex_ ?_ | (refine bgPM fun n1 ty1 hn1 hut1 => ⟨rfl, ?_⟩) | (refine en_all k (by omega) _ _ _ _ _ _ _ _ _ _ _ _ _ _ _ _ _ _ _ _ _ k 0 (by omega) [] (by simp) _ _ ?_ ?_; (focus (((refine ⟨?_, ?_⟩; (focus ((repeat (first | refine Under.cons (by (try dsimp only); omega) ?_ | exact Under.nil)); done)); (focus ((repeat (first | refine zAb.cons (by (try dsimp only); omega) ?_ | exact zAb.nil | assumption | exact zAb.le (by assumption) (by (try dsimp only); omega))); done)))); done)); intro n50 ty50 u1 g50 h50; (try dsimp only at g50); (simp only [hE])) | (refine pt_all _ (by decide) k (by omega) _ _ _ _ _ _ _ _ _ _ _ _ _ _ _ _ _ _ _ _ k 0 (by omega) _ (by simp) _ _ ?_ ?_; (focus (((refine ⟨?_, ?_⟩; (focus ((repeat (first | refine Under.cons (by (try dsimp only); omega) ?_ | exact Under.nil)); done)); (focus ((repeat (first | refine zAb.cons (by (try dsimp only); omega) ?_ | exact zAb.nil | assumption | exact zAb.le (by assumption) (by (try dsimp only); omega))); done)))); done)); intro n60 ty60 u2 g60 h60; (try dsimp only at g60); (simp only [hB])) | (refine parse_ok _ l hll (LXE _ (by simp)) _ hst _ HH _ ?_ _ fun n9 ty9 RI RM RE nI nM nE hn9 hun9 hP hRI hRM hRE => ⟨rfl, ?_⟩; (focus (((refine ⟨?_, ?_⟩; (focus ((repeat (first | refine Under.cons (by (try dsimp only); omega) ?_ | exact Under.nil)); done)); (focus ((repeat (first | refine zAb.cons (by (try dsimp only); omega) ?_ | exact zAb.nil | assumption | exact zAb.le (by assumption) (by (try dsimp only); omega))); done)))); done)); (try dsimp only at hn9); (have hPc := hP); (simp only [cntPM] at hPc); (rcases hRI with ⟨rfl, eI'⟩ | ⟨kI, tI, rfl, eI'⟩ <;> rcases hRM with ⟨rfl, eM'⟩ | ⟨kM, tM, rfl, eM'⟩ <;> rcases hRE with ⟨rfl, eE'⟩ | ⟨kE, tE, rfl, eE'⟩ <;> (try (exfalso; omega)))) | (simp only [thenW_exit, zAf, zAl, reduceIte]; (try simp only [zB1])) | ((first | (refine W.ret ?_; (try simp only [zAl, zA3, zAf]); refine endW.of (.inl rfl) rfl ?_) | refine endW.of (.inr rfl) rfl ?_); generalize e : zAo _ _ _ = r; simp (disch := omega) [noHeap, List.length_map, zAi, zA5, zA6, zA4, hkn, hwv, c3] at e; subst e; (try dsimp only [goW]); (all_goals rfl)))) : P := h
theorem wYE2 {P : Prop} (h : P := by refine Wc.mkG 3 c3 (by kernel_rfl) rfl ?_; generalize e : zAa _ _ _ = r; simp (disch := omega) [noHeap, List.length_map, zAi, zA5, zA6, zA4, hkn, hwv, c3] at e; subst e; repeat' (first | refine sq_ ?_ | refine bl_ ?_ | ((first | refine rg_ ?_ | refine go_ ?_); generalize e : goR _ _ _ _ _ _ _ _ = r; simp (disch := omega) [noHeap, List.length_map, zAi, zA5, zA6, zA4, hkn, hwv, c3] at e; replace e : some _ = _ := e; subst e; (try dsimp only [goW])) | refine ct_ rfl ?_ | refine cf_ rfl ?_ | refine sk_ ?_ | refine ex_ ?_ | (refine bgPM fun n1 ty1 hn1 hut1 => ⟨rfl, ?_⟩) | (refine en_all k (by omega) _ _ _ _ _ _ _ _ _ _ _ _ _ _ _ _ _ _ _ _ _ k 0 (by omega) [] (by simp) _ _ ?_ ?_; (focus (((refine ⟨?_, ?_⟩; (focus ((repeat (first | refine Under.cons (by (try dsimp only); omega) ?_ | exact Under.nil)); done)); (focus ((repeat (first | refine zAb.cons (by (try dsimp only); omega) ?_ | exact zAb.nil | assumption | exact zAb.le (by assumption) (by (try dsimp only); omega))); done)))); done)); intro n50 ty50 u1 g50 h50; (try dsimp only at g50); (simp only [hE])) | (refine pt_all _ (by decide) k (by omega) _ _ _ _ _ _ _ _ _ _ _ _ _ _ _ _ _ _ _ _ k 0 (by omega) _ (by simp) _ _ ?_ ?_; (focus (((refine ⟨?_, ?_⟩; (focus ((repeat (first | refine Under.cons (by (try dsimp only); omega) ?_ | exact Under.nil)); done)); (focus ((repeat (first | refine zAb.cons (by (try dsimp only); omega) ?_ | exact zAb.nil | assumption | exact zAb.le (by assumption) (by (try dsimp only); omega))); done)))); done)); intro n60 ty60 u2 g60 h60; (try dsimp only at g60); (simp only [hB])) | (refine parse_x _ l hll (LXE _ (by simp)) _ hst _ HH _ ?_ _ fun n9 ty9 to9 hn9 hun9 => ⟨rfl, ?_⟩; (focus (((refine ⟨?_, ?_⟩; (focus ((repeat (first | refine Under.cons (by (try dsimp only); omega) ?_ | exact Under.nil)); done)); (focus ((repeat (first | refine zAb.cons (by (try dsimp only); omega) ?_ | exact zAb.nil | assumption | exact zAb.le (by assumption) (by (try dsimp only); omega))); done)))); done)); (try dsimp only at hn9)) | (simp only [thenW_exit, zAf, zAl, reduceIte]; (try simp only [zB1])) | ((first | (refine W.ret ?_; (try simp only [zAl, zA3, zAf]); refine endW.of (.inl rfl) rfl ?_) | refine endW.of (.inr rfl) rfl ?_); generalize e : zAo _ _ _ = r; simp (disch := omega) [noHeap, List.length_map, zAi, zA5, zA6, zA4, hkn, hwv, c3] at e; subst e; (try dsimp only [goW]); (all_goals rfl)))) : P := h
theorem prePM (H : LexPM) (w k : Nat) (hw : w < 7) (hk : k ≤ 44) : ∃ (l : List Tok) (B EB : List UInt8), l.length < 100000 ∧ l.map strip = [(1, [115, 121, 110, 116, 97, 120], 0), (4, [61], 0), (3, [112, 114, 111, 116, 111, 51], 0), (4, [59], 0)] ++ (tkPM w k ++ [(5, [], 0)]) ∧ (List.replicate k (ptPM w)).flatten = B ∧ B.length ≤ 1320 ∧ (List.replicate k ([125] : List UInt8)).flatten = EB ∧ EB.length ≤ 44 ∧ Pu tree.getF 12 [.str (pxPM w ++ (B ++ enPM w k))] (.tup [.imm .none 4 (l.map tokV), .int .i64 0, .int .i64 0]) := by
 obtain ⟨l, hll, hst, LX⟩ := H w k hw hk
 refine ⟨l, _, _, hll, hst, rfl, ?_, rfl, ?_, LX⟩
 · have h1 : ((List.replicate k (ptPM w)).flatten).length = (ptPM w).length * k := repB_len k
   have h0 : (ptPM w).length ≤ 30 := by
    obtain rfl | rfl | rfl | rfl | rfl | rfl | rfl : w = 0 ∨ w = 1 ∨ w = 2 ∨ w = 3 ∨ w = 4 ∨ w = 5 ∨ w = 6 := by omega
    all_goals decide
   have h2 : (ptPM w).length * k ≤ 30 * 44 := Nat.mul_le_mul h0 hk
   omega
 · have h1 : ((List.replicate k ([125] : List UInt8)).flatten).length = 1 * k := repB_len k
   omega
theorem lx_ {f : Nat} {t : List UInt8} {v : CVal} (LX : Pu tree.getF f [.str t] v) : ∀ s, s = t → Pu tree.getF f [.str s] v := by
 intro s hs
 rw [hs]
 exact LX
theorem law_0_ok (H : LexPM) (n x : Int) (k : Nat) (hkn : n.tmod 45 = (k : Int)) (hn : 0 ≤ n ∧ n < 256) (hx : 0 ≤ x ∧ x < 256) (hwv : x.tmod 7 = 0) (hk : k ≤ 30) : Wc tree.getF 3 [.int .u8 n, .int .u8 x] noHeap fun v _ => v = .bool true := by
 obtain ⟨l, B, EB, hll, hst, hB, hBl, hE, hEl, LX⟩ := prePM H 0 k (by decide) (by omega)
 have HH := fun p d => HL_all_ok p d l hll 0 k (by omega) (show k ≤ mostPM 0 by simp only [mostPM]; omega) hst
 simp only [pxPM, enPM, ptPM, hE, List.append_nil] at LX hB
 have LXE := lx_ LX
 clear LX
 exact wYE1
theorem law_0_x (H : LexPM) (n x : Int) (k : Nat) (hkn : n.tmod 45 = (k : Int)) (hn : 0 ≤ n ∧ n < 256) (hx : 0 ≤ x ∧ x < 256) (hwv : x.tmod 7 = 0) (hk : 30 < k ∧ k ≤ 44) : Wc tree.getF 3 [.int .u8 n, .int .u8 x] noHeap fun v _ => v = .bool true := by
 obtain ⟨l, B, EB, hll, hst, hB, hBl, hE, hEl, LX⟩ := prePM H 0 k (by decide) (by omega)
 have HH := fun p d => HL_all_x p d l hll 0 k (by omega) (show mostPM 0 < k by simp only [mostPM]; omega) hst
 simp only [pxPM, enPM, ptPM, hE, List.append_nil] at LX hB
 have LXE := lx_ LX
 clear LX
 exact wYE2
theorem law_1_ok (H : LexPM) (n x : Int) (k : Nat) (hkn : n.tmod 45 = (k : Int)) (hn : 0 ≤ n ∧ n < 256) (hx : 0 ≤ x ∧ x < 256) (hwv : x.tmod 7 = 1) (hk : k ≤ 30) : Wc tree.getF 3 [.int .u8 n, .int .u8 x] noHeap fun v _ => v = .bool true := by
 obtain ⟨l, B, EB, hll, hst, hB, hBl, hE, hEl, LX⟩ := prePM H 1 k (by decide) (by omega)
 have HH := fun p d => HL_all_ok p d l hll 1 k (by omega) (show k ≤ mostPM 1 by simp only [mostPM]; omega) hst
 simp only [pxPM, enPM, ptPM, hE, List.append_nil] at LX hB
 have LXE := lx_ LX
 clear LX
 exact wYE1
theorem law_1_x (H : LexPM) (n x : Int) (k : Nat) (hkn : n.tmod 45 = (k : Int)) (hn : 0 ≤ n ∧ n < 256) (hx : 0 ≤ x ∧ x < 256) (hwv : x.tmod 7 = 1) (hk : 30 < k ∧ k ≤ 44) : Wc tree.getF 3 [.int .u8 n, .int .u8 x] noHeap fun v _ => v = .bool true := by
 obtain ⟨l, B, EB, hll, hst, hB, hBl, hE, hEl, LX⟩ := prePM H 1 k (by decide) (by omega)
 have HH := fun p d => HL_all_x p d l hll 1 k (by omega) (show mostPM 1 < k by simp only [mostPM]; omega) hst
 simp only [pxPM, enPM, ptPM, hE, List.append_nil] at LX hB
 have LXE := lx_ LX
 clear LX
 exact wYE2
theorem law_2_ok (H : LexPM) (n x : Int) (k : Nat) (hkn : n.tmod 45 = (k : Int)) (hn : 0 ≤ n ∧ n < 256) (hx : 0 ≤ x ∧ x < 256) (hwv : x.tmod 7 = 2) (hk : k ≤ 30) : Wc tree.getF 3 [.int .u8 n, .int .u8 x] noHeap fun v _ => v = .bool true := by
 obtain ⟨l, B, EB, hll, hst, hB, hBl, hE, hEl, LX⟩ := prePM H 2 k (by decide) (by omega)
 have HH := fun p d => HL_all_ok p d l hll 2 k (by omega) (show k ≤ mostPM 2 by simp only [mostPM]; omega) hst
 simp only [pxPM, enPM, ptPM, hE, List.append_nil] at LX hB
 have LXE := lx_ LX
 clear LX
 exact wYE1
theorem law_2_x (H : LexPM) (n x : Int) (k : Nat) (hkn : n.tmod 45 = (k : Int)) (hn : 0 ≤ n ∧ n < 256) (hx : 0 ≤ x ∧ x < 256) (hwv : x.tmod 7 = 2) (hk : 30 < k ∧ k ≤ 44) : Wc tree.getF 3 [.int .u8 n, .int .u8 x] noHeap fun v _ => v = .bool true := by
 obtain ⟨l, B, EB, hll, hst, hB, hBl, hE, hEl, LX⟩ := prePM H 2 k (by decide) (by omega)
 have HH := fun p d => HL_all_x p d l hll 2 k (by omega) (show mostPM 2 < k by simp only [mostPM]; omega) hst
 simp only [pxPM, enPM, ptPM, hE, List.append_nil] at LX hB
 have LXE := lx_ LX
 clear LX
 exact wYE2
theorem law_3_ok (H : LexPM) (n x : Int) (k : Nat) (hkn : n.tmod 45 = (k : Int)) (hn : 0 ≤ n ∧ n < 256) (hx : 0 ≤ x ∧ x < 256) (hwv : x.tmod 7 = 3) (hk : k ≤ 30) : Wc tree.getF 3 [.int .u8 n, .int .u8 x] noHeap fun v _ => v = .bool true := by
 obtain ⟨l, B, EB, hll, hst, hB, hBl, hE, hEl, LX⟩ := prePM H 3 k (by decide) (by omega)
 have HH := fun p d => HL_all_ok p d l hll 3 k (by omega) (show k ≤ mostPM 3 by simp only [mostPM]; omega) hst
 simp only [pxPM, enPM, ptPM, hE, List.append_nil] at LX hB
 have LXE := lx_ LX
 clear LX
 exact wYE1
theorem law_3_x (H : LexPM) (n x : Int) (k : Nat) (hkn : n.tmod 45 = (k : Int)) (hn : 0 ≤ n ∧ n < 256) (hx : 0 ≤ x ∧ x < 256) (hwv : x.tmod 7 = 3) (hk : 30 < k ∧ k ≤ 44) : Wc tree.getF 3 [.int .u8 n, .int .u8 x] noHeap fun v _ => v = .bool true := by
 obtain ⟨l, B, EB, hll, hst, hB, hBl, hE, hEl, LX⟩ := prePM H 3 k (by decide) (by omega)
 have HH := fun p d => HL_all_x p d l hll 3 k (by omega) (show mostPM 3 < k by simp only [mostPM]; omega) hst
 simp only [pxPM, enPM, ptPM, hE, List.append_nil] at LX hB
 have LXE := lx_ LX
 clear LX
 exact wYE2
theorem law_4_ok (H : LexPM) (n x : Int) (k : Nat) (hkn : n.tmod 45 = (k : Int)) (hn : 0 ≤ n ∧ n < 256) (hx : 0 ≤ x ∧ x < 256) (hwv : x.tmod 7 = 4) (hk : k ≤ 30) : Wc tree.getF 3 [.int .u8 n, .int .u8 x] noHeap fun v _ => v = .bool true := by
 obtain ⟨l, B, EB, hll, hst, hB, hBl, hE, hEl, LX⟩ := prePM H 4 k (by decide) (by omega)
 have HH := fun p d => HL_all_ok p d l hll 4 k (by omega) (show k ≤ mostPM 4 by simp only [mostPM]; omega) hst
 simp only [pxPM, enPM, ptPM, hE, List.append_nil] at LX hB
 have LXE := lx_ LX
 clear LX
 exact wYE1
theorem law_4_x (H : LexPM) (n x : Int) (k : Nat) (hkn : n.tmod 45 = (k : Int)) (hn : 0 ≤ n ∧ n < 256) (hx : 0 ≤ x ∧ x < 256) (hwv : x.tmod 7 = 4) (hk : 30 < k ∧ k ≤ 44) : Wc tree.getF 3 [.int .u8 n, .int .u8 x] noHeap fun v _ => v = .bool true := by
 obtain ⟨l, B, EB, hll, hst, hB, hBl, hE, hEl, LX⟩ := prePM H 4 k (by decide) (by omega)
 have HH := fun p d => HL_all_x p d l hll 4 k (by omega) (show mostPM 4 < k by simp only [mostPM]; omega) hst
 simp only [pxPM, enPM, ptPM, hE, List.append_nil] at LX hB
 have LXE := lx_ LX
 clear LX
 exact wYE2
theorem law_5_ok (H : LexPM) (n x : Int) (k : Nat) (hkn : n.tmod 45 = (k : Int)) (hn : 0 ≤ n ∧ n < 256) (hx : 0 ≤ x ∧ x < 256) (hwv : x.tmod 7 = 5) (hk : k ≤ 30) : Wc tree.getF 3 [.int .u8 n, .int .u8 x] noHeap fun v _ => v = .bool true := by
 obtain ⟨l, B, EB, hll, hst, hB, hBl, hE, hEl, LX⟩ := prePM H 5 k (by decide) (by omega)
 have HH := fun p d => HL_all_ok p d l hll 5 k (by omega) (show k ≤ mostPM 5 by simp only [mostPM]; omega) hst
 simp only [pxPM, enPM, ptPM, hE, List.append_nil] at LX hB
 have LXE := lx_ LX
 clear LX
 exact wYE1
theorem law_5_x (H : LexPM) (n x : Int) (k : Nat) (hkn : n.tmod 45 = (k : Int)) (hn : 0 ≤ n ∧ n < 256) (hx : 0 ≤ x ∧ x < 256) (hwv : x.tmod 7 = 5) (hk : 30 < k ∧ k ≤ 44) : Wc tree.getF 3 [.int .u8 n, .int .u8 x] noHeap fun v _ => v = .bool true := by
 obtain ⟨l, B, EB, hll, hst, hB, hBl, hE, hEl, LX⟩ := prePM H 5 k (by decide) (by omega)
 have HH := fun p d => HL_all_x p d l hll 5 k (by omega) (show mostPM 5 < k by simp only [mostPM]; omega) hst
 simp only [pxPM, enPM, ptPM, hE, List.append_nil] at LX hB
 have LXE := lx_ LX
 clear LX
 exact wYE2
theorem law_6_okz (H : LexPM) (n x : Int) (k : Nat) (hkn : n.tmod 45 = (k : Int)) (hn : 0 ≤ n ∧ n < 256) (hx : 0 ≤ x ∧ x < 256) (hwv : x.tmod 7 = 6) (hk : k ≤ 20) (hk0 : k = 0) : Wc tree.getF 3 [.int .u8 n, .int .u8 x] noHeap fun v _ => v = .bool true := by
 obtain ⟨l, B, EB, hll, hst, hB, hBl, hE, hEl, LX⟩ := prePM H 6 k (by decide) (by omega)
 have HH := fun p d => HL_all_ok p d l hll 6 k (by omega) (show k ≤ mostPM 6 by simp only [mostPM]; omega) hst
 simp only [pxPM, enPM, ptPM, hE, List.append_nil] at LX hB
 have LXE := lx_ LX
 clear LX
 exact wYE1
theorem law_6_okp (H : LexPM) (n x : Int) (k : Nat) (hkn : n.tmod 45 = (k : Int)) (hn : 0 ≤ n ∧ n < 256) (hx : 0 ≤ x ∧ x < 256) (hwv : x.tmod 7 = 6) (hk : k ≤ 20) (hk0 : k = 1) : Wc tree.getF 3 [.int .u8 n, .int .u8 x] noHeap fun v _ => v = .bool true := by
 obtain ⟨l, B, EB, hll, hst, hB, hBl, hE, hEl, LX⟩ := prePM H 6 k (by decide) (by omega)
 have HH := fun p d => HL_all_ok p d l hll 6 k (by omega) (show k ≤ mostPM 6 by simp only [mostPM]; omega) hst
 simp only [pxPM, enPM, ptPM, hE, List.append_nil] at LX hB
 have LXE := lx_ LX
 clear LX
 exact wYE1
theorem law_6_okq (H : LexPM) (n x : Int) (k : Nat) (hkn : n.tmod 45 = (k : Int)) (hn : 0 ≤ n ∧ n < 256) (hx : 0 ≤ x ∧ x < 256) (hwv : x.tmod 7 = 6) (hk : k ≤ 20) (hk0 : 1 < k) : Wc tree.getF 3 [.int .u8 n, .int .u8 x] noHeap fun v _ => v = .bool true := by
 obtain ⟨l, B, EB, hll, hst, hB, hBl, hE, hEl, LX⟩ := prePM H 6 k (by decide) (by omega)
 have HH := fun p d => HL_all_ok p d l hll 6 k (by omega) (show k ≤ mostPM 6 by simp only [mostPM]; omega) hst
 simp only [pxPM, enPM, ptPM, hE, List.append_nil] at LX hB
 have LXE := lx_ LX
 clear LX
 exact wYE1
theorem law_6_x (H : LexPM) (n x : Int) (k : Nat) (hkn : n.tmod 45 = (k : Int)) (hn : 0 ≤ n ∧ n < 256) (hx : 0 ≤ x ∧ x < 256) (hwv : x.tmod 7 = 6) (hk : 20 < k ∧ k ≤ 44) : Wc tree.getF 3 [.int .u8 n, .int .u8 x] noHeap fun v _ => v = .bool true := by
 obtain ⟨l, B, EB, hll, hst, hB, hBl, hE, hEl, LX⟩ := prePM H 6 k (by decide) (by omega)
 have HH := fun p d => HL_all_x p d l hll 6 k (by omega) (show mostPM 6 < k by simp only [mostPM]; omega) hst
 simp only [pxPM, enPM, ptPM, hE, List.append_nil] at LX hB
 have LXE := lx_ LX
 clear LX
 exact wYE2
end Go.Proofs.YtjecpdnjpggcoaaGreatDoor.IrM
namespace Go.Proofs.YtjecpdnjpggcoaaGreatDoor.IrM
open Go Go.CI
open Go.LexF hiding spacesB lettersB
set_option maxRecDepth 100000
set_option linter.unusedVariables false
set_option linter.unusedSimpArgs false
theorem law (n x : Int) (hn : 0 ≤ n ∧ n < 256) (hx : 0 ≤ x ∧ x < 256) : Wc tree.getF 3 [.int .u8 n, .int .u8 x] noHeap fun v _ => v = .bool true := by
 have h1 := Int.tmod_nonneg 45 hn.1
 have h2 := Int.tmod_lt_of_pos n (show (0 : Int) < 45 by omega)
 have h3 := Int.tmod_nonneg 7 hx.1
 have h4 := Int.tmod_lt_of_pos x (show (0 : Int) < 7 by omega)
 obtain ⟨k, hk⟩ : ∃ k : Nat, n.tmod 45 = (k : Int) := ⟨(n.tmod 45).toNat, by omega⟩
 obtain e | e | e | e | e | e | e : x.tmod 7 = 0 ∨ x.tmod 7 = 1 ∨ x.tmod 7 = 2 ∨ x.tmod 7 = 3 ∨ x.tmod 7 = 4 ∨ x.tmod 7 = 5 ∨ x.tmod 7 = 6 := by omega
 · rcases Nat.lt_or_ge 30 k with g | g
   · exact law_0_x lexPM n x k hk hn hx e ⟨g, by omega⟩
   · exact law_0_ok lexPM n x k hk hn hx e g
 · rcases Nat.lt_or_ge 30 k with g | g
   · exact law_1_x lexPM n x k hk hn hx e ⟨g, by omega⟩
   · exact law_1_ok lexPM n x k hk hn hx e g
 · rcases Nat.lt_or_ge 30 k with g | g
   · exact law_2_x lexPM n x k hk hn hx e ⟨g, by omega⟩
   · exact law_2_ok lexPM n x k hk hn hx e g
 · rcases Nat.lt_or_ge 30 k with g | g
   · exact law_3_x lexPM n x k hk hn hx e ⟨g, by omega⟩
   · exact law_3_ok lexPM n x k hk hn hx e g
 · rcases Nat.lt_or_ge 30 k with g | g
   · exact law_4_x lexPM n x k hk hn hx e ⟨g, by omega⟩
   · exact law_4_ok lexPM n x k hk hn hx e g
 · rcases Nat.lt_or_ge 30 k with g | g
   · exact law_5_x lexPM n x k hk hn hx e ⟨g, by omega⟩
   · exact law_5_ok lexPM n x k hk hn hx e g
 · rcases Nat.lt_or_ge 20 k with g | g
   · exact law_6_x lexPM n x k hk hn hx e ⟨g, by omega⟩
   · rcases Nat.lt_or_ge 1 k with g1 | g1
     · exact law_6_okq lexPM n x k hk hn hx e g g1
     · rcases Nat.lt_or_ge 0 k with g0 | g0
       · exact law_6_okp lexPM n x k hk hn hx e g (by omega)
       · exact law_6_okz lexPM n x k hk hn hx e g (by omega)
end Go.Proofs.YtjecpdnjpggcoaaGreatDoor.IrM
