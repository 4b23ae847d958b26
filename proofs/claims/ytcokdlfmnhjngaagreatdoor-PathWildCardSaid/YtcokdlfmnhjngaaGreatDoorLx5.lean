/- What the functions of the law 'PathWild' do: part 5 of 8. -/
import Derived.Test.YtcokdlfmnhjngaaGreatDoorLx4
namespace Go.Proofs.YtcokdlfmnhjngaaGreatDoor.IrW
open Go Go.CI
set_option maxRecDepth 100000
set_option maxHeartbeats 4000000
set_option linter.unusedVariables false
set_option linter.unusedSimpArgs false
attribute [local irreducible] W Wo Wc WoR
abbrev zH5:CCode:=(.seq (.R [.k 3 12,.l 0,.c 103 [(.loc 0)],.x .neq 0 (.k 2),.m (.loc 0)] [(19,4)]) (.seq (.seq (.R [.k 5 4,.l 0,.x .neq 0 (.k 0),.m (.loc 0),.Q (.k 0 4) 0 true,.Q (.l 0) 1 true,.Q (.x .neq 0 (.k 2)) 2 true,.Q (.m (.loc 0)) 3 true,.Q (.v 19) 0 false,.q (.not (.loc 0)) 1 false,.q (.pick (.loc 2) (.b true) (.loc 0)) 6 true,.p 7 0] [(20,11)]) (.cond (.var 20) (.seq (.R [.y 3 6,.t 3 7 0,.m (.k 6)] [(28,2)]) .ret) .skip)) (.seq (.R [.k 0 4,.l 0,.x .eql 0 (.k 2),.m (.loc 0),.Q (.v 19) 0 true,.p 1 0,.m (.loc 0),.Q (.k 5 4) 0 true,.Q (.l 0) 1 true,.Q (.x .neq 0 (.k 2)) 2 true,.p 3 0,.k 6 12,.s 1 0 1] []) (.seq (.R [.m (.k 0)] [(21,0)]) (.seq (.block 4 (.loop true (.seq (.seq (.R [.v 21,.k 1 6,.l 0,.j 0,.h .lss 3 0,.m (.loc 0),.Q (.k 1 6) 0 true,.Q (.l 0) 1 true,.Q (.v 21) 2 true,.Q (.i 8 1 0) 3 true,.Q (.f 0 0) 4 true,.Q (.l 0) 5 true,.Q (.k 0 12) 6 true,.Q (.l 0) 7 true,.Q (.h .lss 2 0) 8 true,.p 9 0] [(22,15)]) (.cond (.var 22) .skip (.exit 4))) (.block 5 (.R [.v 21,.x .add 0 (.k 1),.m (.loc 0)] [(21,2)]))))) (.region [.g (.lit .imm true [(.int .i64 0),(.str []),(.int .i64 0),(.int .i64 0),(.str []),(.int .i64 0),(.bool false),(.int .i64 0)] 0 []),.k 1 6,.l 0,.v 21,.g (.slc 8 (.loc 1) none (some (.loc 0))),.d 0 8 4 0,.y 8 12,.g (.lit .imm true [(.int .i64 0),(.str []),(.int .i64 0),(.int .i64 0),(.str []),(.int .i64 0),(.bool false),(.int .i64 0)] 1 [(0,(.loc 0))]),.d 0 8 2 0,.k 1 6,.l 0,.v 21,.g (.slc 8 (.loc 1) (some (.loc 0)) none),.d 0 8 4 0,.k 1 6,.s 1 0 1] [] [(6,0,1),(10,0,2)] []))))))
theorem zEd {l:List CVal} (z:l.map CVal.bare=l):(∃ (w:CVal) (ws:List CVal),l=[]∧w.bare=w∧ws.map CVal.bare=ws∧ws.length≤0)∨∃ w ws,l=w::ws∧w.bare=w∧ws.map CVal.bare=ws∧ws.length+1≤l.length:=by
 cases l with
 | nil=>exact .inl ⟨.nils,[],rfl,rfl,rfl,Nat.le_refl _⟩
 | cons w ws =>
  rw [List.map_cons] at z
  injection z with z1 z2
  exact .inr ⟨w,ws,rfl,z1,z2,by simp⟩
theorem tl_a {hh:CHeap} (hf:Fit hh) {b1 pm p7:Nat} {FV O:CVal} {whole n:B8} {L:List CVal} {i4 d4 ix dx:Nat} {r:RW} {κ kk:Nat} (hκ1:1≤κ) (hκ2:κ≤17) {ty:B8} {acc:List RW} {tg:Tag} (hl9:acc.length≤100) (e1:r.pk=0) (e2:r.lab=2) (e3:wN κ=2)
    (gm:zA1 hh.ents pm=some (.cells [.str whole,.nils,O])) (ha:acc=[]) (gx:zA1 hh.ents ix=some (.cells [.int .i64 r.num,.str r.nm,.int .i64 r.lab,.int .i64 (κ:Int),.str ty,.int .i64 (kk:Int),.bool false,.int .i64 r.oo])) (g4:zA1 hh.ents i4=some (.cells [.int .i64 r.lab,.str r.t,.str r.key,.str r.nm,.int .u64 r.num,.int .i64 r.pk,.int .i64 r.oo])) (n1:ix≠pm) (n2:i4≠ix) (n3:i4≠pm) (HO:PV1 O) {v0 v2 v3 v5 v8 v9 v10 v11 v13 v15 v16 v17 v18 v19 v20 v21 v22 v23 v24 v25 v26 v27:CVal} {Q:QT}
    (hk:∀ (v19 v20 v21 v22:CVal) n' i u,hh.next≤n'→hh.next≤i→i<n'→Q .normal ⟨[v0,.ptr b1 116391948 0,v2,v3,.ptr i4 d4 0,v5,.ptr pm 63963139 0,.ptr p7 63963139 0,v8,v9,v10,v11,.ptr ix dx 0,v13,FV,v15,v16,v17,v18,v19,v20,v21,v22,v23,v24,v25,v26,v27,.int .i64 0],⟨(i,.tok u)::zA2 (zA2 hh.ents ix (.cells [.int .i64 r.num,.str r.nm,.int .i64 r.lab,.int .i64 (κ:Int),.str ty,.int .i64 (kk:Int),.bool false,.int .i64 r.oo])) pm (.cells [.str whole,.imm (.own i u) 8 ((acc.take (posR r acc)).map RW.pf++(.agg [.int .i64 r.num,.str r.nm,.int .i64 r.lab,.int .i64 (κ:Int),.str ty,.int .i64 (kk:Int),.bool false,.int .i64 r.oo])::(acc.drop (posR r acc)).map RW.pf),O]),n',hh.tys⟩,[]⟩) :
    W tree.getF zH5 ⟨[v0,.ptr b1 116391948 0,v2,v3,.ptr i4 d4 0,v5,.ptr pm 63963139 0,.ptr p7 63963139 0,v8,v9,v10,v11,.ptr ix dx 0,v13,FV,v15,v16,v17,v18,v19,v20,v21,v22,v23,v24,v25,v26,v27,.int .i64 0],hh,[]⟩ Q:=by
 obtain ⟨hu,hut,hX⟩:=fx4 hf
 have hY:=fx5 hf gx
 have s1:∀ X,zA1 (zA2 hh.ents ix X) pm=zA1 hh.ents pm:=fun X=>zA0 (Ne.symm n1)
 have s2:∀ X,zA1 (zA2 hh.ents ix X) i4=zA1 hh.ents i4:=fun X=>zA0 n2
 have lx:=zA7 hu gx
 have lm:=zA7 hu gm
 obtain ⟨o1,o2,o3,o4,o5⟩:=HO
 simp only [CVal.isUndef,CVal.whole,CVal.cells,CVal.strip,CVal.bare] at o1 o2 o3 o4 o5
 have p1:(r.pk:Int)=0:=by omega
 have p2:(r.lab:Int)=2:=by omega
 simp only [p2] at hk
 repeat ((fail_if_success (show W tree.getF posL _ _));first
  | refine st_ rfl ?_
  | ((first | refine W.regG ?_ | refine WoR.go ?_);generalize e:goR .. = r;simp (disch:=omega) [hX,hY,s1,s2,gm,gx,g4,o1,o2,o3,o4,o5,p1,p2,e3] at e;replace e:some _=_:=e;subst e;(try dsimp only [goW]))
  | ((simp only [zAb,zA4,zA3,zA5,zA8,reduceIte]))
  | (refine pe_ (zG2 κ hκ1 hκ2) fun _ g=>⟨rfl,?_⟩;(try dsimp only at g)))
 refine zJf (hh:=⟨_,_,_⟩) (r:=r) (L:=L) (n:=n) (whole:=whole) (O:=O) (x1:=.str r.nm) (x2:=.int .i64 2) (x3:=.int .i64 κ) (x4:=.str ty) (x5:=.int .i64 kk) (x6:=.bool false) (x7:=.int .i64 r.oo) ?_ ?_ ?_ (Nat.le_refl _) fun v22 n' g=>?_
 · exact ft_
 · dsimp only;rw [s1];exact gm
 · dsimp only;rw [hY.1]
 dsimp only at g
 (simp only [zAb,zA4,zA3,zA5,zA8,reduceIte])
 subst ha
 have b1:=trivial
 have b2:=trivial
 have b3:=trivial
 have b4:=trivial
 have hZ:=j19_ hX hY s1 s2 gm gx g4 o1 o2 o3 o4 o5 p1 p2 e3 b1 b2 b3 b4
 try refine vk_ ?_
 refine hk _ _ _ _ _ _ _ ?_ ?_ ?_
 all_goals omega
theorem tl_b {hh:CHeap} (hf:Fit hh) {b1 pm p7:Nat} {FV O:CVal} {whole n:B8} {L:List CVal} {i4 d4 ix dx:Nat} {r:RW} {κ kk:Nat} (hκ1:1≤κ) (hκ2:κ≤17) {ty:B8} {acc:List RW} {tg:Tag} (hl9:acc.length≤100) (e1:r.pk=0) (e2:r.lab=2) (e3:wN κ≠2)
    (gm:zA1 hh.ents pm=some (.cells [.str whole,.nils,O])) (ha:acc=[]) (gx:zA1 hh.ents ix=some (.cells [.int .i64 r.num,.str r.nm,.int .i64 r.lab,.int .i64 (κ:Int),.str ty,.int .i64 (kk:Int),.bool false,.int .i64 r.oo])) (g4:zA1 hh.ents i4=some (.cells [.int .i64 r.lab,.str r.t,.str r.key,.str r.nm,.int .u64 r.num,.int .i64 r.pk,.int .i64 r.oo])) (n1:ix≠pm) (n2:i4≠ix) (n3:i4≠pm) (HO:PV1 O) {v0 v2 v3 v5 v8 v9 v10 v11 v13 v15 v16 v17 v18 v19 v20 v21 v22 v23 v24 v25 v26 v27:CVal} {Q:QT}
    (hk:∀ (v19 v20 v21 v22:CVal) n' i u,hh.next≤n'→hh.next≤i→i<n'→Q .normal ⟨[v0,.ptr b1 116391948 0,v2,v3,.ptr i4 d4 0,v5,.ptr pm 63963139 0,.ptr p7 63963139 0,v8,v9,v10,v11,.ptr ix dx 0,v13,FV,v15,v16,v17,v18,v19,v20,v21,v22,v23,v24,v25,v26,v27,.int .i64 0],⟨(i,.tok u)::zA2 (zA2 hh.ents ix (.cells [.int .i64 r.num,.str r.nm,.int .i64 r.lab,.int .i64 (κ:Int),.str ty,.int .i64 (kk:Int),.bool true,.int .i64 r.oo])) pm (.cells [.str whole,.imm (.own i u) 8 ((acc.take (posR r acc)).map RW.pf++(.agg [.int .i64 r.num,.str r.nm,.int .i64 r.lab,.int .i64 (κ:Int),.str ty,.int .i64 (kk:Int),.bool true,.int .i64 r.oo])::(acc.drop (posR r acc)).map RW.pf),O]),n',hh.tys⟩,[]⟩) :
    W tree.getF zH5 ⟨[v0,.ptr b1 116391948 0,v2,v3,.ptr i4 d4 0,v5,.ptr pm 63963139 0,.ptr p7 63963139 0,v8,v9,v10,v11,.ptr ix dx 0,v13,FV,v15,v16,v17,v18,v19,v20,v21,v22,v23,v24,v25,v26,v27,.int .i64 0],hh,[]⟩ Q:=by
 obtain ⟨hu,hut,hX⟩:=fx4 hf
 have hY:=fx5 hf gx
 have s1:∀ X,zA1 (zA2 hh.ents ix X) pm=zA1 hh.ents pm:=fun X=>zA0 (Ne.symm n1)
 have s2:∀ X,zA1 (zA2 hh.ents ix X) i4=zA1 hh.ents i4:=fun X=>zA0 n2
 have lx:=zA7 hu gx
 have lm:=zA7 hu gm
 obtain ⟨o1,o2,o3,o4,o5⟩:=HO
 simp only [CVal.isUndef,CVal.whole,CVal.cells,CVal.strip,CVal.bare] at o1 o2 o3 o4 o5
 have p1:(r.pk:Int)=0:=by omega
 have p2:(r.lab:Int)=2:=by omega
 simp only [p2] at hk
 repeat ((fail_if_success (show W tree.getF posL _ _));first
  | refine st_ rfl ?_
  | ((first | refine W.regG ?_ | refine WoR.go ?_);generalize e:goR .. = r;simp (disch:=omega) [hX,hY,s1,s2,gm,gx,g4,o1,o2,o3,o4,o5,p1,p2,e3] at e;replace e:some _=_:=e;subst e;(try dsimp only [goW]))
  | ((simp only [zAb,zA4,zA3,zA5,zA8,reduceIte]))
  | (refine pe_ (zG2 κ hκ1 hκ2) fun _ g=>⟨rfl,?_⟩;(try dsimp only at g)))
 refine zJf (hh:=⟨_,_,_⟩) (r:=r) (L:=L) (n:=n) (whole:=whole) (O:=O) (x1:=.str r.nm) (x2:=.int .i64 2) (x3:=.int .i64 κ) (x4:=.str ty) (x5:=.int .i64 kk) (x6:=.bool true) (x7:=.int .i64 r.oo) ?_ ?_ ?_ (Nat.le_refl _) fun v22 n' g=>?_
 · exact ft_
 · dsimp only;rw [s1];exact gm
 · dsimp only;rw [hY.1]
 dsimp only at g
 (simp only [zAb,zA4,zA3,zA5,zA8,reduceIte])
 subst ha
 have b1:=trivial
 have b2:=trivial
 have b3:=trivial
 have b4:=trivial
 have hZ:=j19_ hX hY s1 s2 gm gx g4 o1 o2 o3 o4 o5 p1 p2 e3 b1 b2 b3 b4
 try refine vk_ ?_
 refine hk _ _ _ _ _ _ _ ?_ ?_ ?_
 all_goals omega
theorem tl_c {hh:CHeap} (hf:Fit hh) {b1 pm p7:Nat} {FV O:CVal} {whole n:B8} {L:List CVal} {i4 d4 ix dx:Nat} {r:RW} {κ kk:Nat} (hκ1:1≤κ) (hκ2:κ≤17) {ty:B8} {acc:List RW} {tg:Tag} (hl9:acc.length≤100) (e1:r.pk=0) (e2:r.lab≠2)
    (gm:zA1 hh.ents pm=some (.cells [.str whole,.nils,O])) (ha:acc=[]) (gx:zA1 hh.ents ix=some (.cells [.int .i64 r.num,.str r.nm,.int .i64 r.lab,.int .i64 (κ:Int),.str ty,.int .i64 (kk:Int),.bool false,.int .i64 r.oo])) (g4:zA1 hh.ents i4=some (.cells [.int .i64 r.lab,.str r.t,.str r.key,.str r.nm,.int .u64 r.num,.int .i64 r.pk,.int .i64 r.oo])) (n1:ix≠pm) (n2:i4≠ix) (n3:i4≠pm) (HO:PV1 O) {v0 v2 v3 v5 v8 v9 v10 v11 v13 v15 v16 v17 v18 v19 v20 v21 v22 v23 v24 v25 v26 v27:CVal} {Q:QT}
    (hk:∀ (v19 v20 v21 v22:CVal) n' i u,hh.next≤n'→hh.next≤i→i<n'→Q .normal ⟨[v0,.ptr b1 116391948 0,v2,v3,.ptr i4 d4 0,v5,.ptr pm 63963139 0,.ptr p7 63963139 0,v8,v9,v10,v11,.ptr ix dx 0,v13,FV,v15,v16,v17,v18,v19,v20,v21,v22,v23,v24,v25,v26,v27,.int .i64 0],⟨(i,.tok u)::zA2 (zA2 hh.ents ix (.cells [.int .i64 r.num,.str r.nm,.int .i64 r.lab,.int .i64 (κ:Int),.str ty,.int .i64 (kk:Int),.bool false,.int .i64 r.oo])) pm (.cells [.str whole,.imm (.own i u) 8 ((acc.take (posR r acc)).map RW.pf++(.agg [.int .i64 r.num,.str r.nm,.int .i64 r.lab,.int .i64 (κ:Int),.str ty,.int .i64 (kk:Int),.bool false,.int .i64 r.oo])::(acc.drop (posR r acc)).map RW.pf),O]),n',hh.tys⟩,[]⟩) :
    W tree.getF zH5 ⟨[v0,.ptr b1 116391948 0,v2,v3,.ptr i4 d4 0,v5,.ptr pm 63963139 0,.ptr p7 63963139 0,v8,v9,v10,v11,.ptr ix dx 0,v13,FV,v15,v16,v17,v18,v19,v20,v21,v22,v23,v24,v25,v26,v27,.int .i64 0],hh,[]⟩ Q:=by
 obtain ⟨hu,hut,hX⟩:=fx4 hf
 have hY:=fx5 hf gx
 have s1:∀ X,zA1 (zA2 hh.ents ix X) pm=zA1 hh.ents pm:=fun X=>zA0 (Ne.symm n1)
 have s2:∀ X,zA1 (zA2 hh.ents ix X) i4=zA1 hh.ents i4:=fun X=>zA0 n2
 have lx:=zA7 hu gx
 have lm:=zA7 hu gm
 obtain ⟨o1,o2,o3,o4,o5⟩:=HO
 simp only [CVal.isUndef,CVal.whole,CVal.cells,CVal.strip,CVal.bare] at o1 o2 o3 o4 o5
 have p1:(r.pk:Int)=0:=by omega
 have p2:¬ (r.lab:Int)=2:=by omega
 repeat ((fail_if_success (show W tree.getF posL _ _));first
  | refine st_ rfl ?_
  | ((first | refine W.regG ?_ | refine WoR.go ?_);generalize e:goR .. = r;simp (disch:=omega) [hX,hY,s1,s2,gm,gx,g4,o1,o2,o3,o4,o5,p1,p2] at e;replace e:some _=_:=e;subst e;(try dsimp only [goW]))
  | ((simp only [zAb,zA4,zA3,zA5,zA8,reduceIte]))
  | (refine pe_ (zG2 κ hκ1 hκ2) fun _ g=>⟨rfl,?_⟩;(try dsimp only at g)))
 refine zJf (hh:=⟨_,_,_⟩) (r:=r) (L:=L) (n:=n) (whole:=whole) (O:=O) (x1:=.str r.nm) (x2:=.int .i64 r.lab) (x3:=.int .i64 κ) (x4:=.str ty) (x5:=.int .i64 kk) (x6:=.bool false) (x7:=.int .i64 r.oo) ?_ ?_ ?_ (Nat.le_refl _) fun v22 n' g=>?_
 · exact ft_
 · dsimp only;rw [s1];exact gm
 · dsimp only;rw [hY.1]
 dsimp only at g
 (simp only [zAb,zA4,zA3,zA5,zA8,reduceIte])
 subst ha
 have b1:=trivial
 have b2:=trivial
 have b3:=trivial
 have b4:=trivial
 have hZ:=j18_ hX hY s1 s2 gm gx g4 o1 o2 o3 o4 o5 p1 p2 b1 b2 b3 b4
 try refine vk_ ?_
 refine hk _ _ _ _ _ _ _ ?_ ?_ ?_
 all_goals omega
theorem tl_d {hh:CHeap} (hf:Fit hh) {b1 pm p7:Nat} {FV O:CVal} {whole n:B8} {L:List CVal} {i4 d4 ix dx:Nat} {r:RW} {κ kk:Nat} (hκ1:1≤κ) (hκ2:κ≤17) {ty:B8} {acc:List RW} {tg:Tag} (hl9:acc.length≤100) (e1:r.pk=1) (e2:r.lab=2) (e3:wN κ≠2)
    (gm:zA1 hh.ents pm=some (.cells [.str whole,.nils,O])) (ha:acc=[]) (gx:zA1 hh.ents ix=some (.cells [.int .i64 r.num,.str r.nm,.int .i64 r.lab,.int .i64 (κ:Int),.str ty,.int .i64 (kk:Int),.bool false,.int .i64 r.oo])) (g4:zA1 hh.ents i4=some (.cells [.int .i64 r.lab,.str r.t,.str r.key,.str r.nm,.int .u64 r.num,.int .i64 r.pk,.int .i64 r.oo])) (n1:ix≠pm) (n2:i4≠ix) (n3:i4≠pm) (HO:PV1 O) {v0 v2 v3 v5 v8 v9 v10 v11 v13 v15 v16 v17 v18 v19 v20 v21 v22 v23 v24 v25 v26 v27:CVal} {Q:QT}
    (hk:∀ (v19 v20 v21 v22:CVal) n' i u,hh.next≤n'→hh.next≤i→i<n'→Q .normal ⟨[v0,.ptr b1 116391948 0,v2,v3,.ptr i4 d4 0,v5,.ptr pm 63963139 0,.ptr p7 63963139 0,v8,v9,v10,v11,.ptr ix dx 0,v13,FV,v15,v16,v17,v18,v19,v20,v21,v22,v23,v24,v25,v26,v27,.int .i64 0],⟨(i,.tok u)::zA2 (zA2 hh.ents ix (.cells [.int .i64 r.num,.str r.nm,.int .i64 r.lab,.int .i64 (κ:Int),.str ty,.int .i64 (kk:Int),.bool true,.int .i64 r.oo])) pm (.cells [.str whole,.imm (.own i u) 8 ((acc.take (posR r acc)).map RW.pf++(.agg [.int .i64 r.num,.str r.nm,.int .i64 r.lab,.int .i64 (κ:Int),.str ty,.int .i64 (kk:Int),.bool true,.int .i64 r.oo])::(acc.drop (posR r acc)).map RW.pf),O]),n',hh.tys⟩,[]⟩) :
    W tree.getF zH5 ⟨[v0,.ptr b1 116391948 0,v2,v3,.ptr i4 d4 0,v5,.ptr pm 63963139 0,.ptr p7 63963139 0,v8,v9,v10,v11,.ptr ix dx 0,v13,FV,v15,v16,v17,v18,v19,v20,v21,v22,v23,v24,v25,v26,v27,.int .i64 0],hh,[]⟩ Q:=by
 obtain ⟨hu,hut,hX⟩:=fx4 hf
 have hY:=fx5 hf gx
 have s1:∀ X,zA1 (zA2 hh.ents ix X) pm=zA1 hh.ents pm:=fun X=>zA0 (Ne.symm n1)
 have s2:∀ X,zA1 (zA2 hh.ents ix X) i4=zA1 hh.ents i4:=fun X=>zA0 n2
 have lx:=zA7 hu gx
 have lm:=zA7 hu gm
 obtain ⟨o1,o2,o3,o4,o5⟩:=HO
 simp only [CVal.isUndef,CVal.whole,CVal.cells,CVal.strip,CVal.bare] at o1 o2 o3 o4 o5
 have p1:(r.pk:Int)=1:=by omega
 have p2:(r.lab:Int)=2:=by omega
 simp only [p2] at hk
 repeat ((fail_if_success (show W tree.getF posL _ _));first
  | refine st_ rfl ?_
  | ((first | refine W.regG ?_ | refine WoR.go ?_);generalize e:goR .. = r;simp (disch:=omega) [hX,hY,s1,s2,gm,gx,g4,o1,o2,o3,o4,o5,p1,p2,e3] at e;replace e:some _=_:=e;subst e;(try dsimp only [goW]))
  | ((simp only [zAb,zA4,zA3,zA5,zA8,reduceIte]))
  | (refine pe_ (zG2 κ hκ1 hκ2) fun _ g=>⟨rfl,?_⟩;(try dsimp only at g)))
 refine zJf (hh:=⟨_,_,_⟩) (r:=r) (L:=L) (n:=n) (whole:=whole) (O:=O) (x1:=.str r.nm) (x2:=.int .i64 2) (x3:=.int .i64 κ) (x4:=.str ty) (x5:=.int .i64 kk) (x6:=.bool true) (x7:=.int .i64 r.oo) ?_ ?_ ?_ (Nat.le_refl _) fun v22 n' g=>?_
 · exact ft_
 · dsimp only;rw [s1];exact gm
 · dsimp only;rw [hY.1]
 dsimp only at g
 (simp only [zAb,zA4,zA3,zA5,zA8,reduceIte])
 subst ha
 have b1:=trivial
 have b2:=trivial
 have b3:=trivial
 have b4:=trivial
 have hZ:=j19_ hX hY s1 s2 gm gx g4 o1 o2 o3 o4 o5 p1 p2 e3 b1 b2 b3 b4
 try refine vk_ ?_
 refine hk _ _ _ _ _ _ _ ?_ ?_ ?_
 all_goals omega
theorem tl_e {hh:CHeap} (hf:Fit hh) {b1 pm p7:Nat} {FV O:CVal} {whole n:B8} {L:List CVal} {i4 d4 ix dx:Nat} {r:RW} {κ kk:Nat} (hκ1:1≤κ) (hκ2:κ≤17) {ty:B8} {acc:List RW} {tg:Tag} (hl9:acc.length≤100) (e1:r.pk=2) (e2:r.lab=2) (e3:wN κ≠2)
    (gm:zA1 hh.ents pm=some (.cells [.str whole,.nils,O])) (ha:acc=[]) (gx:zA1 hh.ents ix=some (.cells [.int .i64 r.num,.str r.nm,.int .i64 r.lab,.int .i64 (κ:Int),.str ty,.int .i64 (kk:Int),.bool false,.int .i64 r.oo])) (g4:zA1 hh.ents i4=some (.cells [.int .i64 r.lab,.str r.t,.str r.key,.str r.nm,.int .u64 r.num,.int .i64 r.pk,.int .i64 r.oo])) (n1:ix≠pm) (n2:i4≠ix) (n3:i4≠pm) (HO:PV1 O) {v0 v2 v3 v5 v8 v9 v10 v11 v13 v15 v16 v17 v18 v19 v20 v21 v22 v23 v24 v25 v26 v27:CVal} {Q:QT}
    (hk:∀ (v19 v20 v21 v22:CVal) n' i u,hh.next≤n'→hh.next≤i→i<n'→Q .normal ⟨[v0,.ptr b1 116391948 0,v2,v3,.ptr i4 d4 0,v5,.ptr pm 63963139 0,.ptr p7 63963139 0,v8,v9,v10,v11,.ptr ix dx 0,v13,FV,v15,v16,v17,v18,v19,v20,v21,v22,v23,v24,v25,v26,v27,.int .i64 0],⟨(i,.tok u)::zA2 (zA2 hh.ents ix (.cells [.int .i64 r.num,.str r.nm,.int .i64 r.lab,.int .i64 (κ:Int),.str ty,.int .i64 (kk:Int),.bool false,.int .i64 r.oo])) pm (.cells [.str whole,.imm (.own i u) 8 ((acc.take (posR r acc)).map RW.pf++(.agg [.int .i64 r.num,.str r.nm,.int .i64 r.lab,.int .i64 (κ:Int),.str ty,.int .i64 (kk:Int),.bool false,.int .i64 r.oo])::(acc.drop (posR r acc)).map RW.pf),O]),n',hh.tys⟩,[]⟩) :
    W tree.getF zH5 ⟨[v0,.ptr b1 116391948 0,v2,v3,.ptr i4 d4 0,v5,.ptr pm 63963139 0,.ptr p7 63963139 0,v8,v9,v10,v11,.ptr ix dx 0,v13,FV,v15,v16,v17,v18,v19,v20,v21,v22,v23,v24,v25,v26,v27,.int .i64 0],hh,[]⟩ Q:=by
 obtain ⟨hu,hut,hX⟩:=fx4 hf
 have hY:=fx5 hf gx
 have s1:∀ X,zA1 (zA2 hh.ents ix X) pm=zA1 hh.ents pm:=fun X=>zA0 (Ne.symm n1)
 have s2:∀ X,zA1 (zA2 hh.ents ix X) i4=zA1 hh.ents i4:=fun X=>zA0 n2
 have lx:=zA7 hu gx
 have lm:=zA7 hu gm
 obtain ⟨o1,o2,o3,o4,o5⟩:=HO
 simp only [CVal.isUndef,CVal.whole,CVal.cells,CVal.strip,CVal.bare] at o1 o2 o3 o4 o5
 have p1:(r.pk:Int)=2:=by omega
 have p2:(r.lab:Int)=2:=by omega
 simp only [p2] at hk
 repeat ((fail_if_success (show W tree.getF posL _ _));first
  | refine st_ rfl ?_
  | ((first | refine W.regG ?_ | refine WoR.go ?_);generalize e:goR .. = r;simp (disch:=omega) [hX,hY,s1,s2,gm,gx,g4,o1,o2,o3,o4,o5,p1,p2,e3] at e;replace e:some _=_:=e;subst e;(try dsimp only [goW]))
  | ((simp only [zAb,zA4,zA3,zA5,zA8,reduceIte]))
  | (refine pe_ (zG2 κ hκ1 hκ2) fun _ g=>⟨rfl,?_⟩;(try dsimp only at g)))
 refine zJf (hh:=⟨_,_,_⟩) (r:=r) (L:=L) (n:=n) (whole:=whole) (O:=O) (x1:=.str r.nm) (x2:=.int .i64 2) (x3:=.int .i64 κ) (x4:=.str ty) (x5:=.int .i64 kk) (x6:=.bool false) (x7:=.int .i64 r.oo) ?_ ?_ ?_ (Nat.le_refl _) fun v22 n' g=>?_
 · exact ft_
 · dsimp only;rw [s1];exact gm
 · dsimp only;rw [hY.1]
 dsimp only at g
 (simp only [zAb,zA4,zA3,zA5,zA8,reduceIte])
 subst ha
 have b1:=trivial
 have b2:=trivial
 have b3:=trivial
 have b4:=trivial
 have hZ:=j19_ hX hY s1 s2 gm gx g4 o1 o2 o3 o4 o5 p1 p2 e3 b1 b2 b3 b4
 try refine vk_ ?_
 refine hk _ _ _ _ _ _ _ ?_ ?_ ?_
 all_goals omega
theorem tm_a {hh:CHeap} (hf:Fit hh) {b1 pm p7:Nat} {FV O:CVal} {whole n:B8} {L:List CVal} {i4 d4 ix dx:Nat} {r:RW} {κ kk:Nat} (hκ1:1≤κ) (hκ2:κ≤17) {ty:B8} {acc:List RW} {tg:Tag} (hl9:acc.length≤100) (e1:r.pk=0) (e2:r.lab=2) (e3:wN κ=2)
    (gm:zA1 hh.ents pm=some (.cells [.str whole,.imm tg 8 (acc.map RW.pf),O]))  (gx:zA1 hh.ents ix=some (.cells [.int .i64 r.num,.str r.nm,.int .i64 r.lab,.int .i64 (κ:Int),.str ty,.int .i64 (kk:Int),.bool false,.int .i64 r.oo])) (g4:zA1 hh.ents i4=some (.cells [.int .i64 r.lab,.str r.t,.str r.key,.str r.nm,.int .u64 r.num,.int .i64 r.pk,.int .i64 r.oo])) (n1:ix≠pm) (n2:i4≠ix) (n3:i4≠pm) (HO:PV1 O) {v0 v2 v3 v5 v8 v9 v10 v11 v13 v15 v16 v17 v18 v19 v20 v21 v22 v23 v24 v25 v26 v27:CVal} {Q:QT}
    (hk:∀ (v19 v20 v21 v22:CVal) n' i u,hh.next≤n'→hh.next≤i→i<n'→Q .normal ⟨[v0,.ptr b1 116391948 0,v2,v3,.ptr i4 d4 0,v5,.ptr pm 63963139 0,.ptr p7 63963139 0,v8,v9,v10,v11,.ptr ix dx 0,v13,FV,v15,v16,v17,v18,v19,v20,v21,v22,v23,v24,v25,v26,v27,.int .i64 0],⟨(i,.tok u)::zA2 (zA2 hh.ents ix (.cells [.int .i64 r.num,.str r.nm,.int .i64 r.lab,.int .i64 (κ:Int),.str ty,.int .i64 (kk:Int),.bool false,.int .i64 r.oo])) pm (.cells [.str whole,.imm (.own i u) 8 ((acc.take (posR r acc)).map RW.pf++(.agg [.int .i64 r.num,.str r.nm,.int .i64 r.lab,.int .i64 (κ:Int),.str ty,.int .i64 (kk:Int),.bool false,.int .i64 r.oo])::(acc.drop (posR r acc)).map RW.pf),O]),n',hh.tys⟩,[]⟩) :
    W tree.getF zH5 ⟨[v0,.ptr b1 116391948 0,v2,v3,.ptr i4 d4 0,v5,.ptr pm 63963139 0,.ptr p7 63963139 0,v8,v9,v10,v11,.ptr ix dx 0,v13,FV,v15,v16,v17,v18,v19,v20,v21,v22,v23,v24,v25,v26,v27,.int .i64 0],hh,[]⟩ Q:=by
 obtain ⟨hu,hut,hX⟩:=fx4 hf
 have hY:=fx5 hf gx
 have s1:∀ X,zA1 (zA2 hh.ents ix X) pm=zA1 hh.ents pm:=fun X=>zA0 (Ne.symm n1)
 have s2:∀ X,zA1 (zA2 hh.ents ix X) i4=zA1 hh.ents i4:=fun X=>zA0 n2
 have lx:=zA7 hu gx
 have lm:=zA7 hu gm
 obtain ⟨o1,o2,o3,o4,o5⟩:=HO
 simp only [CVal.isUndef,CVal.whole,CVal.cells,CVal.strip,CVal.bare] at o1 o2 o3 o4 o5
 have p1:(r.pk:Int)=0:=by omega
 have p2:(r.lab:Int)=2:=by omega
 simp only [p2] at hk
 repeat ((fail_if_success (show W tree.getF posL _ _));first
  | refine st_ rfl ?_
  | ((first | refine W.regG ?_ | refine WoR.go ?_);generalize e:goR .. = r;simp (disch:=omega) [hX,hY,s1,s2,gm,gx,g4,o1,o2,o3,o4,o5,p1,p2,e3] at e;replace e:some _=_:=e;subst e;(try dsimp only [goW]))
  | ((simp only [zAb,zA4,zA3,zA5,zA8,reduceIte]))
  | (refine pe_ (zG2 κ hκ1 hκ2) fun _ g=>⟨rfl,?_⟩;(try dsimp only at g)))
 refine pos_go (hh:=⟨_,_,_⟩) (r:=r) (L:=L) (n:=n) (whole:=whole) (O:=O) (x1:=.str r.nm) (x2:=.int .i64 2) (x3:=.int .i64 κ) (x4:=.str ty) (x5:=.int .i64 kk) (x6:=.bool false) (x7:=.int .i64 r.oo) (acc:=acc) (tg:=tg) ?_ hl9 ?_ ?_ (fun v22 n' g=>?_) acc 0 _ _ rfl (by simp) (Nat.le_refl _)
 · exact ft_
 · dsimp only;rw [s1];exact gm
 · dsimp only;rw [hY.1]
 dsimp only at g
 (simp only [zAb,zA4,zA3,zA5,zA8,reduceIte])
 have pl:=zIy r acc
 have z0:(acc.map RW.pf).length=acc.length:=by simp
 have b1:beqs (acc.map RW.pf) (acc.map RW.pf)=true:=zBu _
 have b2:=trivial
 have b3:=trivial
 have b4:=trivial
 simp only [List.map_take,List.map_drop] at hk
 have z4:(acc.map RW.pf).map CVal.bare=acc.map RW.pf:=by rw [List.map_map];rfl
 generalize posR r acc=ps at *
 generalize acc.map RW.pf=AL at *
 have z1:AL.length=acc.length:=z0
 have z5:List.take acc.length AL=AL:=by rw [← z1,List.take_length]
 have z2:(ps:Int)≤(acc.length:Int):=by omega
 have z3:(0:Int)≤(ps:Int):=by omega
 have zt:(AL.take ps).length+(AL.drop ps).length=acc.length:=by rw [← List.length_append,List.take_append_drop];exact z0
 rcases zEd (l:=AL.take ps) (by rw [List.map_take,z4]) with ⟨w,ws,hT,zw,zws,lw⟩ | ⟨w,ws,hT,zw,zws,lw⟩ <;> rcases zEd (l:=AL.drop ps) (by rw [List.map_drop,z4]) with ⟨d,ds,hD,zd,zds,ld⟩ | ⟨d,ds,hD,zd,zds,ld⟩
 all_goals (
  have lw9:ws.length≤100:=by omega
  have ld9:ds.length≤100:=by omega
  simp only [CVal.bare,CVal.strip] at zw zd
  simp only [hT,hD,List.nil_append,List.cons_append] at hk
  have hZ:=j32_ hX hY s1 s2 gm gx g4 o1 o2 o3 o4 o5 p1 p2 e3 b1 b2 b3 b4 z1 z2 z3 z4 z5 hT hD zw zws zd zds lw9 ld9
  try refine vk_ ?_
  refine hk _ _ _ _ _ _ _ ?_ ?_ ?_
  all_goals omega)
theorem tm_b {hh:CHeap} (hf:Fit hh) {b1 pm p7:Nat} {FV O:CVal} {whole n:B8} {L:List CVal} {i4 d4 ix dx:Nat} {r:RW} {κ kk:Nat} (hκ1:1≤κ) (hκ2:κ≤17) {ty:B8} {acc:List RW} {tg:Tag} (hl9:acc.length≤100) (e1:r.pk=0) (e2:r.lab=2) (e3:wN κ≠2)
    (gm:zA1 hh.ents pm=some (.cells [.str whole,.imm tg 8 (acc.map RW.pf),O]))  (gx:zA1 hh.ents ix=some (.cells [.int .i64 r.num,.str r.nm,.int .i64 r.lab,.int .i64 (κ:Int),.str ty,.int .i64 (kk:Int),.bool false,.int .i64 r.oo])) (g4:zA1 hh.ents i4=some (.cells [.int .i64 r.lab,.str r.t,.str r.key,.str r.nm,.int .u64 r.num,.int .i64 r.pk,.int .i64 r.oo])) (n1:ix≠pm) (n2:i4≠ix) (n3:i4≠pm) (HO:PV1 O) {v0 v2 v3 v5 v8 v9 v10 v11 v13 v15 v16 v17 v18 v19 v20 v21 v22 v23 v24 v25 v26 v27:CVal} {Q:QT}
    (hk:∀ (v19 v20 v21 v22:CVal) n' i u,hh.next≤n'→hh.next≤i→i<n'→Q .normal ⟨[v0,.ptr b1 116391948 0,v2,v3,.ptr i4 d4 0,v5,.ptr pm 63963139 0,.ptr p7 63963139 0,v8,v9,v10,v11,.ptr ix dx 0,v13,FV,v15,v16,v17,v18,v19,v20,v21,v22,v23,v24,v25,v26,v27,.int .i64 0],⟨(i,.tok u)::zA2 (zA2 hh.ents ix (.cells [.int .i64 r.num,.str r.nm,.int .i64 r.lab,.int .i64 (κ:Int),.str ty,.int .i64 (kk:Int),.bool true,.int .i64 r.oo])) pm (.cells [.str whole,.imm (.own i u) 8 ((acc.take (posR r acc)).map RW.pf++(.agg [.int .i64 r.num,.str r.nm,.int .i64 r.lab,.int .i64 (κ:Int),.str ty,.int .i64 (kk:Int),.bool true,.int .i64 r.oo])::(acc.drop (posR r acc)).map RW.pf),O]),n',hh.tys⟩,[]⟩) :
    W tree.getF zH5 ⟨[v0,.ptr b1 116391948 0,v2,v3,.ptr i4 d4 0,v5,.ptr pm 63963139 0,.ptr p7 63963139 0,v8,v9,v10,v11,.ptr ix dx 0,v13,FV,v15,v16,v17,v18,v19,v20,v21,v22,v23,v24,v25,v26,v27,.int .i64 0],hh,[]⟩ Q:=by
 obtain ⟨hu,hut,hX⟩:=fx4 hf
 have hY:=fx5 hf gx
 have s1:∀ X,zA1 (zA2 hh.ents ix X) pm=zA1 hh.ents pm:=fun X=>zA0 (Ne.symm n1)
 have s2:∀ X,zA1 (zA2 hh.ents ix X) i4=zA1 hh.ents i4:=fun X=>zA0 n2
 have lx:=zA7 hu gx
 have lm:=zA7 hu gm
 obtain ⟨o1,o2,o3,o4,o5⟩:=HO
 simp only [CVal.isUndef,CVal.whole,CVal.cells,CVal.strip,CVal.bare] at o1 o2 o3 o4 o5
 have p1:(r.pk:Int)=0:=by omega
 have p2:(r.lab:Int)=2:=by omega
 simp only [p2] at hk
 repeat ((fail_if_success (show W tree.getF posL _ _));first
  | refine st_ rfl ?_
  | ((first | refine W.regG ?_ | refine WoR.go ?_);generalize e:goR .. = r;simp (disch:=omega) [hX,hY,s1,s2,gm,gx,g4,o1,o2,o3,o4,o5,p1,p2,e3] at e;replace e:some _=_:=e;subst e;(try dsimp only [goW]))
  | ((simp only [zAb,zA4,zA3,zA5,zA8,reduceIte]))
  | (refine pe_ (zG2 κ hκ1 hκ2) fun _ g=>⟨rfl,?_⟩;(try dsimp only at g)))
 refine pos_go (hh:=⟨_,_,_⟩) (r:=r) (L:=L) (n:=n) (whole:=whole) (O:=O) (x1:=.str r.nm) (x2:=.int .i64 2) (x3:=.int .i64 κ) (x4:=.str ty) (x5:=.int .i64 kk) (x6:=.bool true) (x7:=.int .i64 r.oo) (acc:=acc) (tg:=tg) ?_ hl9 ?_ ?_ (fun v22 n' g=>?_) acc 0 _ _ rfl (by simp) (Nat.le_refl _)
 · exact ft_
 · dsimp only;rw [s1];exact gm
 · dsimp only;rw [hY.1]
 dsimp only at g
 (simp only [zAb,zA4,zA3,zA5,zA8,reduceIte])
 have pl:=zIy r acc
 have z0:(acc.map RW.pf).length=acc.length:=by simp
 have b1:beqs (acc.map RW.pf) (acc.map RW.pf)=true:=zBu _
 have b2:=trivial
 have b3:=trivial
 have b4:=trivial
 simp only [List.map_take,List.map_drop] at hk
 have z4:(acc.map RW.pf).map CVal.bare=acc.map RW.pf:=by rw [List.map_map];rfl
 generalize posR r acc=ps at *
 generalize acc.map RW.pf=AL at *
 have z1:AL.length=acc.length:=z0
 have z5:List.take acc.length AL=AL:=by rw [← z1,List.take_length]
 have z2:(ps:Int)≤(acc.length:Int):=by omega
 have z3:(0:Int)≤(ps:Int):=by omega
 have zt:(AL.take ps).length+(AL.drop ps).length=acc.length:=by rw [← List.length_append,List.take_append_drop];exact z0
 rcases zEd (l:=AL.take ps) (by rw [List.map_take,z4]) with ⟨w,ws,hT,zw,zws,lw⟩ | ⟨w,ws,hT,zw,zws,lw⟩ <;> rcases zEd (l:=AL.drop ps) (by rw [List.map_drop,z4]) with ⟨d,ds,hD,zd,zds,ld⟩ | ⟨d,ds,hD,zd,zds,ld⟩
 all_goals (
  have lw9:ws.length≤100:=by omega
  have ld9:ds.length≤100:=by omega
  simp only [CVal.bare,CVal.strip] at zw zd
  simp only [hT,hD,List.nil_append,List.cons_append] at hk
  have hZ:=j32_ hX hY s1 s2 gm gx g4 o1 o2 o3 o4 o5 p1 p2 e3 b1 b2 b3 b4 z1 z2 z3 z4 z5 hT hD zw zws zd zds lw9 ld9
  try refine vk_ ?_
  refine hk _ _ _ _ _ _ _ ?_ ?_ ?_
  all_goals omega)
theorem tm_c {hh:CHeap} (hf:Fit hh) {b1 pm p7:Nat} {FV O:CVal} {whole n:B8} {L:List CVal} {i4 d4 ix dx:Nat} {r:RW} {κ kk:Nat} (hκ1:1≤κ) (hκ2:κ≤17) {ty:B8} {acc:List RW} {tg:Tag} (hl9:acc.length≤100) (e1:r.pk=0) (e2:r.lab≠2)
    (gm:zA1 hh.ents pm=some (.cells [.str whole,.imm tg 8 (acc.map RW.pf),O]))  (gx:zA1 hh.ents ix=some (.cells [.int .i64 r.num,.str r.nm,.int .i64 r.lab,.int .i64 (κ:Int),.str ty,.int .i64 (kk:Int),.bool false,.int .i64 r.oo])) (g4:zA1 hh.ents i4=some (.cells [.int .i64 r.lab,.str r.t,.str r.key,.str r.nm,.int .u64 r.num,.int .i64 r.pk,.int .i64 r.oo])) (n1:ix≠pm) (n2:i4≠ix) (n3:i4≠pm) (HO:PV1 O) {v0 v2 v3 v5 v8 v9 v10 v11 v13 v15 v16 v17 v18 v19 v20 v21 v22 v23 v24 v25 v26 v27:CVal} {Q:QT}
    (hk:∀ (v19 v20 v21 v22:CVal) n' i u,hh.next≤n'→hh.next≤i→i<n'→Q .normal ⟨[v0,.ptr b1 116391948 0,v2,v3,.ptr i4 d4 0,v5,.ptr pm 63963139 0,.ptr p7 63963139 0,v8,v9,v10,v11,.ptr ix dx 0,v13,FV,v15,v16,v17,v18,v19,v20,v21,v22,v23,v24,v25,v26,v27,.int .i64 0],⟨(i,.tok u)::zA2 (zA2 hh.ents ix (.cells [.int .i64 r.num,.str r.nm,.int .i64 r.lab,.int .i64 (κ:Int),.str ty,.int .i64 (kk:Int),.bool false,.int .i64 r.oo])) pm (.cells [.str whole,.imm (.own i u) 8 ((acc.take (posR r acc)).map RW.pf++(.agg [.int .i64 r.num,.str r.nm,.int .i64 r.lab,.int .i64 (κ:Int),.str ty,.int .i64 (kk:Int),.bool false,.int .i64 r.oo])::(acc.drop (posR r acc)).map RW.pf),O]),n',hh.tys⟩,[]⟩) :
    W tree.getF zH5 ⟨[v0,.ptr b1 116391948 0,v2,v3,.ptr i4 d4 0,v5,.ptr pm 63963139 0,.ptr p7 63963139 0,v8,v9,v10,v11,.ptr ix dx 0,v13,FV,v15,v16,v17,v18,v19,v20,v21,v22,v23,v24,v25,v26,v27,.int .i64 0],hh,[]⟩ Q:=by
 obtain ⟨hu,hut,hX⟩:=fx4 hf
 have hY:=fx5 hf gx
 have s1:∀ X,zA1 (zA2 hh.ents ix X) pm=zA1 hh.ents pm:=fun X=>zA0 (Ne.symm n1)
 have s2:∀ X,zA1 (zA2 hh.ents ix X) i4=zA1 hh.ents i4:=fun X=>zA0 n2
 have lx:=zA7 hu gx
 have lm:=zA7 hu gm
 obtain ⟨o1,o2,o3,o4,o5⟩:=HO
 simp only [CVal.isUndef,CVal.whole,CVal.cells,CVal.strip,CVal.bare] at o1 o2 o3 o4 o5
 have p1:(r.pk:Int)=0:=by omega
 have p2:¬ (r.lab:Int)=2:=by omega
 repeat ((fail_if_success (show W tree.getF posL _ _));first
  | refine st_ rfl ?_
  | ((first | refine W.regG ?_ | refine WoR.go ?_);generalize e:goR .. = r;simp (disch:=omega) [hX,hY,s1,s2,gm,gx,g4,o1,o2,o3,o4,o5,p1,p2] at e;replace e:some _=_:=e;subst e;(try dsimp only [goW]))
  | ((simp only [zAb,zA4,zA3,zA5,zA8,reduceIte]))
  | (refine pe_ (zG2 κ hκ1 hκ2) fun _ g=>⟨rfl,?_⟩;(try dsimp only at g)))
 refine pos_go (hh:=⟨_,_,_⟩) (r:=r) (L:=L) (n:=n) (whole:=whole) (O:=O) (x1:=.str r.nm) (x2:=.int .i64 r.lab) (x3:=.int .i64 κ) (x4:=.str ty) (x5:=.int .i64 kk) (x6:=.bool false) (x7:=.int .i64 r.oo) (acc:=acc) (tg:=tg) ?_ hl9 ?_ ?_ (fun v22 n' g=>?_) acc 0 _ _ rfl (by simp) (Nat.le_refl _)
 · exact ft_
 · dsimp only;rw [s1];exact gm
 · dsimp only;rw [hY.1]
 dsimp only at g
 (simp only [zAb,zA4,zA3,zA5,zA8,reduceIte])
 have pl:=zIy r acc
 have z0:(acc.map RW.pf).length=acc.length:=by simp
 have b1:beqs (acc.map RW.pf) (acc.map RW.pf)=true:=zBu _
 have b2:=trivial
 have b3:=trivial
 have b4:=trivial
 simp only [List.map_take,List.map_drop] at hk
 have z4:(acc.map RW.pf).map CVal.bare=acc.map RW.pf:=by rw [List.map_map];rfl
 generalize posR r acc=ps at *
 generalize acc.map RW.pf=AL at *
 have z1:AL.length=acc.length:=z0
 have z5:List.take acc.length AL=AL:=by rw [← z1,List.take_length]
 have z2:(ps:Int)≤(acc.length:Int):=by omega
 have z3:(0:Int)≤(ps:Int):=by omega
 have zt:(AL.take ps).length+(AL.drop ps).length=acc.length:=by rw [← List.length_append,List.take_append_drop];exact z0
 rcases zEd (l:=AL.take ps) (by rw [List.map_take,z4]) with ⟨w,ws,hT,zw,zws,lw⟩ | ⟨w,ws,hT,zw,zws,lw⟩ <;> rcases zEd (l:=AL.drop ps) (by rw [List.map_drop,z4]) with ⟨d,ds,hD,zd,zds,ld⟩ | ⟨d,ds,hD,zd,zds,ld⟩
 all_goals (
  have lw9:ws.length≤100:=by omega
  have ld9:ds.length≤100:=by omega
  simp only [CVal.bare,CVal.strip] at zw zd
  simp only [hT,hD,List.nil_append,List.cons_append] at hk
  have hZ:=j31_ hX hY s1 s2 gm gx g4 o1 o2 o3 o4 o5 p1 p2 b1 b2 b3 b4 z1 z2 z3 z4 z5 hT hD zw zws zd zds lw9 ld9
  try refine vk_ ?_
  refine hk _ _ _ _ _ _ _ ?_ ?_ ?_
  all_goals omega)
theorem tm_d {hh:CHeap} (hf:Fit hh) {b1 pm p7:Nat} {FV O:CVal} {whole n:B8} {L:List CVal} {i4 d4 ix dx:Nat} {r:RW} {κ kk:Nat} (hκ1:1≤κ) (hκ2:κ≤17) {ty:B8} {acc:List RW} {tg:Tag} (hl9:acc.length≤100) (e1:r.pk=1) (e2:r.lab=2) (e3:wN κ≠2)
    (gm:zA1 hh.ents pm=some (.cells [.str whole,.imm tg 8 (acc.map RW.pf),O]))  (gx:zA1 hh.ents ix=some (.cells [.int .i64 r.num,.str r.nm,.int .i64 r.lab,.int .i64 (κ:Int),.str ty,.int .i64 (kk:Int),.bool false,.int .i64 r.oo])) (g4:zA1 hh.ents i4=some (.cells [.int .i64 r.lab,.str r.t,.str r.key,.str r.nm,.int .u64 r.num,.int .i64 r.pk,.int .i64 r.oo])) (n1:ix≠pm) (n2:i4≠ix) (n3:i4≠pm) (HO:PV1 O) {v0 v2 v3 v5 v8 v9 v10 v11 v13 v15 v16 v17 v18 v19 v20 v21 v22 v23 v24 v25 v26 v27:CVal} {Q:QT}
    (hk:∀ (v19 v20 v21 v22:CVal) n' i u,hh.next≤n'→hh.next≤i→i<n'→Q .normal ⟨[v0,.ptr b1 116391948 0,v2,v3,.ptr i4 d4 0,v5,.ptr pm 63963139 0,.ptr p7 63963139 0,v8,v9,v10,v11,.ptr ix dx 0,v13,FV,v15,v16,v17,v18,v19,v20,v21,v22,v23,v24,v25,v26,v27,.int .i64 0],⟨(i,.tok u)::zA2 (zA2 hh.ents ix (.cells [.int .i64 r.num,.str r.nm,.int .i64 r.lab,.int .i64 (κ:Int),.str ty,.int .i64 (kk:Int),.bool true,.int .i64 r.oo])) pm (.cells [.str whole,.imm (.own i u) 8 ((acc.take (posR r acc)).map RW.pf++(.agg [.int .i64 r.num,.str r.nm,.int .i64 r.lab,.int .i64 (κ:Int),.str ty,.int .i64 (kk:Int),.bool true,.int .i64 r.oo])::(acc.drop (posR r acc)).map RW.pf),O]),n',hh.tys⟩,[]⟩) :
    W tree.getF zH5 ⟨[v0,.ptr b1 116391948 0,v2,v3,.ptr i4 d4 0,v5,.ptr pm 63963139 0,.ptr p7 63963139 0,v8,v9,v10,v11,.ptr ix dx 0,v13,FV,v15,v16,v17,v18,v19,v20,v21,v22,v23,v24,v25,v26,v27,.int .i64 0],hh,[]⟩ Q:=by
 obtain ⟨hu,hut,hX⟩:=fx4 hf
 have hY:=fx5 hf gx
 have s1:∀ X,zA1 (zA2 hh.ents ix X) pm=zA1 hh.ents pm:=fun X=>zA0 (Ne.symm n1)
 have s2:∀ X,zA1 (zA2 hh.ents ix X) i4=zA1 hh.ents i4:=fun X=>zA0 n2
 have lx:=zA7 hu gx
 have lm:=zA7 hu gm
 obtain ⟨o1,o2,o3,o4,o5⟩:=HO
 simp only [CVal.isUndef,CVal.whole,CVal.cells,CVal.strip,CVal.bare] at o1 o2 o3 o4 o5
 have p1:(r.pk:Int)=1:=by omega
 have p2:(r.lab:Int)=2:=by omega
 simp only [p2] at hk
 repeat ((fail_if_success (show W tree.getF posL _ _));first
  | refine st_ rfl ?_
  | ((first | refine W.regG ?_ | refine WoR.go ?_);generalize e:goR .. = r;simp (disch:=omega) [hX,hY,s1,s2,gm,gx,g4,o1,o2,o3,o4,o5,p1,p2,e3] at e;replace e:some _=_:=e;subst e;(try dsimp only [goW]))
  | ((simp only [zAb,zA4,zA3,zA5,zA8,reduceIte]))
  | (refine pe_ (zG2 κ hκ1 hκ2) fun _ g=>⟨rfl,?_⟩;(try dsimp only at g)))
 refine pos_go (hh:=⟨_,_,_⟩) (r:=r) (L:=L) (n:=n) (whole:=whole) (O:=O) (x1:=.str r.nm) (x2:=.int .i64 2) (x3:=.int .i64 κ) (x4:=.str ty) (x5:=.int .i64 kk) (x6:=.bool true) (x7:=.int .i64 r.oo) (acc:=acc) (tg:=tg) ?_ hl9 ?_ ?_ (fun v22 n' g=>?_) acc 0 _ _ rfl (by simp) (Nat.le_refl _)
 · exact ft_
 · dsimp only;rw [s1];exact gm
 · dsimp only;rw [hY.1]
 dsimp only at g
 (simp only [zAb,zA4,zA3,zA5,zA8,reduceIte])
 have pl:=zIy r acc
 have z0:(acc.map RW.pf).length=acc.length:=by simp
 have b1:beqs (acc.map RW.pf) (acc.map RW.pf)=true:=zBu _
 have b2:=trivial
 have b3:=trivial
 have b4:=trivial
 simp only [List.map_take,List.map_drop] at hk
 have z4:(acc.map RW.pf).map CVal.bare=acc.map RW.pf:=by rw [List.map_map];rfl
 generalize posR r acc=ps at *
 generalize acc.map RW.pf=AL at *
 have z1:AL.length=acc.length:=z0
 have z5:List.take acc.length AL=AL:=by rw [← z1,List.take_length]
 have z2:(ps:Int)≤(acc.length:Int):=by omega
 have z3:(0:Int)≤(ps:Int):=by omega
 have zt:(AL.take ps).length+(AL.drop ps).length=acc.length:=by rw [← List.length_append,List.take_append_drop];exact z0
 rcases zEd (l:=AL.take ps) (by rw [List.map_take,z4]) with ⟨w,ws,hT,zw,zws,lw⟩ | ⟨w,ws,hT,zw,zws,lw⟩ <;> rcases zEd (l:=AL.drop ps) (by rw [List.map_drop,z4]) with ⟨d,ds,hD,zd,zds,ld⟩ | ⟨d,ds,hD,zd,zds,ld⟩
 all_goals (
  have lw9:ws.length≤100:=by omega
  have ld9:ds.length≤100:=by omega
  simp only [CVal.bare,CVal.strip] at zw zd
  simp only [hT,hD,List.nil_append,List.cons_append] at hk
  have hZ:=j32_ hX hY s1 s2 gm gx g4 o1 o2 o3 o4 o5 p1 p2 e3 b1 b2 b3 b4 z1 z2 z3 z4 z5 hT hD zw zws zd zds lw9 ld9
  try refine vk_ ?_
  refine hk _ _ _ _ _ _ _ ?_ ?_ ?_
  all_goals omega)
theorem tm_e {hh:CHeap} (hf:Fit hh) {b1 pm p7:Nat} {FV O:CVal} {whole n:B8} {L:List CVal} {i4 d4 ix dx:Nat} {r:RW} {κ kk:Nat} (hκ1:1≤κ) (hκ2:κ≤17) {ty:B8} {acc:List RW} {tg:Tag} (hl9:acc.length≤100) (e1:r.pk=2) (e2:r.lab=2) (e3:wN κ≠2)
    (gm:zA1 hh.ents pm=some (.cells [.str whole,.imm tg 8 (acc.map RW.pf),O]))  (gx:zA1 hh.ents ix=some (.cells [.int .i64 r.num,.str r.nm,.int .i64 r.lab,.int .i64 (κ:Int),.str ty,.int .i64 (kk:Int),.bool false,.int .i64 r.oo])) (g4:zA1 hh.ents i4=some (.cells [.int .i64 r.lab,.str r.t,.str r.key,.str r.nm,.int .u64 r.num,.int .i64 r.pk,.int .i64 r.oo])) (n1:ix≠pm) (n2:i4≠ix) (n3:i4≠pm) (HO:PV1 O) {v0 v2 v3 v5 v8 v9 v10 v11 v13 v15 v16 v17 v18 v19 v20 v21 v22 v23 v24 v25 v26 v27:CVal} {Q:QT}
    (hk:∀ (v19 v20 v21 v22:CVal) n' i u,hh.next≤n'→hh.next≤i→i<n'→Q .normal ⟨[v0,.ptr b1 116391948 0,v2,v3,.ptr i4 d4 0,v5,.ptr pm 63963139 0,.ptr p7 63963139 0,v8,v9,v10,v11,.ptr ix dx 0,v13,FV,v15,v16,v17,v18,v19,v20,v21,v22,v23,v24,v25,v26,v27,.int .i64 0],⟨(i,.tok u)::zA2 (zA2 hh.ents ix (.cells [.int .i64 r.num,.str r.nm,.int .i64 r.lab,.int .i64 (κ:Int),.str ty,.int .i64 (kk:Int),.bool false,.int .i64 r.oo])) pm (.cells [.str whole,.imm (.own i u) 8 ((acc.take (posR r acc)).map RW.pf++(.agg [.int .i64 r.num,.str r.nm,.int .i64 r.lab,.int .i64 (κ:Int),.str ty,.int .i64 (kk:Int),.bool false,.int .i64 r.oo])::(acc.drop (posR r acc)).map RW.pf),O]),n',hh.tys⟩,[]⟩) :
    W tree.getF zH5 ⟨[v0,.ptr b1 116391948 0,v2,v3,.ptr i4 d4 0,v5,.ptr pm 63963139 0,.ptr p7 63963139 0,v8,v9,v10,v11,.ptr ix dx 0,v13,FV,v15,v16,v17,v18,v19,v20,v21,v22,v23,v24,v25,v26,v27,.int .i64 0],hh,[]⟩ Q:=by
 obtain ⟨hu,hut,hX⟩:=fx4 hf
 have hY:=fx5 hf gx
 have s1:∀ X,zA1 (zA2 hh.ents ix X) pm=zA1 hh.ents pm:=fun X=>zA0 (Ne.symm n1)
 have s2:∀ X,zA1 (zA2 hh.ents ix X) i4=zA1 hh.ents i4:=fun X=>zA0 n2
 have lx:=zA7 hu gx
 have lm:=zA7 hu gm
 obtain ⟨o1,o2,o3,o4,o5⟩:=HO
 simp only [CVal.isUndef,CVal.whole,CVal.cells,CVal.strip,CVal.bare] at o1 o2 o3 o4 o5
 have p1:(r.pk:Int)=2:=by omega
 have p2:(r.lab:Int)=2:=by omega
 simp only [p2] at hk
 repeat ((fail_if_success (show W tree.getF posL _ _));first
  | refine st_ rfl ?_
  | ((first | refine W.regG ?_ | refine WoR.go ?_);generalize e:goR .. = r;simp (disch:=omega) [hX,hY,s1,s2,gm,gx,g4,o1,o2,o3,o4,o5,p1,p2,e3] at e;replace e:some _=_:=e;subst e;(try dsimp only [goW]))
  | ((simp only [zAb,zA4,zA3,zA5,zA8,reduceIte]))
  | (refine pe_ (zG2 κ hκ1 hκ2) fun _ g=>⟨rfl,?_⟩;(try dsimp only at g)))
 refine pos_go (hh:=⟨_,_,_⟩) (r:=r) (L:=L) (n:=n) (whole:=whole) (O:=O) (x1:=.str r.nm) (x2:=.int .i64 2) (x3:=.int .i64 κ) (x4:=.str ty) (x5:=.int .i64 kk) (x6:=.bool false) (x7:=.int .i64 r.oo) (acc:=acc) (tg:=tg) ?_ hl9 ?_ ?_ (fun v22 n' g=>?_) acc 0 _ _ rfl (by simp) (Nat.le_refl _)
 · exact ft_
 · dsimp only;rw [s1];exact gm
 · dsimp only;rw [hY.1]
 dsimp only at g
 (simp only [zAb,zA4,zA3,zA5,zA8,reduceIte])
 have pl:=zIy r acc
 have z0:(acc.map RW.pf).length=acc.length:=by simp
 have b1:beqs (acc.map RW.pf) (acc.map RW.pf)=true:=zBu _
 have b2:=trivial
 have b3:=trivial
 have b4:=trivial
 simp only [List.map_take,List.map_drop] at hk
 have z4:(acc.map RW.pf).map CVal.bare=acc.map RW.pf:=by rw [List.map_map];rfl
 generalize posR r acc=ps at *
 generalize acc.map RW.pf=AL at *
 have z1:AL.length=acc.length:=z0
 have z5:List.take acc.length AL=AL:=by rw [← z1,List.take_length]
 have z2:(ps:Int)≤(acc.length:Int):=by omega
 have z3:(0:Int)≤(ps:Int):=by omega
 have zt:(AL.take ps).length+(AL.drop ps).length=acc.length:=by rw [← List.length_append,List.take_append_drop];exact z0
 rcases zEd (l:=AL.take ps) (by rw [List.map_take,z4]) with ⟨w,ws,hT,zw,zws,lw⟩ | ⟨w,ws,hT,zw,zws,lw⟩ <;> rcases zEd (l:=AL.drop ps) (by rw [List.map_drop,z4]) with ⟨d,ds,hD,zd,zds,ld⟩ | ⟨d,ds,hD,zd,zds,ld⟩
 all_goals (
  have lw9:ws.length≤100:=by omega
  have ld9:ds.length≤100:=by omega
  simp only [CVal.bare,CVal.strip] at zw zd
  simp only [hT,hD,List.nil_append,List.cons_append] at hk
  have hZ:=j32_ hX hY s1 s2 gm gx g4 o1 o2 o3 o4 o5 p1 p2 e3 b1 b2 b3 b4 z1 z2 z3 z4 z5 hT hD zw zws zd zds lw9 ld9
  try refine vk_ ?_
  refine hk _ _ _ _ _ _ _ ?_ ?_ ?_
  all_goals omega)
theorem RW.ok.kind {r:RW} (h:r.ok):1≤r.kind∧r.kind≤17:=by
 have hk:=zIb _ h.t
 unfold RW.kind
 split
 · split <;> omega
 · omega
theorem tail_F {hh:CHeap} (hf:Fit hh) {b1 pm p7:Nat} {FV O:CVal} {whole n:B8} {L:List CVal} {i4 d4 ix dx:Nat} {r:RW} (ro:r.ok) {acc:List RW} (hl9:acc.length≤100) {Fv:CVal} (hF:(Fv=.nils∧acc=[])∨∃ tg,Fv=.imm tg 8 (acc.map RW.pf))
    (gm:zA1 hh.ents pm=some (.cells [.str whole,Fv,O])) (gx:zA1 hh.ents ix=some (.cells [.int .i64 r.num,.str r.nm,.int .i64 r.lab,.int .i64 (r.kind:Int),.str r.ty,.int .i64 (zCu r.key:Int),.bool false,.int .i64 r.oo])) (g4:zA1 hh.ents i4=some (.cells [.int .i64 r.lab,.str r.t,.str r.key,.str r.nm,.int .u64 r.num,.int .i64 r.pk,.int .i64 r.oo])) (n1:ix≠pm) (n2:i4≠ix) (n3:i4≠pm) (HO:PV1 O) {v0 v2 v3 v5 v8 v9 v10 v11 v13 v15 v16 v17 v18 v19 v20 v21 v22 v23 v24 v25 v26 v27:CVal} {Q:QT}
    (hk:∀ (v19 v20 v21 v22:CVal) n' i u,hh.next≤n'→hh.next≤i→i<n'→Q .normal ⟨[v0,.ptr b1 116391948 0,v2,v3,.ptr i4 d4 0,v5,.ptr pm 63963139 0,.ptr p7 63963139 0,v8,v9,v10,v11,.ptr ix dx 0,v13,FV,v15,v16,v17,v18,v19,v20,v21,v22,v23,v24,v25,v26,v27,.int .i64 0],⟨(i,.tok u)::zA2 (zA2 hh.ents ix (.cells [.int .i64 r.num,.str r.nm,.int .i64 r.lab,.int .i64 (r.kind:Int),.str r.ty,.int .i64 (zCu r.key:Int),.bool r.pkd,.int .i64 r.oo])) pm (.cells [.str whole,.imm (.own i u) 8 ((insR r acc).map RW.pf),O]),n',hh.tys⟩,[]⟩) :
    W tree.getF zH5 ⟨[v0,.ptr b1 116391948 0,v2,v3,.ptr i4 d4 0,v5,.ptr pm 63963139 0,.ptr p7 63963139 0,v8,v9,v10,v11,.ptr ix dx 0,v13,FV,v15,v16,v17,v18,v19,v20,v21,v22,v23,v24,v25,v26,v27,.int .i64 0],hh,[]⟩ Q:=by
 obtain ⟨k1,k2⟩:=ro.kind
 have hp:=ro.pk
 have hp2:=ro.pk2
 rw [insR_pos,List.map_append,List.map_cons] at hk
 unfold RW.pf at hk
 have hD:(r.pk=0∧r.lab=2∧wN r.kind=2)∨(r.pk=0∧r.lab=2∧wN r.kind≠2)∨(r.pk=0∧r.lab≠2)∨(r.pk=1∧r.lab=2∧wN r.kind≠2)∨(r.pk=2∧r.lab=2∧wN r.kind≠2):=by
  by_cases e0:r.pk=0
  · by_cases e1:r.lab=2
    · by_cases e2:wN r.kind=2
      · exact .inl ⟨e0,e1,e2⟩
      · exact .inr (.inl ⟨e0,e1,e2⟩)
    · exact .inr (.inr (.inl ⟨e0,e1⟩))
  · obtain ⟨e1,e2⟩:=hp2 e0
    rcases (show r.pk=1∨r.pk=2 by omega) with e | e
    · exact .inr (.inr (.inr (.inl ⟨e,e1,e2⟩)))
    · exact .inr (.inr (.inr (.inr ⟨e,e1,e2⟩)))
 rcases hD with ⟨e1,e2,e3⟩ | ⟨e1,e2,e3⟩ | ⟨e1,e2⟩ | ⟨e1,e2,e3⟩ | ⟨e1,e2,e3⟩
 · rw [show r.pkd=false from (by unfold RW.pkd;rw [e2,e3];simp)] at hk
   rcases hF with ⟨rfl,ha⟩ | ⟨tg,rfl⟩
   · exact tl_a (L:=L) (n:=n) (tg:=.none) hf k1 k2 hl9 e1 e2 e3 gm ha gx g4 n1 n2 n3 HO hk
   · exact tm_a (L:=L) (n:=n) hf k1 k2 hl9 e1 e2 e3 gm gx g4 n1 n2 n3 HO hk
 · rw [show r.pkd=true from (by unfold RW.pkd;rw [e1,e2];simp [e3])] at hk
   rcases hF with ⟨rfl,ha⟩ | ⟨tg,rfl⟩
   · exact tl_b (L:=L) (n:=n) (tg:=.none) hf k1 k2 hl9 e1 e2 e3 gm ha gx g4 n1 n2 n3 HO hk
   · exact tm_b (L:=L) (n:=n) hf k1 k2 hl9 e1 e2 e3 gm gx g4 n1 n2 n3 HO hk
 · rw [show r.pkd=false from (by unfold RW.pkd;simp [e2])] at hk
   rcases hF with ⟨rfl,ha⟩ | ⟨tg,rfl⟩
   · exact tl_c (L:=L) (n:=n) (tg:=.none) hf k1 k2 hl9 e1 e2 gm ha gx g4 n1 n2 n3 HO hk
   · exact tm_c (L:=L) (n:=n) hf k1 k2 hl9 e1 e2 gm gx g4 n1 n2 n3 HO hk
 · rw [show r.pkd=true from (by unfold RW.pkd;rw [e1,e2];simp [e3])] at hk
   rcases hF with ⟨rfl,ha⟩ | ⟨tg,rfl⟩
   · exact tl_d (L:=L) (n:=n) (tg:=.none) hf k1 k2 hl9 e1 e2 e3 gm ha gx g4 n1 n2 n3 HO hk
   · exact tm_d (L:=L) (n:=n) hf k1 k2 hl9 e1 e2 e3 gm gx g4 n1 n2 n3 HO hk
 · rw [show r.pkd=false from (by unfold RW.pkd;rw [e1,e2];simp)] at hk
   rcases hF with ⟨rfl,ha⟩ | ⟨tg,rfl⟩
   · exact tl_e (L:=L) (n:=n) (tg:=.none) hf k1 k2 hl9 e1 e2 e3 gm ha gx g4 n1 n2 n3 HO hk
   · exact tm_e (L:=L) (n:=n) hf k1 k2 hl9 e1 e2 e3 gm gx g4 n1 n2 n3 HO hk
structure MI (h0:CHeap) (b1 pm p7:Nat) (NV:List CVal) (whole:B8) (O:CVal) (acc:List RW) (hh:CHeap):Prop where
 fit:Fit hh
 nx:h0.next≤hh.next
 g1:zA1 hh.ents b1=some (.cells NV)
 gm:∃ Fv,zA1 hh.ents pm=some (.cells [.str whole,Fv,O])∧((Fv=.nils∧acc=[])∨∃ i u,Fv=.imm (.own i u) 8 (acc.map RW.pf))
 g7:zA1 hh.ents p7=some (.cells [.str [],.nils,.nils])
 l1:h0.next≤b1
 lm:h0.next≤pm
 l7:h0.next≤p7
 n1:b1≠pm
 n2:p7≠pm
 fr:∀ q,q<h0.next→zA1 hh.ents q=zA1 h0.ents q
theorem MI.next {h0 hh:CHeap} {b1 pm p7:Nat} {NV:List CVal} {whole:B8} {O:CVal} {acc acc':List RW} (M:MI h0 b1 pm p7 NV whole O acc hh) {H:EE} {i u n:Nat} {ty:NN} (hi:hh.next≤i) (hn:hh.next≤n) (hin:i<n) (hU:Under H n) (hT:zAd ty n)
    (fr:∀ q,q<hh.next→q≠pm→zA1 H q=zA1 hh.ents q) (gE:zA1 H pm=some (.cells [.str whole,.imm (.own i u) 8 (acc'.map RW.pf),O])):MI h0 b1 pm p7 NV whole O acc' ⟨zAa ((i,.tok u)::H) hh.next,n,ty⟩:=by
 obtain ⟨Fv,gm,_⟩:=M.gm
 have lm:=zA7 M.fit.1 gm
 have l1:=zA7 M.fit.1 M.g1
 have l7:=zA7 M.fit.1 M.g7
 have nx:=M.nx
 have key:∀ q,q<hh.next→q≠pm→zA1 (zAa ((i,.tok u)::H) hh.next) q=zA1 hh.ents q:=fun q q1 q2=>by
  rw [zCv q1,zA6 (by omega)];exact fr q q1 q2
 refine ⟨⟨zBm (Under.cons hin hU),hT⟩,by dsimp only;omega,?_,⟨.imm (.own i u) 8 (acc'.map RW.pf),?_,.inr ⟨i,u,rfl⟩⟩,?_,M.l1,M.lm,M.l7,M.n1,M.n2,fun q q1=>?_⟩
 · dsimp only;rw [key b1 l1 M.n1];exact M.g1
 · dsimp only;rw [zCv lm,zA6 (by omega)];exact gE
 · dsimp only;rw [key p7 l7 M.n2];exact M.g7
 · dsimp only;rw [key q (by omega) (by have:=M.lm;omega)];exact M.fr q q1
theorem msg_one {h0 hh:CHeap} {b1 pm p7:Nat} {FV O:CVal} {whole n:B8} {L:List CVal} {r:RW} {Ls acc:List RW} (M:MI h0 b1 pm p7 [.str whole,.int .i64 16,.str n,.imm .none 7 L,O,.nils,.nils,.nils,.nils,.str [],.nils,.str [120]] whole O acc hh) (ro:r.ok) (HO:PV1 O) (HV:PV1 FV) (HH:Pe 98 [O,.str r.nm] (.bool false))
    (HFd:zCu r.t=0→∀ (h:CHeap),Fit h→∀ (K:KT),(∀ h',PG h h'→K (.tup [.str r.ty,.int .i64 r.kind,.int .i64 0]) h')→Wc tree.getF 102 [FV,.str [120],.str whole,.str r.t] h K)
    (hL:L=Ls.map RW.v) (hl9:Ls.length≤100) (ha9:acc.length≤100) {i:Nat} (hi:Ls[i]? = some r) (hd:∀ x ∈ Ls.take i,x.num≠r.num∧x.nm≠r.nm) {v0 v3 v4 v5 v8 v9 v10 v11 v12 v13 v15 v16 v17 v18 v19 v20 v21 v22 v23 v24 v25 v26 v27:CVal} {Q:QT}
    (hk:∀ (v3 v4 v5 v8 v9 v10 v11 v12 v13 v15 v16 v17 v18 v19 v20 v21 v22:CVal) h',MI h0 b1 pm p7 [.str whole,.int .i64 16,.str n,.imm .none 7 L,O,.nils,.nils,.nils,.nils,.str [],.nils,.str [120]] whole O (insR r acc) h'→W tree.getF msgL ⟨[v0,.ptr b1 116391948 0,.int .i64 ((i:Int)+1),v3,v4,v5,.ptr pm 63963139 0,.ptr p7 63963139 0,v8,v9,v10,v11,v12,v13,FV,v15,v16,v17,v18,v19,v20,v21,v22,v23,v24,v25,v26,v27,.int .i64 0],h',[]⟩ Q) :
    W tree.getF msgL ⟨[v0,.ptr b1 116391948 0,.int .i64 (i:Int),v3,v4,v5,.ptr pm 63963139 0,.ptr p7 63963139 0,v8,v9,v10,v11,v12,v13,FV,v15,v16,v17,v18,v19,v20,v21,v22,v23,v24,v25,v26,v27,.int .i64 0],hh,[]⟩ Q:=by
 have hf:=M.fit
 obtain ⟨hu,hut,hX⟩:=fx4 hf
 obtain ⟨Fv,gm,hF⟩:=M.gm
 replace hF:(Fv=.nils∧acc=[])∨∃ tg,Fv=.imm tg 8 (acc.map RW.pf):=hF.imp id fun ⟨i,u,e⟩=>⟨.own i u,e⟩
 have g1:=M.g1
 have hil:i<Ls.length:=(List.getElem?_eq_some_iff.1 hi).1
 have hn:nth L i=r.v:=by rw [hL];exact zAm RW.v Ls i r hi
 have hn2:L[i]? = some r.v:=by rw [hL,List.getElem?_map,hi];rfl
 have hlen:L.length=Ls.length:=by rw [hL,List.length_map]
 have hlt:(i:Int)<(Ls.length:Int):=by omega
 have l1:=zA7 hu g1
 have lm:=zA7 hu gm
 obtain ⟨o1,o2,o3,o4,o5⟩:=id HO
 simp only [CVal.isUndef,CVal.whole,CVal.cells,CVal.strip,CVal.bare] at o1 o2 o3 o4 o5
 have BF:=@bad_F n r.t r.key r.nm (.imm .none 7 L) O r.lab r.pk r.oo r.num ro.num1 ro.num2
 have q1:=ro.num1
 have q2:=ro.num2
 have bO:O.beq O=true:=zAj _
 unfold RW.v ffV at hn hn2
 have fin:∀ (H:CHeap) (ix:Nat) (X:CObj) (i4 u n:Nat),True:=fun _ _ _ _ _ _=>trivial
 refine W.loop ?_
 repeat ((fail_if_success (show W tree.getF (.seq (.seq (.R [.k 3 12,.l 0,.g (.bin .eql (.loc 0) (.const (.int .i64 0)))] [(13,2)]) _) _) _ _));first
  | refine st_ rfl ?_
  | ((first | refine W.regG ?_ | refine WoR.go ?_);generalize e:goR .. = r;simp (disch:=omega) [hX,g1,gm,hn,hn2,hlen,hlt,o1,o2,o3,o4,o5,bO,q1,q2,hil] at e;replace e:some _=_:=e;subst e;(try dsimp only [goW]))
  | ((simp only [zAb,zA4,zA3,zA5,zA8,reduceIte]))
  | (refine pe_ (BF) fun _ g=>⟨rfl,?_⟩;(try dsimp only at g))
  | (refine pe_ HH fun nH gH=>⟨rfl,?_⟩;(try dsimp only at gH))
  | (refine pe_ (kind_F r.t) fun nA gA=>⟨rfl,?_⟩;(try dsimp only at gA))
  | (refine pe_ (kind_F r.key) fun nB gB=>⟨rfl,?_⟩;(try dsimp only at gB))
  | (refine dup_go (hh:=⟨_,_,_⟩) (L:=L) (n:=n) (whole:=whole) (O:=O) (r:=r) ?_ hL ?_ ?_ (i:=i) (by omega) hl9 hd (fun v8 v9 v10 n' g=>?_) i 0 _ _ _ (by simp) (Nat.le_refl _);exact ft_;(focus ((simp (disch:=omega) [zA1,g1];done)));(focus ((simp (disch:=omega) [zA1];done)));(try dsimp only at g)))
 obtain ⟨f1,f2,f3,f4,f5⟩:=HV
 simp only [CVal.isUndef,CVal.whole,CVal.cells,CVal.strip,CVal.bare] at f1 f2 f3 f4 f5
 by_cases hz:zCu r.t=0
 · have HFz:=HFd hz
   have hz1:(zCu r.t:Int)=0:=by omega
   have hz2:((zCu r.t:Int) == 0)=true:=by simp [hz]
   repeat ((fail_if_success (show W tree.getF zH5 _ _));first
    | refine st_ rfl ?_
    | ((first | refine W.regG ?_ | refine WoR.go ?_);generalize e:goR .. = r;simp (disch:=omega) [hX,g1,gm,hn,hn2,hlen,hlt,o1,o2,o3,o4,o5,bO,q1,q2,hil,hz1,hz2,f1,f2,f3,f4,f5] at e;replace e:some _=_:=e;subst e;(try dsimp only [goW]))
    | ((simp only [zAb,zA4,zA3,zA5,zA8,reduceIte]))
    | (refine HFz _ ft_ _ fun h2 P=>⟨rfl,?_⟩))
   have f9:=P.fit
   have nx2:=P.nx
   dsimp only at nx2
   have gx2:zA1 h2.ents (nH+1+1+1+1+1+1+1+1+1+1+1+1+1+1+1+1)=some (.cells [.int .i64 r.num,.str r.nm,.int .i64 r.lab,.int .i64 0,.str [],.int .i64 (zCu r.key:Int),.bool false,.int .i64 r.oo]):=(P.fr (nH+1+1+1+1+1+1+1+1+1+1+1+1+1+1+1+1) (by dsimp only;omega)).trans (by simp [zA1])
   have g42:zA1 h2.ents (hh.next+6+1+1+1+1+1+1)=some (.cells [.int .i64 r.lab,.str r.t,.str r.key,.str r.nm,.int .u64 r.num,.int .i64 r.pk,.int .i64 r.oo]):=(P.fr (hh.next+6+1+1+1+1+1+1) (by dsimp only;omega)).trans (by simp (disch:=omega) [zA1])
   have gm2:zA1 h2.ents pm=some (.cells [.str whole,Fv,O]):=(P.fr pm (by dsimp only;omega)).trans (by simp (disch:=omega) [zA1,gm])
   obtain ⟨hu2,hut2,hX2⟩:=fx4 f9
   have hY2:=fx5 f9 gx2
   have hk0:(zCu r.t:Int)=0:=hz1
   repeat ((fail_if_success (show W tree.getF zH5 _ _));first
    | refine st_ rfl ?_
    | ((first | refine W.regG ?_ | refine WoR.go ?_);generalize e:goR .. = r;simp (disch:=omega) [hX2,hY2,gx2,g42,gm2,hk0] at e;replace e:some _=_:=e;subst e;(try dsimp only [goW]))
    | ((simp only [zAb,zA4,zA3,zA5,zA8,reduceIte])))
   refine tail_F (hh:=⟨_,_,_⟩) (L:=L) (n:=n) (whole:=whole) (O:=O) (r:=r) (acc:=acc) (Fv:=Fv) ?_ ro ha9 hF ?_ ?_ ?_ ?_ ?_ ?_ HO (fun v19 v20 v21 v22 n' j u c1 c2 c3=>?_)
   · exact ⟨(Under.set hu2).le (by dsimp only;omega),hut2.le (by dsimp only;omega)⟩
   · dsimp only;rw [zA0 (by omega)];exact gm2
   · exact hY2.1 _
   · dsimp only;rw [zA0 (by omega)];exact g42
   · omega
   · omega
   · omega
   dsimp only at c1 c2 c3
   (simp only [zAb,zA4,zA3,zA5,zA8,reduceIte])
   repeat ((fail_if_success (show W tree.getF msgL _ _));first
    | refine st_ rfl ?_
    | ((first | refine W.regG ?_ | refine WoR.go ?_);generalize e:goR .. = r;simp (disch:=omega) [hX,hil,hl9] at e;replace e:some _=_:=e;subst e;(try dsimp only [goW]))
    | ((simp only [zAb,zA4,zA3,zA5,zA8,reduceIte])))
   show W tree.getF msgL (dropped true _ _) Q
   generalize e:dropped _ _ _=r2
   simp only [dropped,if_pos] at e
   subst e
   refine hk _ _ _ _ _ _ _ _ _ _ _ _ _ _ _ _ _ _ (MI.next M (i:=j) (u:=u) ?_ ?_ ?_ ?_ ?_ (fun q q1 qn=>?_) ?_)
   · omega
   · omega
   · omega
   · exact Under.set ((Under.set hu2).le (by omega))
   · exact hut2.le (by omega)
   · rw [zA0 qn,zA0 (by omega),P.fr q (by dsimp only;omega)];dsimp only;rw [zA6 (by omega),zA6 (by omega)]
   · exact zA9 (o:=.cells [.str whole,Fv,O]) ((zA0 (show pm≠_ by omega)).trans gm2)
 · have hz1:¬ (zCu r.t:Int)=0:=by omega
   have hz2:((zCu r.t:Int) == 0)=false:=by simp [hz]
   have hkd:r.kind=zCu r.t:=by unfold RW.kind;rw [if_neg hz]
   have hty:r.ty=[]:=by unfold RW.ty;rw [if_neg hz]
   repeat ((fail_if_success (show W tree.getF zH5 _ _));first
    | refine st_ rfl ?_
    | ((first | refine W.regG ?_ | refine WoR.go ?_);generalize e:goR .. = r;simp (disch:=omega) [hX,g1,gm,hn,hn2,hlen,hlt,o1,o2,o3,o4,o5,bO,q1,q2,hil,hz1,hz2] at e;replace e:some _=_:=e;subst e;(try dsimp only [goW]))
    | ((simp only [zAb,zA4,zA3,zA5,zA8,reduceIte])))
   refine tail_F (hh:=⟨_,_,_⟩) (L:=L) (n:=n) (whole:=whole) (O:=O) (r:=r) (acc:=acc) (Fv:=Fv) ?_ ro ha9 hF ?_ ?_ ?_ ?_ ?_ ?_ HO (fun v19 v20 v21 v22 n' j u c1 c2 c3=>?_)
   · exact ft_
   · simp (disch:=omega) [zA1];exact gm
   · rw [hkd,hty];simp (disch:=omega) [zA1]
   · simp (disch:=omega) [zA1]
   · omega
   · omega
   · omega
   dsimp only at c1 c2 c3
   (simp only [zAb,zA4,zA3,zA5,zA8,reduceIte])
   repeat ((fail_if_success (show W tree.getF msgL _ _));first
    | refine st_ rfl ?_
    | ((first | refine W.regG ?_ | refine WoR.go ?_);generalize e:goR .. = r;simp (disch:=omega) [hX,hil,hl9] at e;replace e:some _=_:=e;subst e;(try dsimp only [goW]))
    | ((simp only [zAb,zA4,zA3,zA5,zA8,reduceIte])))
   show W tree.getF msgL (dropped true _ _) Q
   generalize e:dropped _ _ _=r2
   simp only [dropped,if_pos] at e
   subst e
   refine hk _ _ _ _ _ _ _ _ _ _ _ _ _ _ _ _ _ _ (MI.next M (i:=j) (u:=u) ?_ ?_ ?_ ?_ ?_ (fun q q1 qn=>?_) ?_)
   · omega
   · omega
   · omega
   · exact Under.cons (by omega) (Under.cons (by omega) ((Under.set hu).le (by omega)))
   · exact hut.le (by omega)
   · rw [zA6 (by omega),zA6 (by omega),zA0 qn]
   · rw [zA6 (by omega),zA6 (by omega)];exact zA9 gm
def zAx (l:List RW):List RW:=l.foldl (fun acc r=>insR r acc) []
theorem insR_len (r:RW):∀ l,(insR r l).length=l.length+1
 | []=>rfl
 | x::l=>by unfold insR;split <;> simp [insR_len r l]
theorem sortR_snoc (l:List RW) (r:RW):zAx (l++[r])=insR r (zAx l):=by unfold zAx;rw [List.foldl_append];rfl
theorem zCk (l:List RW):(zAx l).length=l.length:=by
 unfold zAx
 suffices H:∀ (l acc:List RW),(l.foldl (fun acc r=>insR r acc) acc).length=acc.length+l.length by simpa using H l []
 intro l
 induction l with
 | nil=>intro acc;rfl
 | cons x l ih=>intro acc;simp only [List.foldl_cons,List.length_cons];rw [ih,insR_len];omega
theorem MI.up {h0:CHeap} {b1 pm p7:Nat} {NV:List CVal} {whole:B8} {O:CVal} {acc:List RW} {hh:CHeap} (M:MI h0 b1 pm p7 NV whole O acc hh) {n:Nat} (h:hh.next≤n):MI h0 b1 pm p7 NV whole O acc ⟨hh.ents,n,hh.tys⟩:=⟨⟨M.fit.1.le h,M.fit.2.le h⟩,Nat.le_trans M.nx h,M.g1,M.gm,M.g7,M.l1,M.lm,M.l7,M.n1,M.n2,M.fr⟩
theorem ms_all {h0:CHeap} {b1 pm p7:Nat} {FV O:CVal} {whole n:B8} {L:List CVal} {Ls:List RW} (hok:∀ r ∈ Ls,r.ok) (hd1:(Ls.map RW.num).Nodup) (hd2:(Ls.map RW.nm).Nodup) (hl9:Ls.length≤100) (hL:L=Ls.map RW.v) (HO:PV1 O) (HV:PV1 FV) (HH:∀ r ∈ Ls,Pe 98 [O,.str r.nm] (.bool false)) (HFd:∀ r ∈ Ls,zCu r.t=0→∀ (h:CHeap),Fit h→∀ (K:KT),(∀ h',PG h h'→K (.tup [.str r.ty,.int .i64 r.kind,.int .i64 0]) h')→Wc tree.getF 102 [FV,.str [120],.str whole,.str r.t] h K) {v0 v23 v24 v25 v26 v27:CVal} {Q:QT}
    (hk:∀ (v3 v4 v5 v8 v9 v10 v11 v12 v13 v15 v16 v17 v18 v19 v20 v21 v22:CVal) h',MI h0 b1 pm p7 [.str whole,.int .i64 16,.str n,.imm .none 7 L,O,.nils,.nils,.nils,.nils,.str [],.nils,.str [120]] whole O (zAx Ls) h'→Q (.exit 0) ⟨[v0,.ptr b1 116391948 0,.int .i64 (Ls.length:Int),v3,v4,v5,.ptr pm 63963139 0,.ptr p7 63963139 0,v8,v9,v10,v11,v12,v13,FV,v15,v16,v17,v18,v19,v20,v21,v22,v23,v24,v25,v26,v27,.int .i64 0],h',[]⟩) :
    ∀ (rest:List RW) (i:Nat) (v3 v4 v5 v8 v9 v10 v11 v12 v13 v15 v16 v17 v18 v19 v20 v21 v22:CVal) (hh:CHeap),Ls.drop i=rest→i≤Ls.length→MI h0 b1 pm p7 [.str whole,.int .i64 16,.str n,.imm .none 7 L,O,.nils,.nils,.nils,.nils,.str [],.nils,.str [120]] whole O (zAx (Ls.take i)) hh→W tree.getF msgL ⟨[v0,.ptr b1 116391948 0,.int .i64 (i:Int),v3,v4,v5,.ptr pm 63963139 0,.ptr p7 63963139 0,v8,v9,v10,v11,v12,v13,FV,v15,v16,v17,v18,v19,v20,v21,v22,v23,v24,v25,v26,v27,.int .i64 0],hh,[]⟩ Q:=by
 intro rest
 induction rest with
 | nil =>
  intro i v3 v4 v5 v8 v9 v10 v11 v12 v13 v15 v16 v17 v18 v19 v20 v21 v22 hh h1 h2 M
  have hi:Ls.length≤i:=List.drop_eq_nil_iff.1 h1
  obtain rfl:i=Ls.length:=by omega
  rw [List.take_length] at M
  have g1:=M.g1
  have hlen:L.length=Ls.length:=by rw [hL,List.length_map]
  refine W.loop ?_
  have hZ:=j2_ g1 hlen
  try refine wk_ ?_
  exact hk _ _ _ _ _ _ _ _ _ _ _ _ _ _ _ _ _ _ (M.up (by omega))
 | cons r rest ih =>
  intro i v3 v4 v5 v8 v9 v10 v11 v12 v13 v15 v16 v17 v18 v19 v20 v21 v22 hh h1 h2 M
  obtain ⟨q1,q2,q3⟩:=zFd h1
  have hil:i<Ls.length:=by have:=congrArg List.length h1;simp at this;omega
  have hm:r ∈ Ls:=List.mem_of_getElem? q2
  have ht:Ls.take (i+1)=Ls.take i++[r]:=by rw [List.take_add_one,q2];rfl
  refine msg_one (Ls:=Ls) (r:=r) (acc:=zAx (Ls.take i)) M (hok r hm) HO HV (HH r hm) (HFd r hm) hL hl9 (by rw [zCk,List.length_take];omega) q2 ?_ ?_
  · intro x hx
    rw [← List.take_append_drop i Ls,h1] at hd1 hd2
    rw [List.map_append,List.nodup_append] at hd1 hd2
    exact ⟨hd1.2.2 _ (List.mem_map_of_mem hx) _ (by simp),hd2.2.2 _ (List.mem_map_of_mem hx) _ (by simp)⟩
  · intro w3 w4 w5 w8 w9 w10 w11 w12 w13 w15 w16 w17 w18 w19 w20 w21 w22 h' M'
    rw [← sortR_snoc,← ht] at M'
    have:=ih (i+1) w3 w4 w5 w8 w9 w10 w11 w12 w13 w15 w16 w17 w18 w19 w20 w21 w22 h' q3 (by omega) M'
    push_cast at this
    exact this
theorem message_S {FV O:CVal} {whole n:B8} {Ls:List RW} (hok:∀ r ∈ Ls,r.ok) (hd1:(Ls.map RW.num).Nodup) (hd2:(Ls.map RW.nm).Nodup) (hl9:Ls.length≤100) (hO2:O=.nils∨O=.imm .none 1 [.str [99]]) (HV:PV1 FV) (HH:∀ r ∈ Ls,Pe 98 [O,.str r.nm] (.bool false)) (HFd:∀ r ∈ Ls,zCu r.t=0→∀ (h:CHeap),Fit h→∀ (K:KT),(∀ h',PG h h'→K (.tup [.str r.ty,.int .i64 r.kind,.int .i64 0]) h')→Wc tree.getF 102 [FV,.str [120],.str whole,.str r.t] h K) (hne:Ls≠[]) {h:CHeap} (hf:Fit h) {K:KT}
    (hk:∀ h',PG h h'→K (.tup [.agg [.str whole,.imm .none 8 ((zAx Ls).map RW.pf),O],.int .i64 0]) h'):Wc tree.getF 63 [FV,.agg [.str whole,.int .i64 16,.str n,.imm .none 7 (Ls.map RW.v),O,.nils,.nils,.nils,.nils,.str [],.nils,.str [120]]] h K:=by
 have HO:PV1 O:=by rcases hO2 with rfl | rfl <;> exact ⟨rfl,rfl,rfl,rfl,rfl⟩
 obtain ⟨hu,hut,hX⟩:=fx4 hf
 obtain ⟨L,hL⟩:∃ L,L=Ls.map RW.v:=⟨_,rfl⟩
 rw [← hL]
 obtain ⟨o1,o2,o3,o4,o5⟩:=id HO
 obtain ⟨f1,f2,f3,f4,f5⟩:=id HV
 simp only [CVal.isUndef,CVal.whole,CVal.cells,CVal.strip,CVal.bare] at o1 o2 o3 o4 o5 f1 f2 f3 f4 f5
 refine mk_ 63 c63 (s_ ?_)
 repeat ((fail_if_success (show W tree.getF msgL _ _));first
  | refine st_ rfl ?_
  | ((first | refine W.regG ?_ | refine WoR.go ?_);generalize e:goR .. = r;simp (disch:=omega) [hX,o1,o2,o3,o4,o5,f1,f2,f3,f4,f5] at e;replace e:some _=_:=e;subst e;(try dsimp only [goW]))
  | ((simp only [zAb,zA4,zA3,zA5,zA8,reduceIte])))
 refine ms_all (h0:=h) (b1:=h.next) (n:=n) (whole:=whole) (O:=O) hok hd1 hd2 hl9 hL HO HV HH HFd ?_ Ls 0 _ _ _ _ _ _ _ _ _ _ _ _ _ _ _ _ _ _ rfl (Nat.zero_le _) ?_
 rotate_left
 · refine ⟨?_,by dsimp only;omega,by simp (disch:=omega) [zA1],⟨.nils,by simp [zA1],.inl ⟨rfl,rfl⟩⟩,by simp [zA1],by omega,by omega,by omega,by omega,by omega,fun q q1=>?_⟩
   · exact ft_
   · dsimp only;rw [zA6 (by omega),zA6 (by omega),zA6 (by omega)]
 intro v3 v4 v5 v8 v9 v10 v11 v12 v13 v15 v16 v17 v18 v19 v20 v21 v22 h' M
 clear hu hut hX
 obtain ⟨hu,hut,hX⟩:=fx4 M.fit
 have g1:=M.g1
 obtain ⟨Fv,gm,hF⟩:=M.gm
 obtain ⟨ti,tu,rfl⟩:∃ i u,Fv=.imm (.own i u) 8 ((zAx Ls).map RW.pf):=by
  rcases hF with ⟨_,e⟩ | e
  · exact absurd (by have:=zCk Ls;rw [e] at this;exact List.length_eq_zero_iff.1 this.symm) hne
  · exact e
 have g7:=M.g7
 have l1:=zA7 hu g1
 have lm:=zA7 hu gm
 have l7:=zA7 hu g7
 have nx:=M.nx
 have m1:=M.l1
 have m7:=M.l7
 have hY:=fx5 M.fit g7
 have zb:((zAx Ls).map RW.pf).map CVal.bare=(zAx Ls).map RW.pf:=by rw [List.map_map];rfl
 generalize (zAx Ls).map RW.pf=AL at *
 rcases hO2 with rfl | rfl
 all_goals (
  have hZ:=j5_ hX hY g1 gm g7
  repeat (first
   | refine vk_ ?_
   | (refine W.loop ?_)
   | (show W tree.getF _ (dropped true _ _) _;generalize e:dropped _ _ _=r;simp (disch:=omega) [hX,hY,g1,gm,g7] at e;subst e;refine W.loop ?_)
   | (refine rk_ ?_;skip))
  refine hk _ ⟨⟨zB0 ((Under.set hu).le (by dsimp only;omega)),hut.le (by dsimp only;omega)⟩,by dsimp only;omega,fun q q1=>?_⟩
  dsimp only
  rw [zDa q1,zA0 (by omega)]
  exact M.fr q q1)
theorem message_0 {FV O:CVal} {whole n:B8} (hO2:O=.nils∨O=.imm .none 1 [.str [99]]) (HV:PV1 FV) {h:CHeap} (hf:Fit h) {K:KT}
    (hk:∀ h',PG h h'→K (.tup [.agg [.str whole,.nils,O],.int .i64 0]) h'):Wc tree.getF 63 [FV,.agg [.str whole,.int .i64 16,.str n,.nils,O,.nils,.nils,.nils,.nils,.str [],.nils,.str [120]]] h K:=by
 obtain ⟨hu,hut,hX⟩:=fx4 hf
 obtain ⟨f1,f2,f3,f4,f5⟩:=id HV
 simp only [CVal.isUndef,CVal.whole,CVal.cells,CVal.strip,CVal.bare] at f1 f2 f3 f4 f5
 rcases hO2 with rfl | rfl
 all_goals (
  refine mk_ 63 c63 (s_ ?_)
  have hZ:=j6_ hX f1 f2 f3 f4 f5
  repeat (first
   | refine vk_ ?_
   | (refine W.loop ?_)
   | (show W tree.getF _ (dropped true _ _) _;generalize e:dropped _ _ _=r;simp (disch:=omega) [hX,f1,f2,f3,f4,f5] at e;subst e;refine W.loop ?_)
   | (refine rk_ ?_;skip))
  refine hk _ ⟨⟨?_,hut.le (by dsimp only;omega)⟩,by dsimp only;omega,fun q q1=>rfl⟩
  exact hu.le (by dsimp only;omega))
def dgv (l:B8):Nat:=l.foldl (fun n b=>n * 10+(b.toNat - 48)) 0
theorem dg_inj1:allN 1000 (fun n=>dgv (dg n) == n)=true:=by kernel_rfl
theorem dg_inj {a b:Nat} (ha:a<1000) (hb:b<1000) (e:dg a=dg b):a=b:=by
 have h1:=zJd dg_inj1 a ha
 have h2:=zJd dg_inj1 b hb
 simp only [beq_iff_eq] at h1 h2
 rw [← h1,← h2,e]
theorem zHm {α β:Type} {f:α→β}:∀ {l:List α},(∀ x ∈ l,∀ y ∈ l,f x=f y→x=y)→l.Nodup→(l.map f).Nodup
 | [],_,_=>List.nodup_nil
 | a::l,h,hn=>by
  rw [List.nodup_cons] at hn
  rw [List.map_cons,List.nodup_cons]
  refine ⟨fun hm=>?_,zHm (fun x hx y hy=>h x (List.mem_cons_of_mem _ hx) y (List.mem_cons_of_mem _ hy)) hn.2⟩
  obtain ⟨y,hy,e⟩:=List.mem_map.1 hm
  have:=h y (List.mem_cons_of_mem _ hy) a (List.mem_cons_self ..) e
  exact hn.1 (this ▸ hy)
theorem BD.rs_ok {b:BD} {m:Nat} (h:b.ok m):∀ r ∈ b.rs,r.ok:=by
 obtain ⟨i,hi,B⟩:=h.b
 intro r hr
 rcases List.mem_append.1 hr with hr | hr
 · obtain ⟨d,hd,rfl⟩:=List.mem_map.1 hr;exact FD.rw_ok (B.f d hd).1
 · obtain ⟨d,hd,rfl⟩:=List.mem_map.1 hr;exact OD.rw_ok (B.o d hd).1
theorem FD.rw_num (d:FD):d.rw.num=d.num:=by obtain ⟨sh,t,n⟩:=d;cases sh <;> rfl
theorem FD.rw_nm (d:FD):d.rw.nm=102::dg d.num:=by obtain ⟨sh,t,n⟩:=d;cases sh <;> rfl
theorem BD.rs_num {b:BD} {m:Nat} (h:b.ok m) (hm:m≤7):(b.rs.map RW.num).Nodup:=by
 obtain ⟨i,hi,B⟩:=h.b
 have e:b.rs.map RW.num=b.fs.map (·.num)++b.os.map (·.num):=by
  simp only [BD.rs,List.map_append,List.map_map]
  congr 1
  exact List.map_congr_left fun d _=>d.rw_num
 rw [e,List.nodup_append]
 refine ⟨B.nf,B.no,?_⟩
 intro x hx y hy
 obtain ⟨d,hd,rfl⟩:=List.mem_map.1 hx
 obtain ⟨o,ho,rfl⟩:=List.mem_map.1 hy
 obtain ⟨_,k,hk,hN⟩:=B.f d hd
 obtain ⟨_,h1,_⟩:=B.o o ho
 rcases hN with e | e <;> omega
theorem BD.rs_nm {b:BD} {m:Nat} (h:b.ok m) (hm:m≤7):(b.rs.map RW.nm).Nodup:=by
 obtain ⟨i,hi,B⟩:=h.b
 have e:b.rs.map RW.nm=(b.fs.map (·.num)).map (fun n=>102::dg n)++(b.os.map (·.num)).map (fun n=>111::dg n):=by
  simp only [BD.rs,List.map_append,List.map_map]
  congr 1
  exact List.map_congr_left fun d _=>d.rw_nm
 have hF:∀ x ∈ b.fs.map (·.num),x<1000:=fun x hx=>by obtain ⟨d,hd,rfl⟩:=List.mem_map.1 hx;exact (B.f d hd).1.2.2.1
 have hO:∀ x ∈ b.os.map (·.num),x<1000:=fun x hx=>by obtain ⟨d,hd,rfl⟩:=List.mem_map.1 hx;exact (B.o d hd).1.2.2
 rw [e,List.nodup_append]
 refine ⟨?_,?_,?_⟩
 · refine zHm ?_ B.nf
   intro x hx y hy e
   injection e with _ e
   exact dg_inj (hF x hx) (hF y hy) e
 · refine zHm ?_ B.no
   intro x hx y hy e
   injection e with _ e
   exact dg_inj (hO x hx) (hO y hy) e
 · intro x hx y hy
   obtain ⟨d,hd,rfl⟩:=List.mem_map.1 hx
   obtain ⟨o,ho,rfl⟩:=List.mem_map.1 hy
   intro e
   injection e with e _
   exact absurd e (by decide)
def lV8 (l:List RW):CVal:=match l with | []=>.nils | _::_=>.imm .none 8 (l.map RW.pf)
def oV1 (c:Bool):CVal:=if c=true then .imm .none 1 [.str [99]] else .nils
def mgV (whole:B8) (b:BD):CVal:=.agg [.str whole,lV8 (zAx b.rs),oV1 (!b.os.isEmpty)]
theorem fvP (a b:BD):PV1 (zCe a b):=⟨rfl,rfl,rfl,rfl,rfl⟩
theorem oV2 (c:Bool):oV1 c=.nils∨oV1 c=.imm .none 1 [.str [99]]:=by cases c;exact .inl rfl;exact .inr rfl
theorem msgB_I {a b c:BD} {m:Nat} {nv:B8} (hc:c.ok m) (hm:m≤7) {h:CHeap} (hf:Fit h) {K:KT} (hk:∀ h',PG h h'→K (.tup [mgV [97,46,73] c,.int .i64 0]) h'):Wc tree.getF 63 [zCe a b,nmM [97,46,73] (msgV nv c.xs (!c.os.isEmpty))] h K:=by
 have hok:=BD.rs_ok hc
 have hlen:c.rs.length≤100:=by
  have:=hc.len
  simp only [BD.rs,List.length_append,List.length_map];omega
 unfold mgV at hk
 unfold nmM msgV
 rw [← BD.rs_v]
 dsimp only [List.cons_append,List.nil_append]
 by_cases he:c.rs=[]
 · rw [he] at hk ⊢
   exact message_0 (oV2 _) (fvP a b) hf hk
 · have e7:lV7 (c.rs.map RW.v)=.imm .none 7 (c.rs.map RW.v):=by
    cases hr:c.rs with
    | nil=>exact absurd hr he
    | cons x l=>rfl
   have e8:lV8 (zAx c.rs)=.imm .none 8 ((zAx c.rs).map RW.pf):=by
    cases hr:zAx c.rs with
    | nil=>exact absurd (by have:=zCk c.rs;rw [hr] at this;exact List.length_eq_zero_iff.1 this.symm) he
    | cons x l=>rfl
   rw [e7]
   rw [e8] at hk
   refine message_S hok (BD.rs_num hc hm) (BD.rs_nm hc hm) hlen (oV2 _) (fvP a b) (fun r hr=>has_no (hok r hr).nm _) ?_ he hf hk
   intro r hr hz h hf K hk
   unfold RW.ty RW.kind at hk
   rw [if_pos hz,if_pos hz] at hk
   rcases (zIb r.t (hok r hr).t).2.1 hz with e | e | e
   · rw [e] at hk ⊢;exact find_IE hf hk
   · rw [e] at hk ⊢;exact find_II hf hk
   · rw [e] at hk ⊢;exact find_IM hf hk
theorem msgB_M {a b c:BD} {m:Nat} {nv:B8} (hc:c.ok m) (hm:m≤7) {h:CHeap} (hf:Fit h) {K:KT} (hk:∀ h',PG h h'→K (.tup [mgV [97,46,77] c,.int .i64 0]) h'):Wc tree.getF 63 [zCe a b,nmM [97,46,77] (msgV nv c.xs (!c.os.isEmpty))] h K:=by
 have hok:=BD.rs_ok hc
 have hlen:c.rs.length≤100:=by
  have:=hc.len
  simp only [BD.rs,List.length_append,List.length_map];omega
 unfold mgV at hk
 unfold nmM msgV
 rw [← BD.rs_v]
 dsimp only [List.cons_append,List.nil_append]
 by_cases he:c.rs=[]
 · rw [he] at hk ⊢
   exact message_0 (oV2 _) (fvP a b) hf hk
 · have e7:lV7 (c.rs.map RW.v)=.imm .none 7 (c.rs.map RW.v):=by
    cases hr:c.rs with
    | nil=>exact absurd hr he
    | cons x l=>rfl
   have e8:lV8 (zAx c.rs)=.imm .none 8 ((zAx c.rs).map RW.pf):=by
    cases hr:zAx c.rs with
    | nil=>exact absurd (by have:=zCk c.rs;rw [hr] at this;exact List.length_eq_zero_iff.1 this.symm) he
    | cons x l=>rfl
   rw [e7]
   rw [e8] at hk
   refine message_S hok (BD.rs_num hc hm) (BD.rs_nm hc hm) hlen (oV2 _) (fvP a b) (fun r hr=>has_no (hok r hr).nm _) ?_ he hf hk
   intro r hr hz h hf K hk
   unfold RW.ty RW.kind at hk
   rw [if_pos hz,if_pos hz] at hk
   rcases (zIb r.t (hok r hr).t).2.1 hz with e | e | e
   · rw [e] at hk ⊢;exact find_ME hf hk
   · rw [e] at hk ⊢;exact find_MI hf hk
   · rw [e] at hk ⊢;exact find_MM hf hk
def schV (a b:BD):CVal:=.agg [.imm .none 3 [mgV [97,46,73] a,mgV [97,46,77] b],.imm .none 2 [.agg [.str [97,46,69],.imm .none 2 [.agg [.str [65],.int .i64 0],.agg [.str [66],.int .i64 1],.agg [.str [67],.int .i64 (-1)]]]]]
theorem lV7P (l:List CVal):PV1 (lV7 l):=by cases l <;> exact ⟨rfl,rfl,rfl,rfl,rfl⟩
theorem lV8P (l:List RW):PV1 (lV8 l):=by cases l <;> exact ⟨rfl,rfl,rfl,rfl,rfl⟩
theorem oV1P (c:Bool):PV1 (if c=true then CVal.imm .none 1 [.str [99]] else .nils):=by cases c <;> exact ⟨rfl,rfl,rfl,rfl,rfl⟩
theorem schema_F {a b:BD} (ha:a.ok 4) (hb:b.ok 7) {h:CHeap} (hf:Fit h) {K:KT} (hk:∀ h',PG h h'→K (.tup [schV a b,.int .i64 0,.str []]) h'):Wc tree.getF 39 [zCe a b] h K:=by
 obtain ⟨hu,hut,hX⟩:=fx4 hf
 have AF:=@all_F a b
 have M1:=@msgB_I a b a 4 [73] ha (by omega)
 have M2:=@msgB_M a b b 7 [77] hb (by omega)
 unfold nmM msgV nmE at AF
 unfold nmM msgV at M1 M2
 unfold mgV oV1 at M1 M2
 unfold schV mgV oV1 at hk
 dsimp only [List.cons_append,List.nil_append] at AF M1 M2
 have PlA:=lV7P a.xs
 have PlB:=lV7P b.xs
 have PoA:=oV1P (!a.os.isEmpty)
 have PoB:=oV1P (!b.os.isEmpty)
 have PsA:=lV8P (zAx a.rs)
 have PsB:=lV8P (zAx b.rs)
 have PFV:=fvP a b
 generalize lV7 a.xs=lA at *
 generalize lV7 b.xs=lB at *
 generalize (if (!a.os.isEmpty)=true then CVal.imm .none 1 [.str [99]] else .nils)=oA at *
 generalize (if (!b.os.isEmpty)=true then CVal.imm .none 1 [.str [99]] else .nils)=oB at *
 generalize lV8 (zAx a.rs)=sA at *
 generalize lV8 (zAx b.rs)=sB at *
 generalize zCe a b=FV at *
 have lA0:lA.beq lA=true:=zAj _
 obtain ⟨lA1,lA2,lA3,lA4,lA5⟩:=PlA
 have lB0:lB.beq lB=true:=zAj _
 obtain ⟨lB1,lB2,lB3,lB4,lB5⟩:=PlB
 have oA0:oA.beq oA=true:=zAj _
 obtain ⟨oA1,oA2,oA3,oA4,oA5⟩:=PoA
 have oB0:oB.beq oB=true:=zAj _
 obtain ⟨oB1,oB2,oB3,oB4,oB5⟩:=PoB
 have sA0:sA.beq sA=true:=zAj _
 obtain ⟨sA1,sA2,sA3,sA4,sA5⟩:=PsA
 have sB0:sB.beq sB=true:=zAj _
 obtain ⟨sB1,sB2,sB3,sB4,sB5⟩:=PsB
 have FV0:FV.beq FV=true:=zAj _
 obtain ⟨FV1,FV2,FV3,FV4,FV5⟩:=PFV
 simp only [CVal.isUndef,CVal.whole,CVal.cells,CVal.strip,CVal.bare] at lA1 lA2 lA3 lA4 lA5 lB1 lB2 lB3 lB4 lB5 oA1 oA2 oA3 oA4 oA5 oB1 oB2 oB3 oB4 oB5 sA1 sA2 sA3 sA4 sA5 sB1 sB2 sB3 sB4 sB5 FV1 FV2 FV3 FV4 FV5
 refine mk_ 39 c39 (s_ ?_)
 have hZ:=j43_ hX lA0 lA1 lA2 lA3 lA4 lA5 lB0 lB1 lB2 lB3 lB4 lB5 oA0 oA1 oA2 oA3 oA4 oA5 oB0 oB1 oB2 oB3 oB4 oB5 sA0 sA1 sA2 sA3 sA4 sA5 sB0 sB1 sB2 sB3 sB4 sB5 FV0 FV1 FV2 FV3 FV4 FV5
 repeat (first
  | refine vk_ ?_
  | (refine W.loop ?_)
  | (show W tree.getF _ (dropped true _ _) _;generalize e:dropped _ _ _=r;simp (disch:=omega) [hX,lA0,lA1,lA2,lA3,lA4,lA5,lB0,lB1,lB2,lB3,lB4,lB5,oA0,oA1,oA2,oA3,oA4,oA5,oB0,oB1,oB2,oB3,oB4,oB5,sA0,sA1,sA2,sA3,sA4,sA5,sB0,sB1,sB2,sB3,sB4,sB5,FV0,FV1,FV2,FV3,FV4,FV5] at e;subst e;refine W.loop ?_))
 refine AF ft_ fun h2 P=>⟨rfl,?_⟩
 have f2:=P.fit
 have n2:=P.nx
 dsimp only at n2
 clear hu hut hX
 obtain ⟨hu,hut,hX⟩:=fx4 f2
 have r2:zA1 h2.ents h.next=some (.cells [.nils,.nils]):=(P.fr _ (by dsimp only;omega)).trans (by simp [zA1])
 have hZ:=j44_ hX r2 lA0 lA1 lA2 lA3 lA4 lA5 lB0 lB1 lB2 lB3 lB4 lB5 oA0 oA1 oA2 oA3 oA4 oA5 oB0 oB1 oB2 oB3 oB4 oB5 sA0 sA1 sA2 sA3 sA4 sA5 sB0 sB1 sB2 sB3 sB4 sB5 FV0 FV1 FV2 FV3 FV4 FV5
 repeat (first
  | refine vk_ ?_
  | (refine W.loop ?_)
  | (show W tree.getF _ (dropped true _ _) _;generalize e:dropped _ _ _=r;simp (disch:=omega) [hX,r2,lA0,lA1,lA2,lA3,lA4,lA5,lB0,lB1,lB2,lB3,lB4,lB5,oA0,oA1,oA2,oA3,oA4,oA5,oB0,oB1,oB2,oB3,oB4,oB5,sA0,sA1,sA2,sA3,sA4,sA5,sB0,sB1,sB2,sB3,sB4,sB5,FV0,FV1,FV2,FV3,FV4,FV5] at e;subst e;refine W.loop ?_))
 refine M1 ft_ fun h3 P3=>⟨rfl,?_⟩
 have f3:=P3.fit
 have n3:=P3.nx
 dsimp only at n3
 clear hu hut hX
 obtain ⟨hu,hut,hX⟩:=fx4 f3
 have r3:zA1 h3.ents h.next=some (.cells [.nils,.nils]):=(P3.fr _ (by dsimp only;omega)).trans (by simp (disch:=omega) [zA1,r2])
 have r3s:zA1 h3.ents (h2.next+1+4+1+3+3+4+1+3+11+3+3+3+4+1+3+11+3+3+11+3+3+3+4+3)=some (.cells [.nils,.nils]):=(P3.fr _ (by dsimp only;omega)).trans (by simp (disch:=omega) [zA1])
 have r3m:zA1 h3.ents (h2.next+1+4+1+3+3+4+1+3+11+3+3+3+4+1+3+11+3+3+11+3+3+3+4+3+1+1+4+1+6+1)=some (.cells [.str [],.nils,.nils]):=(P3.fr _ (by dsimp only;omega)).trans (by simp (disch:=omega) [zA1])
 have y3s:=fx5 f3 r3s
 have y3m:=fx5 f3 r3m
 generalize hbs:(h2.next+1+4+1+3+3+4+1+3+11+3+3+3+4+1+3+11+3+3+11+3+3+3+4+3)=bs at *
 have hbs1:h2.next<bs:=by omega
 have t1:∀ X,zA1 (zA2 h3.ents (bs+1+1+4+1+6+1) X) bs=zA1 h3.ents bs:=fun X=>zA0 (by omega)
 have t2:∀ X,zA1 (zA2 h3.ents bs X) (bs+1+1+4+1+6+1)=zA1 h3.ents (bs+1+1+4+1+6+1):=fun X=>zA0 (by omega)
 have t3:∀ X Y,zA1 (zA2 (zA2 h3.ents (bs+1+1+4+1+6+1) X) bs Y) bs=some Y:=fun X Y=>zA9 ((t1 X).trans r3s)
 repeat (first
  | refine st_ rfl ?_
  | ((first | refine W.regG ?_ | refine WoR.go ?_);generalize e:goR .. = r;simp (disch:=omega) [hX,r3,r3s,r3m,y3s,y3m,t1,t2,t3,lA0,lA1,lA2,lA3,lA4,lA5,lB0,lB1,lB2,lB3,lB4,lB5,oA0,oA1,oA2,oA3,oA4,oA5,oB0,oB1,oB2,oB3,oB4,oB5,sA0,sA1,sA2,sA3,sA4,sA5,sB0,sB1,sB2,sB3,sB4,sB5,FV0,FV1,FV2,FV3,FV4,FV5] at e;replace e:some _=_:=e;subst e;(try dsimp only [goW]))
  | (refine W.loop ?_)
  | (show W tree.getF _ (dropped true _ _) _;generalize e:dropped _ _ _=r;simp (disch:=omega) [hX,r3,r3s,r3m,y3s,y3m,t1,t2,t3,lA0,lA1,lA2,lA3,lA4,lA5,lB0,lB1,lB2,lB3,lB4,lB5,oA0,oA1,oA2,oA3,oA4,oA5,oB0,oB1,oB2,oB3,oB4,oB5,sA0,sA1,sA2,sA3,sA4,sA5,sB0,sB1,sB2,sB3,sB4,sB5,FV0,FV1,FV2,FV3,FV4,FV5] at e;subst e;refine W.loop ?_)
  | ((simp only [zAb,zA4,zA3,zA5,zA8,reduceIte]))
  | (refine mk_ 64 c64 (s_ ?_))
  | ((first | (refine W.ret ?_;(try simp only [zAb,zA4,zA3,zA8,reduceIte]);refine endW.of (.inl rfl) rfl ?_) | refine endW.of (.inl rfl) rfl ?_ | refine endW.of (.inr rfl) rfl ?_);generalize e:zBe .. = r;simp (disch:=omega) [hX,r3,r3s,r3m,y3s,y3m,t1,t2,t3,lA0,lA1,lA2,lA3,lA4,lA5,lB0,lB1,lB2,lB3,lB4,lB5,oA0,oA1,oA2,oA3,oA4,oA5,oB0,oB1,oB2,oB3,oB4,oB5,sA0,sA1,sA2,sA3,sA4,sA5,sB0,sB1,sB2,sB3,sB4,sB5,FV0,FV1,FV2,FV3,FV4,FV5] at e;subst e;refine ⟨rfl,?_⟩))
 generalize hE4:zAa _ (bs+1+1)=E4
 have lbs:bs<h3.next:=by omega
 have lhn:h.next<bs:=by omega
 have fr4:∀ q,q<h2.next→zA1 E4 q=zA1 h2.ents q:=fun q q1=>by
  rw [← hE4,zCv (by omega),zA0 (by omega),zA0 (by omega),P3.fr q (by dsimp only;omega)];dsimp only;rw [zA6 (by omega),zA6 (by omega)]
 have u4:Under E4 h3.next:=hE4 ▸ zBm (Under.set (Under.set f3.1))
 have r4s:zA1 E4 bs=some (.cells [.imm .none 3 [(.agg [.str [97,46,73],sA,oA])],.nils]):=by rw [← hE4,zCv (by omega)];exact t3 _ _
 have r4:zA1 E4 h.next=some (.cells [.nils,.nils]):=(fr4 _ (by omega)).trans r2
 generalize hn4:(h3.next+6+2+1+14+13+2+3+4+1+6)=n4
 clear hu hut hX
 have f4:Fit ⟨E4,n4,h3.tys⟩:=⟨u4.le (by dsimp only;omega),f3.2.le (by dsimp only;omega)⟩
 obtain ⟨hu,hut,hX⟩:=fx4 f4
 dsimp only at hX
 have hZ:=j45_ hX r4 r4s lA0 lA1 lA2 lA3 lA4 lA5 lB0 lB1 lB2 lB3 lB4 lB5 oA0 oA1 oA2 oA3 oA4 oA5 oB0 oB1 oB2 oB3 oB4 oB5 sA0 sA1 sA2 sA3 sA4 sA5 sB0 sB1 sB2 sB3 sB4 sB5 FV0 FV1 FV2 FV3 FV4 FV5
 repeat (first
  | refine vk_ ?_
  | (refine W.loop ?_)
  | (show W tree.getF _ (dropped true _ _) _;generalize e:dropped _ _ _=r;simp (disch:=omega) [hX,r4,r4s,lA0,lA1,lA2,lA3,lA4,lA5,lB0,lB1,lB2,lB3,lB4,lB5,oA0,oA1,oA2,oA3,oA4,oA5,oB0,oB1,oB2,oB3,oB4,oB5,sA0,sA1,sA2,sA3,sA4,sA5,sB0,sB1,sB2,sB3,sB4,sB5,FV0,FV1,FV2,FV3,FV4,FV5] at e;subst e;refine W.loop ?_))
 refine M2 ft_ fun h5 P5=>⟨rfl,?_⟩
 have f5:=P5.fit
 have n5:=P5.nx
 dsimp only at n5
 clear hu hut hX
 obtain ⟨hu,hut,hX⟩:=fx4 f5
 have lb4:bs<n4:=by omega
 have r5:zA1 h5.ents h.next=some (.cells [.nils,.nils]):=(P5.fr _ (by dsimp only;omega)).trans (by simp (disch:=omega) [zA1,r4])
 have r5s:zA1 h5.ents bs=some (.cells [.imm .none 3 [(.agg [.str [97,46,73],sA,oA])],.nils]):=(P5.fr _ (by dsimp only;omega)).trans (by simp (disch:=omega) [zA1,r4s])
 have r5m:zA1 h5.ents (n4+1)=some (.cells [.str [],.nils,.nils]):=(P5.fr _ (by dsimp only;omega)).trans (by simp (disch:=omega) [zA1])
 have y5s:=fx5 f5 r5s
 have y5m:=fx5 f5 r5m
 have t51:∀ X,zA1 (zA2 h5.ents (n4+1) X) bs=zA1 h5.ents bs:=fun X=>zA0 (by omega)
 have t53:∀ X Y,zA1 (zA2 (zA2 h5.ents (n4+1) X) bs Y) bs=some Y:=fun X Y=>zA9 ((t51 X).trans r5s)
 repeat (first
  | refine st_ rfl ?_
  | ((first | refine W.regG ?_ | refine WoR.go ?_);generalize e:goR .. = r;simp (disch:=omega) [hX,r5,r5s,r5m,y5s,y5m,t51,t53,lA0,lA1,lA2,lA3,lA4,lA5,lB0,lB1,lB2,lB3,lB4,lB5,oA0,oA1,oA2,oA3,oA4,oA5,oB0,oB1,oB2,oB3,oB4,oB5,sA0,sA1,sA2,sA3,sA4,sA5,sB0,sB1,sB2,sB3,sB4,sB5,FV0,FV1,FV2,FV3,FV4,FV5] at e;replace e:some _=_:=e;subst e;(try dsimp only [goW]))
  | (refine W.loop ?_)
  | (show W tree.getF _ (dropped true _ _) _;generalize e:dropped _ _ _=r;simp (disch:=omega) [hX,r5,r5s,r5m,y5s,y5m,t51,t53,lA0,lA1,lA2,lA3,lA4,lA5,lB0,lB1,lB2,lB3,lB4,lB5,oA0,oA1,oA2,oA3,oA4,oA5,oB0,oB1,oB2,oB3,oB4,oB5,sA0,sA1,sA2,sA3,sA4,sA5,sB0,sB1,sB2,sB3,sB4,sB5,FV0,FV1,FV2,FV3,FV4,FV5] at e;subst e;refine W.loop ?_)
  | ((simp only [zAb,zA4,zA3,zA5,zA8,reduceIte]))
  | (refine mk_ 64 c64 (s_ ?_))
  | ((first | (refine W.ret ?_;(try simp only [zAb,zA4,zA3,zA8,reduceIte]);refine endW.of (.inl rfl) rfl ?_) | refine endW.of (.inl rfl) rfl ?_ | refine endW.of (.inr rfl) rfl ?_);generalize e:zBe .. = r;simp (disch:=omega) [hX,r5,r5s,r5m,y5s,y5m,t51,t53,lA0,lA1,lA2,lA3,lA4,lA5,lB0,lB1,lB2,lB3,lB4,lB5,oA0,oA1,oA2,oA3,oA4,oA5,oB0,oB1,oB2,oB3,oB4,oB5,sA0,sA1,sA2,sA3,sA4,sA5,sB0,sB1,sB2,sB3,sB4,sB5,FV0,FV1,FV2,FV3,FV4,FV5] at e;subst e;refine ⟨rfl,?_⟩))
 generalize hE6:zAa _ (h3.next+6+2+1+14+13+2+3)=E6
 have fr6:∀ q,q<h2.next→zA1 E6 q=zA1 h2.ents q:=fun q q1=>by
  rw [← hE6,zCv (by omega),zA0 (by omega),zA0 (by omega),P5.fr q (by dsimp only;omega)];dsimp only;rw [zA6 (by omega)];exact fr4 q q1
 have u6:Under E6 h5.next:=hE6 ▸ zBm (Under.set (Under.set f5.1))
 have r6s:zA1 E6 bs=some (.cells [.imm .none 3 [(.agg [.str [97,46,73],sA,oA]),(.agg [.str [97,46,77],sB,oB])],.nils]):=by rw [← hE6,zCv (by omega)];exact t53 _ _
 have r6:zA1 E6 h.next=some (.cells [.nils,.nils]):=(fr6 _ (by omega)).trans r2
 clear hu hut hX
 have f6:Fit ⟨E6,h5.next,h5.tys⟩:=⟨u6,f5.2⟩
 obtain ⟨hu,hut,hX⟩:=fx4 f6
 dsimp only at hX
 have y6s:=fx5 f6 r6s
 have y6:=fx5 f6 r6
 dsimp only at y6s y6
 have t6:∀ X,zA1 (zA2 E6 bs X) h.next=zA1 E6 h.next:=fun X=>zA0 (by omega)
 have t6b:∀ X Y,zA1 (zA2 (zA2 E6 bs X) h.next Y) h.next=some Y:=fun X Y=>zA9 ((t6 X).trans r6)
 repeat (first
  | refine st_ rfl ?_
  | ((first | refine W.regG ?_ | refine WoR.go ?_);generalize e:goR .. = r;simp (disch:=omega) [hX,r6,r6s,y6,y6s,t6,t6b,lA0,lA1,lA2,lA3,lA4,lA5,lB0,lB1,lB2,lB3,lB4,lB5,oA0,oA1,oA2,oA3,oA4,oA5,oB0,oB1,oB2,oB3,oB4,oB5,sA0,sA1,sA2,sA3,sA4,sA5,sB0,sB1,sB2,sB3,sB4,sB5,FV0,FV1,FV2,FV3,FV4,FV5] at e;replace e:some _=_:=e;subst e;(try dsimp only [goW]))
  | (refine W.loop ?_)
  | (show W tree.getF _ (dropped true _ _) _;generalize e:dropped _ _ _=r;simp (disch:=omega) [hX,r6,r6s,y6,y6s,t6,t6b,lA0,lA1,lA2,lA3,lA4,lA5,lB0,lB1,lB2,lB3,lB4,lB5,oA0,oA1,oA2,oA3,oA4,oA5,oB0,oB1,oB2,oB3,oB4,oB5,sA0,sA1,sA2,sA3,sA4,sA5,sB0,sB1,sB2,sB3,sB4,sB5,FV0,FV1,FV2,FV3,FV4,FV5] at e;subst e;refine W.loop ?_)
  | ((simp only [zAb,zA4,zA3,zA5,zA8,reduceIte]))
  | (refine mk_ 61 c61 (s_ ?_))
  | (refine mk_ 62 c62 (s_ ?_))
  | ((first | (refine W.ret ?_;(try simp only [zAb,zA4,zA3,zA8,reduceIte]);refine endW.of (.inl rfl) rfl ?_) | refine endW.of (.inl rfl) rfl ?_ | refine endW.of (.inr rfl) rfl ?_);generalize e:zBe .. = r;simp (disch:=omega) [hX,r6,r6s,y6,y6s,t6,t6b,lA0,lA1,lA2,lA3,lA4,lA5,lB0,lB1,lB2,lB3,lB4,lB5,oA0,oA1,oA2,oA3,oA4,oA5,oB0,oB1,oB2,oB3,oB4,oB5,sA0,sA1,sA2,sA3,sA4,sA5,sB0,sB1,sB2,sB3,sB4,sB5,FV0,FV1,FV2,FV3,FV4,FV5] at e;subst e;refine ⟨rfl,?_⟩))
 (first | (refine W.ret ?_;(try simp only [zAb,zA4,zA3,zA8,reduceIte]);refine endW.of (.inl rfl) rfl ?_) | refine endW.of (.inl rfl) rfl ?_ | refine endW.of (.inr rfl) rfl ?_);generalize e:zBe .. = r;simp (disch:=omega) [hX,r6,r6s,y6,y6s,t6,t6b,lA0,lA1,lA2,lA3,lA4,lA5,lB0,lB1,lB2,lB3,lB4,lB5,oA0,oA1,oA2,oA3,oA4,oA5,oB0,oB1,oB2,oB3,oB4,oB5,sA0,sA1,sA2,sA3,sA4,sA5,sB0,sB1,sB2,sB3,sB4,sB5,FV0,FV1,FV2,FV3,FV4,FV5] at e;subst e
 refine hk _ ⟨⟨?_,?_⟩,?_,fun q q1=>?_⟩
 · dsimp only;exact zB0 ((Under.set (Under.set u6)).le (by omega))
 · dsimp only;exact f5.2.le (by omega)
 · dsimp only;omega
 · dsimp only
   rw [zDa q1,zA0 (by omega),zA0 (by omega),fr6 q (by omega),P.fr q (by dsimp only;omega)]
   exact zA6 (by omega)
theorem of_F {a b:BD} (ha:a.ok 4) (hb:b.ok 7) {h:CHeap} (hf:Fit h) {K:KT} (hk:∀ h',PG h h'→K (.tup [schV a b,.bool true]) h'):Wc tree.getF 17 [.str (zG8 a b)] h K:=by
 obtain ⟨hu,hut,hX⟩:=fx4 hf
 have LF:=@load_F a b ha hb
 have SF:=@schema_F a b ha hb
 have PFV:=fvP a b
 unfold srcL at LF
 unfold schV at hk SF
 generalize zCe a b=FV at *
 generalize mgV [97,46,73] a=mA at *
 generalize mgV [97,46,77] b=mB at *
 generalize zG8 a b=txt at *
 obtain ⟨f1,f2,f3,f4,f5⟩:=PFV
 simp only [CVal.isUndef,CVal.whole,CVal.cells,CVal.strip,CVal.bare] at f1 f2 f3 f4 f5
 have mA0:mA.beq mA=true:=zAj _
 have mB0:mB.beq mB=true:=zAj _
 refine mk_ 17 c17 (s_ ?_)
 have hZ:=j6_ hX f1 f2 f3 f4 f5
 try refine vk_ ?_
 refine LF ft_ fun h2 P=>⟨rfl,?_⟩
 have g2:=P.fit
 have n2:=P.nx
 dsimp only at n2
 have r2:zA1 h2.ents h.next=some (.cells [.nils,.nils]):=(P.fr _ (by dsimp only;omega)).trans (by simp [zA1])
 clear hu hut hX
 obtain ⟨hu,hut,hX⟩:=fx4 g2
 have hZ:=j7_ hX r2 f1 f2 f3 f4 f5
 try refine vk_ ?_
 refine SF ft_ fun h3 P3=>⟨rfl,?_⟩
 have g3:=P3.fit
 have n3:=P3.nx
 dsimp only at n3
 have r3:zA1 h3.ents h.next=some (.cells [.nils,.nils]):=(P3.fr _ (by dsimp only;omega)).trans (by simp (disch:=omega) [zA1,r2])
 have Z:∀ q,h2.next≤q→q<_→zA1 h3.ents q=none:=fun q a b=>(P3.fr q b).trans (hX.2.2.1 q a)
 dsimp only at Z
 clear hu hut hX
 obtain ⟨hu,hut,hX⟩:=fx4 g3
 have y3:=fx5 g3 r3
 have hZ:=j6_ hX r3 y3 mA0 mB0 Z
 repeat (first
  | refine vk_ ?_
  | (refine rk_ ?_;skip))
 refine hk _ ⟨⟨?_,?_⟩,?_,fun q q1=>?_⟩
 · dsimp only;exact zB0 ((Under.set hu).le (by omega))
 · dsimp only;exact g3.2.le (by omega)
 · dsimp only;omega
 · dsimp only
   rw [zDa q1,zA0 (by omega),P3.fr q (by dsimp only;omega),P.fr q (by dsimp only;omega)]
   exact zA6 (by omega)
theorem proto_F {E:EE} {nx:Nat} {ty:NN} {p d:Nat} {L:CVal} {o:CObj} (hu:Under E nx) (hut:zAd ty nx) (hg:zA1 E p=some o) (hL:Nums L) {j:Int} (hj0:0≤j) (hj1:j<5000) {K:KT}
    (hk:∀ h' a b j2,a.ok 4→b.ok 7→PG ⟨zA2 E p (pk L j2),nx,ty⟩ h'→K (.tup [schV a b,.bool true]) h'):Wc tree.getF 7 [.ptr p d 0] ⟨zA2 E p (pk L j),nx,ty⟩ K:=by
 have hY:=fxp hu hg
 have lp:=zA7 hu hg
 refine mk_ 7 c7 (s_ ?_)
 have hZ:=hY
 try refine vk_ ?_
 have e0:∀ j,(nx,CObj.cells [.nils,.nils])::zA2 E p (pk L j)=zA2 ((nx,.cells [.nils,.nils])::E) p (pk L j):=fun j=>by
  have h1:¬ nx=p:=by omega
  simp [zA2,h1]
 rw [e0]
 refine text_F _ _ _ p d L o (Under.cons (by omega) (hu.le (by omega))) (hut.le (by omega)) (by simp (disch:=omega) [zA1,hg]) hL j hj0 hj1 _ (fun n2 j2 v c1 c2 c3 Rv=>?_)
 obtain ⟨a,b,ha,hb,rfl⟩:=Rv
 rw [← e0]
 refine ⟨rfl,?_⟩
 have hZ:=hY
 try refine vk_ ?_
 refine of_F ha hb ?_ fun h3 P3=>⟨rfl,?_⟩
 · exact ⟨Under.cons (by dsimp only;omega) ((Under.set hu).le (by dsimp only;omega)),hut.le (by dsimp only;omega)⟩
 have g3:=P3.fit
 have n3:=P3.nx
 dsimp only at n3
 have r3:zA1 h3.ents nx=some (.cells [.nils,.nils]):=(P3.fr _ (by dsimp only;omega)).trans (by simp [zA1])
 have hk2:=hk ⟨zB8 (zA2 h3.ents nx (.cells (schV a b).cells)) nx,h3.next,h3.tys⟩ a b j2 ha hb ⟨⟨zB0 (Under.set g3.1),g3.2⟩,by dsimp only;omega,fun q q1=>by
  dsimp only at q1 ⊢
  rw [zDa q1,zA0 (by omega),P3.fr q (by dsimp only;omega)]
  exact zA6 (by omega)⟩
 unfold schV at *
 generalize mgV [97,46,73] a=mA at *
 generalize mgV [97,46,77] b=mB at *
 obtain ⟨hu3,hut3,hX⟩:=fx4 g3
 have y3:=fx5 g3 r3
 have hZ:=j3_ hX r3 y3
 repeat (first
  | refine vk_ ?_
  | (refine rk_ ?_;skip))
 exact hk2
theorem pm_no {a b:BD} {nm:B8} (q1:nm≠[97,46,73]) (q2:nm≠[97,46,77]) {h:CHeap} (hf:Fit h) {K:KT} (hk:∀ h',PG h h'→K (.tup [.agg [.str [],.nils,.nils],.bool false]) h'):Wc tree.getF 48 [schV a b,.str nm] h K:=by
 obtain ⟨hu,hut,hX⟩:=fx4 hf
 have PsA:=lV8P (zAx a.rs)
 have PsB:=lV8P (zAx b.rs)
 have PoA:=oV1P (!a.os.isEmpty)
 have PoB:=oV1P (!b.os.isEmpty)
 unfold schV mgV oV1
 generalize (if (!a.os.isEmpty)=true then CVal.imm .none 1 [.str [99]] else .nils)=oA at *
 generalize (if (!b.os.isEmpty)=true then CVal.imm .none 1 [.str [99]] else .nils)=oB at *
 generalize lV8 (zAx a.rs)=sA at *
 generalize lV8 (zAx b.rs)=sB at *
 have e1:([97,46,73] == nm)=false:=by simp [Ne.symm q1]
 have e2:([97,46,77] == nm)=false:=by simp [Ne.symm q2]
 have e3:([97,46,73]=nm)=False:=by simp [Ne.symm q1]
 have e4:([97,46,77]=nm)=False:=by simp [Ne.symm q2]
 obtain ⟨oA1,oA2,oA3,oA4,oA5⟩:=PoA
 obtain ⟨oB1,oB2,oB3,oB4,oB5⟩:=PoB
 obtain ⟨sA1,sA2,sA3,sA4,sA5⟩:=PsA
 obtain ⟨sB1,sB2,sB3,sB4,sB5⟩:=PsB
 simp only [CVal.isUndef,CVal.whole,CVal.cells,CVal.strip,CVal.bare] at oA1 oA2 oA3 oA4 oA5 oB1 oB2 oB3 oB4 oB5 sA1 sA2 sA3 sA4 sA5 sB1 sB2 sB3 sB4 sB5
 refine mk_ 48 c48 (s_ ?_)
 have hZ:=j25_ hX e1 e2 e3 e4 oA1 oA2 oA3 oA4 oA5 oB1 oB2 oB3 oB4 oB5 sA1 sA2 sA3 sA4 sA5 sB1 sB2 sB3 sB4 sB5
 repeat (first
  | refine vk_ ?_
  | (refine W.loop ?_)
  | (show W tree.getF _ (dropped true _ _) _;generalize e:dropped _ _ _=r;simp (disch:=omega) [hX,e1,e2,e3,e4,oA1,oA2,oA3,oA4,oA5,oB1,oB2,oB3,oB4,oB5,sA1,sA2,sA3,sA4,sA5,sB1,sB2,sB3,sB4,sB5] at e;subst e;refine W.loop ?_)
  | (refine mk_ 79 c79 (s_ ?_))
  | (refine mk_ 80 c80 (s_ ?_))
  | (refine rk_ ?_;refine ⟨rfl,?_⟩))
 have hZ:=j25_ hX e1 e2 e3 e4 oA1 oA2 oA3 oA4 oA5 oB1 oB2 oB3 oB4 oB5 sA1 sA2 sA3 sA4 sA5 sB1 sB2 sB3 sB4 sB5
 refine rk_ ?_
 refine hk _ ⟨⟨?_,?_⟩,?_,fun q q1=>?_⟩
 · dsimp only;exact hu.le (by omega)
 · dsimp only;exact hut.le (by omega)
 · dsimp only;omega
 · rfl
theorem cl8_F (l:List RW) (hl:l.length≤100):Pe 81 [lV8 l] (lV8 l):=by
 intro h hf K hk
 obtain ⟨hu,hut,hX⟩:=fx4 hf
 cases l with
 | nil =>
  unfold lV8 at *
  refine mk_ 81 c81 (s_ ?_)
  repeat (first
   | refine vx_ ?_
   | (refine rx_ ?_;refine hk _ ?_;exact om_))
 | cons r l =>
  have e:lV8 (r::l)=.imm .none 8 (r.pf::l.map RW.pf):=rfl
  have z1:(l.map RW.pf).map CVal.bare=l.map RW.pf:=by rw [List.map_map];rfl
  have z0:r.pf.bare=r.pf:=rfl
  have z2:(l.map RW.pf).length≤100:=by simp at hl ⊢;omega
  rw [e] at hk ⊢
  generalize l.map RW.pf=AL at *
  generalize r.pf=w at *
  simp only [CVal.bare,CVal.strip] at z0
  refine mk_ 81 c81 (s_ ?_)
  have hZ:=j4_ hX z0 z1 z2
  repeat (first
   | refine vk_ ?_
   | (refine rk_ ?_;refine hk _ ?_;exact om_))
theorem pm_I {a b:BD} (hl:a.rs.length≤100) {h:CHeap} (hf:Fit h) {K:KT} (hk:∀ h',PG h h'→K (.tup [mgV [97,46,73] a,.bool true]) h'):Wc tree.getF 48 [schV a b,.str [97,46,73]] h K:=by
 obtain ⟨hu,hut,hX⟩:=fx4 hf
 have PsA:=lV8P (zAx a.rs)
 have PsB:=lV8P (zAx b.rs)
 have PoA:=oV1P (!a.os.isEmpty)
 have PoB:=oV1P (!b.os.isEmpty)
 have CU:=(PsA).u
 have C8:=cl8_F (zAx a.rs) (by rw [zCk];exact hl)
 have PoAo:=oV2 (!a.os.isEmpty)
 have PoBo:=oV2 (!b.os.isEmpty)
 unfold schV mgV
 unfold mgV at hk
 unfold oV1 at *
 generalize (if (!a.os.isEmpty)=true then CVal.imm .none 1 [.str [99]] else .nils)=oA at *
 generalize (if (!b.os.isEmpty)=true then CVal.imm .none 1 [.str [99]] else .nils)=oB at *
 generalize lV8 (zAx a.rs)=sA at *
 generalize lV8 (zAx b.rs)=sB at *
 have oA0:oA.beq oA=true:=zAj _
 obtain ⟨oA1,oA2,oA3,oA4,oA5⟩:=PoA
 have oB0:oB.beq oB=true:=zAj _
 obtain ⟨oB1,oB2,oB3,oB4,oB5⟩:=PoB
 have sA0:sA.beq sA=true:=zAj _
 obtain ⟨sA1,sA2,sA3,sA4,sA5⟩:=PsA
 have sB0:sB.beq sB=true:=zAj _
 obtain ⟨sB1,sB2,sB3,sB4,sB5⟩:=PsB
 simp only [CVal.isUndef,CVal.whole,CVal.cells,CVal.strip,CVal.bare] at oA1 oA2 oA3 oA4 oA5 oB1 oB2 oB3 oB4 oB5 sA1 sA2 sA3 sA4 sA5 sB1 sB2 sB3 sB4 sB5
 rcases PoAo with rfl | rfl
 all_goals (
  refine mk_ 48 c48 (s_ ?_)
  have hZ:=j25_ hX oA0 oA1 oA2 oA3 oA4 oA5 oB0 oB1 oB2 oB3 oB4 oB5 sA0 sA1 sA2 sA3 sA4 sA5 sB0 sB1 sB2 sB3 sB4 sB5
  repeat (first
   | refine vk_ ?_
   | (refine W.loop ?_)
   | (show W tree.getF _ (dropped true _ _) _;generalize e:dropped _ _ _=r;simp (disch:=omega) [hX,oA0,oA1,oA2,oA3,oA4,oA5,oB0,oB1,oB2,oB3,oB4,oB5,sA0,sA1,sA2,sA3,sA4,sA5,sB0,sB1,sB2,sB3,sB4,sB5] at e;subst e;refine W.loop ?_)
   | (refine pe_ C8 fun n8 g8=>⟨CU,?_⟩;(try dsimp only at g8))
   | (refine mk_ 79 c79 (s_ ?_))
   | (refine mk_ 80 c80 (s_ ?_))
   | (refine mk_ 65 c65 (s_ ?_))
   | (refine rk_ ?_;refine ⟨rfl,?_⟩))
  have hZ:=j25_ hX oA0 oA1 oA2 oA3 oA4 oA5 oB0 oB1 oB2 oB3 oB4 oB5 sA0 sA1 sA2 sA3 sA4 sA5 sB0 sB1 sB2 sB3 sB4 sB5
  refine rk_ ?_
  refine hk _ ⟨⟨?_,?_⟩,?_,fun q q1=>?_⟩
  · dsimp only;exact hu.le (by omega)
  · dsimp only;exact hut.le (by omega)
  · dsimp only;omega
  · rfl)
theorem pm_M {a b:BD} (hl:b.rs.length≤100) {h:CHeap} (hf:Fit h) {K:KT} (hk:∀ h',PG h h'→K (.tup [mgV [97,46,77] b,.bool true]) h'):Wc tree.getF 48 [schV a b,.str [97,46,77]] h K:=by
 obtain ⟨hu,hut,hX⟩:=fx4 hf
 have PsA:=lV8P (zAx a.rs)
 have PsB:=lV8P (zAx b.rs)
 have PoA:=oV1P (!a.os.isEmpty)
 have PoB:=oV1P (!b.os.isEmpty)
 have CU:=(PsB).u
 have C8:=cl8_F (zAx b.rs) (by rw [zCk];exact hl)
 have PoAo:=oV2 (!a.os.isEmpty)
 have PoBo:=oV2 (!b.os.isEmpty)
 unfold schV mgV
 unfold mgV at hk
 unfold oV1 at *
 generalize (if (!a.os.isEmpty)=true then CVal.imm .none 1 [.str [99]] else .nils)=oA at *
 generalize (if (!b.os.isEmpty)=true then CVal.imm .none 1 [.str [99]] else .nils)=oB at *
 generalize lV8 (zAx a.rs)=sA at *
 generalize lV8 (zAx b.rs)=sB at *
 have oA0:oA.beq oA=true:=zAj _
 obtain ⟨oA1,oA2,oA3,oA4,oA5⟩:=PoA
 have oB0:oB.beq oB=true:=zAj _
 obtain ⟨oB1,oB2,oB3,oB4,oB5⟩:=PoB
 have sA0:sA.beq sA=true:=zAj _
 obtain ⟨sA1,sA2,sA3,sA4,sA5⟩:=PsA
 have sB0:sB.beq sB=true:=zAj _
 obtain ⟨sB1,sB2,sB3,sB4,sB5⟩:=PsB
 simp only [CVal.isUndef,CVal.whole,CVal.cells,CVal.strip,CVal.bare] at oA1 oA2 oA3 oA4 oA5 oB1 oB2 oB3 oB4 oB5 sA1 sA2 sA3 sA4 sA5 sB1 sB2 sB3 sB4 sB5
 rcases PoBo with rfl | rfl
 all_goals (
  refine mk_ 48 c48 (s_ ?_)
  have hZ:=j25_ hX oA0 oA1 oA2 oA3 oA4 oA5 oB0 oB1 oB2 oB3 oB4 oB5 sA0 sA1 sA2 sA3 sA4 sA5 sB0 sB1 sB2 sB3 sB4 sB5
  repeat (first
   | refine vk_ ?_
   | (refine W.loop ?_)
   | (show W tree.getF _ (dropped true _ _) _;generalize e:dropped _ _ _=r;simp (disch:=omega) [hX,oA0,oA1,oA2,oA3,oA4,oA5,oB0,oB1,oB2,oB3,oB4,oB5,sA0,sA1,sA2,sA3,sA4,sA5,sB0,sB1,sB2,sB3,sB4,sB5] at e;subst e;refine W.loop ?_)
   | (refine pe_ C8 fun n8 g8=>⟨CU,?_⟩;(try dsimp only at g8))
   | (refine mk_ 79 c79 (s_ ?_))
   | (refine mk_ 80 c80 (s_ ?_))
   | (refine mk_ 65 c65 (s_ ?_))
   | (refine rk_ ?_;refine ⟨rfl,?_⟩))
  have hZ:=j25_ hX oA0 oA1 oA2 oA3 oA4 oA5 oB0 oB1 oB2 oB3 oB4 oB5 sA0 sA1 sA2 sA3 sA4 sA5 sB0 sB1 sB2 sB3 sB4 sB5
  refine rk_ ?_
  refine hk _ ⟨⟨?_,?_⟩,?_,fun q q1=>?_⟩
  · dsimp only;exact hu.le (by omega)
  · dsimp only;exact hut.le (by omega)
  · dsimp only;omega
  · rfl)
abbrev ixL:CCode:=(.loop true (.seq (.R [.g (.bin .lss (.var 1) (.var 2))] [(3,0)]) (.seq (.cond (.var 3) .skip (.exit 0)) (.seq (.block 1 (.seq (.R [.v 1,.m (.loc 0)] [(5,1)]) (.seq (.R [.v 4,.v 0,.v 5,.i 8 1 0,.z 8 0,.g (.callv false (.loc 4) [(.loc 0)])] [(6,5)]) (.cond (.var 6) (.seq (.R [.v 5,.m (.loc 0)] [(7,1)]) .ret) .skip)))) (.R [.g (.bin .add (.var 1) (.k 1)),.m (.loc 0)] [(1,1)])))))
theorem ix2_go {Ls:List RW} (hl:Ls.length≤100) {q d:Nat} {w:B8} {hh:CHeap} (hf:Fit hh) (hg:zA1 hh.ents q=some (.cells [.str w])) {Q:QT}
    (hyes:∀ v1 v3 v5 v6 n' k x,Ls[k]? = some x→x.nm=w→(∀ j y,j<k→Ls[j]? = some y→y.nm≠w)→hh.next≤n'→Q .ret ⟨[.imm .none 8 (Ls.map RW.pf),v1,.int .i64 Ls.length,v3,.fn (.func 83) [] [.ptr q d 0],v5,v6,.int .i64 (k:Nat)],⟨hh.ents,n',hh.tys⟩,[]⟩)
    (hno:(∀ j y,j<Ls.length→Ls[j]? = some y→y.nm≠w)→∀ v1 v3 v5 v6 n',hh.next≤n'→Q (.exit 0) ⟨[.imm .none 8 (Ls.map RW.pf),v1,.int .i64 Ls.length,v3,.fn (.func 83) [] [.ptr q d 0],v5,v6,.int .i64 0],⟨hh.ents,n',hh.tys⟩,[]⟩) :
    ∀ (m k nx:Nat) (v3 v5 v6:CVal),k+m=Ls.length→(∀ j y,j<k→Ls[j]? = some y→y.nm≠w)→hh.next≤nx→W tree.getF ixL ⟨[.imm .none 8 (Ls.map RW.pf),.int .i64 (k:Nat),.int .i64 Ls.length,v3,.fn (.func 83) [] [.ptr q d 0],v5,v6,.int .i64 0],⟨hh.ents,nx,hh.tys⟩,[]⟩ Q:=by
 intro m
 induction m with
 | zero =>
  intro k nx v3 v5 v6 h1 h2 h3
  obtain rfl:k=Ls.length:=by omega
  refine W.loop ?_
  try refine w0_ ?_
  refine hno h2 _ _ _ _ _ ?_;exact om_
 | succ m ih =>
  intro k nx v3 v5 v6 h1 h2 h3
  obtain ⟨hu,hut,hX⟩:=fx4 (show Fit ⟨hh.ents,nx,hh.tys⟩ from ⟨hf.1.le h3,hf.2.le h3⟩)
  dsimp only at hX hu hut
  have hlt:(k:Int)<(Ls.length:Int):=by omega
  have lq:=zA7 hu hg
  have hkl:k<Ls.length:=by omega
  obtain ⟨x,hx⟩:∃ x,Ls[k]? = some x:=⟨_,List.getElem?_eq_getElem hkl⟩
  have hn:nth (Ls.map RW.pf) k=x.pf:=zAm RW.pf Ls k x hx
  have hn2:(Ls.map RW.pf)[k]? = some x.pf:=by rw [List.getElem?_map,hx];rfl
  have hlen:(Ls.map RW.pf).length=Ls.length:=List.length_map ..
  generalize hPF:Ls.map RW.pf=PF at *
  unfold RW.pf at hn hn2
  refine W.loop ?_
  by_cases he:x.nm=w
  · subst he
    have hZ:=j6_ hX hg hlt hn hn2 hlen
    repeat (first
     | refine wk_ ?_
     | (refine mk_ 83 c83 (s_ ?_))
     | (refine rk_ ?_;refine ⟨rfl,?_⟩))
    refine W.ret ?_
    simp only [zAb,zA4,zA3,zA8,reduceIte]
    refine hyes _ _ _ _ _ k x hx rfl h2 ?_;exact om_
  · have e1:(x.nm == w)=false:=by simp [he]
    have e2:(x.nm=w)=False:=by simp [he]
    have hZ:=j8_ hX hg hlt hn hn2 hlen e1 e2
    repeat (first
     | refine wk_ ?_
     | (refine mk_ 83 c83 (s_ ?_))
     | (refine rk_ ?_;refine ⟨rfl,?_⟩))
    have ih1:=fun nx v3 v5 v6 (h:_≤nx)=>ih (k+1) nx v3 v5 v6 (by omega) (fun j y a b=>by
     rcases Nat.lt_succ_iff_lt_or_eq.1 a with c | rfl
     · exact h2 j y c b
     · rw [hx] at b;cases b;exact he) h
    push_cast at ih1
    refine dx_ ?_
    refine ih1 _ _ _ _ ?_;exact om_
def zPF:CVal:=.agg [.int .i64 0,.str [],.int .i64 0,.int .i64 0,.str [],.int .i64 0,.bool false,.int .i64 0]
theorem nd_F {Ls:List RW} (hl:Ls.length≤100) {w:B8} {n:B8} {O:CVal} (HO:PV1 O) {R:CVal} (hyes:∀ (k:Nat) (x:RW),Ls[k]? = some x→x.nm=w→R=.tup [x.pf,.bool true]) (hno:(∀ (j:Nat) (y:RW),Ls[j]? = some y→y.nm≠w)→R=.tup [zPF,.bool false]):Pe 49 [.agg [.str n,lV8 Ls,O],.str w] R:=by
 intro h hf K hk
 obtain ⟨hu,hut,hX⟩:=fx4 hf
 obtain ⟨f1,f2,f3,f4,f5⟩:=HO
 simp only [CVal.isUndef,CVal.whole,CVal.cells,CVal.strip,CVal.bare] at f1 f2 f3 f4 f5
 cases hLs:Ls with
 | nil =>
  subst hLs
  obtain rfl:=hno (by intro j y e;cases e)
  unfold lV8
  unfold zPF at hk
  refine mk_ 49 c49 (s_ ?_)
  have hZ:=j6_ hX f1 f2 f3 f4 f5
  repeat (first
   | refine vk_ ?_
   | (refine W.loop ?_)
   | (show W tree.getF _ (dropped true _ _) _;generalize e:dropped _ _ _=r;simp (disch:=omega) [hX,f1,f2,f3,f4,f5] at e;subst e;refine W.loop ?_)
   | (refine mk_ 82 c82 (s_ ?_))
   | (refine rk_ ?_;refine ⟨rfl,?_⟩))
  have hZ:=j6_ hX f1 f2 f3 f4 f5
  refine rk_ ?_
  refine hk _ ?_;exact om_
 | cons r0 l0 =>
  have e8:lV8 Ls=.imm .none 8 (Ls.map RW.pf):=by rw [hLs];rfl
  have hlen:(Ls.map RW.pf).length=Ls.length:=List.length_map ..
  rw [← hLs,e8]
  refine mk_ 49 c49 (s_ ?_)
  have hZ:=j7_ hX f1 f2 f3 f4 f5 hlen
  repeat (first
   | refine vk_ ?_
   | (refine mk_ 82 c82 (s_ ?_))
   | (refine rk_ ?_;refine ⟨rfl,?_⟩))
  refine ix2_go hl (hh:=⟨_,_,_⟩) (w:=w) ?_ ?_ ?_ ?_ Ls.length 0 _ _ _ _ (by omega) (fun j y a _=>by omega) (Nat.le_refl _)
  · exact ft_
  · simp (disch:=omega) [zA1]
  · intro v1 v3 v5 v6 n' k x hx hw _ hn'
    obtain rfl:=hyes k x hx hw
    have hn:nth (Ls.map RW.pf) k=x.pf:=zAm RW.pf Ls k x hx
    have hkl:(k:Int)<(Ls.length:Int):=by have:=(List.getElem?_eq_some_iff.1 hx).1;omega
    have hk0:¬ (k:Int)<0:=by omega
    dsimp only at hn'
    generalize hPF:Ls.map RW.pf=PF at *
    unfold RW.pf at hn hk
    clear e8
    have hZ:=j10_ hX f1 f2 f3 f4 f5 hlen hn hkl hk0
    repeat (first
     | refine vk_ ?_
     | (refine mk_ 82 c82 (s_ ?_))
     | (refine rk_ ?_;refine ⟨rfl,?_⟩))
    have hZ:=j10_ hX f1 f2 f3 f4 f5 hlen hn hkl hk0
    refine rk_ ?_
    refine hk _ ?_;exact om_
  · intro hh v1 v3 v5 v6 n' hn'
    obtain rfl:=hno (fun j y e=>hh j y (List.getElem?_eq_some_iff.1 e).1 e)
    dsimp only at hn'
    unfold zPF at hk
    have hZ:=j6_ hX f1 f2 f3 f4 f5
    repeat (first
     | refine vk_ ?_
     | (refine mk_ 82 c82 (s_ ?_))
     | (refine rk_ ?_;refine ⟨rfl,?_⟩))
    have hZ:=j6_ hX f1 f2 f3 f4 f5
    refine rk_ ?_
    refine hk _ ?_;exact om_
theorem BD.rs_le {c:BD} {m:Nat} (hc:c.ok m) (hm:m≤7):c.rs.length≤100:=by
 have:=hc.len
 simp only [BD.rs,List.length_append,List.length_map];omega
theorem proto_1 {p d nx:Nat} {ty:NN} {L:CVal} (hp:p<nx) (hut:zAd ty nx) (hL:Nums L) {K:KT} (hk:∀ h' a b,a.ok 4→b.ok 7→Fit h'→nx≤h'.next→(∀ q,q<nx→q≠p→zA1 h'.ents q=none)→K (.tup [schV a b,.bool true]) h'):Wc tree.getF 7 [.ptr p d 0] ⟨[(p,.cells [L,.int .i64 0])],nx,ty⟩ K:=by
 have e0:[(p,CObj.cells [L,.int .i64 0])]=zA2 [(p,pk L 0)] p (pk L 0):=by simp [zA2]
 rw [e0]
 refine proto_F (Under.cons hp Under.nil) hut (o:=pk L 0) (by simp [zA1]) hL (by omega) (by omega) fun h' a b j2 ha hb P=>hk h' a b ha hb P.fit P.nx fun q q1 q2=>(P.fr q q1).trans ?_
 dsimp only
 rw [zA0 q2]
 simp [zA1,Ne.symm q2]
end Go.Proofs.YtcokdlfmnhjngaaGreatDoor.IrW
