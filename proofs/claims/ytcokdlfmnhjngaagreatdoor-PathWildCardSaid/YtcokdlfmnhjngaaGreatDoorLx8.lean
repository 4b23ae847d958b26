/- What the functions of the law 'PathWild' do: part 8 of 8. -/
import Derived.Test.YtcokdlfmnhjngaaGreatDoorLx7
namespace Go.Proofs.YtcokdlfmnhjngaaGreatDoor.IrW
open Go Go.CI
set_option maxRecDepth 100000
set_option maxHeartbeats 4000000
set_option linter.unusedVariables false
set_option linter.unusedSimpArgs false
attribute [local irreducible] W Wo Wc WoR
theorem wi_loop {n:Nat} {d:Int} (hd0:0≤d) (hdn:d+n=3) {xs:List Int} (hxs:xs.length≤120) (hw:∀ x ∈ xs,0≤x∧x<256) {tg:Tag} {b3 r9:Nat} {hb:CHeap} (hbb:b3<hb.next) (hr9:r9<hb.next) (hbr:b3≠r9)
    (WC:0<n→∀ (xs:List Int) (Lv:CVal) (d:Int),Lv=.nils∧xs=[]∨Lv=.imm .none 1 (xs.map (CVal.int .u8))→xs.length≤120→(∀ x ∈ xs,0≤x∧x<256)→d+n=4→0≤d→∀ h:CHeap,Fit h→∀ K:KT,(∀ t h',wfW n t→PG h h'→K (mwV n t) h')→Wc tree.getF 8 [Lv,.int .i64 d] h K) {Lv:CVal} (hLv:Lv=.nils∧xs=[]∨Lv=.imm .none 1 (xs.map (CVal.int .u8))) {Q:QT}
    (hk:∀ (A':List (B8)) (B':List Bool) (C':List (MW n)) (FA FB FC:CVal) (ia ib ic:Option Nat) (E':EE) (nx':Nat) (ty':NN) (v0 v2 v5 v7 v8:CVal),WJ n hb b3 A' B' C' FA FB FC ia ib ic E' nx'→zAd ty' nx'→A'.length≤4→B'.length≤4→C'.length≤4→(∀ s ∈ A',s ∈ nm8)→(∀ t ∈ C',wfW n t)→Q (.exit 0) ⟨[v0,Lv,v2,.ptr b3 38797315 0,.imm tg 1 [.str [97],.str [98],.str [102,49],.str [102,50],.str [111,49,48,49],.str [],.str [57],.str [65]],v5,.int .i64 d,v7,v8,.ptr r9 38797315 0],⟨E',nx',ty'⟩,[]⟩) :
    ∀ (m k:Nat) (A:List (B8)) (B:List Bool) (C:List (MW n)) (FA FB FC:CVal) (ia ib ic:Option Nat) (E:EE) (nx:Nat) (ty:NN) (v2 v5 v7 v8:CVal),k+m=min xs.length 4→WJ n hb b3 A B C FA FB FC ia ib ic E nx→zAd ty nx→A.length=k→C.length=k→B.length≤k→(∀ s ∈ A,s ∈ nm8)→(∀ t ∈ C,wfW n t)→W tree.getF wiL ⟨[.int .i64 (k:Nat),Lv,v2,.ptr b3 38797315 0,.imm tg 1 [.str [97],.str [98],.str [102,49],.str [102,50],.str [111,49,48,49],.str [],.str [57],.str [65]],v5,.int .i64 d,v7,v8,.ptr r9 38797315 0],⟨E,nx,ty⟩,[]⟩ Q:=by
 intro m
 induction m with
 | zero =>
  intro k A B C FA FB FC ia ib ic E nx ty v2 v5 v7 v8 h1 J hut hA hC hB okA okC
  have fin:∀ (nx':Nat) (v2:CVal),nx≤nx'→Q (.exit 0) ⟨[.int .i64 (k:Nat),Lv,v2,.ptr b3 38797315 0,.imm tg 1 [.str [97],.str [98],.str [102,49],.str [102,50],.str [111,49,48,49],.str [],.str [57],.str [65]],v5,.int .i64 d,v7,v8,.ptr r9 38797315 0],⟨E,nx',ty⟩,[]⟩:=fun nx' v2 hn=>hk _ _ _ _ _ _ _ _ _ _ _ _ _ _ _ _ _ (J.mono (J.un.le hn) hn (fun _ _=>rfl)) (hut.le hn) (by omega) (by omega) (by omega) okA okC
  refine W.loop ?_
  rcases hLv with ⟨rfl,rfl⟩ | rfl
  · obtain rfl:k=0:=by simp at h1;exact h1
    try refine w0_ ?_
    refine fin _ _ ?_;exact om_
  · have lX:(xs.map (CVal.int .u8)).length=xs.length:=List.length_map ..
    generalize xs.map (CVal.int .u8)=PX at *
    by_cases h4:xs.length≤k
    · have hlt:¬ (k:Int)<(xs.length:Int):=by omega
      have hZ:=j2_ lX hlt
      try refine wk_ ?_
      refine fin _ _ ?_;exact om_
    · have hlt:(k:Int)<(xs.length:Int):=by omega
      have hk4:¬ (k:Int)<4:=by omega
      have hZ:=j3_ lX hlt hk4
      try refine wk_ ?_
      refine fin _ _ ?_;exact om_
 | succ m ih =>
  intro k A B C FA FB FC ia ib ic E nx ty v2 v5 v7 v8 h1 J hut hA hC hB okA okC
  have hL2:Lv=.imm .none 1 (xs.map (CVal.int .u8)):=by
   rcases hLv with ⟨_,rfl⟩ | h
   · simp at h1
   · exact h
  refine wi_go hd0 hdn hxs hw hbb hr9 hbr WC hL2 J hut (by omega) (by omega) hA hC hB okA okC fun A' B' C' FA FB FC ia ib ic E' nx' ty' v2 v5 v7 v8 J' hut' hA' hC' hB' okA' okC'=>?_
  have:=ih (k+1) A' B' C' FA FB FC ia ib ic E' nx' ty' v2 v5 v7 v8 (by omega) J' hut' hA' hC' hB' okA' okC'
  push_cast at this
  exact this
theorem wild_N (n:Nat) (WC:0<n→∀ (xs:List Int) (Lv:CVal) (d:Int),Lv=.nils∧xs=[]∨Lv=.imm .none 1 (xs.map (CVal.int .u8))→xs.length≤120→(∀ x ∈ xs,0≤x∧x<256)→d+n=4→0≤d→∀ h:CHeap,Fit h→∀ K:KT,(∀ t h',wfW n t→PG h h'→K (mwV n t) h')→Wc tree.getF 8 [Lv,.int .i64 d] h K):∀ (xs:List Int) (Lv:CVal) (d:Int),Lv=.nils∧xs=[]∨Lv=.imm .none 1 (xs.map (CVal.int .u8))→xs.length≤120→(∀ x ∈ xs,0≤x∧x<256)→d+((n+1):Nat)=4→0≤d→∀ h:CHeap,Fit h→∀ K:KT,(∀ t h',wfW (n+1) t→PG h h'→K (mwV (n+1) t) h')→Wc tree.getF 8 [Lv,.int .i64 d] h K:=by
 intro xs Lv d hLv hxs hw hdn hd0 h hf K hk
 obtain ⟨hu,hut,hX⟩:=fx4 hf
 have PL:PV1 Lv:=by rcases hLv with ⟨rfl,_⟩ | rfl <;> exact ⟨rfl,rfl,rfl,rfl,rfl⟩
 obtain ⟨a1,a2,a3,a4,a5⟩:=PL
 simp only [CVal.isUndef,CVal.whole,CVal.cells,CVal.strip,CVal.bare] at a1 a2 a3 a4 a5
 have hP:=j5_ a1 a2 a3 a4 a5
 have hZ:=j2_ hX hP
 refine mk_ 8 c8 (s_ ?_)
 skip
 repeat ((fail_if_success (show W tree.getF wiL _ _));first
  | refine st_ rfl ?_
  | ((first | refine W.regG ?_ | refine WoR.go ?_);generalize e:goR .. = r;simp (disch:=omega) [hZ] at e;replace e:some _=_:=e;subst e;(try dsimp only [goW]))
  | refine W.loop ?_
  | (refine dk_ ?_;refine W.loop ?_)
  | (simp only [zAb,zA4,zA3,zA5,zA8,reduceIte]))
 have u0:Under ((h.next+1+1,CObj.cells [.nils,.nils,.nils])::(h.next,CObj.cells [.nils,.nils,.nils])::h.ents) (h.next+1+3+2+1):=un2_
 have J0:WJ n ⟨(h.next+1+1,CObj.cells [.nils,.nils,.nils])::(h.next,CObj.cells [.nils,.nils,.nils])::h.ents,h.next+3,h.tys⟩ (h.next+1+1) [] [] [] .nils .nils .nils none none none ((h.next+1+1,CObj.cells [.nils,.nils,.nils])::(h.next,CObj.cells [.nils,.nils,.nils])::h.ents) (h.next+1+3+2+1):={
  un:=u0
  nx:=by dsimp only;omega
  bb:=by dsimp only;omega
  gm:=by simp [zA1]
  fa:=.inl ⟨rfl,rfl,rfl⟩
  fb:=.inl ⟨rfl,rfl,rfl⟩
  fc:=.inl ⟨rfl,rfl,rfl⟩
  da:=fun q e=>by cases e
  db:=fun q e=>by cases e
  dc:=fun q e=>by cases e
  fr:=fun q _ _=>rfl }
 refine wi_loop hd0 (by push_cast at hdn;omega) hxs hw (b3:=h.next+1+1) (r9:=h.next) (hb:=⟨_,h.next+3,h.tys⟩) (by dsimp only;omega) (by dsimp only;omega) (by omega) WC hLv ?_ (min xs.length 4) 0 [] [] [] _ _ _ _ _ _ _ _ _ _ _ _ _ (by omega) J0 (hut.le (by omega)) rfl rfl (by simp) (fun s e=>by cases e) (fun t e=>by cases e)
 intro A B C FA FB FC ia ib ic E nx ty v0 v2 v5 v7 v8 J hut2 lA lB lC okA okC
 have gm:=J.gm
 have gr:=J.fr h.next (by dsimp only;omega) (by omega)
 have frr:=J.fr
 have nn:=J.nx
 dsimp only at gr frr nn
 simp (disch:=omega) [zA1] at gr
 have hu2:=J.un
 obtain ⟨fa1,fa2,fa3,fa4⟩:=J.fa.lst
 obtain ⟨fb1,fb2,fb3,fb4⟩:=J.fb.lst
 obtain ⟨fc1,fc2,fc3,fc4⟩:=J.fc.lst
 have KK:=hk (A,B,C)
 have eV:mwV (n+1) (A,B,C)=.agg [lst 1 (A.map CVal.str),lst 1 (B.map CVal.bool),lst 3 (C.map (mwV n))]:=rfl
 rw [eV,← fa1,← fb1,← fc1] at KK
 simp only [CVal.isUndef,CVal.whole,CVal.cells,CVal.strip] at fa2 fa3 fa4 fb2 fb3 fb4 fc2 fc3 fc4 KK
 clear hX hZ
 obtain ⟨hu,hut,hX⟩:=fx4 (h:=⟨E,nx,ty⟩) ⟨hu2,hut2⟩
 have hY:=fx5 (h:=⟨E,nx,ty⟩) ⟨hu2,hut2⟩ gr
 dsimp only at hX hY hu hut
 have gs:∀ z,zA1 (zA2 E h.next z) (h.next+1+1)=zA1 E (h.next+1+1):=fun z=>zA0 (by omega)
 have hZ:=j14_ hX gm gr hY gs fa2 fa3 fa4 fb2 fb3 fb4 fc2 fc3 fc4
 repeat (first
  | refine vk_ ?_)
 refine rk_ ?_
 refine KK _ ⟨okA,Nat.le_trans lA (by omega),Nat.le_trans lB (by omega),Nat.le_trans lC (by omega),okC⟩ ⟨⟨?_,?_⟩,?_,fun q q1=>?_⟩
 · dsimp only;exact zB0 ((Under.set hu).le (by omega))
 · dsimp only;exact hut.le (by omega)
 · dsimp only;omega
 · dsimp only
   rw [zDa q1,zA0 (by omega),frr q (by omega) (by omega),zA6 (by omega),zA6 (by omega)]
theorem wild_C:∀ n:Nat,0<n→∀ (xs:List Int) (Lv:CVal) (d:Int),Lv=.nils∧xs=[]∨Lv=.imm .none 1 (xs.map (CVal.int .u8))→xs.length≤120→(∀ x ∈ xs,0≤x∧x<256)→d+n=4→0≤d→∀ h:CHeap,Fit h→∀ K:KT,(∀ t h',wfW n t→PG h h'→K (mwV n t) h')→Wc tree.getF 8 [Lv,.int .i64 d] h K
 | 0,h=>absurd h (by omega)
 | n+1,_=>wild_N n (wild_C n)
theorem bgPW {K:KT} (hk:∀ n' ty,3≤n'→zAd ty n'→K (.bool true) ⟨[],n',ty⟩):Wc tree.getF 5 [] ⟨[],3,[]⟩ K:=wc_start (m:=1000000) (by kernel_rfl) hk
theorem pw_1 {L1 L2 L3:CVal} {m1 m2 m3:Nat} (HL1:LL L1 m1) (HL2:LL L2 m2) (HL3:LL L3 m3) (h1:120<m1):Wc tree.getF 3 [L1,L2,L3] zCl fun v _=>v=.bool true:=by
 have hN0:zCl=⟨[],0,[]⟩:=rfl
 obtain ⟨⟨a1,a2,a3,a4,a5⟩,a6,a7⟩:=HL1
 obtain ⟨⟨b1,b2,b3,b4,b5⟩,b6,b7⟩:=HL2
 obtain ⟨⟨d1,d2,d3,d4,d5⟩,d6,d7⟩:=HL3
 simp only [CVal.isUndef,CVal.whole,CVal.cells,CVal.strip,CVal.bare,CVal.isStr] at a1 a2 a3 a4 a5 a7 b1 b2 b3 b4 b5 b7 d1 d2 d3 d4 d5 d7
 have q1:(120:Int)<(m1:Int):=by omega
 have q2:=trivial
 have q3:=trivial
 refine mk_ 3 c3 ?_
 generalize e:zB9 .. = r
 simp (disch:=omega) [hN0,a1,a2,a3,a4,a5,a6,a7,b1,b2,b3,b4,b5,b6,b7,d1,d2,d3,d4,d5,d6,d7] at e
 subst e
 repeat (first
  | refine st_ rfl ?_
  | ((first | refine W.regG ?_ | refine WoR.go ?_);generalize e:goR .. = r;simp (disch:=omega) [a1,a2,a3,a4,a5,a6,a7,b1,b2,b3,b4,b5,b6,b7,d1,d2,d3,d4,d5,d6,d7,-CVal.lenOf,q1,q2,q3] at e;replace e:some _=_:=e;subst e;(try dsimp only [goW]))
  | (simp only [zAb,zA4,zA3,zA5,zA8,reduceIte]))
 refine bgPW fun n1 ty1 hn1 hut1=>⟨rfl,?_⟩
 obtain ⟨hu,hut,hX⟩:=fx4 (h:=⟨[],n1,ty1⟩) ⟨Under.nil,hut1⟩
 repeat (first
  | refine st_ rfl ?_
  | ((first | refine W.regG ?_ | refine WoR.go ?_);generalize e:goR .. = r;simp (disch:=omega) [hX,a1,a2,a3,a4,a5,a6,a7,b1,b2,b3,b4,b5,b6,b7,d1,d2,d3,d4,d5,d6,d7,-CVal.lenOf,q1,q2,q3,c6] at e;replace e:some _=_:=e;subst e;(try dsimp only [goW]))
  | ((simp only [zAb,zA4,zA3,zA5,zA8,reduceIte]))
  | (refine Wc.mkG 6 c6 (by kernel_rfl) rfl ?_;generalize e:zB9 .. = r;simp (disch:=omega) [c6] at e;subst e)
  | ((first | (refine W.ret ?_;(try simp only [zAb,zA4,zA3,zA8,reduceIte]);refine endW.of (.inl rfl) rfl ?_) | refine endW.of (.inl rfl) rfl ?_ | refine endW.of (.inr rfl) rfl ?_);generalize e:zBe .. = r;simp (disch:=omega) [hX,a1,a2,a3,a4,a5,a6,a7,b1,b2,b3,b4,b5,b6,b7,d1,d2,d3,d4,d5,d6,d7,-CVal.lenOf,q1,q2,q3,c6] at e;subst e;refine ⟨rfl,?_⟩))
 refine rx_ ?_
 rfl
theorem pw_2 {L1 L2 L3:CVal} {m1 m2 m3:Nat} (HL1:LL L1 m1) (HL2:LL L2 m2) (HL3:LL L3 m3) (h1:m1≤120) (h2:8<m2):Wc tree.getF 3 [L1,L2,L3] zCl fun v _=>v=.bool true:=by
 have hN0:zCl=⟨[],0,[]⟩:=rfl
 obtain ⟨⟨a1,a2,a3,a4,a5⟩,a6,a7⟩:=HL1
 obtain ⟨⟨b1,b2,b3,b4,b5⟩,b6,b7⟩:=HL2
 obtain ⟨⟨d1,d2,d3,d4,d5⟩,d6,d7⟩:=HL3
 simp only [CVal.isUndef,CVal.whole,CVal.cells,CVal.strip,CVal.bare,CVal.isStr] at a1 a2 a3 a4 a5 a7 b1 b2 b3 b4 b5 b7 d1 d2 d3 d4 d5 d7
 have q1:¬ (120:Int)<(m1:Int):=by omega
 have q2:(8:Int)<(m2:Int):=by omega
 have q3:=trivial
 refine mk_ 3 c3 ?_
 generalize e:zB9 .. = r
 simp (disch:=omega) [hN0,a1,a2,a3,a4,a5,a6,a7,b1,b2,b3,b4,b5,b6,b7,d1,d2,d3,d4,d5,d6,d7] at e
 subst e
 repeat (first
  | refine st_ rfl ?_
  | ((first | refine W.regG ?_ | refine WoR.go ?_);generalize e:goR .. = r;simp (disch:=omega) [a1,a2,a3,a4,a5,a6,a7,b1,b2,b3,b4,b5,b6,b7,d1,d2,d3,d4,d5,d6,d7,-CVal.lenOf,q1,q2,q3] at e;replace e:some _=_:=e;subst e;(try dsimp only [goW]))
  | (simp only [zAb,zA4,zA3,zA5,zA8,reduceIte]))
 refine bgPW fun n1 ty1 hn1 hut1=>⟨rfl,?_⟩
 obtain ⟨hu,hut,hX⟩:=fx4 (h:=⟨[],n1,ty1⟩) ⟨Under.nil,hut1⟩
 repeat (first
  | refine st_ rfl ?_
  | ((first | refine W.regG ?_ | refine WoR.go ?_);generalize e:goR .. = r;simp (disch:=omega) [hX,a1,a2,a3,a4,a5,a6,a7,b1,b2,b3,b4,b5,b6,b7,d1,d2,d3,d4,d5,d6,d7,-CVal.lenOf,q1,q2,q3,c6] at e;replace e:some _=_:=e;subst e;(try dsimp only [goW]))
  | ((simp only [zAb,zA4,zA3,zA5,zA8,reduceIte]))
  | (refine Wc.mkG 6 c6 (by kernel_rfl) rfl ?_;generalize e:zB9 .. = r;simp (disch:=omega) [c6] at e;subst e)
  | ((first | (refine W.ret ?_;(try simp only [zAb,zA4,zA3,zA8,reduceIte]);refine endW.of (.inl rfl) rfl ?_) | refine endW.of (.inl rfl) rfl ?_ | refine endW.of (.inr rfl) rfl ?_);generalize e:zBe .. = r;simp (disch:=omega) [hX,a1,a2,a3,a4,a5,a6,a7,b1,b2,b3,b4,b5,b6,b7,d1,d2,d3,d4,d5,d6,d7,-CVal.lenOf,q1,q2,q3,c6] at e;subst e;refine ⟨rfl,?_⟩))
 refine rx_ ?_
 rfl
theorem pw_3 {L1 L2 L3:CVal} {m1 m2 m3:Nat} (HL1:LL L1 m1) (HL2:LL L2 m2) (HL3:LL L3 m3) (h1:m1≤120) (h2:m2≤8) (h3:8<m3):Wc tree.getF 3 [L1,L2,L3] zCl fun v _=>v=.bool true:=by
 have hN0:zCl=⟨[],0,[]⟩:=rfl
 obtain ⟨⟨a1,a2,a3,a4,a5⟩,a6,a7⟩:=HL1
 obtain ⟨⟨b1,b2,b3,b4,b5⟩,b6,b7⟩:=HL2
 obtain ⟨⟨d1,d2,d3,d4,d5⟩,d6,d7⟩:=HL3
 simp only [CVal.isUndef,CVal.whole,CVal.cells,CVal.strip,CVal.bare,CVal.isStr] at a1 a2 a3 a4 a5 a7 b1 b2 b3 b4 b5 b7 d1 d2 d3 d4 d5 d7
 have q1:¬ (120:Int)<(m1:Int):=by omega
 have q2:¬ (8:Int)<(m2:Int):=by omega
 have q3:(8:Int)<(m3:Int):=by omega
 refine mk_ 3 c3 ?_
 generalize e:zB9 .. = r
 simp (disch:=omega) [hN0,a1,a2,a3,a4,a5,a6,a7,b1,b2,b3,b4,b5,b6,b7,d1,d2,d3,d4,d5,d6,d7] at e
 subst e
 repeat (first
  | refine st_ rfl ?_
  | ((first | refine W.regG ?_ | refine WoR.go ?_);generalize e:goR .. = r;simp (disch:=omega) [a1,a2,a3,a4,a5,a6,a7,b1,b2,b3,b4,b5,b6,b7,d1,d2,d3,d4,d5,d6,d7,-CVal.lenOf,q1,q2,q3] at e;replace e:some _=_:=e;subst e;(try dsimp only [goW]))
  | (simp only [zAb,zA4,zA3,zA5,zA8,reduceIte]))
 refine bgPW fun n1 ty1 hn1 hut1=>⟨rfl,?_⟩
 obtain ⟨hu,hut,hX⟩:=fx4 (h:=⟨[],n1,ty1⟩) ⟨Under.nil,hut1⟩
 repeat (first
  | refine st_ rfl ?_
  | ((first | refine W.regG ?_ | refine WoR.go ?_);generalize e:goR .. = r;simp (disch:=omega) [hX,a1,a2,a3,a4,a5,a6,a7,b1,b2,b3,b4,b5,b6,b7,d1,d2,d3,d4,d5,d6,d7,-CVal.lenOf,q1,q2,q3,c6] at e;replace e:some _=_:=e;subst e;(try dsimp only [goW]))
  | ((simp only [zAb,zA4,zA3,zA5,zA8,reduceIte]))
  | (refine Wc.mkG 6 c6 (by kernel_rfl) rfl ?_;generalize e:zB9 .. = r;simp (disch:=omega) [c6] at e;subst e)
  | ((first | (refine W.ret ?_;(try simp only [zAb,zA4,zA3,zA8,reduceIte]);refine endW.of (.inl rfl) rfl ?_) | refine endW.of (.inl rfl) rfl ?_ | refine endW.of (.inr rfl) rfl ?_);generalize e:zBe .. = r;simp (disch:=omega) [hX,a1,a2,a3,a4,a5,a6,a7,b1,b2,b3,b4,b5,b6,b7,d1,d2,d3,d4,d5,d6,d7,-CVal.lenOf,q1,q2,q3,c6] at e;subst e;refine ⟨rfl,?_⟩))
 refine rx_ ?_
 rfl
theorem pw_m {L1 L2 L3:CVal} {m1 m2 m3:Nat} (HL1:LL L1 m1) (HL2:LL L2 m2) (HL3:LL L3 m3) (h1:m1≤120) (h2:m2≤8) (h3:m3≤8) (hN:Nums L1) (W1:∀ h:CHeap,Fit h→∀ K:KT,(∀ t h',wfW 4 t→PG h h'→K (mwV 4 t) h')→Wc tree.getF 8 [L2,.int .i64 0] h K) (W2:∀ h:CHeap,Fit h→∀ K:KT,(∀ t h',wfW 4 t→PG h h'→K (mwV 4 t) h')→Wc tree.getF 8 [L3,.int .i64 0] h K):Wc tree.getF 3 [L1,L2,L3] zCl fun v _=>v=.bool true:=by
 have hN0:zCl=⟨[],0,[]⟩:=rfl
 obtain ⟨⟨a1,a2,a3,a4,a5⟩,a6,a7⟩:=HL1
 obtain ⟨⟨b1,b2,b3,b4,b5⟩,b6,b7⟩:=HL2
 obtain ⟨⟨d1,d2,d3,d4,d5⟩,d6,d7⟩:=HL3
 simp only [CVal.isUndef,CVal.whole,CVal.cells,CVal.strip,CVal.bare,CVal.isStr] at a1 a2 a3 a4 a5 a7 b1 b2 b3 b4 b5 b7 d1 d2 d3 d4 d5 d7
 have q1:¬ (120:Int)<(m1:Int):=by omega
 have q2:¬ (8:Int)<(m2:Int):=by omega
 have q3:¬ (8:Int)<(m3:Int):=by omega
 refine mk_ 3 c3 ?_
 generalize e:zB9 .. = r
 simp (disch:=omega) [hN0,a1,a2,a3,a4,a5,a6,a7,b1,b2,b3,b4,b5,b6,b7,d1,d2,d3,d4,d5,d6,d7] at e
 subst e
 repeat (first
  | refine st_ rfl ?_
  | ((first | refine W.regG ?_ | refine WoR.go ?_);generalize e:goR .. = r;simp (disch:=omega) [a1,a2,a3,a4,a5,a6,a7,b1,b2,b3,b4,b5,b6,b7,d1,d2,d3,d4,d5,d6,d7,-CVal.lenOf,q1,q2,q3] at e;replace e:some _=_:=e;subst e;(try dsimp only [goW]))
  | (simp only [zAb,zA4,zA3,zA5,zA8,reduceIte]))
 refine bgPW fun n1 ty1 hn1 hut1=>⟨rfl,?_⟩
 obtain ⟨hu,hut,hX⟩:=fx4 (h:=⟨[],n1,ty1⟩) ⟨Under.nil,hut1⟩
 repeat (first
  | refine st_ rfl ?_
  | ((first | refine W.regG ?_ | refine WoR.go ?_);generalize e:goR .. = r;simp (disch:=omega) [hX,a1,a2,a3,a4,a5,a6,a7,b1,b2,b3,b4,b5,b6,b7,d1,d2,d3,d4,d5,d6,d7,-CVal.lenOf,q1,q2,q3,c6] at e;replace e:some _=_:=e;subst e;(try dsimp only [goW]))
  | ((simp only [zAb,zA4,zA3,zA5,zA8,reduceIte]))
  | (refine Wc.mkG 6 c6 (by kernel_rfl) rfl ?_;generalize e:zB9 .. = r;simp (disch:=omega) [c6] at e;subst e)
  | ((first | (refine W.ret ?_;(try simp only [zAb,zA4,zA3,zA8,reduceIte]);refine endW.of (.inl rfl) rfl ?_) | refine endW.of (.inl rfl) rfl ?_ | refine endW.of (.inr rfl) rfl ?_);generalize e:zBe .. = r;simp (disch:=omega) [hX,a1,a2,a3,a4,a5,a6,a7,b1,b2,b3,b4,b5,b6,b7,d1,d2,d3,d4,d5,d6,d7,-CVal.lenOf,q1,q2,q3,c6] at e;subst e;refine ⟨rfl,?_⟩))
 refine proto_1 (by omega) (hut1.le (by omega)) hN fun h2 a b ha hb g2 n2 Z2=>⟨rfl,?_⟩
 have V1:=fun t ht=>@Valid_F a b ha hb 4 (by omega) t ht [97,46,77]
 have V2:=fun t ht=>@rValid_F a b ha hb 4 (by omega) t ht [97,46,77]
 have N1:=fun t ht=>@Valid_F a b ha hb 4 (by omega) t ht [110,111,110,101]
 have N2:=fun t ht=>@rValid_F a b ha hb 4 (by omega) t ht [110,111,110,101]
 generalize hv:vB a b 4=vv at *
 unfold schV at *
 generalize mgV [97,46,73] a=mA at *
 generalize mgV [97,46,77] b=mB at *
 clear hu hut hX
 obtain ⟨hu,hut,hX⟩:=fx4 g2
 repeat (first
  | refine st_ rfl ?_
  | ((first | refine W.regG ?_ | refine WoR.go ?_);generalize e:goR .. = r;simp (disch:=omega) [hX,Z2,a1,a2,a3,a4,a5,a6,a7,b1,b2,b3,b4,b5,b6,b7,d1,d2,d3,d4,d5,d6,d7,-CVal.lenOf] at e;replace e:some _=_:=e;subst e;(try dsimp only [goW]))
  | ((simp only [zAb,zA4,zA3,zA5,zA8,reduceIte])))
 refine W1 ⟨_,_,_⟩ ft_ _ fun t1 h3 w1 P3=>?_
 obtain ⟨x1,x2,x3,xa,xb,xc,ex,hx1,hx2,hx3,_⟩:=zG5 4 t1 w1
 have M1:=May_F 4 (by omega) t1 w1
 have M2:=rMay_F 4 (by omega) t1 w1
 have S3:=same_C 4 t1 t1 w1 w1
 have V1':=@V1 t1 w1
 have V2':=@V2 t1 w1
 have N1':=@N1 t1 w1
 have N2':=@N2 t1 w1
 rw [sameB_rfl] at S3
 rw [ex] at M1 M2 S3 V1' V2' N1' N2' ⊢
 refine ⟨rfl,?_⟩
 have g3:=P3.fit
 have m3':=P3.nx
 have f3:=P3.fr
 dsimp only at m3' f3
 have Z3:∀ q,h2.next+2≤q→q<h2.next+10→zA1 h3.ents q=none:=fun q z1 z2=>(f3 q (by omega)).trans (by simp (disch:=omega) [zA1,hX])
 have r3s:=f3 (n1+19) (by omega)
 simp (disch:=omega) [zA1] at r3s
 clear hu hut hX
 obtain ⟨hu,hut,hX⟩:=fx4 g3
 repeat (first
  | refine st_ rfl ?_
  | ((first | refine W.regG ?_ | refine WoR.go ?_);generalize e:goR .. = r;simp (disch:=omega) [hX,Z3,r3s,a1,a2,a3,a4,a5,a6,a7,b1,b2,b3,b4,b5,b6,b7,d1,d2,d3,d4,d5,d6,d7,-CVal.lenOf] at e;replace e:some _=_:=e;subst e;(try dsimp only [goW]))
  | ((simp only [zAb,zA4,zA3,zA5,zA8,reduceIte])))
 refine W2 ⟨_,_,_⟩ ft_ _ fun t2 h4 w2 P4=>?_
 obtain ⟨y1,y2,y3,ya,yb,yc,ey,hy1,hy2,hy3,_⟩:=zG5 4 t2 w2
 have S1:=same_C 4 t1 t2 w1 w2
 have S2:=rsame_C 4 t1 t2 w1 w2
 rw [ex,ey] at S1 S2
 rw [ey]
 refine ⟨rfl,?_⟩
 have g4:=P4.fit
 have m4':=P4.nx
 have f4:=P4.fr
 dsimp only at m4' f4
 have Z4:∀ q,h2.next+2≤q→q<h2.next+10→zA1 h4.ents q=none:=fun q z1 z2=>(f4 q (by omega)).trans (Z3 q z1 z2)
 have r4s:=(f4 (n1+19) (by omega)).trans r3s
 clear hu hut hX
 obtain ⟨hu,hut,hX⟩:=fx4 g4
 obtain ⟨e1,e2,e3,e4,e5⟩:=hx1.u
 obtain ⟨f1,f2,f3,f4,f5⟩:=hx2.u
 obtain ⟨g1,g2,g3,g4,g5⟩:=hx3.u
 obtain ⟨i1,i2,i3,i4,i5⟩:=hy1.u
 obtain ⟨j1,j2,j3,j4,j5⟩:=hy2.u
 obtain ⟨k1,k2,k3,k4,k5⟩:=hy3.u
 simp only [CVal.isUndef,CVal.whole,CVal.cells,CVal.strip,CVal.bare] at e1 e2 e3 e4 e5 f1 f2 f3 f4 f5 g1 g2 g3 g4 g5 i1 i2 i3 i4 i5 j1 j2 j3 j4 j5 k1 k2 k3 k4 k5
 have hV:=j30_ e1 e2 e3 e4 e5 f1 f2 f3 f4 f5 g1 g2 g3 g4 g5 i1 i2 i3 i4 i5 j1 j2 j3 j4 j5 k1 k2 k3 k4 k5
 generalize mayB 4 t1=u1 at *
 generalize sameB 4 t1 t2=s1 at *
 generalize vv t1 [97,46,77]=v1 at *
 generalize vv t1 [110,111,110,101]=v2 at *
 have lb0:∀ x:CVal,x.beq x=true:=fun x=>zAj x
 have ls0:∀ l:List CVal,beqs l l=true:=fun l=>by have:=zAj (CVal.agg l);simpa using this
 have hZ:=j6_ hX hV Z4 r4s lb0 ls0
 repeat (first
  | refine vk_ ?_
  | (refine pe_ (M1) fun _ g=>⟨rfl,?_⟩;(try dsimp only at g))
  | (refine pe_ (M2) fun _ g=>⟨rfl,?_⟩;(try dsimp only at g)))
 refine V1' (h:=⟨_,_,_⟩) ft_ fun h5 P5=>⟨rfl,?_⟩
 have g5:=P5.fit
 have m5':=P5.nx
 have f5:=P5.fr
 dsimp only at m5' f5
 have r5x:=f5 (h2.next+6) (by omega)
 have r5y:=f5 (h2.next+7) (by omega)
 have r5s:=f5 (n1+19) (by omega)
 simp (disch:=omega) [zA1] at r5x r5y r5s
 rw [r4s] at r5s
 clear hu hut hX
 obtain ⟨hu,hut,hX⟩:=fx4 g5
 have hZ:=j8_ hX hV r4s lb0 ls0 r5x r5y r5s
 repeat (first
  | refine vk_ ?_)
 refine V2' (h:=⟨_,_,_⟩) ft_ fun h6 P6=>⟨rfl,?_⟩
 have g6:=P6.fit
 have m6':=P6.nx
 have f6:=P6.fr
 dsimp only at m6' f6
 have r6x:=(f6 (h2.next+6) (by omega)).trans r5x
 have r6y:=(f6 (h2.next+7) (by omega)).trans r5y
 have r6s:=(f6 (n1+19) (by omega)).trans r5s
 clear hu hut hX
 obtain ⟨hu,hut,hX⟩:=fx4 g6
 have hZ:=j11_ hX hV r4s lb0 ls0 r5x r5y r5s r6x r6y r6s
 repeat (first
  | refine vk_ ?_
  | (refine pe_ (S1) fun _ g=>⟨rfl,?_⟩;(try dsimp only at g))
  | (refine pe_ (S2) fun _ g=>⟨rfl,?_⟩;(try dsimp only at g))
  | (refine pe_ (S3) fun _ g=>⟨rfl,?_⟩;(try dsimp only at g)))
 refine N1' (h:=⟨_,_,_⟩) ft_ fun h7 P7=>⟨rfl,?_⟩
 have g7:=P7.fit
 have m7':=P7.nx
 have f7:=P7.fr
 dsimp only at m7' f7
 have r7x:=(f7 (h2.next+6) (by omega)).trans r6x
 have r7y:=(f7 (h2.next+7) (by omega)).trans r6y
 have r7s:=(f7 (n1+19) (by omega)).trans r6s
 clear hu hut hX
 obtain ⟨hu,hut,hX⟩:=fx4 g7
 have hZ:=j14_ hX hV r4s lb0 ls0 r5x r5y r5s r6x r6y r6s r7x r7y r7s
 repeat (first
  | refine vk_ ?_)
 refine N2' (h:=⟨_,_,_⟩) ft_ fun h8 P8=>⟨rfl,?_⟩
 have g8:=P8.fit
 have m8':=P8.nx
 have f8:=P8.fr
 dsimp only at m8' f8
 have r8x:=(f8 (h2.next+6) (by omega)).trans r7x
 have r8y:=(f8 (h2.next+7) (by omega)).trans r7y
 have r8s:=(f8 (n1+19) (by omega)).trans r7s
 clear hu hut hX
 obtain ⟨hu,hut,hX⟩:=fx4 g8
 have hZ:=j17_ hX hV r4s lb0 ls0 r5x r5y r5s r6x r6y r6s r7x r7y r7s r8x r8y r8s
 repeat (first
  | refine vk_ ?_)
 refine rx_ ?_
 rfl
theorem ll_nums {{c:CVal}} {{xs:List Int}} (hc:c=.nils∧xs=[]∨c=.imm .none 1 (xs.map (CVal.int .u8))):LL c xs.length:=by
 rcases hc with ⟨rfl,rfl⟩ | rfl
 · exact ⟨⟨rfl,rfl,rfl,rfl,rfl⟩,rfl,rfl⟩
 · exact ⟨⟨rfl,rfl,rfl,rfl,rfl⟩,by simp [CVal.lenOf],rfl⟩
theorem law (c1:CVal) (xs1:List Int) (hc1:c1=.nils∧xs1=[]∨c1=.imm .none 1 (xs1.map (CVal.int .u8))) (hw1:∀ x ∈ xs1,0≤x∧x<256) (c2:CVal) (xs2:List Int) (hc2:c2=.nils∧xs2=[]∨c2=.imm .none 1 (xs2.map (CVal.int .u8))) (hw2:∀ x ∈ xs2,0≤x∧x<256) (c3:CVal) (xs3:List Int) (hc3:c3=.nils∧xs3=[]∨c3=.imm .none 1 (xs3.map (CVal.int .u8))) (hw3:∀ x ∈ xs3,0≤x∧x<256):Wc tree.getF 3 [c1,c2,c3] zCl fun v _=>v=.bool true:=by
 have H1:=ll_nums hc1
 have H2:=ll_nums hc2
 have H3:=ll_nums hc3
 rcases Nat.lt_or_ge 120 xs1.length with h1 | h1
 · exact pw_1 H1 H2 H3 h1
 rcases Nat.lt_or_ge 8 xs2.length with h2 | h2
 · exact pw_2 H1 H2 H3 h1 h2
 rcases Nat.lt_or_ge 8 xs3.length with h3 | h3
 · exact pw_3 H1 H2 H3 h1 h2 h3
 refine pw_m H1 H2 H3 h1 h2 h3 ?_ (wild_C 4 (by omega) xs2 c2 0 hc2 (by omega) hw2 (by omega) (by omega)) (wild_C 4 (by omega) xs3 c3 0 hc3 (by omega) hw3 (by omega) (by omega))
 rcases hc1 with ⟨rfl,_⟩ | rfl
 · exact .inl rfl
 · exact .inr ⟨xs1,rfl,by omega,hw1⟩
end Go.Proofs.YtcokdlfmnhjngaaGreatDoor.IrW
