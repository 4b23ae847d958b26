/- What the functions of the law 'PathWild' do: part 7 of 8. -/
import Derived.Test.YtcokdlfmnhjngaaGreatDoorLx6
namespace Go.Proofs.YtcokdlfmnhjngaaGreatDoor.IrW
open Go Go.CI
set_option maxRecDepth 100000
set_option maxHeartbeats 4000000
set_option linter.unusedVariables false
set_option linter.unusedSimpArgs false
attribute [local irreducible] W Wo Wc WoR
theorem rsame_N {A A':List (B8)} {B B':List Bool} {C C':List CVal} (l1:A.length≤100) (l2:B.length≤100) (l3:C.length≤100) {ok:Nat→Bool} (hS:∀ k x y,C[k]? = some x→C'[k]? = some y→∃ x1 x2 x3 y1 y2 y3,x=.agg [x1,x2,x3]∧y=.agg [y1,y2,y3]∧PV1 x1∧PV1 x2∧PV1 x3∧PV1 y1∧PV1 y2∧PV1 y3∧Pe 14 [.agg [x1,x2,x3],.agg [y1,y2,y3]] (.bool (ok k))):Pe 14 [nodV A B C,nodV A' B' C'] (.bool (eqS A A' && (eqO B B' && (decide (C.length=C'.length) && (List.range C.length).all ok)))):=by
 intro h hf K hk
 obtain ⟨hu,hut,hX⟩:=fx4 hf
 obtain ⟨R,hR⟩:∃ R,(eqS A A' && (eqO B B' && (decide (C.length=C'.length) && (List.range C.length).all ok)))=R:=⟨_,rfl⟩
 rw [hR] at hk
 unfold eqS eqO at hR
 unfold nodV
 have HXA:=zBh 1 CVal.str A
 obtain ⟨XA,hXA⟩:∃ X,lst 1 (A.map CVal.str)=X:=⟨_,rfl⟩
 rw [hXA] at HXA
 have HXB:=zBh 1 CVal.bool B
 obtain ⟨XB,hXB⟩:∃ X,lst 1 (B.map CVal.bool)=X:=⟨_,rfl⟩
 rw [hXB] at HXB
 have HXC:=zEh 3 C
 obtain ⟨XC,hXC⟩:∃ X,lst 3 C=X:=⟨_,rfl⟩
 rw [hXC] at HXC
 have HYA:=zBh 1 CVal.str A'
 obtain ⟨YA,hYA⟩:∃ X,lst 1 (A'.map CVal.str)=X:=⟨_,rfl⟩
 rw [hYA] at HYA
 have HYB:=zBh 1 CVal.bool B'
 obtain ⟨YB,hYB⟩:∃ X,lst 1 (B'.map CVal.bool)=X:=⟨_,rfl⟩
 rw [hYB] at HYB
 have HYC:=zEh 3 C'
 obtain ⟨YC,hYC⟩:∃ X,lst 3 C'=X:=⟨_,rfl⟩
 rw [hYC] at HYC
 obtain ⟨⟨a1,a2,a3,a4,a5⟩,a6,a7⟩:=HXA
 obtain ⟨⟨b1,b2,b3,b4,b5⟩,b6,b7⟩:=HXB
 obtain ⟨⟨d1,d2,d3,d4,d5⟩,d6,d7⟩:=HXC
 obtain ⟨⟨e1,e2,e3,e4,e5⟩,e6,e7⟩:=HYA
 obtain ⟨⟨f1,f2,f3,f4,f5⟩,f6,f7⟩:=HYB
 obtain ⟨⟨q1,q2,q3,q4,q5⟩,q6,q7⟩:=HYC
 simp only [CVal.isUndef,CVal.whole,CVal.cells,CVal.strip,CVal.bare,CVal.isStr] at a1 a2 a3 a4 a5 a7 b1 b2 b3 b4 b5 b7 d1 d2 d3 d4 d5 d7 e1 e2 e3 e4 e5 e7 f1 f2 f3 f4 f5 f7 q1 q2 q3 q4 q5 q7
 rw [hXA,hXB,hXC,hYA,hYB,hYC]
 by_cases eA:A.length=A'.length
 case neg =>
  rw [decide_eq_false eA,Bool.false_and,Bool.false_and] at hR
  subst hR
  have h1:((A.length:Int) != (A'.length:Int))=true:=by simp;omega
  have h2:=h1
  have h3:=h1
  refine mk_ 14 c14 (s_ ?_)
  repeat (first
   | refine st_ rfl ?_
   | ((first | refine W.regG ?_ | refine WoR.go ?_);generalize e:goR .. = r;simp (disch:=omega) [hX,a1,a2,a3,a4,a5,a6,a7,b1,b2,b3,b4,b5,b6,b7,d1,d2,d3,d4,d5,d6,d7,e1,e2,e3,e4,e5,e6,e7,f1,f2,f3,f4,f5,f6,f7,q1,q2,q3,q4,q5,q6,q7,h1,h2,h3,-CVal.lenOf] at e;replace e:some _=_:=e;subst e;(try dsimp only [goW]))
   | (simp only [zAb,zA4,zA3,zA5,zA8,reduceIte]))
  refine rx_ ?_
  refine hk _ ?_;exact om_
 by_cases eB:B.length=B'.length
 case neg =>
  rw [decide_eq_false eB,Bool.false_and,Bool.false_and,Bool.and_false] at hR
  subst hR
  have h1:((A.length:Int) != (A'.length:Int))=false:=by simp;omega
  have h2:((B.length:Int) != (B'.length:Int))=true:=by simp;omega
  have h3:=h1
  refine mk_ 14 c14 (s_ ?_)
  repeat (first
   | refine st_ rfl ?_
   | ((first | refine W.regG ?_ | refine WoR.go ?_);generalize e:goR .. = r;simp (disch:=omega) [hX,a1,a2,a3,a4,a5,a6,a7,b1,b2,b3,b4,b5,b6,b7,d1,d2,d3,d4,d5,d6,d7,e1,e2,e3,e4,e5,e6,e7,f1,f2,f3,f4,f5,f6,f7,q1,q2,q3,q4,q5,q6,q7,h1,h2,h3,-CVal.lenOf] at e;replace e:some _=_:=e;subst e;(try dsimp only [goW]))
   | (simp only [zAb,zA4,zA3,zA5,zA8,reduceIte]))
  refine rx_ ?_
  refine hk _ ?_;exact om_
 by_cases eC:C.length=C'.length
 case neg =>
  rw [decide_eq_false eC,Bool.false_and,Bool.and_false,Bool.and_false] at hR
  subst hR
  have h1:((A.length:Int) != (A'.length:Int))=false:=by simp;omega
  have h2:((B.length:Int) != (B'.length:Int))=false:=by simp;omega
  have h3:((C.length:Int) != (C'.length:Int))=true:=by simp;omega
  refine mk_ 14 c14 (s_ ?_)
  repeat (first
   | refine st_ rfl ?_
   | ((first | refine W.regG ?_ | refine WoR.go ?_);generalize e:goR .. = r;simp (disch:=omega) [hX,a1,a2,a3,a4,a5,a6,a7,b1,b2,b3,b4,b5,b6,b7,d1,d2,d3,d4,d5,d6,d7,e1,e2,e3,e4,e5,e6,e7,f1,f2,f3,f4,f5,f6,f7,q1,q2,q3,q4,q5,q6,q7,h1,h2,h3,-CVal.lenOf] at e;replace e:some _=_:=e;subst e;(try dsimp only [goW]))
   | (simp only [zAb,zA4,zA3,zA5,zA8,reduceIte]))
  refine rx_ ?_
  refine hk _ ?_;exact om_
 have h1:((A.length:Int) != (A'.length:Int))=false:=by simp;omega
 have h2:((B.length:Int) != (B'.length:Int))=false:=by simp;omega
 have h3:((C.length:Int) != (C'.length:Int))=false:=by simp;omega
 rw [decide_eq_true eA,decide_eq_true eB,decide_eq_true eC,Bool.true_and,Bool.true_and,Bool.true_and] at hR
 have HG:∀ c2 c3:Nat × CObj,True:=fun _ _=>trivial
 refine mk_ 14 c14 (s_ ?_)
 repeat ((fail_if_success (show W tree.getF rs0L _ _));first
  | refine st_ rfl ?_
  | ((first | refine W.regG ?_ | refine WoR.go ?_);generalize e:goR .. = r;simp (disch:=omega) [hX,a1,a2,a3,a4,a5,a6,a7,b1,b2,b3,b4,b5,b6,b7,d1,d2,d3,d4,d5,d6,d7,e1,e2,e3,e4,e5,e6,e7,f1,f2,f3,f4,f5,f6,f7,q1,q2,q3,q4,q5,q6,q7,h1,h2,h3,-CVal.lenOf] at e;replace e:some _=_:=e;subst e;(try dsimp only [goW]))
  | (simp only [zAb,zA4,zA3,zA5,zA8,reduceIte]))
 refine rs0_go (A:=A) (B:=A') rfl eA.symm l1 (hh:=⟨_,h.next+2,_⟩) ft_ (by rw [hXA];dsimp only;simp (disch:=omega) [zA1];exact ⟨rfl,rfl⟩) (by rw [hYA];dsimp only;simp (disch:=omega) [zA1];exact ⟨rfl,rfl⟩) ?_ ?_ A.length 0 _ _ _ (by omega) (fun j a=>by omega) (by (try dsimp only);omega)
 case _ =>
  intro y0 v5 v6 v7 n1 g1
  dsimp only at g1
  rw [zJh y0,Bool.true_and] at hR
  repeat ((fail_if_success (show W tree.getF rs1L _ _));first
   | refine st_ rfl ?_
   | ((first | refine W.regG ?_ | refine WoR.go ?_);generalize e:goR .. = r;simp (disch:=omega) [hX,a1,a2,a3,a4,a5,a6,a7,b1,b2,b3,b4,b5,b6,b7,d1,d2,d3,d4,d5,d6,d7,e1,e2,e3,e4,e5,e6,e7,f1,f2,f3,f4,f5,f6,f7,q1,q2,q3,q4,q5,q6,q7,-CVal.lenOf] at e;replace e:some _=_:=e;subst e;(try dsimp only [goW]))
   | (simp only [zAb,zA4,zA3,zA5,zA8,reduceIte]))
  refine rs1_go (A:=B) (B:=B') rfl eB.symm l2 (hh:=⟨_,n1,_⟩) ft_ (by rw [hXB];dsimp only;simp (disch:=omega) [zA1];exact ⟨rfl,rfl⟩) (by rw [hYB];dsimp only;simp (disch:=omega) [zA1];exact ⟨rfl,rfl⟩) ?_ ?_ B.length 0 _ _ _ (by omega) (fun j a=>by omega) (by (try dsimp only);omega)
  case _ =>
   intro y1 v8 v9 v10 n2 g2
   dsimp only at g2
   rw [zJh y1,Bool.true_and] at hR
   repeat ((fail_if_success (show W tree.getF rs2L _ _));first
    | refine st_ rfl ?_
    | ((first | refine W.regG ?_ | refine WoR.go ?_);generalize e:goR .. = r;simp (disch:=omega) [hX,a1,a2,a3,a4,a5,a6,a7,b1,b2,b3,b4,b5,b6,b7,d1,d2,d3,d4,d5,d6,d7,e1,e2,e3,e4,e5,e6,e7,f1,f2,f3,f4,f5,f6,f7,q1,q2,q3,q4,q5,q6,q7,-CVal.lenOf] at e;replace e:some _=_:=e;subst e;(try dsimp only [goW]))
    | (simp only [zAb,zA4,zA3,zA5,zA8,reduceIte]))
   refine rs2_go (A:=C) (B:=C') rfl eC.symm l3 (hh:=⟨_,n2,_⟩) ft_ (by rw [hXC];dsimp only;simp (disch:=omega) [zA1];exact ⟨rfl,rfl⟩) (by rw [hYC];dsimp only;simp (disch:=omega) [zA1];exact ⟨rfl,rfl⟩) hS ?_ ?_ C.length 0 _ _ _ (by omega) (fun j a=>by omega) (by (try dsimp only);omega)
   case _ =>
    intro y2 v11 v12 v13 n3 g3
    dsimp only at g3
    obtain rfl:R=true:=by rw [← hR];exact zJh y2
    repeat (first
     | refine st_ rfl ?_
     | ((first | refine W.regG ?_ | refine WoR.go ?_);generalize e:goR .. = r;simp (disch:=omega) [hX,a1,a2,a3,a4,a5,a6,a7,b1,b2,b3,b4,b5,b6,b7,d1,d2,d3,d4,d5,d6,d7,e1,e2,e3,e4,e5,e6,e7,f1,f2,f3,f4,f5,f6,f7,q1,q2,q3,q4,q5,q6,q7,-CVal.lenOf] at e;replace e:some _=_:=e;subst e;(try dsimp only [goW]))
     | (simp only [zAb,zA4,zA3,zA5,zA8,reduceIte]))
    refine rx_ ?_
    refine hk _ ?_;exact om_
   case _ =>
    intro k hkl hn v11 v12 v13 n3 g3
    dsimp only at g3
    obtain rfl:R=false:=by rw [← hR];exact zJm hkl hn
    repeat (first
     | refine st_ rfl ?_
     | ((first | refine W.regG ?_ | refine WoR.go ?_);generalize e:goR .. = r;simp (disch:=omega) [hX,a1,a2,a3,a4,a5,a6,a7,b1,b2,b3,b4,b5,b6,b7,d1,d2,d3,d4,d5,d6,d7,e1,e2,e3,e4,e5,e6,e7,f1,f2,f3,f4,f5,f6,f7,q1,q2,q3,q4,q5,q6,q7,-CVal.lenOf] at e;replace e:some _=_:=e;subst e;(try dsimp only [goW]))
     | (simp only [zAb,zA4,zA3,zA5,zA8,reduceIte]))
    refine rx_ ?_
    refine hk _ ?_;exact om_
  case _ =>
   intro k hkl hn v8 v9 v10 n2 g2
   dsimp only at g2
   obtain rfl:R=false:=by rw [← hR,zJm hkl hn,Bool.false_and]
   repeat (first
    | refine st_ rfl ?_
    | ((first | refine W.regG ?_ | refine WoR.go ?_);generalize e:goR .. = r;simp (disch:=omega) [hX,a1,a2,a3,a4,a5,a6,a7,b1,b2,b3,b4,b5,b6,b7,d1,d2,d3,d4,d5,d6,d7,e1,e2,e3,e4,e5,e6,e7,f1,f2,f3,f4,f5,f6,f7,q1,q2,q3,q4,q5,q6,q7,-CVal.lenOf] at e;replace e:some _=_:=e;subst e;(try dsimp only [goW]))
    | (simp only [zAb,zA4,zA3,zA5,zA8,reduceIte]))
   refine rx_ ?_
   refine hk _ ?_;exact om_
 case _ =>
  intro k hkl hn v5 v6 v7 n1 g1
  dsimp only at g1
  obtain rfl:R=false:=by rw [← hR,zJm hkl hn,Bool.false_and]
  repeat (first
   | refine st_ rfl ?_
   | ((first | refine W.regG ?_ | refine WoR.go ?_);generalize e:goR .. = r;simp (disch:=omega) [hX,a1,a2,a3,a4,a5,a6,a7,b1,b2,b3,b4,b5,b6,b7,d1,d2,d3,d4,d5,d6,d7,e1,e2,e3,e4,e5,e6,e7,f1,f2,f3,f4,f5,f6,f7,q1,q2,q3,q4,q5,q6,q7,-CVal.lenOf] at e;replace e:some _=_:=e;subst e;(try dsimp only [goW]))
   | (simp only [zAb,zA4,zA3,zA5,zA8,reduceIte]))
  refine rx_ ?_
  refine hk _ ?_;exact om_
theorem rsame_C:∀ (n:Nat) (t u:MW n),wfW n t→wfW n u→Pe 14 [mwV n t,mwV n u] (.bool (sameB n t u))
 | 0,_,_,_,_=>rsame_N (A:=[]) (A':=[]) (B:=[]) (B':=[]) (C:=[]) (C':=[]) (by simp) (by simp) (by simp) (ok:=fun _=>true) (fun k x y e=>by simp at e)
 | n+1,t,u,hw,hv=>by
  obtain ⟨w1,w2,w3,w4,w5⟩:=hw
  obtain ⟨v1,v2,v3,v4,v5⟩:=hv
  have H3:=@rsame_N t.1 u.1 t.2.1 u.2.1 (t.2.2.map (mwV n)) (u.2.2.map (mwV n)) (by omega) (by omega) (by rw [List.length_map];omega) (fun k=>sameB n (t.2.2.getD k (emW n)) (u.2.2.getD k (emW n))) (fun k x y e1 e2=>by
   obtain ⟨a,q1,rfl⟩:=getM e1
   obtain ⟨b,q2,rfl⟩:=getM e2
   have ha:=w5 a (List.mem_of_getElem? q1)
   have hb:=v5 b (List.mem_of_getElem? q2)
   obtain ⟨A,B,C,ea⟩:=zKn n a ha
   obtain ⟨A',B',C',eb⟩:=zKn n b hb
   refine ⟨_,_,_,_,_,_,ea,eb,zCj _ _,zCj _ _,zCj _ _,zCj _ _,zCj _ _,zCj _ _,?_⟩
   rw [← ea,← eb,List.getD_eq_getElem?_getD,List.getD_eq_getElem?_getD,q1,q2]
   exact rsame_C n a b ha hb)
  rw [List.length_map,List.length_map] at H3
  exact H3
theorem rm_I {a b:BD}:Pe 28 [schV a b,.str [97,46,73]] (.tup [mgV [97,46,73] a,.bool true]):=by
 intro h hf K hk
 obtain ⟨hu,hut,hX⟩:=fx4 hf
 unfold schV mgV at *
 have PsA:=lV8P (zAx a.rs)
 have PsB:=lV8P (zAx b.rs)
 have PoA:PV1 (oV1 (!a.os.isEmpty)):=oV1P _
 have PoB:PV1 (oV1 (!b.os.isEmpty)):=oV1P _
 generalize oV1 (!a.os.isEmpty)=oA at *
 generalize oV1 (!b.os.isEmpty)=oB at *
 generalize lV8 (zAx a.rs)=sA at *
 generalize lV8 (zAx b.rs)=sB at *
 obtain ⟨a1,a2,a3,a4,a5⟩:=PoA
 obtain ⟨b1,b2,b3,b4,b5⟩:=PoB
 obtain ⟨d1,d2,d3,d4,d5⟩:=PsA
 obtain ⟨e1,e2,e3,e4,e5⟩:=PsB
 simp only [CVal.isUndef,CVal.whole,CVal.cells,CVal.strip,CVal.bare] at a1 a2 a3 a4 a5 b1 b2 b3 b4 b5 d1 d2 d3 d4 d5 e1 e2 e3 e4 e5
 have hP:=j20_ a1 a2 a3 a4 a5 b1 b2 b3 b4 b5 d1 d2 d3 d4 d5 e1 e2 e3 e4 e5
 refine mk_ 28 c28 (s_ ?_)
 have hZ:=j2_ hX hP
 repeat (first
  | refine vk_ ?_
  | refine W.loop ?_
  | (refine dk_ ?_;refine W.loop ?_))
 refine rk_ ?_
 refine hk _ ?_;exact om_
theorem rm_M {a b:BD}:Pe 28 [schV a b,.str [97,46,77]] (.tup [mgV [97,46,77] b,.bool true]):=by
 intro h hf K hk
 obtain ⟨hu,hut,hX⟩:=fx4 hf
 unfold schV mgV at *
 have PsA:=lV8P (zAx a.rs)
 have PsB:=lV8P (zAx b.rs)
 have PoA:PV1 (oV1 (!a.os.isEmpty)):=oV1P _
 have PoB:PV1 (oV1 (!b.os.isEmpty)):=oV1P _
 generalize oV1 (!a.os.isEmpty)=oA at *
 generalize oV1 (!b.os.isEmpty)=oB at *
 generalize lV8 (zAx a.rs)=sA at *
 generalize lV8 (zAx b.rs)=sB at *
 obtain ⟨a1,a2,a3,a4,a5⟩:=PoA
 obtain ⟨b1,b2,b3,b4,b5⟩:=PoB
 obtain ⟨d1,d2,d3,d4,d5⟩:=PsA
 obtain ⟨e1,e2,e3,e4,e5⟩:=PsB
 simp only [CVal.isUndef,CVal.whole,CVal.cells,CVal.strip,CVal.bare] at a1 a2 a3 a4 a5 b1 b2 b3 b4 b5 d1 d2 d3 d4 d5 e1 e2 e3 e4 e5
 have hP:=j20_ a1 a2 a3 a4 a5 b1 b2 b3 b4 b5 d1 d2 d3 d4 d5 e1 e2 e3 e4 e5
 refine mk_ 28 c28 (s_ ?_)
 have hZ:=j2_ hX hP
 repeat (first
  | refine vk_ ?_
  | refine W.loop ?_
  | (refine dk_ ?_;refine W.loop ?_))
 refine rk_ ?_
 refine hk _ ?_;exact om_
theorem rm_no {a b:BD} {nm:B8} (q1:nm≠[97,46,73]) (q2:nm≠[97,46,77]):Pe 28 [schV a b,.str nm] (.tup [.agg [.str [],.nils,.nils],.bool false]):=by
 intro h hf K hk
 obtain ⟨hu,hut,hX⟩:=fx4 hf
 unfold schV mgV at *
 have s1:([97,46,73] == nm)=false:=by simp [Ne.symm q1]
 have s2:([97,46,77] == nm)=false:=by simp [Ne.symm q2]
 have s3:([97,46,73]=nm)=False:=by simp [Ne.symm q1]
 have s4:([97,46,77]=nm)=False:=by simp [Ne.symm q2]
 have PsA:=lV8P (zAx a.rs)
 have PsB:=lV8P (zAx b.rs)
 have PoA:PV1 (oV1 (!a.os.isEmpty)):=oV1P _
 have PoB:PV1 (oV1 (!b.os.isEmpty)):=oV1P _
 generalize oV1 (!a.os.isEmpty)=oA at *
 generalize oV1 (!b.os.isEmpty)=oB at *
 generalize lV8 (zAx a.rs)=sA at *
 generalize lV8 (zAx b.rs)=sB at *
 obtain ⟨a1,a2,a3,a4,a5⟩:=PoA
 obtain ⟨b1,b2,b3,b4,b5⟩:=PoB
 obtain ⟨d1,d2,d3,d4,d5⟩:=PsA
 obtain ⟨e1,e2,e3,e4,e5⟩:=PsB
 simp only [CVal.isUndef,CVal.whole,CVal.cells,CVal.strip,CVal.bare] at a1 a2 a3 a4 a5 b1 b2 b3 b4 b5 d1 d2 d3 d4 d5 e1 e2 e3 e4 e5
 have hP:=j20_ a1 a2 a3 a4 a5 b1 b2 b3 b4 b5 d1 d2 d3 d4 d5 e1 e2 e3 e4 e5
 refine mk_ 28 c28 (s_ ?_)
 have hZ:=j6_ hX hP s1 s2 s3 s4
 repeat (first
  | refine vk_ ?_
  | refine W.loop ?_
  | (refine dk_ ?_;refine W.loop ?_))
 refine rk_ ?_
 refine hk _ ?_;exact om_
abbrev rnL:CCode:=(.loop true (.seq (.seq (.R [.v 1,.k 1 2,.l 0,.j 0,.h .lss 3 0] [(3,4)]) (.cond (.var 3) .skip (.exit 0))) (.seq (.block 1 (.seq (.R [.k 1 2,.l 0,.v 1,.i 8 1 0,.f 1 0,.l 0,.v 4,.h .eql 1 0] [(5,7)]) (.cond (.var 5) (.seq (.R [.k 1 2,.l 0,.v 1,.i 8 1 0,.z 8 0,.t 8 6 0,.m (.b true)] [(7,6)]) .ret) .skip))) (.R [.v 1,.x .add 0 (.k 1),.m (.loc 0)] [(1,2)]))))
theorem rn_go {Ls:List RW} (hl:Ls.length≤100) {w n:B8} {O:CVal} {bx bc:Nat} (hbc:bx≠bc) {hh:CHeap} (hf:Fit hh) (gx:zA1 hh.ents bx=some (.cells [.str n,.imm .none 8 (Ls.map RW.pf),O])) (gc:zA1 hh.ents bc=some (.cells [.int .i64 0,.str [],.int .i64 0,.int .i64 0,.str [],.int .i64 0,.bool false,.int .i64 0])) {v0:CVal} {Q:QT}
    (hyes:∀ (v1 v3 v5:CVal) n' (k:Nat) (x:RW),Ls[k]? = some x→x.nm=w→(∀ (j:Nat) (y:RW),j<k→Ls[j]? = some y→y.nm≠w)→hh.next≤n'→Q .ret ⟨[v0,v1,.ptr bx 63963139 0,v3,.str w,v5,.ptr bc 68157448 0,.bool true],⟨zA2 hh.ents bc (.cells x.pf.cells),n',hh.tys⟩,[]⟩)
    (hno:(∀ (j:Nat) (y:RW),j<Ls.length→Ls[j]? = some y→y.nm≠w)→∀ (v1 v3 v5:CVal) n',hh.next≤n'→Q (.exit 0) ⟨[v0,v1,.ptr bx 63963139 0,v3,.str w,v5,.ptr bc 68157448 0,.bool false],⟨hh.ents,n',hh.tys⟩,[]⟩) :
    ∀ (m k nx:Nat) (v3 v5:CVal),k+m=Ls.length→(∀ (j:Nat) (y:RW),j<k→Ls[j]? = some y→y.nm≠w)→hh.next≤nx→W tree.getF rnL ⟨[v0,.int .i64 (k:Nat),.ptr bx 63963139 0,v3,.str w,v5,.ptr bc 68157448 0,.bool false],⟨hh.ents,nx,hh.tys⟩,[]⟩ Q:=by
 have hlen:(Ls.map RW.pf).length=Ls.length:=List.length_map ..
 intro m
 induction m with
 | zero =>
  intro k nx v3 v5 h1 h2 h3
  obtain rfl:k=Ls.length:=by omega
  refine W.loop ?_
  have hgt:¬ (Ls.length:Int)<(Ls.length:Int):=by omega
  have hZ:=j3_ gx hlen hgt
  try refine wk_ ?_
  refine hno h2 _ _ _ _ ?_;exact om_
 | succ m ih =>
  intro k nx v3 v5 h1 h2 h3
  obtain ⟨hu,hut,hX⟩:=fx4 (show Fit ⟨hh.ents,nx,hh.tys⟩ from ⟨hf.1.le h3,hf.2.le h3⟩)
  have hY:=fx5 (show Fit ⟨hh.ents,nx,hh.tys⟩ from ⟨hf.1.le h3,hf.2.le h3⟩) gc
  dsimp only at hX hu hut hY
  have hlt:(k:Int)<(Ls.length:Int):=by omega
  have lq:=zA7 hu gx
  have hkl:k<Ls.length:=by omega
  obtain ⟨x,hx⟩:∃ x,Ls[k]? = some x:=⟨_,List.getElem?_eq_getElem hkl⟩
  have hn:nth (Ls.map RW.pf) k=x.pf:=zAm RW.pf Ls k x hx
  have hn2:(Ls.map RW.pf)[k]? = some x.pf:=by rw [List.getElem?_map,hx];rfl
  have gs:∀ z,zA1 (zA2 hh.ents bc z) bx=zA1 hh.ents bx:=fun z=>zA0 hbc
  have lb0:∀ x:CVal,x.beq x=true:=fun x=>zAj x
  have ls0:∀ l:List CVal,beqs l l=true:=fun l=>by have:=zAj (CVal.agg l);simpa using this
  have yes:=fun v1 v3 v5 n' (h:x.nm=w) (g:hh.next≤n')=>hyes v1 v3 v5 n' k x hx h h2 g
  generalize hPF:Ls.map RW.pf=PF at *
  unfold RW.pf at hn hn2 yes
  simp only [CVal.cells] at yes
  refine W.loop ?_
  by_cases he:x.nm=w
  · subst he
    have e1:(x.nm == x.nm)=true:=by simp
    have hZ:=j12_ hX gx gc hY hlt hn hn2 hlen e1 gs lb0 ls0
    repeat (first
     | refine vk_ ?_)
    refine W.ret ?_
    simp only [zAb,zA4,zA3,zA8,reduceIte]
    refine yes _ _ _ _ rfl ?_;exact om_
  · have e1:(x.nm == w)=false:=by simp [he]
    have hZ:=j11_ hX gx gc hlt hn hn2 hlen e1 lb0 ls0 he
    repeat (first
     | refine vk_ ?_)
    have ih1:=fun nx v3 v5 (h:_≤nx)=>ih (k+1) nx v3 v5 (by omega) (fun j y a b=>by
     rcases Nat.lt_succ_iff_lt_or_eq.1 a with c | rfl
     · exact h2 j y c b
     · rw [hx] at b;cases b;exact he) h
    push_cast at ih1
    refine dx_ ?_
    refine ih1 _ _ _ ?_;exact om_
theorem rn_F {Ls:List RW} (hl:Ls.length≤100) {w:B8} {n:B8} {O:CVal} (HO:PV1 O) {R:CVal} (hyes:∀ (k:Nat) (x:RW),Ls[k]? = some x→x.nm=w→R=.tup [x.pf,.bool true]) (hno:(∀ (j:Nat) (y:RW),Ls[j]? = some y→y.nm≠w)→R=.tup [zPF,.bool false]):Pe 50 [.agg [.str n,lV8 Ls,O],.str w] R:=by
 intro h hf K hk
 obtain ⟨hu,hut,hX⟩:=fx4 hf
 obtain ⟨f1,f2,f3,f4,f5⟩:=HO
 simp only [CVal.isUndef,CVal.whole,CVal.cells,CVal.strip,CVal.bare] at f1 f2 f3 f4 f5
 cases hLs:Ls with
 | nil =>
  subst hLs
  obtain rfl:=hno (by intro j y e;cases e)
  unfold lV8
  unfold zPF at hk
  have hZ:=j6_ hX f1 f2 f3 f4 f5
  refine mk_ 50 c50 (s_ ?_)
  repeat (first
   | refine vk_ ?_
   | refine W.loop ?_
   | (refine dk_ ?_;refine W.loop ?_))
  refine rk_ ?_
  refine hk _ ?_;exact om_
 | cons r0 l0 =>
  have e8:lV8 Ls=.imm .none 8 (Ls.map RW.pf):=by rw [hLs];rfl
  have hlen:(Ls.map RW.pf).length=Ls.length:=List.length_map ..
  rw [← hLs,e8]
  have hZ:=j7_ hX f1 f2 f3 f4 f5 hlen
  refine mk_ 50 c50 (s_ ?_)
  skip
  repeat ((fail_if_success (show W tree.getF rnL _ _));first
   | refine st_ rfl ?_
   | ((first | refine W.regG ?_ | refine WoR.go ?_);generalize e:goR .. = r;simp (disch:=omega) [hZ] at e;replace e:some _=_:=e;subst e;(try dsimp only [goW]))
   | refine W.loop ?_
   | (refine dk_ ?_;refine W.loop ?_)
   | (simp only [zAb,zA4,zA3,zA5,zA8,reduceIte]))
  refine rn_go hl (hh:=⟨_,h.next+2,_⟩) (w:=w) (n:=n) (O:=O) ?_ ?_ ?_ ?_ ?_ ?_ Ls.length 0 _ _ _ (by omega) (fun j y a _=>by omega) (by (try dsimp only);omega)
  · omega
  · exact ft_
  · dsimp only;simp (disch:=omega) [zA1]
  · dsimp only;simp (disch:=omega) [zA1]
  · intro v1 v3 v5 n' k x hx hw _ hn'
    obtain rfl:=hyes k x hx hw
    dsimp only at hn'
    unfold RW.pf at hk ⊢
    simp only [CVal.cells]
    have hZ:=j7_ hX f1 f2 f3 f4 f5 hlen
    repeat (first
     | refine vk_ ?_)
    refine rk_ ?_
    refine hk _ ?_;exact om_
  · intro hh v1 v3 v5 n' hn'
    obtain rfl:=hno (fun j y e=>hh j y (List.getElem?_eq_some_iff.1 e).1 e)
    dsimp only at hn'
    unfold zPF at hk
    have hZ:=j7_ hX f1 f2 f3 f4 f5 hlen
    repeat (first
     | refine vk_ ?_)
    refine rk_ ?_
    refine hk _ ?_;exact om_
abbrev vlL:CCode:=(.loop true (.seq (.R [.g (.bin .lss (.var 7) (.var 8))] [(9,0)]) (.seq (.cond (.var 9) .skip (.exit 0)) (.seq (.block 1 (.seq (.R [.v 7,.g (.idxAddr 1 (.var 10) (.var 7)),.l 0,.m (.loc 2),.m (.loc 1)] [(12,4),(16,3)]) (.seq (.R [.y 3 11,.v 12,.c 49 [(.loc 1),(.loc 0)],.m (.loc 0),.e 0 0,.e 1 1,.o 68157448,.u 8 0 2,.m (.loc 2)] [(13,8),(15,6)]) (.seq (.seq (.R [.v 13,.g (.not (.loc 0))] [(14,1)]) (.cond (.var 14) (.seq (.R [.m (.b false)] [(19,0)]) .ret) .skip)) (.seq (.R [.k 2 15,.l 0,.x .eql 0 (.k 0),.m (.loc 0),.Q (.k 2 15) 0 false,.Q (.l 0) 1 false,.Q (.x .eql 0 (.k 1)) 2 false,.r 3 0,.m (.loc 0)] [(17,8)]) (.seq (.R [.k 1 6,.l 0,.v 16,.i 1 1 0,.l 0,.g (.not (.loc 0)),.m (.loc 0),.Q (.v 17) 0 true,.q (.not (.loc 0)) 1 true,.Q (.m (.loc 0)) 2 true,.Q (.k 3 15) 0 false,.Q (.l 0) 1 false,.Q (.x .neq 0 (.k 16)) 2 false,.q (.pick (.loc 3) (.b true) (.loc 0)) 6 true,.Q (.m (.loc 0)) 7 true,.Q (.y 2 2) 0 false,.Q (.k 4 15) 1 false,.Q (.l 0) 2 false,.Q (.k 2 6) 3 false,.Q (.l 0) 4 false,.Q (.v 16) 5 false,.Q (.i 3 1 0) 6 false,.q (.load (some 3) (.loc 0)) 7 false,.Q (.c 23 [(.loc 7),(.loc 5),(.loc 0)]) 8 false,.q (.not (.loc 0)) 9 false,.q (.pick (.loc 10) (.b true) (.loc 0)) 18 true,.p 19 0] [(18,26)]) (.cond (.var 18) (.seq (.R [.m (.b false)] [(19,0)]) .ret) .skip))))))) (.R [.g (.bin .add (.var 7) (.k 1)),.m (.loc 0)] [(7,1)])))))
theorem vl_go {a b:BD} {A:List (B8)} {B:List Bool} {C:List CVal} {L:Nat} (hA:A.length=L) (hB:B.length=L) (hC:C.length=L) (hL:L≤100) {n:B8} {Ls:List RW} {O:CVal} (HO:PV1 O) {ok:Nat→Bool} (hS:∀ k s w c,A[k]? = some s→B[k]? = some w→C[k]? = some c→(Pe 49 [.agg [.str n,lV8 Ls,O],.str s] (.tup [zPF,.bool false])∧ok k=false)∨∃ x y1 y2 y3 m,c=.agg [y1,y2,y3]∧PV1 y1∧PV1 y2∧PV1 y3∧Pe 49 [.agg [.str n,lV8 Ls,O],.str s] (.tup [RW.pf x,.bool true])∧ok k=(w || (decide (x.lab≤1) && (decide (x.kind=16) && m)))∧(x.kind=16→∀ h:CHeap,Fit h→∀ K:KT,(∀ h',PG h h'→K (.bool m) h')→Wc tree.getF 23 [schV a b,.str x.ty,.agg [y1,y2,y3]] h K))
    {b2 b6 b11:Nat} {hb:CHeap} (hfb:Fit hb) (g2:zA1 hb.ents b2=some (.cells [.imm .none 3 [mgV [97,46,73] a,mgV [97,46,77] b],.imm .none 2 [.agg [.str [97,46,69],.imm .none 2 [.agg [.str [65],.int .i64 0],.agg [.str [66],.int .i64 1],.agg [.str [67],.int .i64 (-1)]]]]])) (g6:zA1 hb.ents b6=some (.cells [.imm .none 1 (A.map .str),.imm .none 1 (B.map .bool),.imm .none 3 C])) (g11:zA1 hb.ents b11=some (.cells [.str n,lV8 Ls,O]))
    {v0 v1 v3 v4 v5:CVal} {Q:QT}
    (hyes:(∀ k,k<L→ok k=true)→∀ (v9 v12 v13 v14 v15 v16 v17 v18:CVal) (hh:CHeap),PG hb hh→Q (.exit 0) ⟨[v0,v1,.ptr b2 29360130 0,v3,v4,v5,.ptr b6 38797315 0,.int .i64 (L:Nat),.int .i64 (L:Nat),v9,.imm .none 1 (A.map CVal.str),.ptr b11 63963139 0,v12,v13,v14,v15,v16,v17,v18,.bool false],hh,[]⟩)
    (hno:∀ k,k<L→ok k=false→∀ (v7 v9 v12 v13 v14 v15 v16 v17 v18:CVal) (hh:CHeap),PG hb hh→Q .ret ⟨[v0,v1,.ptr b2 29360130 0,v3,v4,v5,.ptr b6 38797315 0,v7,.int .i64 (L:Nat),v9,.imm .none 1 (A.map CVal.str),.ptr b11 63963139 0,v12,v13,v14,v15,v16,v17,v18,.bool false],hh,[]⟩) :
    ∀ (m k:Nat) (hh:CHeap) (v9 v12 v13 v14 v15 v16 v17 v18:CVal),k+m=L→(∀ j,j<k→ok j=true)→PG hb hh→W tree.getF vlL ⟨[v0,v1,.ptr b2 29360130 0,v3,v4,v5,.ptr b6 38797315 0,.int .i64 (k:Nat),.int .i64 (L:Nat),v9,.imm .none 1 (A.map CVal.str),.ptr b11 63963139 0,v12,v13,v14,v15,v16,v17,v18,.bool false],hh,[]⟩ Q:=by
 intro m
 induction m with
 | zero =>
  intro k hh v9 v12 v13 v14 v15 v16 v17 v18 h1 h2 P
  obtain rfl:k=L:=by omega
  obtain ⟨E,nx,ty⟩:=hh
  refine W.loop ?_
  try refine w0_ ?_
  refine hyes h2 _ _ _ _ _ _ _ _ _ ⟨⟨?_,?_⟩,?_,P.fr⟩
  · exact P.fit.1.le (by dsimp only;omega)
  · exact P.fit.2.le (by dsimp only;omega)
  · have:=P.nx;dsimp only at this ⊢;omega
 | succ m ih =>
  intro k hh v9 v12 v13 v14 v15 v16 v17 v18 h1 h2 P
  have r2:=(P.fr b2 (zA7 hfb.1 g2)).trans g2
  have r6:=(P.fr b6 (zA7 hfb.1 g6)).trans g6
  have r11:=(P.fr b11 (zA7 hfb.1 g11)).trans g11
  have pn:=P.nx
  have pf:=P.fr
  have pg:=P.fit
  obtain ⟨E,nx,ty⟩:=hh
  obtain ⟨hu,hut,hX⟩:=fx4 pg
  dsimp only at hX hu hut r2 r6 r11 pn pf
  have lq2:=zA7 hu r2
  have lq6:=zA7 hu r6
  have lq11:=zA7 hu r11
  have hlt:(k:Int)<(L:Int):=by omega
  obtain ⟨s,hs⟩:∃ s,A[k]? = some s:=⟨_,List.getElem?_eq_getElem (by omega)⟩
  obtain ⟨w,hw⟩:∃ s,B[k]? = some s:=⟨_,List.getElem?_eq_getElem (by omega)⟩
  obtain ⟨c,hc⟩:∃ s,C[k]? = some s:=⟨_,List.getElem?_eq_getElem (by omega)⟩
  have n1:=zAm CVal.str A k s hs
  have n2:=zAm CVal.bool B k w hw
  have n4:(A.map CVal.str)[k]? = some (.str s):=by rw [List.getElem?_map,hs];rfl
  have n5:(B.map CVal.bool)[k]? = some (.bool w):=by rw [List.getElem?_map,hw];rfl
  have lA:(A.map CVal.str).length=L:=by rw [List.length_map];exact hA
  have lB:(B.map CVal.bool).length=L:=by rw [List.length_map];exact hB
  obtain ⟨o1,o2,o3,o4,o5⟩:=HO
  obtain ⟨p1,p2,p3,p4,p5⟩:=lV8P Ls
  simp only [CVal.isUndef,CVal.whole,CVal.cells,CVal.strip,CVal.bare] at o1 o2 o3 o4 o5 p1 p2 p3 p4 p5
  have hP:=j10_ o1 o2 o3 o4 o5 p1 p2 p3 p4 p5
  have hQ:=j11_ r2 r6 r11 hlt n1 n2 n4 n5 hc lA lB
  have ih1:=fun hh v9 v12 v13 v14 v15 v16 v17 v18 (hok':ok k=true) (h:PG hb hh)=>ih (k+1) hh v9 v12 v13 v14 v15 v16 v17 v18 (by omega) (fun j a=>by
   rcases Nat.lt_succ_iff_lt_or_eq.1 a with c | rfl
   · exact h2 j c
   · exact hok') h
  push_cast at ih1
  have no1:=fun (h:ok k=false)=>hno k (by omega) h
  clear ih h2 hno hyes
  rcases hS k s w c hs hw hc with ⟨NP,hok⟩ | ⟨x,y1,y2,y3,mm,rfl,⟨a1,a2,a3,a4,a5⟩,⟨b1,b2',b3,b4,b5⟩,⟨d1,d2,d3,d4,d5⟩,NP,hok,VC⟩
  · clear hS
    unfold zPF at NP
    generalize A.map CVal.str=PA at *
    generalize B.map CVal.bool=PB at *
    generalize lV8 Ls=LS at *
    refine W.loop ?_
    have hZ:=j3_ hX hP hQ
    repeat (first
     | refine vk_ ?_
     | (refine pe_ (NP) fun _ g=>⟨rfl,?_⟩;(try dsimp only at g)))
    refine W.ret ?_
    simp only [zAb,zA4,zA3,zA8,reduceIte]
    refine no1 hok _ _ _ _ _ _ _ _ _ _ ⟨⟨?_,?_⟩,?_,fun q q1=>?_⟩
    · exact un2_
    · exact hut.le (by (try dsimp only);omega)
    · dsimp only;omega
    · dsimp only;rw [zA6 (by omega)];exact pf q q1
  · clear hS
    have n3:nth C k=.agg [y1,y2,y3]:=by have:=zAm id C k _ hc;simpa using this
    simp only [CVal.isUndef,CVal.whole,CVal.cells,CVal.strip,CVal.bare] at a1 a2 a3 a4 a5 b1 b2' b3 b4 b5 d1 d2 d3 d4 d5
    have hM:=j16_ n3 a1 a2 a3 a4 a5 b1 b2' b3 b4 b5 d1 d2 d3 d4 d5
    unfold schV at VC
    unfold RW.pf at NP
    generalize x.kind=kd at *
    generalize x.lab=lb at *
    generalize x.ty=tx at *
    generalize A.map CVal.str=PA at *
    generalize B.map CVal.bool=PB at *
    generalize lV8 Ls=LS at *
    generalize mgV [97,46,73] a=mA at *
    generalize mgV [97,46,77] b=mB at *
    refine W.loop ?_
    rcases Nat.lt_or_ge 1 lb with hlb | hlb
    · have s0:((lb:Int) == 0)=false:=by simp;omega
      have s1:((lb:Int) == 1)=false:=by simp;omega
      have s2:((lb:Int)=0)=False:=by simp;omega
      have s3:((lb:Int)=1)=False:=by simp;omega
      have hL:=j4_ s0 s1 s2 s3
      have hd:decide (lb≤1)=false:=by simp;omega
      rw [hd] at hok
      cases w
      · have hZ:=j5_ hX hP hQ hM hL
        repeat (first
         | refine vk_ ?_
         | (refine pe_ (NP) fun _ g=>⟨rfl,?_⟩;(try dsimp only at g)))
        refine W.ret ?_
        simp only [zAb,zA4,zA3,zA8,reduceIte]
        refine no1 (by rw [hok];rfl) _ _ _ _ _ _ _ _ _ _ ⟨⟨?_,?_⟩,?_,fun q q1=>?_⟩
        · exact un2_
        · exact hut.le (by (try dsimp only);omega)
        · dsimp only;omega
        · dsimp only;rw [zA6 (by omega)];exact pf q q1
      · have hZ:=j5_ hX hP hQ hM hL
        repeat (first
         | refine vk_ ?_
         | (refine pe_ (NP) fun _ g=>⟨rfl,?_⟩;(try dsimp only at g)))
        refine dk_ ?_
        refine ih1 _ _ _ _ _ _ _ _ _ (by rw [hok];rfl) ⟨⟨?_,?_⟩,?_,fun q q1=>?_⟩
        · exact hu.le (by (try dsimp only);omega)
        · exact hut.le (by (try dsimp only);omega)
        · dsimp only;omega
        · exact pf q q1
    · have hd:decide (lb≤1)=true:=by simp;omega
      rw [hd] at hok
      obtain rfl | rfl:lb=0∨lb=1:=by omega
      · have hL:=trivial
        cases w
        · by_cases hk:kd=16
          · subst hk
            have VC1:=VC rfl
            have hZ:=j5_ hX hP hQ hM hL
            repeat (first
             | refine vk_ ?_
             | (refine pe_ (NP) fun _ g=>⟨rfl,?_⟩;(try dsimp only at g)))
            refine VC1 ⟨_,_,_⟩ ft_ _ fun h2 P2=>⟨rfl,?_⟩
            have q2:=P2.fit
            have m2:=P2.nx
            have f2:=P2.fr
            dsimp only at m2 f2
            cases mm
            · have hZ:=j2_ hX hL
              repeat (first
               | refine vk_ ?_)
              refine W.ret ?_
              simp only [zAb,zA4,zA3,zA8,reduceIte]
              refine no1 (by rw [hok];rfl) _ _ _ _ _ _ _ _ _ _ ⟨⟨?_,?_⟩,?_,fun q q1=>?_⟩
              · exact q2.1.le (by (try dsimp only);omega)
              · exact q2.2.le (by (try dsimp only);omega)
              · dsimp only;omega
              · dsimp only;rw [f2 q (by omega),zA6 (by omega)];exact pf q q1
            · have hZ:=j2_ hX hL
              repeat (first
               | refine vk_ ?_)
              refine dk_ ?_
              refine ih1 _ _ _ _ _ _ _ _ _ (by rw [hok];rfl) ⟨⟨?_,?_⟩,?_,fun q q1=>?_⟩
              · dsimp only;exact zBm (q2.1.le (by omega))
              · exact q2.2.le (by (try dsimp only);omega)
              · dsimp only;omega
              · dsimp only;rw [zCv (by omega),f2 q (by omega),zA6 (by omega)];exact pf q q1
          · have k0:((kd:Int) != 16)=true:=by simp;omega
            have hZ:=j6_ hX hP hQ hM hL k0
            repeat (first
             | refine vk_ ?_
             | (refine pe_ (NP) fun _ g=>⟨rfl,?_⟩;(try dsimp only at g)))
            refine W.ret ?_
            simp only [zAb,zA4,zA3,zA8,reduceIte]
            refine no1 (by rw [hok];simp [hk]) _ _ _ _ _ _ _ _ _ _ ⟨⟨?_,?_⟩,?_,fun q q1=>?_⟩
            · exact un2_
            · exact hut.le (by (try dsimp only);omega)
            · dsimp only;omega
            · dsimp only;rw [zA6 (by omega)];exact pf q q1
        · have hZ:=j5_ hX hP hQ hM hL
          repeat (first
           | refine vk_ ?_
           | (refine pe_ (NP) fun _ g=>⟨rfl,?_⟩;(try dsimp only at g)))
          refine dk_ ?_
          refine ih1 _ _ _ _ _ _ _ _ _ (by rw [hok];rfl) ⟨⟨?_,?_⟩,?_,fun q q1=>?_⟩
          · exact hu.le (by (try dsimp only);omega)
          · exact hut.le (by (try dsimp only);omega)
          · dsimp only;omega
          · exact pf q q1
      · have hL:=trivial
        cases w
        · by_cases hk:kd=16
          · subst hk
            have VC1:=VC rfl
            have hZ:=j5_ hX hP hQ hM hL
            repeat (first
             | refine vk_ ?_
             | (refine pe_ (NP) fun _ g=>⟨rfl,?_⟩;(try dsimp only at g)))
            refine VC1 ⟨_,_,_⟩ ft_ _ fun h2 P2=>⟨rfl,?_⟩
            have q2:=P2.fit
            have m2:=P2.nx
            have f2:=P2.fr
            dsimp only at m2 f2
            cases mm
            · have hZ:=j2_ hX hL
              repeat (first
               | refine vk_ ?_)
              refine W.ret ?_
              simp only [zAb,zA4,zA3,zA8,reduceIte]
              refine no1 (by rw [hok];rfl) _ _ _ _ _ _ _ _ _ _ ⟨⟨?_,?_⟩,?_,fun q q1=>?_⟩
              · exact q2.1.le (by (try dsimp only);omega)
              · exact q2.2.le (by (try dsimp only);omega)
              · dsimp only;omega
              · dsimp only;rw [f2 q (by omega),zA6 (by omega)];exact pf q q1
            · have hZ:=j2_ hX hL
              repeat (first
               | refine vk_ ?_)
              refine dk_ ?_
              refine ih1 _ _ _ _ _ _ _ _ _ (by rw [hok];rfl) ⟨⟨?_,?_⟩,?_,fun q q1=>?_⟩
              · dsimp only;exact zBm (q2.1.le (by omega))
              · exact q2.2.le (by (try dsimp only);omega)
              · dsimp only;omega
              · dsimp only;rw [zCv (by omega),f2 q (by omega),zA6 (by omega)];exact pf q q1
          · have k0:((kd:Int) != 16)=true:=by simp;omega
            have hZ:=j6_ hX hP hQ hM hL k0
            repeat (first
             | refine vk_ ?_
             | (refine pe_ (NP) fun _ g=>⟨rfl,?_⟩;(try dsimp only at g)))
            refine W.ret ?_
            simp only [zAb,zA4,zA3,zA8,reduceIte]
            refine no1 (by rw [hok];simp [hk]) _ _ _ _ _ _ _ _ _ _ ⟨⟨?_,?_⟩,?_,fun q q1=>?_⟩
            · exact un2_
            · exact hut.le (by (try dsimp only);omega)
            · dsimp only;omega
            · dsimp only;rw [zA6 (by omega)];exact pf q q1
        · have hZ:=j5_ hX hP hQ hM hL
          repeat (first
           | refine vk_ ?_
           | (refine pe_ (NP) fun _ g=>⟨rfl,?_⟩;(try dsimp only at g)))
          refine dk_ ?_
          refine ih1 _ _ _ _ _ _ _ _ _ (by rw [hok];rfl) ⟨⟨?_,?_⟩,?_,fun q q1=>?_⟩
          · exact hu.le (by (try dsimp only);omega)
          · exact hut.le (by (try dsimp only);omega)
          · dsimp only;omega
          · exact pf q q1
theorem valid_no {a b:BD} {nm:B8} (PM:∀ {h:CHeap},Fit h→∀ {K:KT},(∀ h',PG h h'→K (.tup [.agg [.str [],.nils,.nils],.bool false]) h')→Wc tree.getF 48 [schV a b,.str nm] h K) {A:List (B8)} {B:List Bool} {C:List CVal} {h:CHeap} (hf:Fit h) {K:KT} (hk:∀ h',PG h h'→K (.bool false) h'):Wc tree.getF 23 [schV a b,.str nm,nodV A B C] h K:=by
 obtain ⟨hu,hut,hX⟩:=fx4 hf
 unfold schV at PM ⊢
 generalize mgV [97,46,73] a=mA at *
 generalize mgV [97,46,77] b=mB at *
 unfold nodV
 obtain ⟨a1,a2,a3,a4,a5⟩:=zCj 1 (A.map CVal.str)
 obtain ⟨b1,b2,b3,b4,b5⟩:=zCj 1 (B.map CVal.bool)
 obtain ⟨d1,d2,d3,d4,d5⟩:=zCj 3 C
 generalize lst 1 (A.map CVal.str)=XA at *
 generalize lst 1 (B.map CVal.bool)=XB at *
 generalize lst 3 C=XC at *
 simp only [CVal.isUndef,CVal.whole,CVal.cells,CVal.strip,CVal.bare] at a1 a2 a3 a4 a5 b1 b2 b3 b4 b5 d1 d2 d3 d4 d5
 have hP:=j15_ a1 a2 a3 a4 a5 b1 b2 b3 b4 b5 d1 d2 d3 d4 d5
 refine mk_ 23 c23 (s_ ?_)
 have hZ:=j2_ hX hP
 repeat (first
  | refine vk_ ?_)
 refine PM (h:=⟨_,_,_⟩) ft_ fun h1 P1=>⟨rfl,?_⟩
 have g1:=P1.fit
 have m1:=P1.nx
 have f1:=P1.fr
 dsimp only at m1 f1
 have Z1:∀ q,h.next+2≤q→q<h.next+12→zA1 h1.ents q=none:=fun q x y=>(f1 q (by omega)).trans (by simp (disch:=omega) [zA1,hX])
 clear hu hut hX hZ
 obtain ⟨hu,hut,hX⟩:=fx4 g1
 have hZ:=j3_ hX hP Z1
 repeat (first
  | refine vk_ ?_)
 refine rk_ ?_
 refine hk _ ⟨⟨?_,?_⟩,?_,fun q q1=>?_⟩
 · dsimp only;exact zB0 (hu.le (by omega))
 · dsimp only;exact hut.le (by omega)
 · dsimp only;omega
 · dsimp only
   rw [zDa q1,f1 q (by omega),zA6 (by omega),zA6 (by omega)]
theorem zHb {a b cc:BD} {nm:B8} (PM:∀ {h:CHeap},Fit h→∀ {K:KT},(∀ h',PG h h'→K (.tup [mgV nm cc,.bool true]) h')→Wc tree.getF 48 [schV a b,.str nm] h K) {A:List (B8)} {B:List Bool} {C:List CVal} (eA:A.length≤100) (eB:B.length=A.length) (eC:C.length=A.length) {ok:Nat→Bool} (hS:∀ k s w c,A[k]? = some s→B[k]? = some w→C[k]? = some c→(Pe 49 [.agg [.str nm,lV8 (zAx cc.rs),oV1 (!cc.os.isEmpty)],.str s] (.tup [zPF,.bool false])∧ok k=false)∨∃ x y1 y2 y3 m,c=.agg [y1,y2,y3]∧PV1 y1∧PV1 y2∧PV1 y3∧Pe 49 [.agg [.str nm,lV8 (zAx cc.rs),oV1 (!cc.os.isEmpty)],.str s] (.tup [RW.pf x,.bool true])∧ok k=(w || (decide (x.lab≤1) && (decide (x.kind=16) && m)))∧(x.kind=16→∀ h:CHeap,Fit h→∀ K:KT,(∀ h',PG h h'→K (.bool m) h')→Wc tree.getF 23 [schV a b,.str x.ty,.agg [y1,y2,y3]] h K)) {R:Bool} (hR:R=(List.range A.length).all ok) {h:CHeap} (hf:Fit h) {K:KT} (hk:∀ h',PG h h'→K (.bool R) h'):Wc tree.getF 23 [schV a b,.str nm,nodV A B C] h K:=by
 obtain ⟨hu,hut,hX⟩:=fx4 hf
 have GO:=@vl_go a b A B C A.length rfl eB eC eA nm (zAx cc.rs) (oV1 (!cc.os.isEmpty)) (oV1P _) ok hS
 clear hS
 unfold mgV at PM
 unfold schV at PM ⊢
 generalize hmA:mgV [97,46,73] a=mA at *
 generalize hmB:mgV [97,46,77] b=mB at *
 have PL:=lV8P (zAx cc.rs)
 have PO:PV1 (oV1 (!cc.os.isEmpty)):=oV1P _
 generalize lV8 (zAx cc.rs)=LS at *
 generalize oV1 (!cc.os.isEmpty)=O at *
 unfold nodV
 obtain ⟨⟨a1,a2,a3,a4,a5⟩,a6,a7⟩:=zBh 1 CVal.str A
 obtain ⟨b1,b2,b3,b4,b5⟩:=zCj 1 (B.map CVal.bool)
 obtain ⟨d1,d2,d3,d4,d5⟩:=zCj 3 C
 obtain ⟨e1,e2,e3,e4,e5⟩:=PL
 obtain ⟨f1,f2,f3,f4,f5⟩:=PO
 cases hA0:A with
 | nil =>
  subst hA0
  obtain rfl:B=[]:=List.length_eq_zero_iff.1 eB
  obtain rfl:C=[]:=List.length_eq_zero_iff.1 eC
  have e0:(List.range ([]:List (B8)).length).all ok=true:=rfl
  rw [e0] at hR
  subst hR
  clear a1 a2 a3 a4 a5 a6 a7 b1 b2 b3 b4 b5 d1 d2 d3 d4 d5
  simp only [List.map_nil,lst]
  simp only [CVal.isUndef,CVal.whole,CVal.cells,CVal.strip,CVal.bare] at e1 e2 e3 e4 e5 f1 f2 f3 f4 f5
  have hP:=j10_ e1 e2 e3 e4 e5 f1 f2 f3 f4 f5
  refine mk_ 23 c23 (s_ ?_)
  have hZ:=j2_ hX hP
  repeat (first
   | refine vk_ ?_)
  refine PM (h:=⟨_,_,_⟩) ft_ fun h1 P1=>⟨rfl,?_⟩
  have g1:=P1.fit
  have m1:=P1.nx
  have q1:=P1.fr
  dsimp only at m1 q1
  have Z1:∀ q,h.next+2≤q→q<h.next+12→zA1 h1.ents q=none:=fun q x y=>(q1 q (by omega)).trans (by simp (disch:=omega) [zA1,hX])
  have r2:=q1 (h.next+1) (by omega)
  simp (disch:=omega) [zA1] at r2
  clear hu hut hX hZ
  obtain ⟨hu,hut,hX⟩:=fx4 g1
  have hZ:=j4_ hX hP Z1 r2
  repeat (first
   | refine vk_ ?_
   | refine W.loop ?_
   | (refine dk_ ?_;refine W.loop ?_))
  refine rk_ ?_
  refine hk _ ⟨⟨?_,?_⟩,?_,fun q q2=>?_⟩
  · dsimp only;exact zB0 (hu.le (by omega))
  · dsimp only;exact hut.le (by omega)
  · dsimp only;omega
  · dsimp only
    rw [zDa q2,q1 q (by omega),zA6 (by omega),zA6 (by omega)]
 | cons s0 A0 =>
  rw [← hA0]
  have hp:0<A.length:=by rw [hA0];simp
  clear hA0
  have lA:(A.map CVal.str).length=A.length:=List.length_map ..
  have hL0:¬ (A.length:Int)=0:=by omega
  clear a1 a2 a3 a4 a5 a6 a7 b1 b2 b3 b4 b5 d1 d2 d3 d4 d5
  rw [zDo (by rw [List.length_map];omega),zDo (by rw [List.length_map];omega),zDo (by omega)]
  simp only [CVal.isUndef,CVal.whole,CVal.cells,CVal.strip,CVal.bare] at e1 e2 e3 e4 e5 f1 f2 f3 f4 f5
  have hP:=j12_ e1 e2 e3 e4 e5 f1 f2 f3 f4 f5 lA hL0
  refine mk_ 23 c23 (s_ ?_)
  have hZ:=j2_ hX hP
  repeat (first
   | refine vk_ ?_)
  refine PM (h:=⟨_,_,_⟩) ft_ fun h1 P1=>⟨rfl,?_⟩
  have g1:=P1.fit
  have m1:=P1.nx
  have q1:=P1.fr
  dsimp only at m1 q1
  have Z1:∀ q,h.next+2≤q→q<h.next+12→zA1 h1.ents q=none:=fun q x y=>(q1 q (by omega)).trans (by simp (disch:=omega) [zA1,hX])
  have r1:=q1 h.next (by omega)
  have r2:=q1 (h.next+1) (by omega)
  simp (disch:=omega) [zA1] at r1 r2
  have hX0:=hX
  clear hu hut hX hZ
  obtain ⟨hu,hut,hX⟩:=fx4 g1
  have hZ:=j4_ hX hP Z1 r2
  skip
  repeat ((fail_if_success (show W tree.getF vlL _ _));first
   | refine st_ rfl ?_
   | ((first | refine W.regG ?_ | refine WoR.go ?_);generalize e:goR .. = r;simp (disch:=omega) [hZ] at e;replace e:some _=_:=e;subst e;(try dsimp only [goW]))
   | refine W.loop ?_
   | (refine dk_ ?_;refine W.loop ?_)
   | (simp only [zAb,zA4,zA3,zA5,zA8,reduceIte]))
  have u3:Fit ⟨(h.next+3+1+1+1+1+1+1,CObj.cells [.str nm,LS,O])::h1.ents,h1.next+2+4,h1.tys⟩:=ft_
  refine GO (hb:=⟨_,_,_⟩) u3 (by dsimp only;simp (disch:=omega) [zA1,r1]) (by dsimp only;simp (disch:=omega) [zA1,r2]) (by dsimp only;simp (disch:=omega) [zA1]) ?_ ?_ A.length 0 _ _ _ _ _ _ _ _ _ (by omega) (fun j a=>by omega) ⟨u3,Nat.le_refl _,fun _ _=>rfl⟩
  · intro hy v9 v12 v13 v14 v15 v16 v17 v18 hh P2
    obtain rfl:R=true:=by rw [hR];exact zJh hy
    have g2:=P2.fit
    have m2:=P2.nx
    have q2:=P2.fr
    obtain ⟨E,nx,ty⟩:=hh
    dsimp only at m2 q2
    clear hu hut hX hZ
    obtain ⟨hu,hut,hX⟩:=fx4 g2
    dsimp only at hu hut hX
    have hZ:=j2_ hX hP
    repeat (first
     | refine vk_ ?_)
    refine rk_ ?_
    refine hk _ ⟨⟨?_,?_⟩,?_,fun q q3=>?_⟩
    · dsimp only;exact zB0 (hu.le (by omega))
    · dsimp only;exact hut.le (by omega)
    · dsimp only;omega
    · dsimp only
      rw [zDa q3,q2 q (by omega),zA6 (by omega),q1 q (by omega),zA6 (by omega),zA6 (by omega)]
  · intro k hkl hn v7 v9 v12 v13 v14 v15 v16 v17 v18 hh P2
    obtain rfl:R=false:=by rw [hR];exact zJm hkl hn
    have g2:=P2.fit
    have m2:=P2.nx
    have q2:=P2.fr
    obtain ⟨E,nx,ty⟩:=hh
    dsimp only at m2 q2
    clear hu hut hX hZ
    obtain ⟨hu,hut,hX⟩:=fx4 g2
    dsimp only at hu hut hX
    have hZ:=j2_ hX hP
    repeat (first
     | refine vk_ ?_)
    refine rk_ ?_
    refine hk _ ⟨⟨?_,?_⟩,?_,fun q q3=>?_⟩
    · dsimp only;exact zB0 (hu.le (by omega))
    · dsimp only;exact hut.le (by omega)
    · dsimp only;omega
    · dsimp only
      rw [zDa q3,q2 q (by omega),zA6 (by omega),q1 q (by omega),zA6 (by omega),zA6 (by omega)]
theorem insR_perm (r:RW):∀ l:List RW,(insR r l).Perm (r::l)
 | []=>List.Perm.refl _
 | x::l=>by
  unfold insR
  split
  · exact ((insR_perm r l).cons x).trans (List.Perm.swap r x l)
  · exact List.Perm.refl _
theorem sortR_perm (l:List RW):(zAx l).Perm l:=by
 have H:∀ (l acc:List RW),(l.foldl (fun acc r=>insR r acc) acc).Perm (acc++l):=by
  intro l
  induction l with
  | nil=>intro acc;simp
  | cons r l ih =>
   intro acc
   rw [List.foldl_cons]
   refine (ih _).trans ?_
   refine ((insR_perm r acc).append_right l).trans ?_
   exact List.perm_middle.symm
 simpa [zAx] using H l []
theorem sortR_nm {b:BD} {m:Nat} (h:b.ok m) (hm:m≤7):((zAx b.rs).map RW.nm).Nodup:=((sortR_perm b.rs).map RW.nm).nodup_iff.2 (BD.rs_nm h hm)
def fnd (c:BD) (w:B8):Option RW:=(zAx c.rs).find? fun x=>x.nm == w
def msgO (a b:BD) (nm:B8):Option BD:=if nm=[97,46,73] then some a else if nm=[97,46,77] then some b else none
def vok {n:Nat} (V:MW n→B8→Bool) (c:BD) (t:MW (n+1)) (k:Nat):Bool:=match fnd c (t.1.getD k []) with
 | none=>false
 | some x=>t.2.1.getD k false || (decide (x.lab≤1) && (decide (x.kind=16) && V (t.2.2.getD k (emW n)) x.ty))
def vB (a b:BD):(n:Nat)→MW n→B8→Bool
 | 0,_,nm=>(msgO a b nm).isSome
 | n+1,t,nm=>match msgO a b nm with
  | none=>false
  | some c=>(List.range t.1.length).all (vok (vB a b n) c t)
theorem fnd_no {c:BD} {w:B8} (h:fnd c w=none):∀ (k:Nat) (x:RW),(zAx c.rs)[k]? = some x→x.nm≠w:=fun k x hx e=>by
 have:=List.find?_eq_none.1 h x (List.mem_of_getElem? hx)
 simp [e] at this
theorem fnd_yes {c:BD} {m:Nat} (hc:c.ok m) (hm:m≤7) {w:B8} {x:RW} (h:fnd c w=some x):x.nm=w∧(∃ k:Nat,(zAx c.rs)[k]? = some x)∧∀ (k:Nat) (y:RW),(zAx c.rs)[k]? = some y→y.nm=w→y=x:=by
 have h1:x.nm=w:=by simpa using List.find?_some h
 have h2:x ∈ zAx c.rs:=List.mem_of_find?_eq_some h
 obtain ⟨i,hi,ei⟩:=List.mem_iff_getElem.1 h2
 have hi2:(zAx c.rs)[i]? = some x:=by rw [List.getElem?_eq_getElem hi,ei]
 refine ⟨h1,⟨i,hi2⟩,fun k y hy e=>?_⟩
 obtain ⟨hk,ek⟩:=List.getElem?_eq_some_iff.1 hy
 have nd:=sortR_nm hc hm
 have l1:i<((zAx c.rs).map RW.nm).length:=by rw [List.length_map];exact hi
 have l2:k<((zAx c.rs).map RW.nm).length:=by rw [List.length_map];exact hk
 have:((zAx c.rs).map RW.nm)[i]'l1=((zAx c.rs).map RW.nm)[k]'l2:=by rw [List.getElem_map,List.getElem_map,ei,ek,h1,e]
 have pw:=List.pairwise_iff_getElem.1 nd
 have hik:i=k:=by
  rcases Nat.lt_trichotomy i k with h3 | h3 | h3
  · exact absurd this (pw i k l1 l2 h3)
  · exact h3
  · exact absurd this.symm (pw k i l2 l1 h3)
 subst hik
 rw [hi2] at hy
 cases hy
 rfl
theorem may_len {n:Nat} {t:MW (n+1)} (h:mayB (n+1) t=true):t.2.1.length=t.1.length∧t.2.2.length=t.1.length∧∀ (k:Nat) u,t.2.2[k]? = some u→mayB n u=true:=by
 unfold mayB at h
 simp only [Bool.and_eq_true,decide_eq_true_eq] at h
 obtain ⟨h1,h2,h3⟩:=h
 refine ⟨h1.symm,h2.symm,fun k u hu=>?_⟩
 have hk:k<t.1.length:=by have:=(List.getElem?_eq_some_iff.1 hu).1;omega
 have h4:=List.all_eq_true.1 h3 k (List.mem_range.2 hk)
 simp only [okM,Bool.and_eq_true,List.getD_eq_getElem?_getD,hu,Option.getD_some] at h4
 exact h4.2.2.2
theorem hs_F {c:BD} {m:Nat} (hc:c.ok m) (hm:m≤7) {a b:BD} {nm:B8} {n:Nat} {t:MW (n+1)} (hw:wfW (n+1) t) {fN fV:Nat}
    (NF:∀ {w:B8} {R:CVal},(∀ (k:Nat) (x:RW),(zAx c.rs)[k]? = some x→x.nm=w→R=.tup [x.pf,.bool true])→((∀ (j:Nat) (y:RW),(zAx c.rs)[j]? = some y→y.nm≠w)→R=.tup [zPF,.bool false])→Pe fN [.agg [.str nm,lV8 (zAx c.rs),oV1 (!c.os.isEmpty)],.str w] R)
    (IH:∀ (k:Nat) u,t.2.2[k]? = some u→∀ nm,∀ h:CHeap,Fit h→∀ K:KT,(∀ h',PG h h'→K (.bool (vB a b n u nm)) h')→Wc tree.getF fV [schV a b,.str nm,mwV n u] h K) :
    ∀ k s w cc,t.1[k]? = some s→t.2.1[k]? = some w→(t.2.2.map (mwV n))[k]? = some cc→(Pe fN [.agg [.str nm,lV8 (zAx c.rs),oV1 (!c.os.isEmpty)],.str s] (.tup [zPF,.bool false])∧vok (vB a b n) c t k=false)∨∃ x y1 y2 y3 m,cc=.agg [y1,y2,y3]∧PV1 y1∧PV1 y2∧PV1 y3∧Pe fN [.agg [.str nm,lV8 (zAx c.rs),oV1 (!c.os.isEmpty)],.str s] (.tup [RW.pf x,.bool true])∧vok (vB a b n) c t k=(w || (decide (x.lab≤1) && (decide (x.kind=16) && m)))∧(x.kind=16→∀ h:CHeap,Fit h→∀ K:KT,(∀ h',PG h h'→K (.bool m) h')→Wc tree.getF fV [schV a b,.str x.ty,.agg [y1,y2,y3]] h K):=by
 intro k s w cc e1 e2 e3
 obtain ⟨u,e4,rfl⟩:=getM e3
 have hu:=hw.2.2.2.2 u (List.mem_of_getElem? e4)
 have g1:t.1.getD k []=s:=by rw [List.getD_eq_getElem?_getD,e1];rfl
 have g2:t.2.1.getD k false=w:=by rw [List.getD_eq_getElem?_getD,e2];rfl
 have g3:t.2.2.getD k (emW n)=u:=by rw [List.getD_eq_getElem?_getD,e4];rfl
 unfold vok
 rw [g1,g2,g3]
 cases hx:fnd c s with
 | none=>exact .inl ⟨NF (fun k x h e=>absurd e (fnd_no hx k x h)) (fun _=>rfl),rfl⟩
 | some x =>
  obtain ⟨q1,⟨i,q2⟩,q3⟩:=fnd_yes hc hm hx
  obtain ⟨y1,y2,y3,p,q,r,ev,hy1,hy2,hy3,_⟩:=zG5 n u hu
  refine .inr ⟨x,y1,y2,y3,vB a b n u x.ty,ev,hy1.u,hy2.u,hy3.u,NF (fun k y h e=>by rw [q3 k y h e]) (fun h=>absurd q1 (h i x q2)),rfl,fun _=>?_⟩
  have:=IH k u e4 x.ty
  rwa [ev] at this
theorem valid_C {a b:BD} (ha:a.ok 4) (hb:b.ok 7):∀ (n:Nat) (t:MW n),wfW n t→mayB n t=true→∀ nm,∀ h:CHeap,Fit h→∀ K:KT,(∀ h',PG h h'→K (.bool (vB a b n t nm)) h')→Wc tree.getF 23 [schV a b,.str nm,mwV n t] h K:=by
 have la:=BD.rs_le ha (by omega)
 have lb:=BD.rs_le hb (by omega)
 intro n
 induction n with
 | zero =>
  intro t _ _ nm h hf K hk
  unfold vB msgO at hk
  by_cases i1:nm=[97,46,73]
  · subst i1
    exact zHb (A:=[]) (B:=[]) (C:=[]) (fun hf _ hk=>pm_I la hf hk) (by simp) rfl rfl (ok:=fun _=>true) (fun k s w c e=>by simp at e) (R:=true) rfl hf (by simpa using hk)
  · by_cases i2:nm=[97,46,77]
    · subst i2
      exact zHb (A:=[]) (B:=[]) (C:=[]) (fun hf _ hk=>pm_M lb hf hk) (by simp) rfl rfl (ok:=fun _=>true) (fun k s w c e=>by simp at e) (R:=true) rfl hf (by simpa using hk)
    · rw [if_neg i1,if_neg i2] at hk
      exact valid_no (A:=[]) (B:=[]) (C:=[]) (fun hf _ hk=>pm_no i1 i2 hf hk) hf (by simpa using hk)
 | succ n ih =>
  intro t hw hm nm h hf K hk
  obtain ⟨w1,w2,w3,w4,w5⟩:=id hw
  obtain ⟨m1,m2,m3⟩:=may_len hm
  have IH:=fun (k:Nat) u (e:t.2.2[k]? = some u)=>ih u (w5 u (List.mem_of_getElem? e)) (m3 k u e)
  unfold vB msgO at hk
  have m2':(t.2.2.map (mwV n)).length=t.1.length:=by rw [List.length_map];exact m2
  show Wc tree.getF 23 [schV a b,.str nm,nodV t.1 t.2.1 (t.2.2.map (mwV n))] h K
  by_cases i1:nm=[97,46,73]
  · subst i1
    exact zHb (fun hf _ hk=>pm_I la hf hk) (by omega) m1 m2' (hs_F ha (by omega) hw (fun h1 h2=>nd_F (by rw [zCk];exact la) (oV1P _) h1 h2) IH) rfl hf (by simpa using hk)
  · by_cases i2:nm=[97,46,77]
    · subst i2
      exact zHb (fun hf _ hk=>pm_M lb hf hk) (by omega) m1 m2' (hs_F hb (by omega) hw (fun h1 h2=>nd_F (by rw [zCk];exact lb) (oV1P _) h1 h2) IH) rfl hf (by simpa using hk)
    · rw [if_neg i1,if_neg i2] at hk
      exact valid_no (fun hf _ hk=>pm_no i1 i2 hf hk) hf (by simpa using hk)
abbrev rvL:CCode:=(.loop true (.seq (.seq (.R [.v 4,.k 0 5,.l 0,.j 0,.h .lss 3 0] [(6,4)]) (.cond (.var 6) .skip (.exit 0))) (.seq (.block 1 (.seq (.R [.y 3 7,.k 0 5,.l 0,.v 4,.i 1 1 0,.l 0,.c 50 [(.loc 5),(.loc 0)],.m (.loc 0),.e 0 0,.e 1 1,.o 68157448,.u 8 0 2,.m (.loc 2)] [(8,12),(11,10)]) (.seq (.seq (.R [.v 8,.g (.not (.loc 0))] [(9,1)]) (.cond (.var 9) (.seq (.R [.m (.b false)] [(14,0)]) .ret) .skip)) (.seq (.seq (.R [.k 1 5,.l 0,.v 4,.i 1 1 0,.l 0] [(10,4)]) (.cond (.var 10) (.exit 1) .skip)) (.seq (.R [.k 2 11,.l 0,.x .neq 0 (.k 0),.m (.loc 0),.Q (.k 2 11) 0 true,.Q (.l 0) 1 true,.Q (.x .neq 0 (.k 1)) 2 true,.p 3 0,.m (.loc 0),.Q (.k 3 11) 0 false,.Q (.l 0) 1 false,.Q (.x .neq 0 (.k 16)) 2 false,.r 3 0,.m (.loc 0),.Q (.y 2 2) 0 false,.Q (.k 4 11) 1 false,.Q (.l 0) 2 false,.Q (.k 2 5) 3 false,.Q (.l 0) 4 false,.Q (.v 4) 5 false,.Q (.i 3 1 0) 6 false,.q (.load (some 3) (.loc 0)) 7 false,.Q (.c 24 [(.loc 7),(.loc 5),(.loc 0)]) 8 false,.q (.not (.loc 0)) 9 false,.r 10 0] [(12,24)]) (.cond (.var 12) (.seq (.R [.m (.b false)] [(14,0)]) .ret) .skip)))))) (.R [.v 4,.x .add 0 (.k 1),.m (.loc 0)] [(4,2)]))))
theorem rv_go {a b:BD} {A:List (B8)} {B:List Bool} {C:List CVal} {L:Nat} (hA:A.length=L) (hB:B.length=L) (hC:C.length=L) (hL:L≤100) {n:B8} {Ls:List RW} {O:CVal} (HO:PV1 O) {ok:Nat→Bool} (hS:∀ k s w c,A[k]? = some s→B[k]? = some w→C[k]? = some c→(Pe 50 [.agg [.str n,lV8 Ls,O],.str s] (.tup [zPF,.bool false])∧ok k=false)∨∃ x y1 y2 y3 m,c=.agg [y1,y2,y3]∧PV1 y1∧PV1 y2∧PV1 y3∧Pe 50 [.agg [.str n,lV8 Ls,O],.str s] (.tup [RW.pf x,.bool true])∧ok k=(w || (decide (x.lab≤1) && (decide (x.kind=16) && m)))∧(x.kind=16→∀ h:CHeap,Fit h→∀ K:KT,(∀ h',PG h h'→K (.bool m) h')→Wc tree.getF 24 [schV a b,.str x.ty,.agg [y1,y2,y3]] h K))
    {b2 b6 b11:Nat} {hb:CHeap} (hfb:Fit hb) (g2:zA1 hb.ents b2=some (.cells [.imm .none 3 [mgV [97,46,73] a,mgV [97,46,77] b],.imm .none 2 [.agg [.str [97,46,69],.imm .none 2 [.agg [.str [65],.int .i64 0],.agg [.str [66],.int .i64 1],.agg [.str [67],.int .i64 (-1)]]]]])) (g6:zA1 hb.ents b6=some (.cells [.imm .none 1 (A.map .str),.imm .none 1 (B.map .bool),.imm .none 3 C])) (g11:zA1 hb.ents b11=some (.cells [.str n,lV8 Ls,O]))
    {v0 v1 v3 v13:CVal} {Q:QT}
    (hyes:(∀ k,k<L→ok k=true)→∀ (v6 v8 v9 v10 v11 v12:CVal) (hh:CHeap),PG hb hh→Q (.exit 0) ⟨[v0,v1,.ptr b2 29360130 0,v3,.int .i64 (L:Nat),.ptr b6 38797315 0,v6,.ptr b11 63963139 0,v8,v9,v10,v11,v12,v13,.bool false],hh,[]⟩)
    (hno:∀ k,k<L→ok k=false→∀ (v4 v6 v8 v9 v10 v11 v12:CVal) (hh:CHeap),PG hb hh→Q .ret ⟨[v0,v1,.ptr b2 29360130 0,v3,v4,.ptr b6 38797315 0,v6,.ptr b11 63963139 0,v8,v9,v10,v11,v12,v13,.bool false],hh,[]⟩) :
    ∀ (m k:Nat) (hh:CHeap) (v6 v8 v9 v10 v11 v12:CVal),k+m=L→(∀ j,j<k→ok j=true)→PG hb hh→W tree.getF rvL ⟨[v0,v1,.ptr b2 29360130 0,v3,.int .i64 (k:Nat),.ptr b6 38797315 0,v6,.ptr b11 63963139 0,v8,v9,v10,v11,v12,v13,.bool false],hh,[]⟩ Q:=by
 intro m
 induction m with
 | zero =>
  intro k hh v6 v8 v9 v10 v11 v12 h1 h2 P
  obtain rfl:k=L:=by omega
  have r6:=(P.fr b6 (zA7 hfb.1 g6)).trans g6
  have lA:(A.map CVal.str).length=k:=by rw [List.length_map];exact hA
  have hgt:¬ (k:Int)<(k:Int):=by omega
  obtain ⟨E,nx,ty⟩:=hh
  dsimp only at r6
  refine W.loop ?_
  have hZ:=j3_ r6 lA hgt
  try refine wk_ ?_
  refine hyes h2 _ _ _ _ _ _ _ ⟨⟨?_,?_⟩,?_,P.fr⟩
  · exact P.fit.1.le (by dsimp only;omega)
  · exact P.fit.2.le (by dsimp only;omega)
  · have:=P.nx;dsimp only at this ⊢;omega
 | succ m ih =>
  intro k hh v6 v8 v9 v10 v11 v12 h1 h2 P
  have r2:=(P.fr b2 (zA7 hfb.1 g2)).trans g2
  have r6:=(P.fr b6 (zA7 hfb.1 g6)).trans g6
  have r11:=(P.fr b11 (zA7 hfb.1 g11)).trans g11
  have pn:=P.nx
  have pf:=P.fr
  have pg:=P.fit
  obtain ⟨E,nx,ty⟩:=hh
  obtain ⟨hu,hut,hX⟩:=fx4 pg
  dsimp only at hX hu hut r2 r6 r11 pn pf
  have lq2:=zA7 hu r2
  have lq6:=zA7 hu r6
  have lq11:=zA7 hu r11
  have hlt:(k:Int)<(L:Int):=by omega
  obtain ⟨s,hs⟩:∃ s,A[k]? = some s:=⟨_,List.getElem?_eq_getElem (by omega)⟩
  obtain ⟨w,hw⟩:∃ s,B[k]? = some s:=⟨_,List.getElem?_eq_getElem (by omega)⟩
  obtain ⟨c,hc⟩:∃ s,C[k]? = some s:=⟨_,List.getElem?_eq_getElem (by omega)⟩
  have n1:=zAm CVal.str A k s hs
  have n2:=zAm CVal.bool B k w hw
  have n4:(A.map CVal.str)[k]? = some (.str s):=by rw [List.getElem?_map,hs];rfl
  have n5:(B.map CVal.bool)[k]? = some (.bool w):=by rw [List.getElem?_map,hw];rfl
  have lA:(A.map CVal.str).length=L:=by rw [List.length_map];exact hA
  have lB:(B.map CVal.bool).length=L:=by rw [List.length_map];exact hB
  obtain ⟨o1,o2,o3,o4,o5⟩:=HO
  obtain ⟨p1,p2,p3,p4,p5⟩:=lV8P Ls
  simp only [CVal.isUndef,CVal.whole,CVal.cells,CVal.strip,CVal.bare] at o1 o2 o3 o4 o5 p1 p2 p3 p4 p5
  have hP:=j10_ o1 o2 o3 o4 o5 p1 p2 p3 p4 p5
  have hQ:=j11_ r2 r6 r11 hlt n1 n2 n4 n5 hc lA lB
  have ih1:=fun hh v6 v8 v9 v10 v11 v12 (hok':ok k=true) (h:PG hb hh)=>ih (k+1) hh v6 v8 v9 v10 v11 v12 (by omega) (fun j a=>by
   rcases Nat.lt_succ_iff_lt_or_eq.1 a with c | rfl
   · exact h2 j c
   · exact hok') h
  push_cast at ih1
  have no1:=fun (h:ok k=false)=>hno k (by omega) h
  clear ih h2 hno hyes
  rcases hS k s w c hs hw hc with ⟨NP,hok⟩ | ⟨x,y1,y2,y3,mm,rfl,⟨a1,a2,a3,a4,a5⟩,⟨b1,b2',b3,b4,b5⟩,⟨d1,d2,d3,d4,d5⟩,NP,hok,VC⟩
  · clear hS
    unfold zPF at NP
    generalize A.map CVal.str=PA at *
    generalize B.map CVal.bool=PB at *
    generalize lV8 Ls=LS at *
    refine W.loop ?_
    have hZ:=j3_ hX hP hQ
    repeat (first
     | refine vk_ ?_
     | (refine pe_ (NP) fun _ g=>⟨rfl,?_⟩;(try dsimp only at g)))
    refine W.ret ?_
    simp only [zAb,zA4,zA3,zA8,reduceIte]
    refine no1 hok _ _ _ _ _ _ _ _ ⟨⟨?_,?_⟩,?_,fun q q1=>?_⟩
    · exact un2_
    · exact hut.le (by (try dsimp only);omega)
    · dsimp only;omega
    · dsimp only;rw [zA6 (by omega)];exact pf q q1
  · clear hS
    have n3:nth C k=.agg [y1,y2,y3]:=by have:=zAm id C k _ hc;simpa using this
    simp only [CVal.isUndef,CVal.whole,CVal.cells,CVal.strip,CVal.bare] at a1 a2 a3 a4 a5 b1 b2' b3 b4 b5 d1 d2 d3 d4 d5
    have hM:=j16_ n3 a1 a2 a3 a4 a5 b1 b2' b3 b4 b5 d1 d2 d3 d4 d5
    unfold schV at VC
    unfold RW.pf at NP
    generalize x.kind=kd at *
    generalize x.lab=lb at *
    generalize x.ty=tx at *
    generalize A.map CVal.str=PA at *
    generalize B.map CVal.bool=PB at *
    generalize lV8 Ls=LS at *
    generalize mgV [97,46,73] a=mA at *
    generalize mgV [97,46,77] b=mB at *
    refine W.loop ?_
    rcases Nat.lt_or_ge 1 lb with hlb | hlb
    · have s0:((lb:Int) == 0)=false:=by simp;omega
      have s1:((lb:Int) == 1)=false:=by simp;omega
      have s2:((lb:Int)=0)=False:=by simp;omega
      have s3:((lb:Int)=1)=False:=by simp;omega
      have hL:=j4_ s0 s1 s2 s3
      have hd:decide (lb≤1)=false:=by simp;omega
      rw [hd] at hok
      cases w
      · have hZ:=j5_ hX hP hQ hM hL
        repeat (first
         | refine vk_ ?_
         | (refine pe_ (NP) fun _ g=>⟨rfl,?_⟩;(try dsimp only at g)))
        refine W.ret ?_
        simp only [zAb,zA4,zA3,zA8,reduceIte]
        refine no1 (by rw [hok];rfl) _ _ _ _ _ _ _ _ ⟨⟨?_,?_⟩,?_,fun q q1=>?_⟩
        · exact un2_
        · exact hut.le (by (try dsimp only);omega)
        · dsimp only;omega
        · dsimp only;rw [zA6 (by omega)];exact pf q q1
      · have hZ:=j5_ hX hP hQ hM hL
        repeat (first
         | refine vk_ ?_
         | (refine pe_ (NP) fun _ g=>⟨rfl,?_⟩;(try dsimp only at g)))
        refine dk_ ?_
        refine ih1 _ _ _ _ _ _ _ (by rw [hok];rfl) ⟨⟨?_,?_⟩,?_,fun q q1=>?_⟩
        · exact hu.le (by (try dsimp only);omega)
        · exact hut.le (by (try dsimp only);omega)
        · dsimp only;omega
        · exact pf q q1
    · have hd:decide (lb≤1)=true:=by simp;omega
      rw [hd] at hok
      obtain rfl | rfl:lb=0∨lb=1:=by omega
      · have hL:=trivial
        cases w
        · by_cases hk:kd=16
          · subst hk
            have VC1:=VC rfl
            have hZ:=j5_ hX hP hQ hM hL
            repeat (first
             | refine vk_ ?_
             | (refine pe_ (NP) fun _ g=>⟨rfl,?_⟩;(try dsimp only at g)))
            refine VC1 ⟨_,_,_⟩ ft_ _ fun h2 P2=>⟨rfl,?_⟩
            have q2:=P2.fit
            have m2:=P2.nx
            have f2:=P2.fr
            dsimp only at m2 f2
            cases mm
            · have hZ:=j2_ hX hL
              repeat (first
               | refine vk_ ?_)
              refine W.ret ?_
              simp only [zAb,zA4,zA3,zA8,reduceIte]
              refine no1 (by rw [hok];rfl) _ _ _ _ _ _ _ _ ⟨⟨?_,?_⟩,?_,fun q q1=>?_⟩
              · exact q2.1.le (by (try dsimp only);omega)
              · exact q2.2.le (by (try dsimp only);omega)
              · dsimp only;omega
              · dsimp only;rw [f2 q (by omega),zA6 (by omega)];exact pf q q1
            · have hZ:=j2_ hX hL
              repeat (first
               | refine vk_ ?_)
              refine dk_ ?_
              refine ih1 _ _ _ _ _ _ _ (by rw [hok];rfl) ⟨⟨?_,?_⟩,?_,fun q q1=>?_⟩
              · dsimp only;exact zBm (q2.1.le (by omega))
              · exact q2.2.le (by (try dsimp only);omega)
              · dsimp only;omega
              · dsimp only;rw [zCv (by omega),f2 q (by omega),zA6 (by omega)];exact pf q q1
          · have k0:((kd:Int) != 16)=true:=by simp;omega
            have hZ:=j6_ hX hP hQ hM hL k0
            repeat (first
             | refine vk_ ?_
             | (refine pe_ (NP) fun _ g=>⟨rfl,?_⟩;(try dsimp only at g)))
            refine W.ret ?_
            simp only [zAb,zA4,zA3,zA8,reduceIte]
            refine no1 (by rw [hok];simp [hk]) _ _ _ _ _ _ _ _ ⟨⟨?_,?_⟩,?_,fun q q1=>?_⟩
            · exact un2_
            · exact hut.le (by (try dsimp only);omega)
            · dsimp only;omega
            · dsimp only;rw [zA6 (by omega)];exact pf q q1
        · have hZ:=j5_ hX hP hQ hM hL
          repeat (first
           | refine vk_ ?_
           | (refine pe_ (NP) fun _ g=>⟨rfl,?_⟩;(try dsimp only at g)))
          refine dk_ ?_
          refine ih1 _ _ _ _ _ _ _ (by rw [hok];rfl) ⟨⟨?_,?_⟩,?_,fun q q1=>?_⟩
          · exact hu.le (by (try dsimp only);omega)
          · exact hut.le (by (try dsimp only);omega)
          · dsimp only;omega
          · exact pf q q1
      · have hL:=trivial
        cases w
        · by_cases hk:kd=16
          · subst hk
            have VC1:=VC rfl
            have hZ:=j5_ hX hP hQ hM hL
            repeat (first
             | refine vk_ ?_
             | (refine pe_ (NP) fun _ g=>⟨rfl,?_⟩;(try dsimp only at g)))
            refine VC1 ⟨_,_,_⟩ ft_ _ fun h2 P2=>⟨rfl,?_⟩
            have q2:=P2.fit
            have m2:=P2.nx
            have f2:=P2.fr
            dsimp only at m2 f2
            cases mm
            · have hZ:=j2_ hX hL
              repeat (first
               | refine vk_ ?_)
              refine W.ret ?_
              simp only [zAb,zA4,zA3,zA8,reduceIte]
              refine no1 (by rw [hok];rfl) _ _ _ _ _ _ _ _ ⟨⟨?_,?_⟩,?_,fun q q1=>?_⟩
              · exact q2.1.le (by (try dsimp only);omega)
              · exact q2.2.le (by (try dsimp only);omega)
              · dsimp only;omega
              · dsimp only;rw [f2 q (by omega),zA6 (by omega)];exact pf q q1
            · have hZ:=j2_ hX hL
              repeat (first
               | refine vk_ ?_)
              refine dk_ ?_
              refine ih1 _ _ _ _ _ _ _ (by rw [hok];rfl) ⟨⟨?_,?_⟩,?_,fun q q1=>?_⟩
              · dsimp only;exact zBm (q2.1.le (by omega))
              · exact q2.2.le (by (try dsimp only);omega)
              · dsimp only;omega
              · dsimp only;rw [zCv (by omega),f2 q (by omega),zA6 (by omega)];exact pf q q1
          · have k0:((kd:Int) != 16)=true:=by simp;omega
            have hZ:=j6_ hX hP hQ hM hL k0
            repeat (first
             | refine vk_ ?_
             | (refine pe_ (NP) fun _ g=>⟨rfl,?_⟩;(try dsimp only at g)))
            refine W.ret ?_
            simp only [zAb,zA4,zA3,zA8,reduceIte]
            refine no1 (by rw [hok];simp [hk]) _ _ _ _ _ _ _ _ ⟨⟨?_,?_⟩,?_,fun q q1=>?_⟩
            · exact un2_
            · exact hut.le (by (try dsimp only);omega)
            · dsimp only;omega
            · dsimp only;rw [zA6 (by omega)];exact pf q q1
        · have hZ:=j5_ hX hP hQ hM hL
          repeat (first
           | refine vk_ ?_
           | (refine pe_ (NP) fun _ g=>⟨rfl,?_⟩;(try dsimp only at g)))
          refine dk_ ?_
          refine ih1 _ _ _ _ _ _ _ (by rw [hok];rfl) ⟨⟨?_,?_⟩,?_,fun q q1=>?_⟩
          · exact hu.le (by (try dsimp only);omega)
          · exact hut.le (by (try dsimp only);omega)
          · dsimp only;omega
          · exact pf q q1
theorem rvalid_no {a b:BD} {nm:B8} (PM:Pe 28 [schV a b,.str nm] (.tup [.agg [.str [],.nils,.nils],.bool false])) {A:List (B8)} {B:List Bool} {C:List CVal} (eA:A.length≤100) {h:CHeap} (hf:Fit h) {K:KT} (hk:∀ h',PG h h'→K (.bool false) h'):Wc tree.getF 24 [schV a b,.str nm,nodV A B C] h K:=by
 obtain ⟨hu,hut,hX⟩:=fx4 hf
 have NP:=fun s=>@rn_F [] (by simp) s [] .nils ⟨rfl,rfl,rfl,rfl,rfl⟩ (.tup [zPF,.bool false]) (fun k x e=>by simp at e) (fun _=>rfl)
 unfold lV8 zPF at NP
 unfold schV at PM ⊢
 generalize mgV [97,46,73] a=mA at *
 generalize mgV [97,46,77] b=mB at *
 unfold nodV
 obtain ⟨b1,b2,b3,b4,b5⟩:=zCj 1 (B.map CVal.bool)
 obtain ⟨d1,d2,d3,d4,d5⟩:=zCj 3 C
 generalize lst 1 (B.map CVal.bool)=XB at *
 generalize lst 3 C=XC at *
 simp only [CVal.isUndef,CVal.whole,CVal.cells,CVal.strip,CVal.bare] at b1 b2 b3 b4 b5 d1 d2 d3 d4 d5
 have hP:=j10_ b1 b2 b3 b4 b5 d1 d2 d3 d4 d5
 cases A with
 | nil =>
  simp only [List.map_nil,lst]
  have hZ:=j2_ hX hP
  refine mk_ 24 c24 (s_ ?_)
  repeat (first
   | refine vk_ ?_
   | refine W.loop ?_
   | (refine dk_ ?_;refine W.loop ?_)
   | (refine pe_ (PM) fun _ g=>⟨rfl,?_⟩;(try dsimp only at g)))
  refine rk_ ?_
  refine hk _ ⟨⟨?_,?_⟩,?_,fun q q2=>?_⟩
  · dsimp only;exact hu.le (by omega)
  · dsimp only;exact hut.le (by omega)
  · dsimp only;omega
  · rfl
 | cons s0 A0 =>
  have e1:lst 1 ((s0::A0).map CVal.str)=.imm .none 1 (.str s0::A0.map CVal.str):=rfl
  rw [e1]
  generalize A0.map CVal.str=PA at *
  have hlt:(0:Int)<(PA.length:Int)+1:=by omega
  have n4:(CVal.str s0::PA)[0]? = some (.str s0):=rfl
  have hZ:=j4_ hX hP hlt n4
  refine mk_ 24 c24 (s_ ?_)
  repeat (first
   | refine vk_ ?_
   | refine W.loop ?_
   | (refine dk_ ?_;refine W.loop ?_)
   | (refine pe_ (PM) fun _ g=>⟨rfl,?_⟩;(try dsimp only at g))
   | (refine pe_ (NP s0) fun _ g=>⟨rfl,?_⟩;(try dsimp only at g)))
  refine rk_ ?_
  refine hk _ ⟨⟨?_,?_⟩,?_,fun q q2=>?_⟩
  · dsimp only;exact hu.le (by omega)
  · dsimp only;exact hut.le (by omega)
  · dsimp only;omega
  · rfl
theorem zFr {a b cc:BD} {nm:B8} (PM:Pe 28 [schV a b,.str nm] (.tup [mgV nm cc,.bool true])) {A:List (B8)} {B:List Bool} {C:List CVal} (eA:A.length≤100) (eB:B.length=A.length) (eC:C.length=A.length) {ok:Nat→Bool} (hS:∀ k s w c,A[k]? = some s→B[k]? = some w→C[k]? = some c→(Pe 50 [.agg [.str nm,lV8 (zAx cc.rs),oV1 (!cc.os.isEmpty)],.str s] (.tup [zPF,.bool false])∧ok k=false)∨∃ x y1 y2 y3 m,c=.agg [y1,y2,y3]∧PV1 y1∧PV1 y2∧PV1 y3∧Pe 50 [.agg [.str nm,lV8 (zAx cc.rs),oV1 (!cc.os.isEmpty)],.str s] (.tup [RW.pf x,.bool true])∧ok k=(w || (decide (x.lab≤1) && (decide (x.kind=16) && m)))∧(x.kind=16→∀ h:CHeap,Fit h→∀ K:KT,(∀ h',PG h h'→K (.bool m) h')→Wc tree.getF 24 [schV a b,.str x.ty,.agg [y1,y2,y3]] h K)) {R:Bool} (hR:R=(List.range A.length).all ok) {h:CHeap} (hf:Fit h) {K:KT} (hk:∀ h',PG h h'→K (.bool R) h'):Wc tree.getF 24 [schV a b,.str nm,nodV A B C] h K:=by
 obtain ⟨hu,hut,hX⟩:=fx4 hf
 have GO:=@rv_go a b A B C A.length rfl eB eC eA nm (zAx cc.rs) (oV1 (!cc.os.isEmpty)) (oV1P _) ok hS
 clear hS
 unfold mgV at PM
 unfold schV at PM ⊢
 generalize hmA:mgV [97,46,73] a=mA at *
 generalize hmB:mgV [97,46,77] b=mB at *
 have PL:=lV8P (zAx cc.rs)
 have PO:PV1 (oV1 (!cc.os.isEmpty)):=oV1P _
 generalize lV8 (zAx cc.rs)=LS at *
 generalize oV1 (!cc.os.isEmpty)=O at *
 unfold nodV
 obtain ⟨e1,e2,e3,e4,e5⟩:=PL
 obtain ⟨f1,f2,f3,f4,f5⟩:=PO
 simp only [CVal.isUndef,CVal.whole,CVal.cells,CVal.strip,CVal.bare] at e1 e2 e3 e4 e5 f1 f2 f3 f4 f5
 cases hA0:A with
 | nil =>
  subst hA0
  obtain rfl:B=[]:=List.length_eq_zero_iff.1 eB
  obtain rfl:C=[]:=List.length_eq_zero_iff.1 eC
  have e0:(List.range ([]:List (B8)).length).all ok=true:=rfl
  rw [e0] at hR
  subst hR
  simp only [List.map_nil,lst]
  have hP:=j10_ e1 e2 e3 e4 e5 f1 f2 f3 f4 f5
  have hZ:=j2_ hX hP
  refine mk_ 24 c24 (s_ ?_)
  repeat (first
   | refine vk_ ?_
   | refine W.loop ?_
   | (refine dk_ ?_;refine W.loop ?_)
   | (refine pe_ (PM) fun _ g=>⟨rfl,?_⟩;(try dsimp only at g)))
  refine rk_ ?_
  refine hk _ ⟨⟨?_,?_⟩,?_,fun q q2=>?_⟩
  · dsimp only;exact hu.le (by omega)
  · dsimp only;exact hut.le (by omega)
  · dsimp only;omega
  · rfl
 | cons s0 A0 =>
  rw [← hA0]
  have hp:0<A.length:=by rw [hA0];simp
  clear hA0
  have lA:(A.map CVal.str).length=A.length:=List.length_map ..
  have hL0:¬ (A.length:Int)=0:=by omega
  rw [zDo (by rw [List.length_map];omega),zDo (by rw [List.length_map];omega),zDo (by omega)]
  have hP:=j12_ e1 e2 e3 e4 e5 f1 f2 f3 f4 f5 lA hL0
  have hZ:=j2_ hX hP
  refine mk_ 24 c24 (s_ ?_)
  skip
  repeat ((fail_if_success (show W tree.getF rvL _ _));first
   | refine st_ rfl ?_
   | ((first | refine W.regG ?_ | refine WoR.go ?_);generalize e:goR .. = r;simp (disch:=omega) [hZ] at e;replace e:some _=_:=e;subst e;(try dsimp only [goW]))
   | refine W.loop ?_
   | (refine dk_ ?_;refine W.loop ?_)
   | (simp only [zAb,zA4,zA3,zA5,zA8,reduceIte])
   | (refine pe_ (PM) fun _ g=>⟨rfl,?_⟩;(try dsimp only at g)))
  rename_i xl
  have u3:Fit ⟨(h.next+3+1+1+1+1+1+1,CObj.cells [.str nm,LS,O])::(h.next+1,CObj.cells [.imm .none 1 (A.map CVal.str),.imm .none 1 (B.map CVal.bool),.imm .none 3 C])::(h.next,CObj.cells [.imm .none 3 [mA,mB],.imm .none 2 [.agg [.str [97,46,69],.imm .none 2 [.agg [.str [65],.int .i64 0],.agg [.str [66],.int .i64 1],.agg [.str [67],.int .i64 (-1)]]]]])::h.ents,xl+1,h.tys⟩:=ft_
  refine GO (hb:=⟨_,_,_⟩) u3 (by dsimp only;simp (disch:=omega) [zA1]) (by dsimp only;simp (disch:=omega) [zA1]) (by dsimp only;simp (disch:=omega) [zA1]) ?_ ?_ A.length 0 _ _ _ _ _ _ _ (by omega) (fun j a=>by omega) ⟨u3,Nat.le_refl _,fun _ _=>rfl⟩
  · intro hy v6 v8 v9 v10 v11 v12 hh P2
    obtain rfl:R=true:=by rw [hR];exact zJh hy
    have g2:=P2.fit
    have m2:=P2.nx
    have q2:=P2.fr
    obtain ⟨E,nx,ty⟩:=hh
    dsimp only at m2 q2
    clear hu hut hX hZ
    obtain ⟨hu,hut,hX⟩:=fx4 g2
    dsimp only at hu hut hX
    have hZ:=j2_ hX hP
    repeat (first
     | refine vk_ ?_)
    refine rk_ ?_
    refine hk _ ⟨⟨?_,?_⟩,?_,fun q q3=>?_⟩
    · dsimp only;exact zB0 (hu.le (by omega))
    · dsimp only;exact hut.le (by omega)
    · dsimp only;omega
    · dsimp only
      rw [zDa q3,q2 q (by omega),zA6 (by omega),zA6 (by omega),zA6 (by omega)]
  · intro k hkl hn v4 v6 v8 v9 v10 v11 v12 hh P2
    obtain rfl:R=false:=by rw [hR];exact zJm hkl hn
    have g2:=P2.fit
    have m2:=P2.nx
    have q2:=P2.fr
    obtain ⟨E,nx,ty⟩:=hh
    dsimp only at m2 q2
    clear hu hut hX hZ
    obtain ⟨hu,hut,hX⟩:=fx4 g2
    dsimp only at hu hut hX
    have hZ:=j2_ hX hP
    repeat (first
     | refine vk_ ?_)
    refine rk_ ?_
    refine hk _ ⟨⟨?_,?_⟩,?_,fun q q3=>?_⟩
    · dsimp only;exact zB0 (hu.le (by omega))
    · dsimp only;exact hut.le (by omega)
    · dsimp only;omega
    · dsimp only
      rw [zDa q3,q2 q (by omega),zA6 (by omega),zA6 (by omega),zA6 (by omega)]
theorem rvalid_C {a b:BD} (ha:a.ok 4) (hb:b.ok 7):∀ (n:Nat) (t:MW n),wfW n t→mayB n t=true→∀ nm,∀ h:CHeap,Fit h→∀ K:KT,(∀ h',PG h h'→K (.bool (vB a b n t nm)) h')→Wc tree.getF 24 [schV a b,.str nm,mwV n t] h K:=by
 have la:=BD.rs_le ha (by omega)
 have lb:=BD.rs_le hb (by omega)
 intro n
 induction n with
 | zero =>
  intro t _ _ nm h hf K hk
  unfold vB msgO at hk
  by_cases i1:nm=[97,46,73]
  · subst i1
    exact zFr (A:=[]) (B:=[]) (C:=[]) rm_I (by simp) rfl rfl (ok:=fun _=>true) (fun k s w c e=>by simp at e) (R:=true) rfl hf (by simpa using hk)
  · by_cases i2:nm=[97,46,77]
    · subst i2
      exact zFr (A:=[]) (B:=[]) (C:=[]) rm_M (by simp) rfl rfl (ok:=fun _=>true) (fun k s w c e=>by simp at e) (R:=true) rfl hf (by simpa using hk)
    · rw [if_neg i1,if_neg i2] at hk
      exact rvalid_no (A:=[]) (B:=[]) (C:=[]) (rm_no i1 i2) (by simp) hf (by simpa using hk)
 | succ n ih =>
  intro t hw hm nm h hf K hk
  obtain ⟨w1,w2,w3,w4,w5⟩:=id hw
  obtain ⟨m1,m2,m3⟩:=may_len hm
  have IH:=fun (k:Nat) u (e:t.2.2[k]? = some u)=>ih u (w5 u (List.mem_of_getElem? e)) (m3 k u e)
  unfold vB msgO at hk
  have m2':(t.2.2.map (mwV n)).length=t.1.length:=by rw [List.length_map];exact m2
  show Wc tree.getF 24 [schV a b,.str nm,nodV t.1 t.2.1 (t.2.2.map (mwV n))] h K
  by_cases i1:nm=[97,46,73]
  · subst i1
    exact zFr rm_I (by omega) m1 m2' (hs_F ha (by omega) hw (fun h1 h2=>rn_F (by rw [zCk];exact la) (oV1P _) h1 h2) IH) rfl hf (by simpa using hk)
  · by_cases i2:nm=[97,46,77]
    · subst i2
      exact zFr rm_M (by omega) m1 m2' (hs_F hb (by omega) hw (fun h1 h2=>rn_F (by rw [zCk];exact lb) (oV1P _) h1 h2) IH) rfl hf (by simpa using hk)
    · rw [if_neg i1,if_neg i2] at hk
      exact rvalid_no (rm_no i1 i2) (by omega) hf (by simpa using hk)
theorem May_F (n:Nat) (hn:n<10) (t:MW n) (ht:wfW n t):Pe 9 [mwV n t] (.bool (mayB n t)):=by
 intro h hf K hk
 obtain ⟨hu,hut,hX⟩:=fx4 hf
 have MC:=may_C n t ht 0 (by omega) (by omega)
 obtain ⟨x,y,z,p,q,r,ev,hx,hy,hz,_⟩:=zG5 n t ht
 rw [ev] at MC ⊢
 obtain ⟨⟨a1,a2,a3,a4,a5⟩,a6,a7⟩:=hx
 obtain ⟨⟨b1,b2,b3,b4,b5⟩,b6,b7⟩:=hy
 obtain ⟨⟨d1,d2,d3,d4,d5⟩,d6,d7⟩:=hz
 simp only [CVal.isUndef,CVal.whole,CVal.cells,CVal.strip,CVal.bare] at a1 a2 a3 a4 a5 b1 b2 b3 b4 b5 d1 d2 d3 d4 d5
 have hP:=j15_ a1 a2 a3 a4 a5 b1 b2 b3 b4 b5 d1 d2 d3 d4 d5
 have hZ:=j2_ hX hP
 refine mk_ 9 c9 (s_ ?_)
 repeat (first
  | refine vk_ ?_
  | (refine pe_ (MC) fun _ g=>⟨rfl,?_⟩;(try dsimp only at g)))
 refine rk_ ?_
 refine hk _ ?_;exact om_
theorem rMay_F (n:Nat) (hn:n<10) (t:MW n) (ht:wfW n t):Pe 10 [mwV n t] (.bool (mayB n t)):=by
 intro h hf K hk
 obtain ⟨hu,hut,hX⟩:=fx4 hf
 have MC:=rmay_C n t ht 1 (by omega) (by omega)
 obtain ⟨x,y,z,p,q,r,ev,hx,hy,hz,_⟩:=zG5 n t ht
 rw [ev] at MC ⊢
 obtain ⟨⟨a1,a2,a3,a4,a5⟩,a6,a7⟩:=hx
 obtain ⟨⟨b1,b2,b3,b4,b5⟩,b6,b7⟩:=hy
 obtain ⟨⟨d1,d2,d3,d4,d5⟩,d6,d7⟩:=hz
 simp only [CVal.isUndef,CVal.whole,CVal.cells,CVal.strip,CVal.bare] at a1 a2 a3 a4 a5 b1 b2 b3 b4 b5 d1 d2 d3 d4 d5
 have hP:=j15_ a1 a2 a3 a4 a5 b1 b2 b3 b4 b5 d1 d2 d3 d4 d5
 have hZ:=j2_ hX hP
 refine mk_ 10 c10 (s_ ?_)
 repeat (first
  | refine vk_ ?_
  | (refine pe_ (MC) fun _ g=>⟨rfl,?_⟩;(try dsimp only at g)))
 refine rk_ ?_
 refine hk _ ?_;exact om_
theorem Valid_F {a b:BD} (ha:a.ok 4) (hb:b.ok 7) (n:Nat) (hn:n<10) (t:MW n) (ht:wfW n t) (nm:B8) {h:CHeap} (hf:Fit h) {K:KT} (hk:∀ h',PG h h'→K (.bool (mayB n t && vB a b n t nm)) h'):Wc tree.getF 11 [schV a b,.str nm,mwV n t] h K:=by
 obtain ⟨hu,hut,hX⟩:=fx4 hf
 have MC:=May_F n hn t ht
 have VC:=fun e=>valid_C ha hb n t ht e nm
 obtain ⟨x,y,z,p,q,r,ev,hx,hy,hz,_⟩:=zG5 n t ht
 rw [ev] at MC VC ⊢
 generalize vB a b n t nm=v at *
 generalize mayB n t=u at *
 unfold schV at VC ⊢
 generalize mgV [97,46,73] a=mA at *
 generalize mgV [97,46,77] b=mB at *
 obtain ⟨⟨a1,a2,a3,a4,a5⟩,a6,a7⟩:=hx
 obtain ⟨⟨b1,b2,b3,b4,b5⟩,b6,b7⟩:=hy
 obtain ⟨⟨d1,d2,d3,d4,d5⟩,d6,d7⟩:=hz
 simp only [CVal.isUndef,CVal.whole,CVal.cells,CVal.strip,CVal.bare] at a1 a2 a3 a4 a5 b1 b2 b3 b4 b5 d1 d2 d3 d4 d5
 have hP:=j15_ a1 a2 a3 a4 a5 b1 b2 b3 b4 b5 d1 d2 d3 d4 d5
 have hZ:=j2_ hX hP
 cases u
 · refine mk_ 11 c11 (s_ ?_)
   repeat (first
    | refine vk_ ?_
    | (refine pe_ (MC) fun _ g=>⟨rfl,?_⟩;(try dsimp only at g)))
   refine rk_ ?_
   refine hk _ ⟨⟨?_,?_⟩,?_,fun q q2=>?_⟩
   · dsimp only;exact hu.le (by omega)
   · dsimp only;exact hut.le (by omega)
   · dsimp only;omega
   · rfl
 · refine mk_ 11 c11 (s_ ?_)
   repeat (first
    | refine vk_ ?_
    | (refine pe_ (MC) fun _ g=>⟨rfl,?_⟩;(try dsimp only at g)))
   refine VC rfl ⟨_,_,_⟩ ft_ _ fun h2 P2=>⟨rfl,?_⟩
   have g2:=P2.fit
   have m2:=P2.nx
   have q2:=P2.fr
   dsimp only at m2 q2
   clear hu hut hX hZ
   obtain ⟨hu,hut,hX⟩:=fx4 g2
   have hZ:=j2_ hX hP
   repeat (first
    | refine vk_ ?_)
   refine rk_ ?_
   refine hk _ ⟨⟨?_,?_⟩,?_,fun q q3=>?_⟩
   · dsimp only;exact zB0 (hu.le (by omega))
   · dsimp only;exact hut.le (by omega)
   · dsimp only;omega
   · dsimp only
     rw [zDa q3,q2 q (by omega),zA6 (by omega),zA6 (by omega)]
theorem rValid_F {a b:BD} (ha:a.ok 4) (hb:b.ok 7) (n:Nat) (hn:n<10) (t:MW n) (ht:wfW n t) (nm:B8) {h:CHeap} (hf:Fit h) {K:KT} (hk:∀ h',PG h h'→K (.bool (mayB n t && vB a b n t nm)) h'):Wc tree.getF 12 [schV a b,.str nm,mwV n t] h K:=by
 obtain ⟨hu,hut,hX⟩:=fx4 hf
 have MC:=rMay_F n hn t ht
 have VC:=fun e=>rvalid_C ha hb n t ht e nm
 obtain ⟨x,y,z,p,q,r,ev,hx,hy,hz,_⟩:=zG5 n t ht
 rw [ev] at MC VC ⊢
 generalize vB a b n t nm=v at *
 generalize mayB n t=u at *
 unfold schV at VC ⊢
 generalize mgV [97,46,73] a=mA at *
 generalize mgV [97,46,77] b=mB at *
 obtain ⟨⟨a1,a2,a3,a4,a5⟩,a6,a7⟩:=hx
 obtain ⟨⟨b1,b2,b3,b4,b5⟩,b6,b7⟩:=hy
 obtain ⟨⟨d1,d2,d3,d4,d5⟩,d6,d7⟩:=hz
 simp only [CVal.isUndef,CVal.whole,CVal.cells,CVal.strip,CVal.bare] at a1 a2 a3 a4 a5 b1 b2 b3 b4 b5 d1 d2 d3 d4 d5
 have hP:=j15_ a1 a2 a3 a4 a5 b1 b2 b3 b4 b5 d1 d2 d3 d4 d5
 have hZ:=j2_ hX hP
 cases u
 · refine mk_ 12 c12 (s_ ?_)
   repeat (first
    | refine vk_ ?_
    | (refine pe_ (MC) fun _ g=>⟨rfl,?_⟩;(try dsimp only at g)))
   refine rk_ ?_
   refine hk _ ⟨⟨?_,?_⟩,?_,fun q q2=>?_⟩
   · dsimp only;exact hu.le (by omega)
   · dsimp only;exact hut.le (by omega)
   · dsimp only;omega
   · rfl
 · refine mk_ 12 c12 (s_ ?_)
   repeat (first
    | refine vk_ ?_
    | (refine pe_ (MC) fun _ g=>⟨rfl,?_⟩;(try dsimp only at g)))
   refine VC rfl ⟨_,_,_⟩ ft_ _ fun h2 P2=>⟨rfl,?_⟩
   have g2:=P2.fit
   have m2:=P2.nx
   have q2:=P2.fr
   dsimp only at m2 q2
   clear hu hut hX hZ
   obtain ⟨hu,hut,hX⟩:=fx4 g2
   have hZ:=j2_ hX hP
   repeat (first
    | refine vk_ ?_)
   refine rk_ ?_
   refine hk _ ⟨⟨?_,?_⟩,?_,fun q q3=>?_⟩
   · dsimp only;exact zB0 (hu.le (by omega))
   · dsimp only;exact hut.le (by omega)
   · dsimp only;omega
   · dsimp only
     rw [zDa q3,q2 q (by omega),zA6 (by omega),zA6 (by omega)]
structure AP (E:EE) (nx b3:Nat) (c:CObj) (k:Nat) (F:CVal) (xs:List CVal) (fi fi':Option Nat) (E':EE) (n':Nat):Prop where
 un:Under E' n'
 g:zA1 E' b3=some c
 f:FL k E' F xs fi'
 ne:∀ q,fi'=some q→fi=some q∨nx≤q
 fr:∀ q,q≠b3→fi≠some q→q<nx→zA1 E' q=zA1 E q
theorem AP.mk0 {E:EE} {nx b3 id n' k:Nat} {o c:CObj} {x:CVal} (hu:Under E nx) (hg:zA1 E b3=some o) (h1:nx≤id) (h2:id<n'):AP E nx b3 c k (.imm (.own id 0) k [x]) [x] none (some id) ((id,.tok 0)::zA2 E b3 c) n' where
 un:=Under.cons h2 (hu.set.le (by omega))
 g:=by have:=zA7 hu hg;rw [zA6 (by omega),zA9 hg]
 f:=.inr ⟨id,0,rfl,by simp,by simp [zA1],rfl⟩
 ne:=fun q e=>by cases e;exact .inr h1
 fr:=fun q q1 _ q3=>by rw [zA6 (by omega),zA0 q1]
theorem AP.mk1 {E:EE} {nx b3 i u n' k:Nat} {o c:CObj} {x:CVal} {xs:List CVal} (hu:Under E nx) (hg:zA1 E b3=some o) (hi:zA1 E i=some (.tok u)) (hne:i≠b3) (h2:nx≤n'):AP E nx b3 c k (.imm (.own i (u+1)) k (xs++[x])) (xs++[x]) (some i) (some i) (zA2 (zA2 E i (.tok (u+1))) b3 c) n' where
 un:=hu.set.set.le h2
 g:=zA9 (by rw [zA0 (Ne.symm hne)];exact hg)
 f:=.inr ⟨i,u+1,rfl,by simp,by rw [zA0 hne,zA9 hi],rfl⟩
 ne:=fun q e=>.inl e
 fr:=fun q q1 q2 _=>by rw [zA0 q1,zA0 (fun e=>q2 (by rw [e]))]
structure WJ (n:Nat) (hb:CHeap) (b3:Nat) (A:List (B8)) (B:List Bool) (C:List (MW n)) (FA FB FC:CVal) (ia ib ic:Option Nat) (E:EE) (nx:Nat):Prop where
 un:Under E nx
 nx:hb.next≤nx
 bb:b3<hb.next
 gm:zA1 E b3=some (.cells [FA,FB,FC])
 fa:FL 1 E FA (A.map CVal.str) ia
 fb:FL 1 E FB (B.map CVal.bool) ib
 fc:FL 3 E FC (C.map (mwV n)) ic
 da:∀ q,ia=some q→hb.next≤q∧ib≠some q∧ic≠some q
 db:∀ q,ib=some q→hb.next≤q∧ic≠some q
 dc:∀ q,ic=some q→hb.next≤q
 fr:∀ q,q<hb.next→q≠b3→zA1 E q=zA1 hb.ents q
theorem FL.lt {k:Nat} {e:EE} {F:CVal} {xs:List CVal} {fi:Option Nat} {nx:Nat} (H:FL k e F xs fi) (hu:Under e nx):∀ q,fi=some q→q<nx:=fun q e1=>by
 rcases H with ⟨_,_,e2⟩ | ⟨i,u,_,_,h,e2⟩
 · rw [e2] at e1;cases e1
 · rw [e2] at e1;cases e1;exact zA7 hu h
section
variable {n:Nat} {hb:CHeap} {b3:Nat} {A:List (B8)} {B:List Bool} {C:List (MW n)} {FA FB FC F':CVal} {ia ib ic i':Option Nat} {E E':EE} {nx n':Nat}
theorem WJ.apA (J:WJ n hb b3 A B C FA FB FC ia ib ic E nx) {s:B8} (P:AP E nx b3 (.cells [F',FB,FC]) 1 F' (A.map CVal.str++[.str s]) ia i' E' n') (hn:nx≤n'):WJ n hb b3 (A++[s]) B C F' FB FC i' ib ic E' n' where
 un:=P.un
 nx:=by have:=J.nx;omega
 bb:=J.bb
 gm:=P.g
 fa:=by rw [List.map_append];exact P.f
 fb:=J.fb.keep fun q w e1 e2=>by
  have h1:=(J.db q e1).1
  have h2:=J.bb
  rw [P.fr q (by omega) (fun e=>(J.da q e).2.1 e1) (zA7 J.un e2)];exact e2
 fc:=J.fc.keep fun q w e1 e2=>by
  have h1:=J.dc q e1
  have h2:=J.bb
  rw [P.fr q (by omega) (fun e=>(J.da q e).2.2 e1) (zA7 J.un e2)];exact e2
 da:=fun q e=>by
  rcases P.ne q e with h | h
  · exact J.da q h
  · exact ⟨by have:=J.nx;omega,fun e2=>by have:=J.fb.lt J.un q e2;omega,fun e2=>by have:=J.fc.lt J.un q e2;omega⟩
 db:=J.db
 dc:=J.dc
 fr:=fun q q1 q2=>by rw [P.fr q q2 (fun e=>by have:=(J.da q e).1;omega) (by have:=J.nx;omega)];exact J.fr q q1 q2
theorem WJ.apB (J:WJ n hb b3 A B C FA FB FC ia ib ic E nx) {s:Bool} (P:AP E nx b3 (.cells [FA,F',FC]) 1 F' (B.map CVal.bool++[.bool s]) ib i' E' n') (hn:nx≤n'):WJ n hb b3 A (B++[s]) C FA F' FC ia i' ic E' n' where
 un:=P.un
 nx:=by have:=J.nx;omega
 bb:=J.bb
 gm:=P.g
 fb:=by rw [List.map_append];exact P.f
 fa:=J.fa.keep fun q w e1 e2=>by
  have h1:=(J.da q e1).1
  have h2:=J.bb
  rw [P.fr q (by omega) ((J.da q e1).2.1) (zA7 J.un e2)];exact e2
 fc:=J.fc.keep fun q w e1 e2=>by
  have h1:=J.dc q e1
  have h2:=J.bb
  rw [P.fr q (by omega) (fun e=>(J.db q e).2 e1) (zA7 J.un e2)];exact e2
 da:=fun q e=>⟨(J.da q e).1,fun e2=>by
  rcases P.ne q e2 with h | h
  · exact (J.da q e).2.1 h
  · have:=J.fa.lt J.un q e;omega,(J.da q e).2.2⟩
 db:=fun q e=>by
  rcases P.ne q e with h | h
  · exact J.db q h
  · exact ⟨by have:=J.nx;omega,fun e2=>by have:=J.fc.lt J.un q e2;omega⟩
 dc:=J.dc
 fr:=fun q q1 q2=>by rw [P.fr q q2 (fun e=>by have:=(J.db q e).1;omega) (by have:=J.nx;omega)];exact J.fr q q1 q2
theorem WJ.apC (J:WJ n hb b3 A B C FA FB FC ia ib ic E nx) {s:MW n} (P:AP E nx b3 (.cells [FA,FB,F']) 3 F' (C.map (mwV n)++[mwV n s]) ic i' E' n') (hn:nx≤n'):WJ n hb b3 A B (C++[s]) FA FB F' ia ib i' E' n' where
 un:=P.un
 nx:=by have:=J.nx;omega
 bb:=J.bb
 gm:=P.g
 fc:=by rw [List.map_append];exact P.f
 fa:=J.fa.keep fun q w e1 e2=>by
  have h1:=(J.da q e1).1
  have h2:=J.bb
  rw [P.fr q (by omega) ((J.da q e1).2.2) (zA7 J.un e2)];exact e2
 fb:=J.fb.keep fun q w e1 e2=>by
  have h1:=(J.db q e1).1
  have h2:=J.bb
  rw [P.fr q (by omega) ((J.db q e1).2) (zA7 J.un e2)];exact e2
 da:=fun q e=>⟨(J.da q e).1,(J.da q e).2.1,fun e2=>by
  rcases P.ne q e2 with h | h
  · exact (J.da q e).2.2 h
  · have:=J.fa.lt J.un q e;omega⟩
 db:=fun q e=>⟨(J.db q e).1,fun e2=>by
  rcases P.ne q e2 with h | h
  · exact (J.db q e).2 h
  · have:=J.fb.lt J.un q e;omega⟩
 dc:=fun q e=>by
  rcases P.ne q e with h | h
  · exact J.dc q h
  · have:=J.nx;omega
 fr:=fun q q1 q2=>by rw [P.fr q q2 (fun e=>by have:=J.dc q e;omega) (by have:=J.nx;omega)];exact J.fr q q1 q2
theorem WJ.mono (J:WJ n hb b3 A B C FA FB FC ia ib ic E nx) (hu:Under E' n') (hn:nx≤n') (hf:∀ q,q<nx→zA1 E' q=zA1 E q):WJ n hb b3 A B C FA FB FC ia ib ic E' n' where
 un:=hu
 nx:=by have:=J.nx;omega
 bb:=J.bb
 gm:=by rw [hf b3 (by have:=J.nx;have:=J.bb;omega)];exact J.gm
 fa:=J.fa.keep fun q w _ e=>by rw [hf q (zA7 J.un e)];exact e
 fb:=J.fb.keep fun q w _ e=>by rw [hf q (zA7 J.un e)];exact e
 fc:=J.fc.keep fun q w _ e=>by rw [hf q (zA7 J.un e)];exact e
 da:=J.da
 db:=J.db
 dc:=J.dc
 fr:=fun q q1 q2=>by rw [hf q (by have:=J.nx;omega)];exact J.fr q q1 q2
theorem WJ.drop (J:WJ n hb b3 A B C FA FB FC ia ib ic E nx) {m:Nat} (hm:hb.next≤m) (hn:nx≤n'):WJ n hb b3 A B C FA FB FC ia ib ic (zAa E m) n' where
 un:=(zBm J.un).le hn
 nx:=by have:=J.nx;omega
 bb:=J.bb
 gm:=by rw [zCv (by have:=J.bb;omega)];exact J.gm
 fa:=J.fa.keep fun q w _ e=>zJ8 e
 fb:=J.fb.keep fun q w _ e=>zJ8 e
 fc:=J.fc.keep fun q w _ e=>zJ8 e
 da:=J.da
 db:=J.db
 dc:=J.dc
 fr:=fun q q1 q2=>by rw [zCv (by omega)];exact J.fr q q1 q2
end
theorem FL.lst {k:Nat} {e:EE} {F:CVal} {xs:List CVal} {fi:Option Nat} (H:FL k e F xs fi):F.strip=lst k xs∧F.isUndef=false∧F.whole=true∧F.cells=[F]:=by
 rcases H with ⟨rfl,rfl,_⟩ | ⟨i,u,rfl,h,_,_⟩
 · exact ⟨rfl,rfl,rfl,rfl⟩
 · cases xs with
   | nil=>exact absurd rfl h
   | cons=>exact ⟨rfl,rfl,rfl,rfl⟩
theorem emW_wf:∀ n,wfW n (emW n)
 | 0=>trivial
 | _+1=>⟨fun _ h=>absurd h List.not_mem_nil,Nat.zero_le _,Nat.zero_le _,Nat.zero_le _,fun _ h=>absurd h List.not_mem_nil⟩
theorem kut {P G:Prop} (h:P→G) (hp:P):G:=h hp
theorem nm_at (j:Nat) (h:j<8):∃ s,s ∈ nm8∧nth [.str [97],.str [98],.str [102,49],.str [102,50],.str [111,49,48,49],.str [],.str [57],.str [65]] j=.str s∧([.str [97],.str [98],.str [102,49],.str [102,50],.str [111,49,48,49],.str [],.str [57],.str [65]]:List CVal)[j]? = some (.str s):=by
 have:j=0∨j=1∨j=2∨j=3∨j=4∨j=5∨j=6∨j=7:=by omega
 rcases this with rfl | rfl | rfl | rfl | rfl | rfl | rfl | rfl <;> exact ⟨_,by simp [nm8],rfl,rfl⟩
abbrev wiL:CCode:=(.loop true (.seq (.seq (.R [.v 0,.v 1,.j 0,.h .lss 2 0,.m (.loc 0),.Q (.v 0) 0 true,.Q (.x .lss 0 (.k 4)) 1 true,.p 2 0] [(2,7)]) (.cond (.var 2) .skip (.exit 0))) (.seq (.block 1 (.seq (.R [.k 0 3,.l 0,.v 4,.v 1,.v 0,.i 1 1 0,.l 0,.x .rem 0 (.u 8),.i 1 5 0,.l 0,.g (.lit .imm false [(.str [])] 1 [(0,(.loc 0))]),.d 0 1 9 0,.k 0 3,.s 1 0 1] []) (.seq (.seq (.R [.v 1,.v 0,.i 1 1 0,.l 0,.x .lss 0 (.u 250)] [(5,4)]) (.cond (.var 5) (.R [.k 1 3,.l 0,.v 1,.v 0,.i 1 1 0,.l 0,.x .quo 0 (.u 8),.x .rem 0 (.u 3),.x .gtr 0 (.u 0),.g (.lit .imm false [(.bool false)] 1 [(0,(.loc 0))]),.d 0 1 8 0,.k 1 3,.s 1 0 1] []) .skip)) (.seq (.R [.g (.build [.nils,.nils,.nils] []),.o 38797315,.u 3 0 1] [(8,1)]) (.seq (.seq (.R [.v 1,.v 0,.i 1 1 0,.l 0,.x .quo 0 (.u 8),.x .rem 0 (.u 3),.x .eql 0 (.u 0),.m (.loc 0),.Q (.v 6) 0 true,.Q (.x .lss 0 (.k 3)) 1 true,.p 2 0] [(7,10)]) (.cond (.var 7) (.R [.v 1,.v 0,.x .add 0 (.k 1),.g (.slc 1 (.loc 2) (some (.loc 0)) none),.v 6,.x .add 0 (.k 1),.c 8 [(.loc 2),(.loc 0)],.t 3 8 0] []) .skip)) (.R [.k 2 3,.l 0,.y 3 8,.g (.lit .imm true [.nils,.nils,.nils] 1 [(0,(.loc 0))]),.d 0 3 2 0,.k 2 3,.s 1 0 1] [])))))) (.R [.v 0,.x .add 0 (.k 1),.m (.loc 0)] [(0,2)]))))
theorem w_ap0 {T:Nat→Option CFn} {code:CCode} {tm:List CVal} {ty:NN} {Q:QT} {E:EE} {nx b3 id n1 k:Nat} {o:CObj} {cs:List CVal} {x:CVal} (hu:Under E nx) (hg:zA1 E b3=some o) (h1:nx≤id) (h2:id<n1) (H:∀ E1,AP E nx b3 (.cells cs) k (.imm (.own id 0) k [x]) [x] none (some id) E1 n1→W T code ⟨tm,⟨E1,n1,ty⟩,[]⟩ Q):W T code ⟨tm,⟨(id,.tok 0)::zA2 E b3 (.cells cs),n1,ty⟩,[]⟩ Q:=H _ (AP.mk0 hu hg h1 h2)
theorem w_ap1 {T:Nat→Option CFn} {code:CCode} {tm:List CVal} {ty:NN} {Q:QT} {E:EE} {nx b3 i u n1 k:Nat} {o:CObj} {cs:List CVal} {x:CVal} {xs:List CVal} (hu:Under E nx) (hg:zA1 E b3=some o) (hi:zA1 E i=some (.tok u)) (hne:i≠b3) (h2:nx≤n1) (H:∀ E1,AP E nx b3 (.cells cs) k (.imm (.own i (u+1)) k (xs++[x])) (xs++[x]) (some i) (some i) E1 n1→W T code ⟨tm,⟨E1,n1,ty⟩,[]⟩ Q):W T code ⟨tm,⟨zA2 (zA2 E i (.tok (u+1))) b3 (.cells cs),n1,ty⟩,[]⟩ Q:=H _ (AP.mk1 hu hg hi hne h2)
theorem wi_go {n:Nat} {d:Int} (hd0:0≤d) (hdn:d+n=3) {xs:List Int} (hxs:xs.length≤120) (hw:∀ x ∈ xs,0≤x∧x<256) {tg:Tag} {b3 r9:Nat} {hb:CHeap} (hbb:b3<hb.next) (hr9:r9<hb.next) (hbr:b3≠r9)
    (WC:0<n→∀ (xs:List Int) (Lv:CVal) (d:Int),Lv=.nils∧xs=[]∨Lv=.imm .none 1 (xs.map (CVal.int .u8))→xs.length≤120→(∀ x ∈ xs,0≤x∧x<256)→d+n=4→0≤d→∀ h:CHeap,Fit h→∀ K:KT,(∀ t h',wfW n t→PG h h'→K (mwV n t) h')→Wc tree.getF 8 [Lv,.int .i64 d] h K) {Lv:CVal} (hLv:Lv=.imm .none 1 (xs.map (CVal.int .u8)))
    {A:List (B8)} {B:List Bool} {C:List (MW n)} {FA FB FC:CVal} {ia ib ic:Option Nat} {E:EE} {nx:Nat} {ty:NN} (J:WJ n hb b3 A B C FA FB FC ia ib ic E nx) (hut:zAd ty nx) {k:Nat} (hk4:k<4) (hkl:k<xs.length) (hA:A.length=k) (hC:C.length=k) (hB:B.length≤k) (okA:∀ s ∈ A,s ∈ nm8) (okC:∀ t ∈ C,wfW n t) {v2 v5 v7 v8:CVal} {Q:QT}
    (hk:∀ (A':List (B8)) (B':List Bool) (C':List (MW n)) (FA FB FC:CVal) (ia ib ic:Option Nat) (E':EE) (nx':Nat) (ty':NN) (v2 v5 v7 v8:CVal),WJ n hb b3 A' B' C' FA FB FC ia ib ic E' nx'→zAd ty' nx'→A'.length=k+1→C'.length=k+1→B'.length≤k+1→(∀ s ∈ A',s ∈ nm8)→(∀ t ∈ C',wfW n t)→W tree.getF wiL ⟨[.int .i64 ((k:Int)+1),Lv,v2,.ptr b3 38797315 0,.imm tg 1 [.str [97],.str [98],.str [102,49],.str [102,50],.str [111,49,48,49],.str [],.str [57],.str [65]],v5,.int .i64 d,v7,v8,.ptr r9 38797315 0],⟨E',nx',ty'⟩,[]⟩ Q) :
    W tree.getF wiL ⟨[.int .i64 (k:Nat),Lv,v2,.ptr b3 38797315 0,.imm tg 1 [.str [97],.str [98],.str [102,49],.str [102,50],.str [111,49,48,49],.str [],.str [57],.str [65]],v5,.int .i64 d,v7,v8,.ptr r9 38797315 0],⟨E,nx,ty⟩,[]⟩ Q:=by
 have gm:=J.gm
 have fa:=J.fa
 have da:=J.da
 have nx0:=J.nx
 have hu:=J.un
 obtain ⟨_,_,hX⟩:=fx4 (h:=⟨E,nx,ty⟩) ⟨hu,hut⟩
 dsimp only at hX
 obtain ⟨x,hx⟩:∃ x,xs[k]? = some x:=⟨_,List.getElem?_eq_getElem hkl⟩
 have hx0:=hw x (List.mem_of_getElem? hx)
 obtain ⟨j,hj⟩:∃ j:Nat,x.tmod 8=(j:Int):=⟨(x.tmod 8).toNat,by have:=Int.tmod_nonneg 8 hx0.1;omega⟩
 have hj8:j<8:=by have:=Int.tmod_lt_of_pos x (show (0:Int)<8 by omega);omega
 obtain ⟨y,hy⟩:∃ y,(x.tdiv 8).tmod 3=y:=⟨_,rfl⟩
 have hq0:0≤x.tdiv 8:=Int.tdiv_nonneg hx0.1 (by omega)
 have hq1:x.tdiv 8<32:=by
  have:=Int.mul_tdiv_self_le hx0.1 (k:=8);omega
 have hy0:0≤y:=by rw [← hy];exact Int.tmod_nonneg 3 hq0
 have hy3:y<3:=by rw [← hy];exact Int.tmod_lt_of_pos _ (by omega)
 obtain ⟨s,hs8,sn,sn2⟩:=nm_at j hj8
 have xk:nth (xs.map (CVal.int .u8)) k=.int .u8 x:=zAm (CVal.int .u8) xs k x hx
 have xk2:(xs.map (CVal.int .u8))[k]? = some (.int .u8 x):=by rw [List.getElem?_map,hx];rfl
 have lX:(xs.map (CVal.int .u8)).length=xs.length:=List.length_map ..
 have hlt:(k:Int)<(xs.length:Int):=by omega
 have hk4':(k:Int)<4:=by omega
 subst hLv
 have xsd:∀ (x:Int),x ∈ xs.drop (k+1)→0≤x∧x<256:=fun x hx=>hw x (List.mem_of_mem_drop hx)
 generalize hPX:xs.map (CVal.int .u8)=PX at *
 have hsl:List.drop (k+1) (List.take xs.length PX)=(xs.drop (k+1)).map (CVal.int .u8):=by rw [← lX,List.take_length,← hPX,List.map_drop]
 have hP:=j12_ hX gm sn sn2 xk xk2 lX hlt hk4' hj hy hx0.1
 have okA2:∀ q ∈ A++[s],q ∈ nm8:=fun q hq=>by
  rcases List.mem_append.1 hq with h | h
  · exact okA q h
  · obtain rfl:=List.mem_singleton.1 h;exact hs8
 have hwq:IntKind.u8.wrap (x.tdiv 8)=x.tdiv 8:=zH6 hq0 (by omega)
 have hP1:=j10_ sn sn2 xk xk2 lX hlt hk4' hj hy hwq
 refine W.loop ?_
 apply kut (P:=∀ (E1:EE) (FA1:CVal) (ia1:Option Nat),WJ n hb b3 (A++[s]) B C FA1 FB FC ia1 ib ic E1 (nx+8+14+5)→W tree.getF _ ⟨_,⟨E1,nx+8+14+5,ty⟩,[]⟩ _)
 · intro H
   rcases fa with ⟨ef,ea,ei⟩ | ⟨i,u,ef,ne,hi,ei⟩
   · rw [ef] at gm
     have hZ:=j10_ hX gm sn sn2 xk xk2 lX hlt hk4' hj
     repeat (first
      | refine vk_ ?_)
     refine w_ap0 (k:=1) (x:=.str s) hu gm (by omega) (by omega) fun E1 P1=>?_
     exact H _ _ _ (WJ.apA J (s:=s) (by rw [ea,ei];exact P1) (by omega))
   · rw [ef] at gm
     have hne:i≠b3:=by have:=(da i ei).1;omega
     have gs0:∀ z,zA1 (zA2 E i z) b3=zA1 E b3:=fun z=>zA0 (Ne.symm hne)
     have hZ:=j13_ hX gm sn sn2 xk xk2 lX hlt hk4' hj hi hne gs0
     repeat (first
      | refine vk_ ?_)
     refine w_ap1 (k:=1) (x:=.str s) (xs:=A.map CVal.str) hu gm hi hne ?_ fun E1 P1=>?_;omega
     exact H _ _ _ (WJ.apA J (s:=s) (by rw [ei];exact P1) (by omega))
 intro E1 FA1 ia1 J1
 generalize hn1:nx+8+14+5=n1 at *
 have G1:=J1.gm
 have hu1:=J1.un
 have fb1:=J1.fb
 have db1:=J1.db
 apply kut (P:=∀ (E2:EE) (B2:List Bool) (FB2:CVal) (ib2:Option Nat) (n2:Nat) (v:CVal),n1≤n2→B2.length≤k+1→WJ n hb b3 (A++[s]) B2 C FA1 FB2 FC ia1 ib2 ic E2 n2→W tree.getF _ ⟨[.int .i64 (k:Nat),.imm .none 1 PX,.bool true,.ptr b3 38797315 0,.imm tg 1 [.str [97],.str [98],.str [102,49],.str [102,50],.str [111,49,48,49],.str [],.str [57],.str [65]],v,.int .i64 d,v7,v8,.ptr r9 38797315 0],⟨E2,n2,ty⟩,[]⟩ _)
 · intro H
   by_cases h250:x<250
   · rw [show decide (x<250)=true from decide_eq_true h250]
     rcases fb1 with ⟨ef,eb,ei⟩ | ⟨ii,uu,ef,neb,hib,ei⟩
     · rw [ef] at G1
       have hZ:=j4_ hP1 G1 h250 hu1
       repeat (first
        | refine vk_ ?_)
       refine w_ap0 (k:=1) (x:=.bool (decide (0<y))) hu1 G1 ?_ ?_ fun E2 P2=>?_;omega;omega
       refine H _ _ _ _ _ _ ?_ ?_ (WJ.apB J1 (s:=decide (0<y)) (by rw [eb,ei];exact P2) (by omega))
       · omega
       · simp only [List.length_append,List.length_cons,List.length_nil];omega
     · rw [ef] at G1
       have hne2:ii≠b3:=by have:=(db1 ii ei).1;omega
       have gs1:∀ z,zA1 (zA2 E1 ii z) b3=zA1 E1 b3:=fun z=>zA0 (Ne.symm hne2)
       have hZ:=j6_ hP1 G1 h250 hib hne2 gs1
       repeat (first
        | refine vk_ ?_)
       refine w_ap1 (k:=1) (x:=.bool (decide (0<y))) (xs:=B.map CVal.bool) hu1 G1 hib hne2 ?_ fun E2 P2=>?_;omega
       refine H _ _ _ _ _ _ ?_ ?_ (WJ.apB J1 (s:=decide (0<y)) (by rw [ei];exact P2) (by omega))
       · omega
       · simp only [List.length_append,List.length_cons,List.length_nil];omega
   · rw [show decide (x<250)=false from decide_eq_false h250]
     have hZ:=j3_ hP1 G1 h250
     repeat (first
      | refine vk_ ?_)
     exact H _ _ _ _ _ _ (Nat.le_refl _) (by omega) J1
 intro E2 B2 FB2 ib2 n2 vv hn2 hB2 J2
 have hu2:=J2.un
 have G2:=J2.gm
 have bb2:=J2.nx
 have hX2:=(fx4 (h:=⟨E2,_,ty⟩) ⟨hu2,hut.le (by (try dsimp only);omega)⟩)
 dsimp only at hX2
 apply kut (P:=∀ (E3:EE) (t:MW n) (x1 x2 x3 w:CVal) (n3:Nat) (ty3:NN),n2≤n3→zAd ty3 n3→PV1 x1→PV1 x2→PV1 x3→wfW n t→mwV n t=.agg [x1,x2,x3]→zA1 E3 (n2+1)=some (.cells [x1,x2,x3])→WJ n hb b3 (A++[s]) B2 C FA1 FB2 FC ia1 ib2 ic E3 n3→W tree.getF _ ⟨[.int .i64 (k:Nat),.imm .none 1 PX,.bool true,.ptr b3 38797315 0,.imm tg 1 [.str [97],.str [98],.str [102,49],.str [102,50],.str [111,49,48,49],.str [],.str [57],.str [65]],vv,.int .i64 d,w,.ptr (n2+1) 38797315 0,.ptr r9 38797315 0],⟨E3,n3,ty3⟩,[]⟩ _)
 · intro H
   have hu:=hu2
   by_cases hs:y=0∧d<3
   · obtain ⟨hy9,hd3⟩:=hs
     subst hy9
     have hZ:=j4_ hP1 G2 hd3 hX2.2.2
     repeat (first
      | refine vk_ ?_)
     rw [hsl]
     refine WC (by omega) (xs.drop (k+1)) _ (d+1) (.inr rfl) (by rw [List.length_drop];omega) xsd (by omega) (by omega) ⟨_,_,_⟩ ft_ _ fun t h4 wt P4=>?_
     obtain ⟨x1,x2,x3,xa,xb,xc,ev,hx1,hx2,hx3,_⟩:=zG5 n t wt
     rw [ev]
     refine ⟨rfl,?_⟩
     have q4:=P4.fit
     have m4:=P4.nx
     have f4:=P4.fr
     dsimp only at m4 f4
     have r8:=f4 (n2+1) (by omega)
     simp (disch:=omega) [zA1] at r8
     obtain ⟨a1,a2,a3,a4,a5⟩:=hx1.u
     obtain ⟨b1,b2,b3',b4,b5⟩:=hx2.u
     obtain ⟨d1,d2,d3,d4,d5⟩:=hx3.u
     simp only [CVal.isUndef,CVal.whole,CVal.cells,CVal.strip,CVal.bare] at a1 a2 a3 a4 a5 b1 b2 b3' b4 b5 d1 d2 d3 d4 d5
     have hV:=j15_ a1 a2 a3 a4 a5 b1 b2 b3' b4 b5 d1 d2 d3 d4 d5
     have hZ:=j2_ hV r8
     repeat (first
      | refine vk_ ?_)
     exact H _ t _ _ _ _ _ _ (by omega) q4.2 hx1.u hx2.u hx3.u wt ev (zA9 r8) (J2.mono q4.1.set (by omega) (fun q hq=>by rw [zA0 (by omega),f4 q (by omega),zA6 (by omega)]))
   · have NS:∀ w,W tree.getF _ ⟨[.int .i64 (k:Nat),.imm .none 1 PX,.bool true,.ptr b3 38797315 0,.imm tg 1 [.str [97],.str [98],.str [102,49],.str [102,50],.str [111,49,48,49],.str [],.str [57],.str [65]],vv,.int .i64 d,w,.ptr (n2+1) 38797315 0,.ptr r9 38797315 0],⟨(n2+1,.cells [.nils,.nils,.nils])::E2,n2+3+11,ty⟩,[]⟩ _:=fun w=>H ((n2+1,.cells [.nils,.nils,.nils])::E2) (emW n) .nils .nils .nils w (n2+3+11) ty (by omega) (hut.le (by omega)) ⟨rfl,rfl,rfl,rfl,rfl⟩ ⟨rfl,rfl,rfl,rfl,rfl⟩ ⟨rfl,rfl,rfl,rfl,rfl⟩ (emW_wf n) (emW_V n) (by simp [zA1]) (J2.mono un2_ (by omega) (fun q hq=>zA6 (by omega)))
     by_cases hy9:y=0
     · have hd3:(d<3)=False:=by simp only [eq_iff_iff,iff_false];omega
       subst hy9
       have hZ:=j3_ hP1 hX2 hd3
       repeat (first
        | refine vk_ ?_)
       exact NS _
     · have hy8:(y == 0)=false:=by simp [hy9]
       have hy7:(y=0)=False:=by simp [hy9]
       have hZ:=j4_ hP1 hX2 hy8 hy7
       repeat (first
        | refine vk_ ?_)
       exact NS _
 intro E3 t x1 x2 x3 ww n3 ty3 hn3 hut3 hx1 hx2 hx3 wt ev r3 J3
 have G3:=J3.gm
 have fc3:=J3.fc
 have dc3:=J3.dc
 have u3:=J3.un
 obtain ⟨a1,a2,a3,a4,a5⟩:=hx1
 obtain ⟨b1,b2,b3',b4,b5⟩:=hx2
 obtain ⟨d1,d2,d3,d4,d5⟩:=hx3
 simp only [CVal.isUndef,CVal.whole,CVal.cells,CVal.strip,CVal.bare] at a1 a2 a3 a4 a5 b1 b2 b3' b4 b5 d1 d2 d3 d4 d5
 have hV:=j15_ a1 a2 a3 a4 a5 b1 b2 b3' b4 b5 d1 d2 d3 d4 d5
 have okC2:∀ q ∈ C++[t],wfW n q:=fun q hq=>by
  rcases List.mem_append.1 hq with h | h
  · exact okC q h
  · obtain rfl:=List.mem_singleton.1 h;exact wt
 have lA:(A++[s]).length=k+1:=by rw [List.length_append,hA];rfl
 have lC:(C++[t]).length=k+1:=by rw [List.length_append,hC];rfl
 apply kut (P:=∀ (E5:EE) (FC5:CVal) (ic5:Option Nat) (n5:Nat),n3≤n5→WJ n hb b3 (A++[s]) B2 (C++[t]) FA1 FB2 FC5 ia1 ib2 ic5 E5 n5→W tree.getF _ ⟨[.int .i64 (k:Nat),.imm .none 1 PX,.bool true,.ptr b3 38797315 0,.imm tg 1 [.str [97],.str [98],.str [102,49],.str [102,50],.str [111,49,48,49],.str [],.str [57],.str [65]],vv,.int .i64 d,ww,.ptr (n2+1) 38797315 0,.ptr r9 38797315 0],⟨E5,n5,ty3⟩,[]⟩ _)
 · intro H
   rcases fc3 with ⟨ef,ec,ei⟩ | ⟨jc,uc,ef,nec,hjc,ei⟩
   · rw [ef] at G3
     have hZ:=j3_ hV G3 r3
     skip
     repeat ((fail_if_success (show W tree.getF (CCode.region [.v 0,.x .add 0 (.k 1),.m (.loc 0)] [(0,2)] [] []) _ _));first
      | refine st_ rfl ?_
      | ((first | refine W.regG ?_ | refine WoR.go ?_);generalize e:goR .. = r;simp (disch:=omega) [hZ] at e;replace e:some _=_:=e;subst e;(try dsimp only [goW]))
      | (simp only [zAb,zA4,zA3,zA5,zA8,reduceIte]))
     refine w_ap0 (k:=3) (x:=.agg [x1,x2,x3]) u3 G3 ?_ ?_ fun E5 P5=>?_;omega;omega
     rw [← ev] at P5
     exact H _ _ _ _ (by omega) (WJ.apC J3 (s:=t) (by rw [ec,ei];exact P5) (by omega))
   · rw [ef] at G3
     have hne3:jc≠b3:=by have:=dc3 jc ei;have:=J3.bb;omega
     have gs3:∀ z,zA1 (zA2 E3 jc z) b3=zA1 E3 b3:=fun z=>zA0 (Ne.symm hne3)
     have hZ:=j6_ hV G3 r3 hjc hne3 gs3
     skip
     repeat ((fail_if_success (show W tree.getF (CCode.region [.v 0,.x .add 0 (.k 1),.m (.loc 0)] [(0,2)] [] []) _ _));first
      | refine st_ rfl ?_
      | ((first | refine W.regG ?_ | refine WoR.go ?_);generalize e:goR .. = r;simp (disch:=omega) [hZ] at e;replace e:some _=_:=e;subst e;(try dsimp only [goW]))
      | (simp only [zAb,zA4,zA3,zA5,zA8,reduceIte]))
     refine w_ap1 (k:=3) (x:=.agg [x1,x2,x3]) (xs:=C.map (mwV n)) u3 G3 hjc hne3 ?_ fun E5 P5=>?_;omega
     rw [← ev] at P5
     exact H _ _ _ _ (by omega) (WJ.apC J3 (s:=t) (by rw [ei];exact P5) (by omega))
 intro E5 FC5 ic5 n5 hn5 J5
 have hZ:=trivial
 skip
 repeat ((fail_if_success (show W tree.getF wiL _ _));first
  | refine st_ rfl ?_
  | ((first | refine W.regG ?_ | refine WoR.go ?_);generalize e:goR .. = r;simp (disch:=omega) [hZ] at e;replace e:some _=_:=e;subst e;(try dsimp only [goW]))
  | (simp only [zAb,zA4,zA3,zA5,zA8,reduceIte]))
 try refine dk_ ?_
 refine hk _ _ _ _ _ _ _ _ _ _ _ _ _ _ _ _ (J5.drop nx0 ?_) (hut3.le ?_) lA lC hB2 okA2 okC2
 · omega
 · omega
end Go.Proofs.YtcokdlfmnhjngaaGreatDoor.IrW
