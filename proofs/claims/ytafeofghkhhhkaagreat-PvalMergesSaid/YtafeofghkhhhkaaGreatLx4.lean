/- What the functions of the law 'PvalMerges' do: part 4 of 9. -/
import Derived.Test.YtafeofghkhhhkaaGreatLx3
namespace Go.Proofs.YtafeofghkhhhkaaGreat.IrM
open Go Go.CI
set_option maxRecDepth 100000
set_option maxHeartbeats 4000000
set_option linter.unusedVariables false
set_option linter.unusedSimpArgs false
attribute [local irreducible] W Wo Wc WoR
structure PF (h:CHeap) (p:Nat) (Ls:List CVal) (j:Int) (h':CHeap):Prop where
 fit:Fit h'
 nx:h.next<=h'.next
 ty:h'.tys=h.tys
 gp:zA1 h'.ents p=some (pp Ls j)
 fr:∀ q,q<h.next->q≠p->zA1 h'.ents q=zA1 h.ents q
def lV7 (xs:List CVal):CVal:=match xs with | []=>.nils | _::_=>.imm .none 7 xs
def BD.xs (b:BD):List CVal:=b.fs.map FD.v++b.os.map OD.v
def msgV (nmv:B8) (xs:List CVal) (one:Bool):CVal:=.agg [.str nmv,lV7 xs,(if one then .imm .none 1 [.str [99]] else .nils),.nils,.nils,.nils,.nils]
theorem BD.ok.len {b:BD} {n:Nat} (h:b.ok n):b.fs.length+b.os.length<=n:=by obtain ⟨i,hi,B⟩:=h.b;have:=B.l;omega
theorem zSt:∀ {l:EE} {m q:Nat},q<m->zA1 (zB6 l m) q=zA1 l q
 | [],_,_,_=>rfl
 | (i,o)::r,m,q,h=>by
  simp only [zB6]
  split
  . have h1:(i == q)=false:=by simp;omega
    have h2:¬ i=q:=by omega
    simp [zA1,h1,h2,zSt h]
  . by_cases hq:i=q
    . subst hq;simp [zA1]
    . simp [zA1,hq,zSt h]
theorem zKv:∀ {l:EE} {m n:Nat},Under l n->Under (zB6 l m) n
 | [],_,_,h=>h
 | (i,o)::r,m,n,h=>by
  have hr:Under r n:=fun x hx=>h x (List.mem_cons_of_mem _ hx)
  have h0:i<n:=h (i,o) (by simp)
  simp only [zB6]
  split
  . exact zKv hr
  . exact Under.cons h0 (zKv hr)
theorem zMk {h:CHeap} {p d:Nat} {Ls:List CVal} {j:Int} (hf:Fit h) (hg:zA1 h.ents p=some (pp Ls j)) {b:BD} {n:Nat} (hb:b.ok n) (hn:n<=9) {nmv:B8} (hns:∀ b ∈ nmv,b≠46) (hnn:nmv≠[]) (hnl:nmv.length<1000) (HT:Toks Ls j ([nm [109,101,115,115,97,103,101],nm nmv,sg 123]++(b.ks++[sg 125]))) {K:KT}
    (hk:∀ h',PF h p Ls (j+3+(b.ks.length:Int)+1) h'->K (msgV nmv b.xs (!b.os.isEmpty)) h'):Wc TF 157 [.ptr p d 0,.int .i64 1] h K:=by
 obtain ⟨hu,hut,hX⟩:=fx4 hf
 have hY:=fx5 hf hg
 have lp:=zA3 hu hg
 have A1:At Ls (j+1) 1 nmv 0:=HT.at 1 rfl om_ (by rfl) (by rfl)
 have A2:At Ls (j+1+1) 4 [123] 0:=HT.at 2 rfl om_ (by rfl) (by rfl)
 have jz:=HT.z
 have jm:=A1.m
 have HT2:Toks Ls (j+1+1+1) (b.ks++[sg 125]):=by have:=HT.right;rw [show j+(([nm [109,101,115,115,97,103,101],nm nmv,sg 123]:List Kw).length:Int)=j+1+1+1 by simp;omega] at this;exact this
 refine mk_ 157 c157 (s_ ?_)
 have hZ:=j5_ hX hY hg jz jm
 repeat ((fail_if_success (show W TF msL _ _));first
  | refine st_ rfl ?_
  | refine ws_ ?_
  | (refine zCz ?_ ?_ A1 hns hnn hnl fun n3 g3=>⟨rfl,?_⟩;exact ft_;(focus ((simp (disch:=omega) [zA1,zA2,hg,hY]);done));(try dsimp only at g3))
  | (refine zAf ?_ ?_ A2 fun n4 g4=>⟨rfl,?_⟩;exact ft_;(focus ((simp (disch:=omega) [zA1,zA2,hg,hY]);done));(try dsimp only at g4)))
 have le1:=BD.ok.len hb
 obtain ⟨fs,os⟩:=b
 obtain ⟨iB,hiB,B⟩:=hb.b
 have hok1:∀ x ∈ fs,x.ok:=fun x hx=>(B.f x hx).1
 have hok2:∀ x ∈ os,x.ok:=fun x hx=>(B.o x hx).1
 have S0:MS h p (h.next+1+2+8+1+1+1) h.next Ls (j+1+1+1) nmv [] .nils ⟨(h.next+1+2+8+1+1+1,.cells [.str nmv,.nils,.nils,.nils,.nils,.nils,.nils])::(h.next,.cells [.str [],.nils,.nils,.nils,.nils,.nils,.nils])::zA2 h.ents p (pp Ls (j+1+1+1)),n4,h.tys⟩:=by
  refine ⟨ft_,om_,rfl,?_,⟨.nils,none,by simp [zA1],.inl ⟨rfl,rfl,rfl⟩,fun i e=>by cases e⟩,?_,lp,by omega,Nat.le_refl _,by omega,fun q q1 q2=>?_⟩
  . dsimp only;rw [zA6 (by omega),zA6 (by omega),zA4 hg]
  . dsimp only;rw [zA6 (by omega)];simp [zA1]
  . dsimp only;rw [zA6 (by omega),zA6 (by omega),zA0 q2]
 have TAIL:∀ (xs:List CVal) (O:CVal) (jq:Int) (hh:CHeap) (v1 v4 v5 v6 v8 v9 v10 v11 v12:CVal),ME h p (h.next+1+2+8+1+1+1) h.next Ls jq nmv xs O hh->(O=.nils\/∃ i u,O=.imm (.own i u) 1 [.str [99]])->At Ls jq 4 [125] 0 ->
     (∀ h',PF h p Ls (jq+1) h'->K (msgV nmv xs (match O with | .nils=>false | _=>true)) h')->∀ n',hh.next<=n'->zMo TF (.S [.v 2,.g (.call false 150 [.loc 0,(.const (.str [125]))])] [] (.S [.y 7 7,.t 7 3 0] [] .ret)) (endW c157 h.next K) (zB3 0 (.exit 0)) ⟨[.int .i64 1,v1,.ptr p d 0,.ptr h.next 159383559 0,v4,v5,v6,.ptr (h.next+1+2+8+1+1+1) 159383559 0,v8,v9,v10,v11,v12],⟨hh.ents,n',hh.tys⟩,[]⟩:=by
  intro xs O jq hh v1 v4 v5 v6 v8 v9 v10 v11 v12 E hO AZ hk n' hn'
  have f2:=E.fit
  have g2:=E.gp
  have gr:=E.gr
  obtain ⟨F,gm,hF⟩:=E.gm
  have nx2:=E.nx
  obtain ⟨hu,hut,hX⟩:=fx4 f2
  have hY:=fx5 f2 g2
  have hY2:=fx5 f2 gr
  have jz2:=AZ.z
  have jm2:=AZ.m
  have q1:p≠h.next:=by omega
  have q2:h.next≠p:=Ne.symm q1
  have q3:h.next+1+2+8+1+1+1≠p:=by omega
  have q4:p≠h.next+1+2+8+1+1+1:=Ne.symm q3
  have hGR:∀ x y,zA1 (zA2 (zA2 hh.ents p x) h.next y) h.next=some y:=fun x y=>zA4 (by rw [zA0 q2];exact gr)
  (try simp only [zB3,zA9,zAe,zAo,reduceIte])
  have PFX:∀ x n2,hh.next<=n2->PF h p Ls (jq+1) ⟨zB6 (zA2 (zA2 hh.ents p (pp Ls (jq+1))) h.next x) h.next,n2,hh.tys⟩:=fun x n2 hn2 =>
   ⟨⟨(zKv f2.1.set.set).le hn2,f2.2.le hn2⟩,om_,E.ty,by dsimp only;rw [zSt lp,zA0 q1,zA4 g2],fun q a b=>by dsimp only;rw [zSt a,zA0 (by omega),zA0 b];exact E.fr q a b⟩
  rcases hF with ⟨rfl,rfl⟩ | ⟨i7,u7,rfl,hne⟩
  all_goals rcases hO with rfl | ⟨i8,u8,rfl⟩
  . repeat (first
     | refine st_ rfl ?_
     | ((first | refine W.regG ?_ | refine WoR.go ?_);generalize e:goR .. = r;simp (disch:=omega) [hGR,hX,hY,hY2,g2,gr,gm,q1,q2,q3,q4,zA0,jz2,jm2] at e;replace e:some _=_:=e;subst e;(try dsimp only [goW]))
     | (refine zAf ?_ ?_ AZ fun n7 g7=>⟨rfl,?_⟩;exact ft_;(focus ((simp (disch:=omega) [zA1,zA2,g2,hY]);done));(try dsimp only at g7)))
    (refine W.ret ?_;(try simp only [zB3,zA9,zAe,zAo,reduceIte]);refine endW.of (.inl rfl) rfl ?_);generalize e:zCa .. = r;simp (disch:=omega) [hGR,hX,hY,hY2,g2,gr,gm,q1,q2,q3,q4,zA0,jz2,jm2] at e;subst e
    dsimp only
    exact hk _ (PFX _ _ om_)
  . repeat (first
     | refine st_ rfl ?_
     | ((first | refine W.regG ?_ | refine WoR.go ?_);generalize e:goR .. = r;simp (disch:=omega) [hGR,hX,hY,hY2,g2,gr,gm,q1,q2,q3,q4,zA0,jz2,jm2] at e;replace e:some _=_:=e;subst e;(try dsimp only [goW]))
     | (refine zAf ?_ ?_ AZ fun n7 g7=>⟨rfl,?_⟩;exact ft_;(focus ((simp (disch:=omega) [zA1,zA2,g2,hY]);done));(try dsimp only at g7)))
    (refine W.ret ?_;(try simp only [zB3,zA9,zAe,zAo,reduceIte]);refine endW.of (.inl rfl) rfl ?_);generalize e:zCa .. = r;simp (disch:=omega) [hGR,hX,hY,hY2,g2,gr,gm,q1,q2,q3,q4,zA0,jz2,jm2] at e;subst e
    dsimp only
    exact hk _ (PFX _ _ om_)
  . repeat (first
     | refine st_ rfl ?_
     | ((first | refine W.regG ?_ | refine WoR.go ?_);generalize e:goR .. = r;simp (disch:=omega) [hGR,hX,hY,hY2,g2,gr,gm,q1,q2,q3,q4,zA0,jz2,jm2] at e;replace e:some _=_:=e;subst e;(try dsimp only [goW]))
     | (refine zAf ?_ ?_ AZ fun n7 g7=>⟨rfl,?_⟩;exact ft_;(focus ((simp (disch:=omega) [zA1,zA2,g2,hY]);done));(try dsimp only at g7)))
    (refine W.ret ?_;(try simp only [zB3,zA9,zAe,zAo,reduceIte]);refine endW.of (.inl rfl) rfl ?_);generalize e:zCa .. = r;simp (disch:=omega) [hGR,hX,hY,hY2,g2,gr,gm,q1,q2,q3,q4,zA0,jz2,jm2] at e;subst e
    dsimp only
    obtain ⟨y,ys,rfl⟩:∃ y ys,xs=y::ys:=by cases xs with | nil=>exact absurd rfl hne | cons y ys=>exact ⟨y,ys,rfl⟩
    exact hk _ (PFX _ _ om_)
  . repeat (first
     | refine st_ rfl ?_
     | ((first | refine W.regG ?_ | refine WoR.go ?_);generalize e:goR .. = r;simp (disch:=omega) [hGR,hX,hY,hY2,g2,gr,gm,q1,q2,q3,q4,zA0,jz2,jm2] at e;replace e:some _=_:=e;subst e;(try dsimp only [goW]))
     | (refine zAf ?_ ?_ AZ fun n7 g7=>⟨rfl,?_⟩;exact ft_;(focus ((simp (disch:=omega) [zA1,zA2,g2,hY]);done));(try dsimp only at g7)))
    (refine W.ret ?_;(try simp only [zB3,zA9,zAe,zAo,reduceIte]);refine endW.of (.inl rfl) rfl ?_);generalize e:zCa .. = r;simp (disch:=omega) [hGR,hX,hY,hY2,g2,gr,gm,q1,q2,q3,q4,zA0,jz2,jm2] at e;subst e
    dsimp only
    obtain ⟨y,ys,rfl⟩:∃ y ys,xs=y::ys:=by cases xs with | nil=>exact absurd rfl hne | cons y ys=>exact ⟨y,ys,rfl⟩
    exact hk _ (PFX _ _ om_)
 cases os with
 | nil =>
  have e1:BD.ks ⟨fs,[]⟩=fsK fs:=by simp [BD.ks]
  rw [e1] at HT2 hk
  refine zLr (h0:=h) (r:=h.next) _ fs (j+1+1+1) [] [sg 125] _ _ _ _ _ _ _ _ _ _ hok1 (by simp at le1 ⊢;omega) HT2 S0 fun w1 w4 w5 w6 w8 w9 w10 w11 w12 h' S'=>?_
  have AZ:At Ls (j+1+1+1+((fsK fs).length:Int)) 4 [125] 0:=HT2.right.at 0 rfl om_ (by rfl) (by rfl)
  refine zPy S'.fit S'.gp AZ _ _ _ _ _ _ _ _ _ _ fun u1 u4 u5 u6 u8 u9 u10 u11 u12 n' g=>?_
  refine TAIL _ _ _ h' _ _ _ _ _ _ _ _ _ S'.me (.inl rfl) AZ (fun h2 P=>?_) n' g
  rw [show j+3+((fsK fs).length:Int)+1=j+1+1+1+((fsK fs).length:Int)+1 by omega] at hk
  have:=hk h2 P
  simpa [BD.xs] using this
 | cons x os =>
  have e1:BD.ks ⟨fs,x::os⟩=fsK fs++([nm [111,110,101,111,102],nm [99],sg 123]++(osK (x::os)++[sg 125])):=by simp [BD.ks]
  rw [e1] at HT2 hk
  rw [List.append_assoc] at HT2
  refine zLr (h0:=h) (r:=h.next) _ fs (j+1+1+1) [] _ _ _ _ _ _ _ _ _ _ _ hok1 (by simp at le1 ⊢;omega) HT2 S0 fun w1 w4 w5 w6 w8 w9 w10 w11 w12 h' S'=>?_
  have HT3:=HT2.right
  have HT4:=HT3.right
  refine zZ3 S' (os:=x::os) (by simp) hok2 (by simp at le1 ⊢;omega) HT3.left _ _ _ _ _ _ _ _ _ _ fun y1 y4 y5 y6 y8 y9 y10 y11 y12 h'' t u E=>?_
  have AZ:At Ls (j+1+1+1+((fsK fs).length:Int)+3+((osK (x::os)).length:Int)+1) 4 [125] 0:=HT4.at 0 rfl (by simp;omega) (by rfl) (by rfl)
  refine zPy E.fit E.gp AZ _ _ _ _ _ _ _ _ _ _ fun u1 u4 u5 u6 u8 u9 u10 u11 u12 n' g=>?_
  refine TAIL _ _ _ h'' _ _ _ _ _ _ _ _ _ E (.inr ⟨t,u,rfl⟩) AZ (fun h2 P=>?_) n' g
  have e2:j+3+((fsK fs++([nm [111,110,101,111,102],nm [99],sg 123]++(osK (x::os)++[sg 125]))).length:Int)+1=j+1+1+1+((fsK fs).length:Int)+3+((osK (x::os)).length:Int)+1+1:=by simp;omega
  rw [e2] at hk
  have:=hk h2 P
  simpa [BD.xs] using this
def enK:List Kw:=[nm [101,110,117,109],nm [69],sg 123,nm [65],sg 61,nu 0,sg 59,nm [66],sg 61,nu 1,sg 59,nm [67],sg 61,sg 45,nu 1,sg 59,sg 125]
theorem zZm {h:CHeap} {p d:Nat} {Ls:List CVal} {j:Int} (hf:Fit h) (hg:zA1 h.ents p=some (pp Ls j)) (HT:Toks Ls j enK) {K:KT}
    (hk:∀ h',PF h p Ls (j+1+1+1+1+1+1+1+1+1+1+1+1+1+1+1+1+1) h'->K (.agg [.str [69],.imm .none 2 [.agg [.str [65],.int .i64 0],.agg [.str [66],.int .i64 1],.agg [.str [67],.int .i64 (-1)]]]) h'):Wc TF 158 [.ptr p d 0] h K:=by
 obtain ⟨hu,hut,hX⟩:=fx4 hf
 have hY:=fx5 hf hg
 have lp:=zA3 hu hg
 have A0:At Ls (j) 1 [101,110,117,109] 0:=HT.at 0 rfl om_ (by rfl) (by rfl)
 have A1:At Ls (j+1) 1 [69] 0:=HT.at 1 rfl om_ (by rfl) (by rfl)
 have A2:At Ls (j+1+1) 4 [123] 0:=HT.at 2 rfl om_ (by rfl) (by rfl)
 have A3:At Ls (j+1+1+1) 1 [65] 0:=HT.at 3 rfl om_ (by rfl) (by rfl)
 have A4:At Ls (j+1+1+1+1) 4 [61] 0:=HT.at 4 rfl om_ (by rfl) (by rfl)
 have A5:At Ls (j+1+1+1+1+1) 2 [] 0:=HT.at 5 rfl om_ (by rfl) (by rfl)
 have A6:At Ls (j+1+1+1+1+1+1) 4 [59] 0:=HT.at 6 rfl om_ (by rfl) (by rfl)
 have A7:At Ls (j+1+1+1+1+1+1+1) 1 [66] 0:=HT.at 7 rfl om_ (by rfl) (by rfl)
 have A8:At Ls (j+1+1+1+1+1+1+1+1) 4 [61] 0:=HT.at 8 rfl om_ (by rfl) (by rfl)
 have A9:At Ls (j+1+1+1+1+1+1+1+1+1) 2 [] 1:=HT.at 9 rfl om_ (by rfl) (by rfl)
 have A10:At Ls (j+1+1+1+1+1+1+1+1+1+1) 4 [59] 0:=HT.at 10 rfl om_ (by rfl) (by rfl)
 have A11:At Ls (j+1+1+1+1+1+1+1+1+1+1+1) 1 [67] 0:=HT.at 11 rfl om_ (by rfl) (by rfl)
 have A12:At Ls (j+1+1+1+1+1+1+1+1+1+1+1+1) 4 [61] 0:=HT.at 12 rfl om_ (by rfl) (by rfl)
 have A13:At Ls (j+1+1+1+1+1+1+1+1+1+1+1+1+1) 4 [45] 0:=HT.at 13 rfl om_ (by rfl) (by rfl)
 have A14:At Ls (j+1+1+1+1+1+1+1+1+1+1+1+1+1+1) 2 [] 1:=HT.at 14 rfl om_ (by rfl) (by rfl)
 have A15:At Ls (j+1+1+1+1+1+1+1+1+1+1+1+1+1+1+1) 4 [59] 0:=HT.at 15 rfl om_ (by rfl) (by rfl)
 have A16:At Ls (j+1+1+1+1+1+1+1+1+1+1+1+1+1+1+1+1) 4 [125] 0:=HT.at 16 rfl om_ (by rfl) (by rfl)
 obtain ⟨z3,m3,l3,a3,v3⟩:=id A3
 obtain ⟨z7,m7,l7,a7,v7⟩:=id A7
 obtain ⟨z11,m11,l11,a11,v11⟩:=id A11
 obtain ⟨z5,m5,l5,a5,v5⟩:=id A5
 obtain ⟨z9,m9,l9,a9,v9⟩:=id A9
 obtain ⟨z14,m14,l14,a14,v14⟩:=id A14
 have jz:=A0.z
 have jm:=A16.m
 have PE:=zJ7 [69] (by decide) (by simp) (by simp)
 have PA:=zJ7 [65] (by decide) (by simp) (by simp)
 have PB:=zJ7 [66] (by decide) (by simp) (by simp)
 have PCc:=zJ7 [67] (by decide) (by simp) (by simp)
 refine mk_ 158 c158 (s_ ?_)
 have hZ:=j5_ hX hY hg jz jm
 repeat (first
  | refine wk_ ?_
  | ((first | refine zCz ft_ sd_ A1 (by decide) (by simp) (by simp) ?_ | refine zCz ft_ sd_ A3 (by decide) (by simp) (by simp) ?_ | refine zCz ft_ sd_ A7 (by decide) (by simp) (by simp) ?_ | refine zCz ft_ sd_ A11 (by decide) (by simp) (by simp) ?_ | refine zAf ft_ sd_ A2 ?_ | refine zAf ft_ sd_ A4 ?_ | refine zAf ft_ sd_ A6 ?_ | refine zAf ft_ sd_ A8 ?_ | refine zAf ft_ sd_ A10 ?_ | refine zAf ft_ sd_ A12 ?_ | refine zAf ft_ sd_ A15 ?_ | refine zAf ft_ sd_ A16 ?_ | refine zAu ft_ sd_ A5 ?_ | refine zAu ft_ sd_ A9 ?_ | refine zAu ft_ sd_ A14 ?_ | refine zAj ft_ sd_ A3 _ ?_ | refine zAj ft_ sd_ A5 _ ?_ | refine zAj ft_ sd_ A7 _ ?_ | refine zAj ft_ sd_ A9 _ ?_ | refine zAj ft_ sd_ A11 _ ?_ | refine zAj ft_ sd_ A13 _ ?_ | refine zAj ft_ sd_ A16 _ ?_);intro n3 g3;refine ⟨rfl,?_⟩;(try dsimp only at g3))
  | (refine zD3 ft_ sd_ z3 l3 v3 fun n4 g4=>⟨rfl,?_⟩;(try dsimp only at g4);(try simp only [tkv]))
  | (refine zD3 ft_ sd_ z7 l7 v7 fun n4 g4=>⟨rfl,?_⟩;(try dsimp only at g4);(try simp only [tkv]))
  | (refine zD3 ft_ sd_ z11 l11 v11 fun n4 g4=>⟨rfl,?_⟩;(try dsimp only at g4);(try simp only [tkv]))
  | (refine zD3 ft_ sd_ z5 l5 v5 fun n4 g4=>⟨rfl,?_⟩;(try dsimp only at g4);(try simp only [tkv]))
  | (refine zD3 ft_ sd_ z9 l9 v9 fun n4 g4=>⟨rfl,?_⟩;(try dsimp only at g4);(try simp only [tkv]))
  | (refine zD3 ft_ sd_ z14 l14 v14 fun n4 g4=>⟨rfl,?_⟩;(try dsimp only at g4);(try simp only [tkv]))
  | (refine zH8 (Ls:=Ls) (j:=j+1+1+1) ?_ ?_ _ (by decide) fun n5 g5=>⟨rfl,?_⟩;exact ft_;exact sd_;(try dsimp only at g5))
  | (refine zH8 (Ls:=Ls) (j:=j+1+1+1+1+1+1+1) ?_ ?_ _ (by decide) fun n5 g5=>⟨rfl,?_⟩;exact ft_;exact sd_;(try dsimp only at g5))
  | (refine zH8 (Ls:=Ls) (j:=j+1+1+1+1+1+1+1+1+1+1+1) ?_ ?_ _ (by decide) fun n5 g5=>⟨rfl,?_⟩;exact ft_;exact sd_;(try dsimp only at g5))
  | ((first | refine pe_ PE ?_ | refine pe_ PA ?_ | refine pe_ PB ?_ | refine pe_ PCc ?_);intro n6 g6;refine ⟨rfl,?_⟩;(try dsimp only at g6))
  | (refine W.loop ?_))
 have hZ:=j5_ hX hY hg jz jm
 refine rk_ ?_
 dsimp only
 refine hk _ ⟨⟨hu.set.le ?_,hut.le ?_⟩,?_,rfl,zA4 hg,fun q _ q2=>zA0 q2⟩
 all_goals (exact om_)
structure QS (h0:CHeap) (p f r:Nat) (Ls:List CVal) (j:Int) (ms es:List CVal) (hh:CHeap):Prop where
 fit:Fit hh
 nx:h0.next<=hh.next
 gp:zA1 hh.ents p=some (pp Ls j)
 gf:∃ M E mi ei,zA1 hh.ents f=some (.cells [.str [97],.nils,M,E])/\FL 7 hh.ents M ms mi/\FL 2 hh.ents E es ei/\(∀ i,mi=some i->h0.next<=i/\ei≠some i)/\(∀ i,ei=some i->h0.next<=i)
 gr:zA1 hh.ents r=some (.cells [.str [],.nils,.nils,.nils])
 lp:h0.next<=p
 lf:h0.next<=f
 lr:h0.next<=r
 pf:p≠f
 pr:p≠r
 fr_:f≠r
 fr:∀ q,q<h0.next->zA1 hh.ents q=zA1 h0.ents q
theorem QS.add0 {h0 hh h2:CHeap} {p f r id nA n2:Nat} {Ls:List CVal} {j j2:Int} {es:List CVal} {x E:CVal} {ei:Option Nat} (S:QS h0 p f r Ls j [] es hh) (gf:zA1 hh.ents f=some (.cells [.str [97],.nils,.nils,E])) (hE:FL 2 hh.ents E es ei) (hei:∀ i,ei=some i->h0.next<=i) (P:PF ⟨hh.ents,nA,hh.tys⟩ p Ls j2 h2) (hA:hh.next<=nA) (hid:hh.next<=id) (hn2:h2.next<=n2) (hn:id<n2) :
    QS h0 p f r Ls j2 [x] es ⟨(id,.tok 0)::zA5 (zA2 h2.ents f (.cells [.str [97],.nils,.imm (.own id 0) 7 [x],E])) hh.next,n2,h2.tys⟩:=by
 have e0:(id,CObj.tok 0)::zA5 (zA2 h2.ents f (.cells [.str [97],.nils,.imm (.own id 0) 7 [x],E])) hh.next=zA5 ((id,.tok 0)::zA2 h2.ents f (.cells [.str [97],.nils,.imm (.own id 0) 7 [x],E])) hh.next:=by simp [zA5,hid]
 rw [e0]
 have l1:=zA3 S.fit.1 S.gp
 have l2:=zA3 S.fit.1 gf
 have l3:=zA3 S.fit.1 S.gr
 have nx:=P.nx
 have F2:zA1 h2.ents f=some (.cells [.str [97],.nils,.nils,E]):=by rw [P.fr f (by dsimp only;omega) (Ne.symm S.pf)];exact gf
 have key:∀ q,q<hh.next->q≠f->zA1 (zA5 ((id,.tok 0)::zA2 h2.ents f (.cells [.str [97],.nils,.imm (.own id 0) 7 [x],E])) hh.next) q=zA1 h2.ents q:=fun q q1 q2=>by
  rw [zDs q1,zA6 (by omega),zA0 q2]
 have keyF:zA1 (zA5 ((id,.tok 0)::zA2 h2.ents f (.cells [.str [97],.nils,.imm (.own id 0) 7 [x],E])) hh.next) f=some (.cells [.str [97],.nils,.imm (.own id 0) 7 [x],E]):=by
  rw [zDs l2,zA6 (by omega)];exact zA4 F2
 dsimp only at nx
 refine ⟨⟨zCo (Under.cons hn (P.fit.1.set.le hn2)),P.fit.2.le hn2⟩,by have:=S.nx;dsimp only;omega,?_,⟨_,E,some id,ei,keyF,.inr ⟨id,0,rfl,by simp,zNo (by simp [zA1]),rfl⟩,hE.keep fun i u hi h9=>?_,fun i e=>?_,hei⟩,?_,S.lp,S.lf,S.lr,S.pf,S.pr,S.fr_,fun q q1=>?_⟩
 . dsimp only;rw [key p l1 S.pf];exact P.gp
 . have l4:=zA3 S.fit.1 h9
   have n1:i≠f:=fun e=>by subst e;rw [gf] at h9;cases h9
   have n2:i≠p:=fun e=>by subst e;rw [S.gp] at h9;cases h9
   dsimp only;rw [key i l4 n1,P.fr i (by dsimp only;omega) n2];exact h9
 . cases e
   refine ⟨by have:=S.nx;omega,fun e2=>?_⟩
   rcases hE with ⟨_,_,e3⟩ | ⟨i,u,_,_,h9,e3⟩
   . rw [e3] at e2;cases e2
   . rw [e3] at e2;cases e2;have:=zA3 S.fit.1 h9;omega
 . dsimp only;rw [key r l3 (Ne.symm S.fr_),P.fr r (by dsimp only;omega) (Ne.symm S.pr)];exact S.gr
 . have:=S.nx;have:=S.lp;have:=S.lf
   dsimp only;rw [key q (by omega) (by omega),P.fr q (by dsimp only;omega) (by omega)];exact S.fr q q1
theorem QS.add1 {h0 hh h2:CHeap} {p f r i u nA n2:Nat} {Ls:List CVal} {j j2:Int} {ms es:List CVal} {x E:CVal} {ei:Option Nat} (S:QS h0 p f r Ls j ms es hh) (gf:zA1 hh.ents f=some (.cells [.str [97],.nils,.imm (.own i u) 7 ms,E])) (hi:zA1 hh.ents i=some (.tok u)) (hmi:h0.next<=i/\ei≠some i) (hE:FL 2 hh.ents E es ei) (hei:∀ i,ei=some i->h0.next<=i) (P:PF ⟨hh.ents,nA,hh.tys⟩ p Ls j2 h2) (hA:hh.next<=nA) (hn2:h2.next<=n2) :
    QS h0 p f r Ls j2 (ms++[x]) es ⟨zA5 (zA2 (zA2 h2.ents i (.tok (u+1))) f (.cells [.str [97],.nils,.imm (.own i (u+1)) 7 (ms++[x]),E])) hh.next,n2,h2.tys⟩:=by
 have l1:=zA3 S.fit.1 S.gp
 have l2:=zA3 S.fit.1 gf
 have l3:=zA3 S.fit.1 S.gr
 have l5:=zA3 S.fit.1 hi
 have if_:i≠f:=fun e=>by subst e;rw [gf] at hi;cases hi
 have ip:i≠p:=fun e=>by subst e;rw [S.gp] at hi;cases hi
 have ir:i≠r:=fun e=>by subst e;rw [S.gr] at hi;cases hi
 have nx:=P.nx
 have F2:zA1 h2.ents f=some (.cells [.str [97],.nils,.imm (.own i u) 7 ms,E]):=by rw [P.fr f (by dsimp only;omega) (Ne.symm S.pf)];exact gf
 have I2:zA1 h2.ents i=some (.tok u):=by rw [P.fr i (by dsimp only;omega) ip];exact hi
 have key:∀ q,q<hh.next->q≠f->q≠i->zA1 (zA5 (zA2 (zA2 h2.ents i (.tok (u+1))) f (.cells [.str [97],.nils,.imm (.own i (u+1)) 7 (ms++[x]),E])) hh.next) q=zA1 h2.ents q:=fun q q1 q2 q3=>by
  rw [zDs q1,zA0 q2,zA0 q3]
 have keyF:zA1 (zA5 (zA2 (zA2 h2.ents i (.tok (u+1))) f (.cells [.str [97],.nils,.imm (.own i (u+1)) 7 (ms++[x]),E])) hh.next) f=some (.cells [.str [97],.nils,.imm (.own i (u+1)) 7 (ms++[x]),E]):=by
  rw [zDs l2];exact zA4 (by rw [zA0 (Ne.symm if_)];exact F2)
 have keyI:zA1 (zA5 (zA2 (zA2 h2.ents i (.tok (u+1))) f (.cells [.str [97],.nils,.imm (.own i (u+1)) 7 (ms++[x]),E])) hh.next) i=some (.tok (u+1)):=by
  rw [zDs l5,zA0 if_];exact zA4 I2
 dsimp only at nx
 refine ⟨⟨zCo (P.fit.1.set.set.le hn2),P.fit.2.le hn2⟩,by have:=S.nx;dsimp only;omega,?_,⟨_,E,some i,ei,keyF,.inr ⟨i,u+1,rfl,by simp,keyI,rfl⟩,hE.keep fun k w hk h9=>?_,fun k e=>by cases e;exact hmi,hei⟩,?_,S.lp,S.lf,S.lr,S.pf,S.pr,S.fr_,fun q q1=>?_⟩
 . dsimp only;rw [key p l1 S.pf (Ne.symm ip)];exact P.gp
 . have l4:=zA3 S.fit.1 h9
   have n1:k≠f:=fun e=>by subst e;rw [gf] at h9;cases h9
   have n2:k≠p:=fun e=>by subst e;rw [S.gp] at h9;cases h9
   have n3:k≠i:=fun e=>by subst e;exact hmi.2 hk
   dsimp only;rw [key k l4 n1 n3,P.fr k (by dsimp only;omega) n2];exact h9
 . dsimp only;rw [key r l3 (Ne.symm S.fr_) (Ne.symm ir),P.fr r (by dsimp only;omega) (Ne.symm S.pr)];exact S.gr
 . have:=S.nx;have:=S.lp;have:=S.lf;have:=hmi.1
   dsimp only;rw [key q (by omega) (by omega) (by omega),P.fr q (by dsimp only;omega) (by omega)];exact S.fr q q1
theorem zUb {h0 hh:CHeap} {p f r d:Nat} {Ls:List CVal} {j:Int} {ms es:List CVal} (S:QS h0 p f r Ls j ms es hh) (hml:ms.length<30) {b:BD} {n:Nat} (hb:b.ok n) (hn:n<=9) {nmv:B8} (hns:∀ b ∈ nmv,b≠46) (hnn:nmv≠[]) (hnl:nmv.length<1000) (HT:Toks Ls j ([nm [109,101,115,115,97,103,101],nm nmv,sg 123]++(b.ks++[sg 125]))) (v0 v1 v2 v3 v5 v7 v8:CVal) (v9 v10 v11 v13 v14 v16 v17 v18 v19 v20 v21 v22:CVal) {Q:QT}
    (hk:∀ (v9 v10 v11 v13 v14 v16 v17 v18 v19 v20 v21 v22:CVal) h',QS h0 p f r Ls (j+3+(b.ks.length:Int)+1) (ms++[msgV nmv b.xs (!b.os.isEmpty)]) es h'->W TF prL ⟨[v0,v1,v2,v3,.ptr r 192937988 0,v5,.ptr p d 0,v7,v8,v9,v10,v11,.int .i64 1,v13,v14,.ptr f 192937988 0,v16,v17,v18,v19,v20,v21,v22,.int .i64 0,.int .i64 0],h',[]⟩ Q):W TF prL ⟨[v0,v1,v2,v3,.ptr r 192937988 0,v5,.ptr p d 0,v7,v8,v9,v10,v11,.int .i64 1,v13,v14,.ptr f 192937988 0,v16,v17,v18,v19,v20,v21,v22,.int .i64 0,.int .i64 0],hh,[]⟩ Q:=by
 have hf:=S.fit
 have hg:=S.gp
 obtain ⟨M,E,mi,ei,gf,hM,hE,hmi,hei⟩:=S.gf
 obtain ⟨hu,hut,hX⟩:=fx4 hf
 have hY:=fx5 hf hg
 have lp:=zA3 hu hg
 have lf:=zA3 hu gf
 have A0:At Ls (j) 1 [109,101,115,115,97,103,101] 0:=HT.at 0 rfl om_ (by rfl) (by rfl)
 obtain ⟨z0,m0,l0,a0,v0_⟩:=id A0
 have hpf:=S.pf
 have hfp:=Ne.symm S.pf
 refine W.loop ?_
 have hM2:=hM
 rcases hM with ⟨rfl,rfl,rfl⟩ | ⟨i,u,rfl,hxn,hi,rfl⟩
 . repeat (first
    | refine st_ rfl ?_
    | ((first | refine W.regG ?_ | refine WoR.go ?_);generalize e:goR .. = r;simp (disch:=omega) [hX,hY,hg,gf,hpf,hfp] at e;replace e:some _=_:=e;subst e;(try dsimp only [goW]))
    | (refine zAj ?_ ?_ A0 [59] fun n3 g3=>⟨rfl,?_⟩;exact ft_;(focus ((simp (disch:=omega) [zA1,zA2,hg,hY,gf,hpf,hfp,zA0]);done));(try dsimp only at g3))
    | (refine zBg ?_ ?_ A0 [112,97,99,107,97,103,101] fun n3 g3=>⟨rfl,?_⟩;exact ft_;(focus ((simp (disch:=omega) [zA1,zA2,hg,hY,gf,hpf,hfp,zA0]);done));(try dsimp only at g3))
    | (refine zBg ?_ ?_ A0 [105,109,112,111,114,116] fun n3 g3=>⟨rfl,?_⟩;exact ft_;(focus ((simp (disch:=omega) [zA1,zA2,hg,hY,gf,hpf,hfp,zA0]);done));(try dsimp only at g3))
    | (refine zBg ?_ ?_ A0 [109,101,115,115,97,103,101] fun n3 g3=>⟨rfl,?_⟩;exact ft_;(focus ((simp (disch:=omega) [zA1,zA2,hg,hY,gf,hpf,hfp,zA0]);done));(try dsimp only at g3))
    | (refine zD3 ?_ ?_ z0 l0 v0_ fun n4 g4=>⟨rfl,?_⟩;exact ft_;(focus ((simp (disch:=omega) [zA1,zA2,hg,hY,gf,hpf,hfp,zA0]);done));(try dsimp only at g4);(try simp only [tkv]))
    | (refine zH8 (Ls:=Ls) (j:=j) ?_ ?_ 0 (by decide) fun n5 g5=>⟨rfl,?_⟩;exact ft_;(focus ((simp (disch:=omega) [zA1,zA2,hg,hY,gf,hpf,hfp,zA0]);done));(try dsimp only at g5)))
   refine zMk ?_ ?_ hb hn hns hnn hnl HT (fun h2 P=>⟨rfl,?_⟩)
   . exact ft_
   . simp (disch:=omega) [zA1,zA2,hg,hY,gf,hpf,hfp,zA0]
   have nxP:=P.nx
   dsimp only at nxP
   have gf2:zA1 h2.ents f=_:=(P.fr f (by dsimp only;omega) hfp).trans gf
   have hY3:=fx5 P.fit gf2
   unfold msgV at hk ⊢
   have s1:(lV7 b.xs).strip=lV7 b.xs:=by unfold lV7;cases b.xs <;> rfl
   have s2:(if (!b.os.isEmpty)=true then CVal.imm Tag.none 1 [CVal.str [99]] else CVal.nils).strip=(if (!b.os.isEmpty)=true then CVal.imm Tag.none 1 [CVal.str [99]] else CVal.nils):=by cases b.os.isEmpty <;> rfl
   generalize lV7 b.xs=w1 at *
   generalize (if (!b.os.isEmpty)=true then CVal.imm Tag.none 1 [CVal.str [99]] else CVal.nils)=w2 at *
   simp only [CVal.strip] at s1 s2
   have hZ:=j10_ hX hY hY3 hg gf gf2 hpf hfp s1 s2
   try refine wk_ ?_
   refine dx_ ?_
   exact hk _ _ _ _ _ _ _ _ _ _ _ _ _ (S.add0 gf hE hei P om_ om_ om_ om_)
 . repeat (first
    | refine st_ rfl ?_
    | ((first | refine W.regG ?_ | refine WoR.go ?_);generalize e:goR .. = r;simp (disch:=omega) [hX,hY,hg,gf,hpf,hfp] at e;replace e:some _=_:=e;subst e;(try dsimp only [goW]))
    | (refine zAj ?_ ?_ A0 [59] fun n3 g3=>⟨rfl,?_⟩;exact ft_;(focus ((simp (disch:=omega) [zA1,zA2,hg,hY,gf,hpf,hfp,zA0]);done));(try dsimp only at g3))
    | (refine zBg ?_ ?_ A0 [112,97,99,107,97,103,101] fun n3 g3=>⟨rfl,?_⟩;exact ft_;(focus ((simp (disch:=omega) [zA1,zA2,hg,hY,gf,hpf,hfp,zA0]);done));(try dsimp only at g3))
    | (refine zBg ?_ ?_ A0 [105,109,112,111,114,116] fun n3 g3=>⟨rfl,?_⟩;exact ft_;(focus ((simp (disch:=omega) [zA1,zA2,hg,hY,gf,hpf,hfp,zA0]);done));(try dsimp only at g3))
    | (refine zBg ?_ ?_ A0 [109,101,115,115,97,103,101] fun n3 g3=>⟨rfl,?_⟩;exact ft_;(focus ((simp (disch:=omega) [zA1,zA2,hg,hY,gf,hpf,hfp,zA0]);done));(try dsimp only at g3))
    | (refine zD3 ?_ ?_ z0 l0 v0_ fun n4 g4=>⟨rfl,?_⟩;exact ft_;(focus ((simp (disch:=omega) [zA1,zA2,hg,hY,gf,hpf,hfp,zA0]);done));(try dsimp only at g4);(try simp only [tkv]))
    | (refine zH8 (Ls:=Ls) (j:=j) ?_ ?_ (ms.length:Int) (by omega) fun n5 g5=>⟨rfl,?_⟩;exact ft_;(focus ((simp (disch:=omega) [zA1,zA2,hg,hY,gf,hpf,hfp,zA0]);done));(try dsimp only at g5)))
   refine zMk ?_ ?_ hb hn hns hnn hnl HT (fun h2 P=>⟨rfl,?_⟩)
   . exact ft_
   . simp (disch:=omega) [zA1,zA2,hg,hY,gf,hpf,hfp,zA0]
   have nxP:=P.nx
   dsimp only at nxP
   have gf2:zA1 h2.ents f=_:=(P.fr f (by dsimp only;omega) hfp).trans gf
   have ip:i≠p:=fun e=>by subst e;rw [hg] at hi;cases hi
   have if_:i≠f:=fun e=>by subst e;rw [gf] at hi;cases hi
   have hi2:zA1 h2.ents i=_:=(P.fr i (by have:=zA3 hu hi;dsimp only;omega) ip).trans hi
   have hY2:=fx5 P.fit hi2
   have fi_:=Ne.symm if_
   have hY3:=fx5 P.fit gf2
   unfold msgV at hk ⊢
   have s1:(lV7 b.xs).strip=lV7 b.xs:=by unfold lV7;cases b.xs <;> rfl
   have s2:(if (!b.os.isEmpty)=true then CVal.imm Tag.none 1 [CVal.str [99]] else CVal.nils).strip=(if (!b.os.isEmpty)=true then CVal.imm Tag.none 1 [CVal.str [99]] else CVal.nils):=by cases b.os.isEmpty <;> rfl
   generalize lV7 b.xs=w1 at *
   generalize (if (!b.os.isEmpty)=true then CVal.imm Tag.none 1 [CVal.str [99]] else CVal.nils)=w2 at *
   simp only [CVal.strip] at s1 s2
   have hZ:=j18_ hX hY hY3 hg gf gf2 hpf hfp s1 s2 hi hi2 hY2 ip if_ fi_ hml zCk
   try refine wn_ ?_
   refine dx_ ?_
   exact hk _ _ _ _ _ _ _ _ _ _ _ _ _ (S.add1 gf hi (hmi _ rfl) hE hei P om_ om_)
def enV:CVal:=.agg [.str [69],.imm .none 2 [.agg [.str [65],.int .i64 0],.agg [.str [66],.int .i64 1],.agg [.str [67],.int .i64 (-1)]]]
theorem QS.addE {h0 hh h2:CHeap} {p f r id nA n2:Nat} {Ls:List CVal} {j j2:Int} {x:CVal} (S:QS h0 p f r Ls j [] [] hh) (gf:zA1 hh.ents f=some (.cells [.str [97],.nils,.nils,.nils])) (P:PF ⟨hh.ents,nA,hh.tys⟩ p Ls j2 h2) (hA:hh.next<=nA) (hid:hh.next<=id) (hn2:h2.next<=n2) (hn:id<n2) :
    QS h0 p f r Ls j2 [] [x] ⟨(id,.tok 0)::zA5 (zA2 h2.ents f (.cells [.str [97],.nils,.nils,.imm (.own id 0) 2 [x]])) hh.next,n2,h2.tys⟩:=by
 have e0:(id,CObj.tok 0)::zA5 (zA2 h2.ents f (.cells [.str [97],.nils,.nils,.imm (.own id 0) 2 [x]])) hh.next=zA5 ((id,.tok 0)::zA2 h2.ents f (.cells [.str [97],.nils,.nils,.imm (.own id 0) 2 [x]])) hh.next:=by simp [zA5,hid]
 rw [e0]
 have l1:=zA3 S.fit.1 S.gp
 have l2:=zA3 S.fit.1 gf
 have l3:=zA3 S.fit.1 S.gr
 have nx:=P.nx
 have F2:zA1 h2.ents f=some (.cells [.str [97],.nils,.nils,.nils]):=by rw [P.fr f (by dsimp only;omega) (Ne.symm S.pf)];exact gf
 have key:∀ q,q<hh.next->q≠f->zA1 (zA5 ((id,.tok 0)::zA2 h2.ents f (.cells [.str [97],.nils,.nils,.imm (.own id 0) 2 [x]])) hh.next) q=zA1 h2.ents q:=fun q q1 q2=>by
  rw [zDs q1,zA6 (by omega),zA0 q2]
 have keyF:zA1 (zA5 ((id,.tok 0)::zA2 h2.ents f (.cells [.str [97],.nils,.nils,.imm (.own id 0) 2 [x]])) hh.next) f=some (.cells [.str [97],.nils,.nils,.imm (.own id 0) 2 [x]]):=by
  rw [zDs l2,zA6 (by omega)];exact zA4 F2
 dsimp only at nx
 refine ⟨⟨zCo (Under.cons hn (P.fit.1.set.le hn2)),P.fit.2.le hn2⟩,by have:=S.nx;dsimp only;omega,?_,⟨.nils,_,none,some id,keyF,.inl ⟨rfl,rfl,rfl⟩,.inr ⟨id,0,rfl,by simp,zNo (by simp [zA1]),rfl⟩,(fun i e=>by cases e),(fun i e=>by cases e;have:=S.nx;omega)⟩,?_,S.lp,S.lf,S.lr,S.pf,S.pr,S.fr_,fun q q1=>?_⟩
 . dsimp only;rw [key p l1 S.pf];exact P.gp
 . dsimp only;rw [key r l3 (Ne.symm S.fr_),P.fr r (by dsimp only;omega) (Ne.symm S.pr)];exact S.gr
 . have:=S.nx;have:=S.lp;have:=S.lf
   dsimp only;rw [key q (by omega) (by omega),P.fr q (by dsimp only;omega) (by omega)];exact S.fr q q1
theorem zUw {h0 hh:CHeap} {p f r d:Nat} {Ls:List CVal} {j:Int} (S:QS h0 p f r Ls j [] [] hh) (HT:Toks Ls j enK) (v0 v1 v2 v3 v5 v7 v8:CVal) (v9 v10 v11 v13 v14 v16 v17 v18 v19 v20 v21 v22:CVal) {Q:QT}
    (hk:∀ (v9 v10 v11 v13 v14 v16 v17 v18 v19 v20 v21 v22:CVal) h',QS h0 p f r Ls (j+1+1+1+1+1+1+1+1+1+1+1+1+1+1+1+1+1) [] [enV] h'->W TF prL ⟨[v0,v1,v2,v3,.ptr r 192937988 0,v5,.ptr p d 0,v7,v8,v9,v10,v11,.int .i64 1,v13,v14,.ptr f 192937988 0,v16,v17,v18,v19,v20,v21,v22,.int .i64 0,.int .i64 0],h',[]⟩ Q):W TF prL ⟨[v0,v1,v2,v3,.ptr r 192937988 0,v5,.ptr p d 0,v7,v8,v9,v10,v11,.int .i64 1,v13,v14,.ptr f 192937988 0,v16,v17,v18,v19,v20,v21,v22,.int .i64 0,.int .i64 0],hh,[]⟩ Q:=by
 have hf:=S.fit
 have hg:=S.gp
 obtain ⟨M,E,mi,ei,gf,hM,hE,hmi,hei⟩:=S.gf
 obtain rfl:M=.nils:=by rcases hM with ⟨a,_,_⟩ | ⟨_,_,_,a,_⟩;exact a;exact absurd rfl a
 obtain rfl:E=.nils:=by rcases hE with ⟨a,_,_⟩ | ⟨_,_,_,a,_⟩;exact a;exact absurd rfl a
 obtain ⟨hu,hut,hX⟩:=fx4 hf
 have hY:=fx5 hf hg
 have lp:=zA3 hu hg
 have lf:=zA3 hu gf
 have A0:At Ls (j) 1 [101,110,117,109] 0:=HT.at 0 rfl om_ (by rfl) (by rfl)
 obtain ⟨z0,m0,l0,a0,v0_⟩:=id A0
 have hpf:=S.pf
 have hfp:=Ne.symm S.pf
 refine W.loop ?_
 have hZ:=j6_ hX hY hg gf hpf hfp
 repeat (first
  | refine wk_ ?_
  | ((first | refine zAj ft_ sn_ A0 [59] ?_ | refine zBg ft_ sn_ A0 [112,97,99,107,97,103,101] ?_ | refine zBg ft_ sn_ A0 [105,109,112,111,114,116] ?_ | refine zBg ft_ sn_ A0 [109,101,115,115,97,103,101] ?_ | refine zBg ft_ sn_ A0 [101,110,117,109] ?_);intro n3 g3;refine ⟨rfl,?_⟩;(try dsimp only at g3))
  | (refine zD3 ft_ sn_ z0 l0 v0_ fun n4 g4=>⟨rfl,?_⟩;(try dsimp only at g4);(try simp only [tkv]))
  | (refine zH8 (Ls:=Ls) (j:=j) ?_ ?_ 0 (by decide) fun n5 g5=>⟨rfl,?_⟩;exact ft_;exact sn_;(try dsimp only at g5)))
 refine zZm ?_ ?_ HT (fun h2 P=>⟨rfl,?_⟩)
 . exact ft_
 . simp (disch:=omega) [zA1,zA2,hg,hY,gf,hpf,hfp,zA0]
 have nxP:=P.nx
 dsimp only at nxP
 have gf2:zA1 h2.ents f=_:=(P.fr f (by dsimp only;omega) hfp).trans gf
 have hY3:=fx5 P.fit gf2
 unfold enV at hk
 have hZ:=j8_ hX hY hY3 hg gf gf2 hpf hfp
 try refine wk_ ?_
 refine dx_ ?_
 exact hk _ _ _ _ _ _ _ _ _ _ _ _ _ (S.addE gf P om_ om_ om_ om_)
theorem zX8 {h0 hh:CHeap} {p f r d:Nat} {Ls:List CVal} {j:Int} {ms es:List CVal} (S:QS h0 p f r Ls j ms es hh) (A0:At Ls j 5 [] 0) (v0 v1 v2 v3 v5 v7 v8:CVal) (v9 v10 v11 v13 v14 v16 v17 v18 v19 v20 v21 v22:CVal) {Q:QT}
    (hk:∀ (v9 v10 v11 v13 v14 v16 v17 v18 v19 v20 v21 v22:CVal) n',hh.next<=n'->Q (.exit 0) ⟨[v0,v1,v2,v3,.ptr r 192937988 0,v5,.ptr p d 0,v7,v8,v9,v10,v11,.int .i64 1,v13,v14,.ptr f 192937988 0,v16,v17,v18,v19,v20,v21,v22,.int .i64 0,.int .i64 0],⟨hh.ents,n',hh.tys⟩,[]⟩):W TF prL ⟨[v0,v1,v2,v3,.ptr r 192937988 0,v5,.ptr p d 0,v7,v8,v9,v10,v11,.int .i64 1,v13,v14,.ptr f 192937988 0,v16,v17,v18,v19,v20,v21,v22,.int .i64 0,.int .i64 0],hh,[]⟩ Q:=by
 have hf:=S.fit
 have hg:=S.gp
 obtain ⟨hu,hut,hX⟩:=fx4 hf
 have hY:=fx5 hf hg
 have lp:=zA3 hu hg
 obtain ⟨z0,m0,l0,a0,v0_⟩:=id A0
 refine W.loop ?_
 have hZ:=j3_ hX hY hg
 repeat (first
  | refine wk_ ?_
  | (refine zD3 ft_ sd_ z0 l0 v0_ fun n4 g4=>⟨rfl,?_⟩;(try dsimp only at g4);(try simp only [tkv])))
 refine hk _ _ _ _ _ _ _ _ _ _ _ _ _ ?_;exact om_
end Go.Proofs.YtafeofghkhhhkaaGreat.IrM
namespace Go.Proofs.YtafeofghkhhhkaaGreat.IrM
open Go Go.CI
open Go.LexF hiding zLd zGw
set_option maxRecDepth 100000
set_option maxHeartbeats 4000000
set_option linter.unusedVariables false
set_option linter.unusedSimpArgs false
attribute [local irreducible] W Wo Wc WoR
structure PG (h h':CHeap):Prop where
 fit:Fit h'
 nx:h.next<=h'.next
 fr:∀ q,q<h.next->zA1 h'.ents q=zA1 h.ents q
def h7K:List Kw:=[nm [115,121,110,116,97,120],sg 61,(3,[112,114,111,116,111,51],0),sg 59,nm [112,97,99,107,97,103,101],nm [97],sg 59]
theorem zXj (a b:BD):txtK a b++[(5,[],0)]=h7K++(enK++(([nm [109,101,115,115,97,103,101],nm [73],sg 123]++(a.ks++[sg 125]))++(([nm [109,101,115,115,97,103,101],nm [77],sg 123]++(b.ks++[sg 125]))++[(5,[],0)]))):=by
 simp [txtK,hdrK,midK,enK,h7K]
theorem zUq {a:BD} {n:Nat} (ha:a.ok n) (hn:n<=9):a.ks.length<=150:=by
 obtain ⟨i,hi,B⟩:=ha.b
 have l3:=B.l
 have f1:∀ l:List FD,(∀ x ∈ l,x.ok)->(fsK l).length<=13 * l.length:=by
  intro l
  induction l with
  | nil=>intro _;simp [fsK]
  | cons x l ih =>
   intro h
   have h1:=ih fun y hy=>h y (by simp [hy])
   have h2:x.ks.length<=13:=by
    have h3:=(h x (by simp)).2.2.2
    unfold FD.ks FD.mid
    cases x.sh with
    | one=>simp
    | opt=>simp
    | rep k=>rcases k with _ | _ | k <;> simp [pkK]
    | map key=>simp
   have e:fsK (x::l)=x.ks++fsK l:=by simp [fsK]
   rw [e];simp only [List.length_append,List.length_cons];omega
 have f2:∀ l:List OD,(osK l).length<=13 * l.length:=by
  intro l
  induction l with
  | nil=>simp [osK]
  | cons x l ih =>
   have e:osK (x::l)=x.ks++osK l:=by simp [osK]
   rw [e];simp only [List.length_append,List.length_cons,OD.ks,List.length_nil];omega
 have g1:=f1 a.fs fun x hx=>(B.f x hx).1
 have g2:=f2 a.os
 unfold BD.ks
 cases a.os.isEmpty <;> simp <;> omega
theorem zSg {a b:BD} (ha:a.ok 4) (hb:b.ok 7) {T:List Tok} (hT:T.map tokW=txtK a b++[(5,[],0)]):Toks (T.map tokV) 0 (h7K++(enK++(([nm [109,101,115,115,97,103,101],nm [73],sg 123]++(a.ks++[sg 125]))++(([nm [109,101,115,115,97,103,101],nm [77],sg 123]++(b.ks++[sg 125]))++[(5,[],0)])))):=by
 rw [<- zXj,<- hT]
 have l1:=zUq ha om_
 have l2:=zUq hb om_
 have hl:T.length<=400:=by
  have:=congrArg List.length hT
  rw [zXj] at this
  simp [h7K,enK] at this
  omega
 refine ⟨by omega,by simp;omega,by simp,fun c k tx n h=>?_⟩
 rw [List.getElem?_map] at h
 cases hq:T[c]? with
 | none=>rw [hq] at h;cases h
 | some t =>
  rw [hq] at h
  obtain ⟨k1,t1,n1,a1⟩:=t
  simp [tokW] at h
  obtain ⟨rfl,rfl,rfl⟩:=h
  refine ⟨(a1:Int),?_⟩
  have:=zCc tokV T c _ hq
  rw [show ((0:Int)+(c:Int)).toNat=c by omega,this]
  rfl
def zWt (a b:BD):CVal:=.agg [.str [97],.nils,.imm .none 7 [msgV [73] a.xs (!a.os.isEmpty),msgV [77] b.xs (!b.os.isEmpty)],.imm .none 2 [enV]]
theorem zVj {a b:BD} (ha:a.ok 4) (hb:b.ok 7) {h:CHeap} (hf:Fit h) {K:KT} (hk:∀ h',PG h h'->K (.tup [zWt a b,.int .i64 0,.int .i64 0]) h'):Wc TF 125 [.str (zGp a b)] h K:=by
 obtain ⟨T,LX,hW⟩:=zWv ha hb
 have HT:=zSg ha hb hW
 have la:=ha.txt_len om_
 have lb:=hb.txt_len om_
 generalize T.map tokV=Ls at *
 generalize zGp a b=txt at *
 obtain ⟨hu,hut,hX⟩:=fx4 hf
 have A0:At Ls (0) 1 [115,121,110,116,97,120] 0:=HT.at 0 rfl om_ (by rfl) (by rfl)
 have A1:At Ls (0+1) 4 [61] 0:=HT.at 1 rfl om_ (by rfl) (by rfl)
 have A2:At Ls (0+1+1) 3 [112,114,111,116,111,51] 0:=HT.at 2 rfl om_ (by rfl) (by rfl)
 have A3:At Ls (0+1+1+1) 4 [59] 0:=HT.at 3 rfl om_ (by rfl) (by rfl)
 have A4:At Ls (0+1+1+1+1) 1 [112,97,99,107,97,103,101] 0:=HT.at 4 rfl om_ (by rfl) (by rfl)
 have A5:At Ls (0+1+1+1+1+1) 1 [97] 0:=HT.at 5 rfl om_ (by rfl) (by rfl)
 have A6:At Ls (0+1+1+1+1+1+1) 4 [59] 0:=HT.at 6 rfl om_ (by rfl) (by rfl)
 obtain ⟨z2,m2,l2,a2,v2⟩:=id A2
 obtain ⟨z5,m5,l5,a5,v5⟩:=id A5
 refine mk_ 125 c125 (s_ ?_)
 repeat ((fail_if_success (show W TF prL _ _));first
  | refine st_ rfl ?_
  | refine wsx_ ?_
  | (refine LX _ ?_ _ fun n2 ty2 g2 g2t=>⟨rfl,?_⟩;exact ft_;(have hut:=g2t);(try dsimp only at g2))
  | (refine zAn ?_ ?_ A0 fun n3 g3=>⟨rfl,?_⟩;exact ft_;(focus ((simp (disch:=omega) [zA1,zA2]);done));(try dsimp only at g3))
  | (refine zAf ?_ ?_ A1 fun n3 g3=>⟨rfl,?_⟩;exact ft_;(focus ((simp (disch:=omega) [zA1,zA2]);done));(try dsimp only at g3))
  | (refine zAf ?_ ?_ A3 fun n3 g3=>⟨rfl,?_⟩;exact ft_;(focus ((simp (disch:=omega) [zA1,zA2]);done));(try dsimp only at g3))
  | (refine zAf ?_ ?_ A6 fun n3 g3=>⟨rfl,?_⟩;exact ft_;(focus ((simp (disch:=omega) [zA1,zA2]);done));(try dsimp only at g3))
  | (refine zS2 ?_ ?_ A2 fun n3 g3=>⟨rfl,?_⟩;exact ft_;(focus ((simp (disch:=omega) [zA1,zA2]);done));(try dsimp only at g3))
  | (refine zAs ?_ ?_ A5 fun n3 g3=>⟨rfl,?_⟩;exact ft_;(focus ((simp (disch:=omega) [zA1,zA2]);done));(try dsimp only at g3))
  | (refine zAj ?_ ?_ A4 _ fun n3 g3=>⟨rfl,?_⟩;exact ft_;(focus ((simp (disch:=omega) [zA1,zA2]);done));(try dsimp only at g3))
  | (refine zBg ?_ ?_ A4 _ fun n3 g3=>⟨rfl,?_⟩;exact ft_;(focus ((simp (disch:=omega) [zA1,zA2]);done));(try dsimp only at g3))
  | (refine zD3 ?_ ?_ z2 l2 v2 fun n4 g4=>⟨rfl,?_⟩;exact ft_;(focus ((simp (disch:=omega) [zA1,zA2]);done));(try dsimp only at g4);(try simp only [tkv]))
  | (refine zD3 ?_ ?_ z5 l5 v5 fun n4 g4=>⟨rfl,?_⟩;exact ft_;(focus ((simp (disch:=omega) [zA1,zA2]);done));(try dsimp only at g4);(try simp only [tkv]))
  | (obtain ⟨z4,m4,l4,a4,v4⟩:=id A4;refine zD3 ?_ ?_ z4 l4 v4 fun n4 g4=>⟨rfl,?_⟩;exact ft_;(focus ((simp (disch:=omega) [zA1,zA2]);done));(try dsimp only at g4);(try simp only [tkv])))
 refine W.loop ?_
 repeat (first
  | refine wx_ ?_
  | (refine LX _ ?_ _ fun n2 ty2 g2 g2t=>⟨rfl,?_⟩;exact ft_;(have hut:=g2t);(try dsimp only at g2))
  | ((first | refine zAn ft_ s0_ A0 ?_ | refine zAf ft_ s0_ A1 ?_ | refine zAf ft_ s0_ A3 ?_ | refine zAf ft_ s0_ A6 ?_ | refine zS2 ft_ s0_ A2 ?_ | refine zAs ft_ s0_ A5 ?_ | refine zAj ft_ s0_ A4 _ ?_ | refine zBg ft_ s0_ A4 _ ?_);intro n3 g3;refine ⟨rfl,?_⟩;(try dsimp only at g3))
  | (refine zD3 ft_ s0_ z2 l2 v2 fun n4 g4=>⟨rfl,?_⟩;(try dsimp only at g4);(try simp only [tkv]))
  | (refine zD3 ft_ s0_ z5 l5 v5 fun n4 g4=>⟨rfl,?_⟩;(try dsimp only at g4);(try simp only [tkv]))
  | (obtain ⟨z4,m4,l4,a4,v4⟩:=id A4;refine zD3 ft_ s0_ z4 l4 v4 fun n4 g4=>⟨rfl,?_⟩;(try dsimp only at g4);(try simp only [tkv])))
 refine dx_ ?_
 obtain ⟨p,hp⟩:∃ p,p=n2+2+1+1:=⟨_,rfl⟩
 obtain ⟨f,hf2⟩:∃ f,f=n2+2+4+1:=⟨_,rfl⟩
 rw [<- hp,<- hf2]
 have S0:QS h p f h.next Ls 7 [] [] ⟨(f,.cells [.str [97],.nils,.nils,.nils])::(p,pp Ls 7)::(h.next,.cells [.str [],.nils,.nils,.nils])::h.ents,n3,ty2⟩:=by
  refine ⟨⟨?_,hut.le ?_⟩,?_,?_,⟨.nils,.nils,none,none,by simp [zA1],.inl ⟨rfl,rfl,rfl⟩,.inl ⟨rfl,rfl,rfl⟩,(fun i e=>by cases e),(fun i e=>by cases e)⟩,?_,by omega,by omega,Nat.le_refl _,by omega,by omega,by omega,fun q q1=>?_⟩
  . exact Under.cons (by dsimp only;omega) (Under.cons (by dsimp only;omega) (Under.cons (by dsimp only;omega) (hu.le (by dsimp only;omega))))
  . dsimp only;omega
  . dsimp only;omega
  . dsimp only;rw [zA6 (by omega)];simp [zA1]
  . dsimp only;rw [zA6 (by omega),zA6 (by omega)];simp [zA1]
  . dsimp only;rw [zA6 (by omega),zA6 (by omega),zA6 (by omega)]
 have H1:=HT.right
 have H2:=H1.right
 have H3:=H2.right
 have H4:=H3.right
 have e7:(0:Int)+((h7K.length:Nat):Int)=7:=by decide
 have e24:(0:Int)+((h7K.length:Nat):Int)+((enK.length:Nat):Int)=7+1+1+1+1+1+1+1+1+1+1+1+1+1+1+1+1+1:=by decide
 have eA:(0:Int)+((h7K.length:Nat):Int)+((enK.length:Nat):Int)+((([nm [109,101,115,115,97,103,101],nm [73],sg 123]++(a.ks++[sg 125])).length:Nat):Int)=7+1+1+1+1+1+1+1+1+1+1+1+1+1+1+1+1+1+3+(a.ks.length:Int)+1:=by rw [e24];simp;omega
 have eB:(0:Int)+((h7K.length:Nat):Int)+((enK.length:Nat):Int)+((([nm [109,101,115,115,97,103,101],nm [73],sg 123]++(a.ks++[sg 125])).length:Nat):Int)+((([nm [109,101,115,115,97,103,101],nm [77],sg 123]++(b.ks++[sg 125])).length:Nat):Int)=7+1+1+1+1+1+1+1+1+1+1+1+1+1+1+1+1+1+3+(a.ks.length:Int)+1+3+(b.ks.length:Int)+1:=by rw [eA];simp;omega
 rw [eB] at H4
 rw [eA] at H3
 rw [e24] at H2
 rw [e7] at H1
 refine zUw S0 H1.left _ _ _ _ _ _ _ _ _ _ _ _ _ _ _ _ _ _ _ (fun v9 v10 v11 v13 v14 v16 v17 v18 v19 v20 v21 v22 h1 S1=>?_)
 refine zUb S1 (by simp) ha (by omega) (by decide) (by simp) (by simp) H2.left _ _ _ _ _ _ _ _ _ _ _ _ _ _ _ _ _ _ _ (fun v9 v10 v11 v13 v14 v16 v17 v18 v19 v20 v21 v22 h2 S2=>?_)
 refine zUb S2 (by simp) hb (by omega) (by decide) (by simp) (by simp) H3.left _ _ _ _ _ _ _ _ _ _ _ _ _ _ _ _ _ _ _ (fun v9 v10 v11 v13 v14 v16 v17 v18 v19 v20 v21 v22 h3 S3=>?_)
 have AE:=H4.at 0 (j2:=7+1+1+1+1+1+1+1+1+1+1+1+1+1+1+1+1+1+3+(a.ks.length:Int)+1+3+(b.ks.length:Int)+1) (k2:=5) (n2:=0) (tx:=[]) rfl om_ rfl rfl
 refine zX8 S3 AE _ _ _ _ _ _ _ _ _ _ _ _ _ _ _ _ _ _ _ (fun v9 v10 v11 v13 v14 v16 v17 v18 v19 v20 v21 v22 n' g'=>?_)
 (try simp only [zB3,zA9,zAe,zAo,reduceIte])
 obtain ⟨M,E,mi,ei,gf,hM,hE,hmi,hei⟩:=S3.gf
 have g3p:=S3.gp
 have gr3:=S3.gr
 have nx3:=S3.nx
 have f3:=S3.fit
 rcases hM with ⟨_,h9,_⟩ | ⟨i7,u7,rfl,hxn,hi7,rfl⟩
 . simp at h9
 rcases hE with ⟨_,h9,_⟩ | ⟨i8,u8,rfl,hxn8,hi8,rfl⟩
 . simp at h9
 obtain ⟨hu,hut,hX⟩:=fx4 f3
 have hY:=fx5 f3 gr3
 have q1:f≠h.next:=S3.fr_
 have q2:=Ne.symm q1
 have q3:=S3.pr
 have q4:=Ne.symm q3
 unfold zWt at hk
 clear H1 H2 H3 H4 HT e7 e24 eA eB AE S0 S1 S2
 have hZ:=j9_ hX hY gf g3p gr3 q1 q2 q3 q4
 try refine wn_ ?_
 (refine W.ret ?_;(try simp only [zB3,zA9,zAe,zAo,reduceIte]);refine endW.of (.inl rfl) rfl ?_);generalize e:zCa .. = r;simp (disch:=omega) [hX,hY,gf,g3p,gr3,q1,q2,q3,q4,zA0] at e;subst e
 refine hk _ ⟨⟨(zBy f3.1.set).le ?_,f3.2.le ?_⟩,?_,fun q a=>?_⟩
 . exact om_
 . exact om_
 . exact om_
 . dsimp only;rw [zF8 a,zA0 (by omega)];exact S3.fr q a
end Go.Proofs.YtafeofghkhhhkaaGreat.IrM
namespace Go.Proofs.YtafeofghkhhhkaaGreat.IrM
open Go Go.CI
set_option maxRecDepth 100000
set_option maxHeartbeats 4000000
set_option linter.unusedVariables false
set_option linter.unusedSimpArgs false
attribute [local irreducible] W Wo Wc WoR
def msF (a b:BD):CVal:=.imm .none 7 [msgV [73] a.xs (!a.os.isEmpty),msgV [77] b.xs (!b.os.isEmpty)]
def esF:CVal:=.imm .none 2 [enV]
def zH1 (a b:BD):CVal:=.agg [.str [120],.str [97],.nils,msF a b,esF,.imm .none 1 [.str [120]]]
abbrev srcL (txt:B8):CVal:=.imm .full 2 [.agg [.str [120],.str txt]]
theorem zch {h:CHeap} {x d:Nat} {txt:B8} {F:CVal} {e:Int} {s:B8} {w:Int} (hf:Fit h) (hg:zA1 h.ents x=some (.cells [srcL txt,F,.int .i64 e,.str s,.int .i64 w])) {K:KT} (hk:∀ n',h.next<=n'->K (.tup [.str txt,.bool true]) ⟨h.ents,n',h.tys⟩):Wc TF 124 [.ptr x d 0,.str [120]] h K:=by
 obtain ⟨hu,hut,hX⟩:=fx4 hf
 have hY:=fx5 hf hg
 refine mk_ 124 c124 (s_ ?_)
 have hZ:=j3_ hX hY hg
 repeat (first
  | refine wk_ ?_
  | (refine W.loop ?_)
  | (show W TF _ (dropped true _ _) _;generalize e:dropped _ _ _=r;simp (disch:=omega) [hX,hY,hg] at e;subst e;refine W.loop ?_)
  | (refine rk_ ?_;refine hk _ ?_;exact om_))
theorem zXq {a b:BD} (ha:a.ok 4) (hb:b.ok 7) {h:CHeap} {x d:Nat} (hf:Fit h) (hg:zA1 h.ents x=some (.cells [srcL (zGp a b),.nils,.int .i64 0,.str [],.int .i64 0])) {K:KT}
    (hk:∀ h' i u,Fit h'->h.next<=h'.next->h.next<=i->zA1 h'.ents i=some (.tok u)->zA1 h'.ents x=some (.cells [srcL (zGp a b),.imm (.own i u) 6 [zH1 a b],.int .i64 0,.str [],.int .i64 0])->(∀ q,q<h.next->q≠x->zA1 h'.ents q=zA1 h.ents q)->K (.tup []) h'):Wc TF 95 [.ptr x d 0,.str [120],.nils] h K:=by
 obtain ⟨hu,hut,hX⟩:=fx4 hf
 have hY:=fx5 hf hg
 have lx:=zA3 hu hg
 refine mk_ 95 c95 (s_ ?_)
 have hZ:=j3_ hX hY hg
 repeat (first
  | refine wk_ ?_
  | (refine zch (txt:=zGp a b) (F:=.nils) (e:=0) (s:=[]) (w:=0) ?_ ?_ fun n3 g3=>⟨rfl,?_⟩;exact ft_;exact sd_;(try dsimp only at g3)))
 refine zVj ha hb ?_ (fun h2 P=>⟨rfl,?_⟩)
 . exact ft_
 have nxP:=P.nx
 dsimp only at nxP
 have g2:zA1 h2.ents x=_:=(P.fr x (by dsimp only;omega)).trans hg
 have f2:=P.fit
 have Z:∀ q,h.next<=q->q<_->zA1 h2.ents q=none:=fun q a b=>(P.fr q b).trans (hX.2.2.1 q a)
 dsimp only at Z
 obtain ⟨hu,hut,hX⟩:=fx4 f2
 have hY:=fx5 f2 g2
 unfold zWt
 have eM:CVal.imm .none 7 [msgV [73] a.xs (!a.os.isEmpty),msgV [77] b.xs (!b.os.isEmpty)]=msF a b:=rfl
 have eE:CVal.imm .none 2 [enV]=esF:=rfl
 have s1:(msF a b).strip=msF a b:=rfl
 have s2:esF.strip=esF:=rfl
 have s3:(msF a b).lenOf=some 2:=rfl
 rw [eM,eE]
 unfold zH1 at hk
 have b1:(msF a b).beq (msF a b)=true:=zB4 _
 have b2:esF.beq esF=true:=zB4 _
 generalize msF a b=wM at *
 generalize esF=wE at *
 generalize zGp a b=txt at *
 simp only [CVal.strip] at s1 s2
 have hZ:=j8_ hX hY g2 s1 s2 b1 b2 Z
 repeat (first
  | refine vk_ ?_
  | (refine W.loop ?_)
  | (show W TF _ (dropped true _ _) _;generalize e:dropped _ _ _=r;simp (disch:=omega) [hX,hY,g2,s1,s2,b1,b2,Z] at e;subst e;refine W.loop ?_)
  | (refine rk_ ?_;skip))
 have lx2:x<h2.next:=zA3 f2.1 g2
 refine hk _ (h2.next+2+7+1+1+12+1+1+1+1+1+1+1+1+1+1+1+1+1) 0 ⟨?_,?_⟩ ?_ ?_ (by simp [zA1]) ?_ fun q q1 q2=>?_
 . dsimp only;exact Under.cons (by omega) (Under.cons (by omega) (Under.cons (by omega) ((zCo (f2.1.set)).le (by omega))))
 . exact f2.2.le (by dsimp only;omega)
 . dsimp only;omega
 . omega
 . dsimp only
   rw [zA6 (by omega),zA6 (by omega),zA6 (by omega),zDs lx]
   exact zA4 g2
 . dsimp only
   rw [zA6 (by omega),zA6 (by omega),zA6 (by omega),zDs q1,zA0 q2]
   exact P.fr q (by dsimp only;omega)
def zCf (a b:BD):CVal:=.imm .none 6 [zH1 a b]
theorem zXt {a b:BD} (ha:a.ok 4) (hb:b.ok 7) {h:CHeap} (hf:Fit h) {K:KT}
    (hk:∀ h',PG h h'->K (.tup [zCf a b,.int .i64 0,.str [],.int .i64 0]) h'):Wc TF 43 [srcL (zGp a b)] h K:=by
 obtain ⟨hu,hut,hX⟩:=fx4 hf
 refine mk_ 43 c43 (s_ ?_)
 repeat (first
  | refine vx_ ?_
  | (refine W.loop ?_)
  | (refine dx_ ?_;refine W.loop ?_)
  | (refine zXq ha hb ?_ ?_ fun h2 i u f2 nx li gi gx fr=>⟨rfl,?_⟩;exact ft_;exact s0_;(try dsimp only at nx li gx fr)))
 have f3:=f2
 obtain ⟨hu,hut,hX⟩:=fx4 f2
 have lx:=zA3 hu gx
 have s1:(zH1 a b).strip=zH1 a b:=rfl
 have v1:zCf a b=.imm .none 6 [zH1 a b]:=rfl
 rw [v1] at hk
 generalize zH1 a b=wF at *
 generalize zGp a b=txt at *
 generalize eb:h.next+4+3+1+4+1+3+3+4+1+1=bx at *
 have hZ:=j3_ hX gx gi
 repeat (first
  | refine vk_ ?_
  | (refine rk_ ?_;skip))
 refine hk _ ⟨⟨?_,?_⟩,?_,fun q q1=>?_⟩
 . dsimp only;exact (zBy hu).le (by omega)
 . exact hut.le (by dsimp only;omega)
 . dsimp only;omega
 . dsimp only
   rw [zF8 q1,fr q (by omega) (by omega)]
   exact zA6 om_
theorem zT8 {h:CHeap} {s f:B8} (hf:Fit h) {K:KT} (hk:∀ n',h.next<=n'->K .nils ⟨h.ents,n',h.tys⟩):Wc TF 128 [.nils,.nils,.str s,.str f] h K:=by
 obtain ⟨hu,hut,hX⟩:=fx4 hf
 refine mk_ 128 c128 (s_ ?_)
 repeat (first
  | refine vx_ ?_
  | (refine W.loop ?_)
  | (refine dx_ ?_;refine W.loop ?_)
  | (refine rx_ ?_;refine hk _ ?_;exact om_))
theorem PG.mk2 {h h2:CHeap} {m:Nat} {l:EE} {n:Nat} (P:PG ⟨h.ents,m,h.tys⟩ h2) (hm:h.next<=m) (hl:∀ q,q<h.next->zA1 l q=zA1 h2.ents q) (hU:Under l h2.next) (hn:h2.next<=n):PG h ⟨l,n,h2.tys⟩:=by
 have nx:=P.nx
 dsimp only at nx
 exact ⟨⟨hU.le hn,P.fit.2.le hn⟩,by dsimp only;omega,fun q q1=>(hl q q1).trans (P.fr q (by dsimp only;omega))⟩
theorem zHc (l:List CVal):(lV7 l).strip=lV7 l:=by unfold lV7;split <;> rfl
def nmM (n:B8) (m:CVal):CVal:=match m with | .agg l=>.agg ([.str n,.int .i64 16]++l++[.str [],.nils,.str [120]]) | v=>v
def nmE:CVal:=.agg [.str [97,46,69],.int .i64 17,.str [],.nils,.nils,.nils,.nils,.nils,.nils,.str [69],.imm .none 2 [.agg [.str [65],.int .i64 0],.agg [.str [66],.int .i64 1],.agg [.str [67],.int .i64 (-1)]],.str [120]]
theorem zTq {a b:BD} {h:CHeap} (hf:Fit h) {K:KT} (hk:∀ h',PG h h'->K (.imm .none 12 [nmM [97,46,73] (msgV [73] a.xs (!a.os.isEmpty)),nmM [97,46,77] (msgV [77] b.xs (!b.os.isEmpty)),nmE]) h'):Wc TF 128 [msF a b,esF,.str [97],.str [120]] h K:=by
 obtain ⟨hu,hut,hX⟩:=fx4 hf
 unfold msF esF msgV nmM enV nmE at *
 have sA:(lV7 a.xs).strip=lV7 a.xs:=zHc _
 have sB:(lV7 b.xs).strip=lV7 b.xs:=zHc _
 have sC:(if (!a.os.isEmpty)=true then CVal.imm .none 1 [.str [99]] else .nils).strip=(if (!a.os.isEmpty)=true then CVal.imm .none 1 [.str [99]] else .nils):=by split <;> rfl
 have sD:(if (!b.os.isEmpty)=true then CVal.imm .none 1 [.str [99]] else .nils).strip=(if (!b.os.isEmpty)=true then CVal.imm .none 1 [.str [99]] else .nils):=by split <;> rfl
 generalize lV7 a.xs=lA at *
 generalize lV7 b.xs=lB at *
 generalize (if (!a.os.isEmpty)=true then CVal.imm .none 1 [.str [99]] else .nils)=oA at *
 generalize (if (!b.os.isEmpty)=true then CVal.imm .none 1 [.str [99]] else .nils)=oB at *
 simp only [CVal.strip] at sA sB sC sD
 refine mk_ 128 c128 (s_ ?_)
 have hZ:=j5_ hX sA sB sC sD
 repeat (first
  | refine vk_ ?_
  | (refine W.loop ?_)
  | (show W TF _ (dropped true _ _) _;generalize e:dropped _ _ _=r;simp (disch:=omega) [hX,sA,sB,sC,sD] at e;subst e;refine W.loop ?_)
  | (refine zT8 ft_ fun n g=>⟨rfl,?_⟩;(try dsimp only at g))
  | (refine mk_ 159 c159 (s_ ?_))
  | (refine rk_ ?_;(first | refine ⟨rfl,?_⟩ | (skip))))
 exact hk _ ⟨⟨hu.le (by dsimp only;omega),hut.le (by dsimp only;omega)⟩,by dsimp only;omega,fun _ _=>rfl⟩
theorem zNk {a b:BD} {h:CHeap} (hf:Fit h) {K:KT} (hk:∀ h',PG h h'->K (.imm .none 12 [nmM [97,46,73] (msgV [73] a.xs (!a.os.isEmpty)),nmM [97,46,77] (msgV [77] b.xs (!b.os.isEmpty)),nmE]) h'):Wc TF 96 [zCf a b] h K:=by
 obtain ⟨hu,hut,hX⟩:=fx4 hf
 have t1:(nmM [97,46,73] (msgV [73] a.xs (!a.os.isEmpty))).bare=nmM [97,46,73] (msgV [73] a.xs (!a.os.isEmpty)):=by
  simp only [nmM,msgV,CVal.bare,List.map,List.map_append,List.cons_append,List.nil_append,zHc];congr 1;cases a.os <;> rfl
 have t2:(nmM [97,46,77] (msgV [77] b.xs (!b.os.isEmpty))).bare=nmM [97,46,77] (msgV [77] b.xs (!b.os.isEmpty)):=by
  simp only [nmM,msgV,CVal.bare,List.map,List.map_append,List.cons_append,List.nil_append,zHc];congr 1;cases b.os <;> rfl
 have t3:nmE.bare=nmE:=rfl
 have W1:=@zTq a b
 unfold zCf zH1
 generalize nmM [97,46,73] (msgV [73] a.xs (!a.os.isEmpty))=w1 at *
 generalize nmM [97,46,77] (msgV [77] b.xs (!b.os.isEmpty))=w2 at *
 generalize nmE=w3 at *
 simp only [CVal.bare,CVal.strip] at t1 t2 t3
 refine mk_ 96 c96 (s_ ?_)
 have hZ:=j4_ hX t1 t2 t3
 repeat (first
  | refine vk_ ?_
  | (refine W.loop ?_)
  | (show W TF _ (dropped true _ _) _;generalize e:dropped _ _ _=r;simp (disch:=omega) [hX,t1,t2,t3] at e;subst e;refine W.loop ?_)
  | (refine W1 ft_ fun h2 P=>⟨rfl,?_⟩;(have nx2:=P.nx;have hh2:=P.fit;have hX2:=(fx4 hh2).2.2;try dsimp only at nx2))
  | (refine rk_ ?_;skip))
 refine hk _ (PG.mk2 P om_ (fun q q1=>?_) ?_ om_)
 . rw [zF8 q1,zDs (by omega)]
 . exact zBy (zCo hh2.1)
def wN (k:Nat):Int:=if k=1\/k=10\/k=12 then 1 else if k=2\/k=9\/k=11 then 5 else if k=14\/k=15\/k=16 then 2 else 0
theorem zO2 (k:Nat) (h1:1<=k) (h2:k<=17):Pe 82 [.int .i64 (k:Int)] (.int .i64 (wN k)):=by
 rcases (show k=1\/k=2\/k=3\/k=4\/k=5\/k=6\/k=7\/k=8\/k=9\/k=10\/k=11\/k=12\/k=13\/k=14\/k=15\/k=16\/k=17 by omega) with rfl | rfl | rfl | rfl | rfl | rfl | rfl | rfl | rfl | rfl | rfl | rfl | rfl | rfl | rfl | rfl | rfl
 all_goals (
  intro h hf K hk
  obtain ⟨hu,hut,hX⟩:=fx4 hf
  refine mk_ 82 c82 (s_ ?_)
  repeat (first
   | refine vx_ ?_
   | (refine W.ret ?_)
   | (refine rx_ ?_;refine hk _ ?_;exact om_))
 )
theorem zWu {a b:BD} {h:CHeap} (hf:Fit h) {K:KT} (hk:∀ h',PG h h'->K (.tup [.str [97,46,69],.int .i64 17,.int .i64 0]) h'):Wc TF 131 [zCf a b,.str [120],.str [97,46,73],.str [69]] h K:=by
 obtain ⟨hu,hut,hX⟩:=fx4 hf
 have AF:=@zNk a b
 unfold zCf zH1 nmM msgV nmE at *
 dsimp only [List.cons_append,List.nil_append] at AF
 generalize msF a b=wM at *
 generalize esF=wE at *
 generalize lV7 a.xs=lA at *
 generalize lV7 b.xs=lB at *
 generalize (if (!a.os.isEmpty)=true then CVal.imm .none 1 [.str [99]] else .nils)=oA at *
 generalize (if (!b.os.isEmpty)=true then CVal.imm .none 1 [.str [99]] else .nils)=oB at *
 refine mk_ 131 c131 (s_ ?_)
 repeat (first
  | refine vx_ ?_
  | (refine W.loop ?_)
  | (refine dx_ ?_;refine W.loop ?_)
  | (refine AF ft_ fun h2 P=>⟨rfl,?_⟩;(have nx2:=P.nx;have hh2:=P.fit;have hX2:=(fx4 hh2).2.2;try dsimp only at nx2))
  | (refine W.ret ?_)
  | (refine mk_ 159 c159 (s_ ?_))
  | (refine mk_ 127 c127 (s_ ?_))
  | (refine rx_ ?_;(first | refine ⟨rfl,?_⟩ | (skip))))
 obtain ⟨d1,d2,_⟩:=(fx4 P.fit).2.2
 simp (disch:=omega) only [d1,d2]
 refine hk _ (PG.mk2 P om_ (fun q q1=>?_) ?_ om_)
 . rw [zF8 q1]
 . exact zBy P.fit.1
theorem zW3 {a b:BD} {h:CHeap} (hf:Fit h) {K:KT} (hk:∀ h',PG h h'->K (.tup [.str [97,46,73],.int .i64 16,.int .i64 0]) h'):Wc TF 131 [zCf a b,.str [120],.str [97,46,73],.str [73]] h K:=by
 obtain ⟨hu,hut,hX⟩:=fx4 hf
 have AF:=@zNk a b
 unfold zCf zH1 nmM msgV nmE at *
 dsimp only [List.cons_append,List.nil_append] at AF
 generalize msF a b=wM at *
 generalize esF=wE at *
 generalize lV7 a.xs=lA at *
 generalize lV7 b.xs=lB at *
 generalize (if (!a.os.isEmpty)=true then CVal.imm .none 1 [.str [99]] else .nils)=oA at *
 generalize (if (!b.os.isEmpty)=true then CVal.imm .none 1 [.str [99]] else .nils)=oB at *
 refine mk_ 131 c131 (s_ ?_)
 repeat (first
  | refine vx_ ?_
  | (refine W.loop ?_)
  | (refine dx_ ?_;refine W.loop ?_)
  | (refine AF ft_ fun h2 P=>⟨rfl,?_⟩;(have nx2:=P.nx;have hh2:=P.fit;have hX2:=(fx4 hh2).2.2;try dsimp only at nx2))
  | (refine W.ret ?_)
  | (refine mk_ 159 c159 (s_ ?_))
  | (refine mk_ 127 c127 (s_ ?_))
  | (refine rx_ ?_;(first | refine ⟨rfl,?_⟩ | (skip))))
 obtain ⟨d1,d2,_⟩:=(fx4 P.fit).2.2
 simp (disch:=omega) only [d1,d2]
 refine hk _ (PG.mk2 P om_ (fun q q1=>?_) ?_ om_)
 . rw [zF8 q1]
 . exact zBy P.fit.1
theorem zWp {a b:BD} {h:CHeap} (hf:Fit h) {K:KT} (hk:∀ h',PG h h'->K (.tup [.str [97,46,77],.int .i64 16,.int .i64 0]) h'):Wc TF 131 [zCf a b,.str [120],.str [97,46,73],.str [77]] h K:=by
 obtain ⟨hu,hut,hX⟩:=fx4 hf
 have AF:=@zNk a b
 unfold zCf zH1 nmM msgV nmE at *
 dsimp only [List.cons_append,List.nil_append] at AF
 generalize msF a b=wM at *
 generalize esF=wE at *
 generalize lV7 a.xs=lA at *
 generalize lV7 b.xs=lB at *
 generalize (if (!a.os.isEmpty)=true then CVal.imm .none 1 [.str [99]] else .nils)=oA at *
 generalize (if (!b.os.isEmpty)=true then CVal.imm .none 1 [.str [99]] else .nils)=oB at *
 refine mk_ 131 c131 (s_ ?_)
 repeat (first
  | refine vx_ ?_
  | (refine W.loop ?_)
  | (refine dx_ ?_;refine W.loop ?_)
  | (refine AF ft_ fun h2 P=>⟨rfl,?_⟩;(have nx2:=P.nx;have hh2:=P.fit;have hX2:=(fx4 hh2).2.2;try dsimp only at nx2))
  | (refine W.ret ?_)
  | (refine mk_ 159 c159 (s_ ?_))
  | (refine mk_ 127 c127 (s_ ?_))
  | (refine rx_ ?_;(first | refine ⟨rfl,?_⟩ | (skip))))
 obtain ⟨d1,d2,_⟩:=(fx4 P.fit).2.2
 simp (disch:=omega) only [d1,d2]
 refine hk _ (PG.mk2 P om_ (fun q q1=>?_) ?_ om_)
 . rw [zF8 q1]
 . exact zBy P.fit.1
theorem zVl {a b:BD} {h:CHeap} (hf:Fit h) {K:KT} (hk:∀ h',PG h h'->K (.tup [.str [97,46,69],.int .i64 17,.int .i64 0]) h'):Wc TF 131 [zCf a b,.str [120],.str [97,46,77],.str [69]] h K:=by
 obtain ⟨hu,hut,hX⟩:=fx4 hf
 have AF:=@zNk a b
 unfold zCf zH1 nmM msgV nmE at *
 dsimp only [List.cons_append,List.nil_append] at AF
 generalize msF a b=wM at *
 generalize esF=wE at *
 generalize lV7 a.xs=lA at *
 generalize lV7 b.xs=lB at *
 generalize (if (!a.os.isEmpty)=true then CVal.imm .none 1 [.str [99]] else .nils)=oA at *
 generalize (if (!b.os.isEmpty)=true then CVal.imm .none 1 [.str [99]] else .nils)=oB at *
 refine mk_ 131 c131 (s_ ?_)
 repeat (first
  | refine vx_ ?_
  | (refine W.loop ?_)
  | (refine dx_ ?_;refine W.loop ?_)
  | (refine AF ft_ fun h2 P=>⟨rfl,?_⟩;(have nx2:=P.nx;have hh2:=P.fit;have hX2:=(fx4 hh2).2.2;try dsimp only at nx2))
  | (refine W.ret ?_)
  | (refine mk_ 159 c159 (s_ ?_))
  | (refine mk_ 127 c127 (s_ ?_))
  | (refine rx_ ?_;(first | refine ⟨rfl,?_⟩ | (skip))))
 obtain ⟨d1,d2,_⟩:=(fx4 P.fit).2.2
 simp (disch:=omega) only [d1,d2]
 refine hk _ (PG.mk2 P om_ (fun q q1=>?_) ?_ om_)
 . rw [zF8 q1]
 . exact zBy P.fit.1
theorem zWj {a b:BD} {h:CHeap} (hf:Fit h) {K:KT} (hk:∀ h',PG h h'->K (.tup [.str [97,46,73],.int .i64 16,.int .i64 0]) h'):Wc TF 131 [zCf a b,.str [120],.str [97,46,77],.str [73]] h K:=by
 obtain ⟨hu,hut,hX⟩:=fx4 hf
 have AF:=@zNk a b
 unfold zCf zH1 nmM msgV nmE at *
 dsimp only [List.cons_append,List.nil_append] at AF
 generalize msF a b=wM at *
 generalize esF=wE at *
 generalize lV7 a.xs=lA at *
 generalize lV7 b.xs=lB at *
 generalize (if (!a.os.isEmpty)=true then CVal.imm .none 1 [.str [99]] else .nils)=oA at *
 generalize (if (!b.os.isEmpty)=true then CVal.imm .none 1 [.str [99]] else .nils)=oB at *
 refine mk_ 131 c131 (s_ ?_)
 repeat (first
  | refine vx_ ?_
  | (refine W.loop ?_)
  | (refine dx_ ?_;refine W.loop ?_)
  | (refine AF ft_ fun h2 P=>⟨rfl,?_⟩;(have nx2:=P.nx;have hh2:=P.fit;have hX2:=(fx4 hh2).2.2;try dsimp only at nx2))
  | (refine W.ret ?_)
  | (refine mk_ 159 c159 (s_ ?_))
  | (refine mk_ 127 c127 (s_ ?_))
  | (refine rx_ ?_;(first | refine ⟨rfl,?_⟩ | (skip))))
 obtain ⟨d1,d2,_⟩:=(fx4 P.fit).2.2
 simp (disch:=omega) only [d1,d2]
 refine hk _ (PG.mk2 P om_ (fun q q1=>?_) ?_ om_)
 . rw [zF8 q1]
 . exact zBy P.fit.1
theorem zVc {a b:BD} {h:CHeap} (hf:Fit h) {K:KT} (hk:∀ h',PG h h'->K (.tup [.str [97,46,77],.int .i64 16,.int .i64 0]) h'):Wc TF 131 [zCf a b,.str [120],.str [97,46,77],.str [77]] h K:=by
 obtain ⟨hu,hut,hX⟩:=fx4 hf
 have AF:=@zNk a b
 unfold zCf zH1 nmM msgV nmE at *
 dsimp only [List.cons_append,List.nil_append] at AF
 generalize msF a b=wM at *
 generalize esF=wE at *
 generalize lV7 a.xs=lA at *
 generalize lV7 b.xs=lB at *
 generalize (if (!a.os.isEmpty)=true then CVal.imm .none 1 [.str [99]] else .nils)=oA at *
 generalize (if (!b.os.isEmpty)=true then CVal.imm .none 1 [.str [99]] else .nils)=oB at *
 refine mk_ 131 c131 (s_ ?_)
 repeat (first
  | refine vx_ ?_
  | (refine W.loop ?_)
  | (refine dx_ ?_;refine W.loop ?_)
  | (refine AF ft_ fun h2 P=>⟨rfl,?_⟩;(have nx2:=P.nx;have hh2:=P.fit;have hX2:=(fx4 hh2).2.2;try dsimp only at nx2))
  | (refine W.ret ?_)
  | (refine mk_ 159 c159 (s_ ?_))
  | (refine mk_ 127 c127 (s_ ?_))
  | (refine rx_ ?_;(first | refine ⟨rfl,?_⟩ | (skip))))
 obtain ⟨d1,d2,_⟩:=(fx4 P.fit).2.2
 simp (disch:=omega) only [d1,d2]
 refine hk _ (PG.mk2 P om_ (fun q q1=>?_) ?_ om_)
 . rw [zF8 q1]
 . exact zBy P.fit.1
theorem za0 {n t key nm:B8} {A O:CVal} {lab pk oo:Int} {num:Nat} (h1:1<=num) (h2:num<1000):Pe 129 [.agg [.str n,A,O,.nils,.nils,.nils,.nils],.agg [.int .i64 lab,.str t,.str key,.str nm,.int .u64 (num:Int),.int .i64 pk,.int .i64 oo]] (.bool false):=by
 intro h hf K hk
 obtain ⟨hu,hut,hX⟩:=fx4 hf
 have a1:¬ (num:Int)<1:=by omega
 have a2:¬ (num:Int) > 536870911:=by omega
 have a2':¬ (536870911:Int)<num:=by omega
 have a3:¬ (num:Int) >= 19000:=by omega
 have a3':¬ (19000:Int)<=num:=by omega
 refine mk_ 129 c129 (s_ ?_)
 have hZ:=j6_ hX a1 a2 a2' a3 a3'
 repeat (first
  | refine vk_ ?_
  | (refine W.loop ?_)
  | (show W TF _ (dropped true _ _) _;generalize e:dropped _ _ _=r;simp (disch:=omega) [hX,a1,a2,a2',a3,a3'] at e;subst e;refine W.loop ?_)
  | (refine mk_ 127 c127 (s_ ?_))
  | (refine rk_ ?_;(first | refine ⟨rfl,?_⟩ | (refine hk _ ?_;exact om_))))
theorem zU8 {nm:B8} (hn:nm≠[99]) (c:Bool):Pe 127 [(if c=true then CVal.imm .none 1 [.str [99]] else .nils),.str nm] (.bool false):=by
 have e1:([99] == nm)=false:=by simp [Ne.symm hn]
 have e2:([99]=nm)=False:=by simp [Ne.symm hn]
 cases c
 all_goals (
  intro h hf K hk
  obtain ⟨hu,hut,hX⟩:=fx4 hf
  refine mk_ 127 c127 (s_ ?_)
  have hZ:=j3_ hX e1 e2
  repeat (first
   | refine vk_ ?_
   | (refine W.loop ?_)
   | (show W TF _ (dropped true _ _) _;generalize e:dropped _ _ _=r;simp (disch:=omega) [hX,e1,e2] at e;subst e;refine W.loop ?_)
   | (refine rk_ ?_;refine hk _ ?_;exact om_))
 )
structure RW where
 lab:Nat
 t:B8
 key:B8
 nm:B8
 num:Nat
 pk:Nat
 oo:Nat
def RW.v (r:RW):CVal:=ffV r.lab r.t r.key r.nm r.num r.pk r.oo
def RW.kind (r:RW):Nat:=if zAi r.t=0 then (if r.t=[69] then 17 else 16) else zAi r.t
def RW.ty (r:RW):B8:=if zAi r.t=0 then [97,46]++r.t else []
def RW.pkd (r:RW):Bool:=r.lab == 2 && (wN r.kind != 2 && r.pk != 2)
def RW.pf (r:RW):CVal:=.agg [.int .i64 r.num,.str r.nm,.int .i64 r.lab,.int .i64 r.kind,.str r.ty,.int .i64 (zAi r.key),.bool r.pkd,.int .i64 r.oo]
structure RW.ok (r:RW):Prop where
 lab:r.lab<=3
 t:r.t ∈ W18
 num1:1<=r.num
 num2:r.num<1000
 nm:r.nm≠[99]
 pk:r.pk<=2
 pk2:r.pk≠0->r.lab=2/\wN r.kind≠2
def insR (r:RW):List RW->List RW
 | []=>[r]
 | x::l=>if x.num<r.num then x::insR r l else r::x::l
def FD.rw (d:FD):RW:=match d.sh with
 | .one=>⟨0,d.t,[],102::dg d.num,d.num,0,0⟩
 | .opt=>⟨1,d.t,[],102::dg d.num,d.num,0,0⟩
 | .rep k=>⟨2,d.t,[],102::dg d.num,d.num,(match k with | 0=>0 | 1=>2 | _=>1),0⟩
 | .map key=>⟨3,d.t,key,102::dg d.num,d.num,0,0⟩
def OD.rw (d:OD):RW:=⟨0,d.t,[],111::dg d.num,d.num,0,1⟩
theorem FD.rw_v (d:FD):d.rw.v=d.v:=by
 obtain ⟨sh,t,num⟩:=d
 cases sh with
 | rep k=>match k with | 0=>rfl | 1=>rfl | n+2=>rfl
 | _=>rfl
theorem OD.rw_v (d:OD):d.rw.v=d.v:=rfl
def BD.rs (b:BD):List RW:=b.fs.map FD.rw++b.os.map OD.rw
theorem BD.rs_v (b:BD):b.rs.map RW.v=b.xs:=by
 simp only [BD.rs,BD.xs,List.map_append,List.map_map]
 congr 1
 . exact List.map_congr_left fun d _=>d.rw_v
theorem zF4:∀ t ∈ W18,zAi t<=15/\(zAi t=0->t=[69]\/t=[73]\/t=[77])/\(wN (if zAi t=0 then (if t=[69] then 17 else 16) else zAi t)=2->t=[115,116,114,105,110,103]\/t=[98,121,116,101,115]\/t=[73]\/t=[77]):=by decide +kernel
theorem FD.rw_ok {d:FD} (h:d.ok):d.rw.ok:=by
 obtain ⟨h1,h2,h3,h4⟩:=h
 obtain ⟨sh,t,num⟩:=d
 have hk:=zF4 _ h1
 cases sh with
 | rep k =>
  dsimp only at *
  refine ⟨by simp [FD.rw],h1,h2,h3,by simp [FD.rw],?_,?_⟩
  . match k with | 0=>simp [FD.rw] | 1=>simp [FD.rw] | n+2=>simp [FD.rw]
  . intro e
    refine ⟨rfl,fun w=>?_⟩
    have hk0:k≠0:=by rintro rfl;exact e rfl
    exact h4.2 hk0 (hk.2.2 w)
 | _=>refine ⟨by simp [FD.rw],h1,h2,h3,by simp [FD.rw],by simp [FD.rw],by simp [FD.rw]⟩
theorem OD.rw_ok {d:OD} (h:d.ok):d.rw.ok:=by
 obtain ⟨h1,h2,h3⟩:=h
 refine ⟨by simp [OD.rw],h1,h2,h3,by simp [OD.rw],by simp [OD.rw],by simp [OD.rw]⟩
theorem zZl {hh:CHeap} (hf:Fit hh) {b1 pm p7:Nat} {FV O:CVal} {whole n:B8} {L:List CVal} {i4 d4:Nat} {r:RW} {Ls:List RW} (hL:L=Ls.map RW.v) (g1:zA1 hh.ents b1=some (.cells [.str whole,.int .i64 16,.str n,.imm .none 7 L,O,.nils,.nils,.nils,.nils,.str [],.nils,.str [120]])) (g4:zA1 hh.ents i4=some (.cells [.int .i64 r.lab,.str r.t,.str r.key,.str r.nm,.int .u64 r.num,.int .i64 r.pk,.int .i64 r.oo])) {i:Nat} (hi:i<=Ls.length) (hl9:Ls.length<=100) (hd:∀ x ∈ Ls.take i,x.num≠r.num/\x.nm≠r.nm) {v0 v3 v5 v11 v12 v13 v15 v16 v17 v18 v19 v20 v21 v22 v23 v24 v25 v26 v27:CVal} {Q:QT}
    (hk:∀ (v8 v9 v10:CVal) n',hh.next<=n'->Q (.exit 2) ⟨[v0,.ptr b1 164626444 0,.int .i64 (i:Int),v3,.ptr i4 d4 0,v5,.ptr pm 49283075 0,.ptr p7 49283075 0,v8,v9,v10,v11,v12,v13,FV,v15,v16,v17,v18,v19,v20,v21,v22,v23,v24,v25,v26,v27,.int .i64 0],⟨hh.ents,n',hh.tys⟩,[]⟩) :
    ∀ (m k nx:Nat) (v9 v10:CVal),k+m=i->hh.next<=nx->W TF dupL ⟨[v0,.ptr b1 164626444 0,.int .i64 (i:Int),v3,.ptr i4 d4 0,v5,.ptr pm 49283075 0,.ptr p7 49283075 0,.int .i64 (k:Int),v9,v10,v11,v12,v13,FV,v15,v16,v17,v18,v19,v20,v21,v22,v23,v24,v25,v26,v27,.int .i64 0],⟨hh.ents,nx,hh.tys⟩,[]⟩ Q:=by
 intro m
 induction m with
 | zero =>
  intro k nx v9 v10 h1 h2
  obtain rfl:k=i:=by omega
  have hge:¬ (k:Int)<(k:Int):=by omega
  refine W.loop ?_
  have hZ:=hge
  try refine wk_ ?_
  refine hk _ _ _ _ ?_;exact om_
 | succ m ih =>
  intro k nx v9 v10 h1 h2
  obtain ⟨hu,hut,hX⟩:=fx4 (show Fit ⟨hh.ents,nx,hh.tys⟩ from ⟨hf.1.le h2,hf.2.le h2⟩)
  dsimp only at hX
  have hki:(k:Int)<(i:Int):=by omega
  have hkl:k<Ls.length:=by omega
  obtain ⟨x,hx⟩:∃ x,Ls[k]? = some x:=⟨_,gE_ hkl⟩
  have hm:x ∈ Ls.take i:=by
   rw [List.mem_iff_getElem?];exact ⟨k,by rw [List.getElem?_take_of_lt (by omega)];exact hx⟩
  obtain ⟨d1,d2⟩:=hd x hm
  have hn:nth L k=x.v:=by rw [hL];exact zCc RW.v Ls k x hx
  have hn2:L[k]? = some x.v:=by rw [hL,List.getElem?_map,hx];rfl
  have hlen:L.length=Ls.length:=by rw [hL,List.length_map]
  have hlt:(k:Int)<(Ls.length:Int):=by omega
  have e1:((x.num:Int)=(r.num:Int))=False:=by simp only [eq_iff_iff,iff_false];omega
  have e2:(x.nm == r.nm)=false:=by simp [d2]
  have e3:(x.nm=r.nm)=False:=by simp [d2]
  unfold RW.v ffV at hn hn2
  have ih1:=fun nx v9 v10 (h:_<=nx)=>ih (k+1) nx v9 v10 om_ h
  push_cast at ih1
  refine W.loop ?_
  have hZ:=j12_ hX g1 g4 hki hkl hn hn2 hlen hlt e1 e2 e3
  try refine wk_ ?_
  refine dx_ ?_
  refine ih1 _ _ _ ?_;exact om_
def posR (r:RW) (l:List RW):Nat:=(l.takeWhile fun x=>decide (x.num<r.num)).length
theorem zM9 (r x:RW) (l:List RW):posR r (x::l)=if x.num<r.num then posR r l+1 else 0:=by
 unfold posR;by_cases e:x.num<r.num <;> simp [List.takeWhile,e]
theorem zO7 (r:RW):∀ l,insR r l=l.take (posR r l)++r::l.drop (posR r l)
 | []=>rfl
 | x::l=>by
  rw [zM9]
  by_cases e:x.num<r.num
  . rw [if_pos e];simp [insR,e,zO7 r l]
  . rw [if_neg e];simp [insR,e]
theorem zPm (r:RW) (l:List RW):posR r l<=l.length:=by unfold posR;exact (List.takeWhile_sublist _).length_le
theorem zRa {hh:CHeap} (hf:Fit hh) {b1 pm p7:Nat} {FV O:CVal} {whole n:B8} {L:List CVal} {ix dx:Nat} {r:RW} {x1 x2 x3 x4 x5 x6 x7:CVal} (gm:zA1 hh.ents pm=some (.cells [.str whole,.nils,O])) (gx:zA1 hh.ents ix=some (.cells [.int .i64 (r.num:Int),x1,x2,x3,x4,x5,x6,x7])) {v0 v2 v3 v4 v5 v8 v9 v10 v11 v13 v15 v16 v17 v18 v19 v20 v22 v23 v24 v25 v26 v27:CVal} {Q:QT} {nx:Nat} (hnx:hh.next<=nx)
    (hk:∀ (v22:CVal) n',hh.next<=n'->Q (.exit 4) ⟨[v0,.ptr b1 164626444 0,v2,v3,v4,v5,.ptr pm 49283075 0,.ptr p7 49283075 0,v8,v9,v10,v11,.ptr ix dx 0,v13,FV,v15,v16,v17,v18,v19,v20,.int .i64 0,v22,v23,v24,v25,v26,v27,.int .i64 0],⟨hh.ents,n',hh.tys⟩,[]⟩) :
    W TF posL ⟨[v0,.ptr b1 164626444 0,v2,v3,v4,v5,.ptr pm 49283075 0,.ptr p7 49283075 0,v8,v9,v10,v11,.ptr ix dx 0,v13,FV,v15,v16,v17,v18,v19,v20,.int .i64 0,v22,v23,v24,v25,v26,v27,.int .i64 0],⟨hh.ents,nx,hh.tys⟩,[]⟩ Q:=by
 refine W.loop ?_
 have hZ:=j2_ gm gx
 try refine wk_ ?_
 refine hk _ _ ?_;exact om_
theorem zUp {hh:CHeap} (hf:Fit hh) {b1 pm p7:Nat} {FV O:CVal} {whole n:B8} {L:List CVal} {ix dx:Nat} {r:RW} {x1 x2 x3 x4 x5 x6 x7:CVal} {acc:List RW} {tg:Tag} (hl9:acc.length<=100) (gm:zA1 hh.ents pm=some (.cells [.str whole,.imm tg 8 (acc.map RW.pf),O])) (gx:zA1 hh.ents ix=some (.cells [.int .i64 (r.num:Int),x1,x2,x3,x4,x5,x6,x7])) {v0 v2 v3 v4 v5 v8 v9 v10 v11 v13 v15 v16 v17 v18 v19 v20 v23 v24 v25 v26 v27:CVal} {Q:QT}
    (hk:∀ (v22:CVal) n',hh.next<=n'->Q (.exit 4) ⟨[v0,.ptr b1 164626444 0,v2,v3,v4,v5,.ptr pm 49283075 0,.ptr p7 49283075 0,v8,v9,v10,v11,.ptr ix dx 0,v13,FV,v15,v16,v17,v18,v19,v20,.int .i64 (posR r acc:Int),v22,v23,v24,v25,v26,v27,.int .i64 0],⟨hh.ents,n',hh.tys⟩,[]⟩) :
    ∀ (rest:List RW) (k nx:Nat) (v22:CVal),acc.drop k=rest->posR r acc=k+posR r rest->hh.next<=nx->W TF posL ⟨[v0,.ptr b1 164626444 0,v2,v3,v4,v5,.ptr pm 49283075 0,.ptr p7 49283075 0,v8,v9,v10,v11,.ptr ix dx 0,v13,FV,v15,v16,v17,v18,v19,v20,.int .i64 (k:Int),v22,v23,v24,v25,v26,v27,.int .i64 0],⟨hh.ents,nx,hh.tys⟩,[]⟩ Q:=by
 intro rest
 have hlen:(acc.map RW.pf).length=acc.length:=by simp
 induction rest with
 | nil =>
  intro k nx v22 h1 h2 h3
  have hi:acc.length<=k:=List.drop_eq_nil_iff.1 h1
  have hk0:posR r acc=k:=by rw [h2];rfl
  rw [hk0] at hk
  have hge:¬ (k:Int)<(acc.length:Int):=by omega
  have hge2:(acc.length:Int)<=(k:Int):=by omega
  clear h1 hk0
  generalize acc.map RW.pf=AL at *
  refine W.loop ?_
  have hZ:=j5_ gm gx hlen hge hge2
  try refine wk_ ?_
  refine hk _ _ ?_;exact om_
 | cons x rest ih =>
  intro k nx v22 h1 h2 h3
  obtain ⟨hu,hut,hX⟩:=fx4 (show Fit ⟨hh.ents,nx,hh.tys⟩ from ⟨hf.1.le h3,hf.2.le h3⟩)
  dsimp only at hX
  obtain ⟨q1,q2,q3⟩:=zFk h1
  have hn:=zCc RW.pf acc k x q2
  have hlt:(k:Int)<(acc.length:Int):=by omega
  rw [zM9] at h2
  by_cases e:x.num<r.num
  . rw [if_pos e] at h2
    have e1:(x.num:Int)<(r.num:Int):=by omega
    have ih1:=fun nx v22 (h:_<=nx)=>ih (k+1) nx v22 q3 om_ h
    push_cast at ih1
    generalize hA:acc.map RW.pf=AL at *
    unfold RW.pf at hn
    refine W.loop ?_
    have hZ:=j8_ hX gm gx hlen hlt hn e1 q1
    try refine wk_ ?_
    refine dx_ ?_
    refine ih1 _ _ ?_;exact om_
  . rw [if_neg e] at h2
    have e1:¬ (x.num:Int)<(r.num:Int):=by omega
    have e1':(r.num:Int)<=(x.num:Int):=by omega
    rw [show posR r acc=k by omega] at hk
    generalize hA:acc.map RW.pf=AL at *
    unfold RW.pf at hn
    refine W.loop ?_
    have hZ:=j9_ hX gm gx hlen hlt hn e1 e1' q1
    try refine wk_ ?_
    refine hk _ _ ?_;exact om_
end Go.Proofs.YtafeofghkhhhkaaGreat.IrM
