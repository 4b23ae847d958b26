/- What the functions of the law 'PvalMerges' do: part 6 of 9. -/
import Derived.Test.YtafeofghkhhhkaaGreatLx5
namespace Go.Proofs.YtafeofghkhhhkaaGreat.IrM
open Go Go.CI
set_option maxRecDepth 100000
set_option maxHeartbeats 4000000
set_option linter.unusedVariables false
set_option linter.unusedSimpArgs false
attribute [local irreducible] W Wo Wc WoR
theorem zXv {α:Type} {R:α->CVal->Prop} {Z:Nat} (hz:Z<=1000000) {l:List α} {X Y:CVal} (hx:LRep Z R 2 l X) (hy:LRep Z R 2 l Y) (hR:∀ x ∈ l,∀ c d,R x c->R x d->∃ k A k1 A1,c=.agg [.int .i64 k,A]/\d=.agg [.int .i64 k1,A1]/\PV1 A/\PV1 A1/\Pe 42 [.agg [.int .i64 k,A],.agg [.int .i64 k1,A1]] (.bool true)):Pe 41 [X,Y,.fn (.func 42) [] []] (.bool true):=by
 intro h hf K hk
 obtain ⟨hu,hut,hX⟩:=fx4 hf
 obtain ⟨hl,es,he,hx⟩:=hx
 obtain ⟨_,fs,hfs,hy⟩:=hy
 have l1:=he.len
 have l2:=hfs.len
 rcases hx with ⟨rfl,rfl⟩ | ⟨t,ht,rfl⟩
 . obtain rfl:l=[]:=n0_ l1.symm
   obtain rfl:=hfs.nil_inv
   rcases hy with ⟨rfl,_⟩ | ⟨t1,ht1,rfl⟩
   all_goals
    refine mk_ 41 c41 (s_ ?_)
    repeat (first
     | refine vx_ ?_
     | (refine dx_ ?_;refine W.loop ?_)
     | refine W.loop ?_)
    refine rx_ ?_
    refine hk _ ?_;exact om_
 rcases hy with ⟨rfl,rfl⟩ | ⟨t1,ht1,rfl⟩
 . obtain rfl:l=[]:=n0_ l2.symm
   obtain rfl:=he.nil_inv
   refine mk_ 41 c41 (s_ ?_)
   repeat (first
    | refine vx_ ?_
    | (refine dx_ ?_;refine W.loop ?_)
    | refine W.loop ?_)
   refine rx_ ?_
   refine hk _ ?_;exact om_
 have st1:(CVal.imm t 2 es).strip=.imm t 2 es:=by rcases ht with rfl | rfl <;> rfl
 have st2:(CVal.imm t1 2 fs).strip=.imm t1 2 fs:=by rcases ht1 with rfl | rfl <;> rfl
 refine mk_ 41 c41 (s_ ?_)
 have hZ:=j3_ hX l1 l2
 repeat ((fail_if_success (show W TF ef2L _ _));refine vk_ ?_)
 refine zZr (L:=l.length) (hh:=⟨_,_,_⟩) l1 l2 (by omega) (fun i hi=>?_) ?_ ?_ l.length 0 _ _ _ _ _ _ (by omega) (by (try dsimp only);omega)
 . obtain ⟨c,q1,y1⟩:=he.at (gE_ hi)
   obtain ⟨d,q2,y2⟩:=hfs.at (gE_ hi)
   obtain ⟨k,A,k1,A1,rfl,rfl,p1,p2,H⟩:=hR _ (List.getElem_mem hi) c d y1 y2
   exact ⟨k,A,k1,A1,q1,q2,p1,p2,H⟩
 . exact ft_
 . intro v5 v7 v9 v10 v11 n' g
   dsimp only at g
   repeat (first
    | refine vx_ ?_)
   refine rx_ ?_
   refine hk _ ?_;exact om_
theorem zd3 {α:Type} {R:α->CVal->Prop} {Z:Nat} (hz:Z<=1000000) {l:List α} {X Y:CVal} (hx:LRep Z R 4 l X) (hy:LRep Z R 4 l Y) (hR:∀ x ∈ l,∀ c d,R x c->R x d->∃ b s A r b1 s1 A1 r1,c=.agg [.int .u64 b,.str s,A,.str r]/\d=.agg [.int .u64 b1,.str s1,A1,.str r1]/\PV1 A/\PV1 A1/\Pe 94 [.agg [.int .u64 b,.str s,A,.str r],.agg [.int .u64 b1,.str s1,A1,.str r1]] (.bool true)):Pe 93 [X,Y,.fn (.func 94) [] []] (.bool true):=by
 intro h hf K hk
 obtain ⟨hu,hut,hX⟩:=fx4 hf
 obtain ⟨hl,es,he,hx⟩:=hx
 obtain ⟨_,fs,hfs,hy⟩:=hy
 have l1:=he.len
 have l2:=hfs.len
 rcases hx with ⟨rfl,rfl⟩ | ⟨t,ht,rfl⟩
 . obtain rfl:l=[]:=n0_ l1.symm
   obtain rfl:=hfs.nil_inv
   rcases hy with ⟨rfl,_⟩ | ⟨t1,ht1,rfl⟩
   all_goals
    refine mk_ 93 c93 (s_ ?_)
    repeat (first
     | refine vx_ ?_
     | (refine dx_ ?_;refine W.loop ?_)
     | refine W.loop ?_)
    refine rx_ ?_
    refine hk _ ?_;exact om_
 rcases hy with ⟨rfl,rfl⟩ | ⟨t1,ht1,rfl⟩
 . obtain rfl:l=[]:=n0_ l2.symm
   obtain rfl:=he.nil_inv
   refine mk_ 93 c93 (s_ ?_)
   repeat (first
    | refine vx_ ?_
    | (refine dx_ ?_;refine W.loop ?_)
    | refine W.loop ?_)
   refine rx_ ?_
   refine hk _ ?_;exact om_
 have st1:(CVal.imm t 4 es).strip=.imm t 4 es:=by rcases ht with rfl | rfl <;> rfl
 have st2:(CVal.imm t1 4 fs).strip=.imm t1 4 fs:=by rcases ht1 with rfl | rfl <;> rfl
 refine mk_ 93 c93 (s_ ?_)
 have hZ:=j3_ hX l1 l2
 repeat ((fail_if_success (show W TF ef4L _ _));refine vk_ ?_)
 refine zXp (L:=l.length) (hh:=⟨_,_,_⟩) l1 l2 (by omega) (fun i hi=>?_) ?_ ?_ l.length 0 _ _ _ _ _ _ (by omega) (by (try dsimp only);omega)
 . obtain ⟨c,q1,y1⟩:=he.at (gE_ hi)
   obtain ⟨d,q2,y2⟩:=hfs.at (gE_ hi)
   obtain ⟨b,s,A,r,b1,s1,A1,r1,rfl,rfl,p1,p2,H⟩:=hR _ (List.getElem_mem hi) c d y1 y2
   exact ⟨b,s,A,r,b1,s1,A1,r1,q1,q2,p1,p2,H⟩
 . exact ft_
 . intro v5 v7 v9 v10 v11 n' g
   dsimp only at g
   repeat (first
    | refine vx_ ?_)
   refine rx_ ?_
   refine hk _ ?_;exact om_
theorem zUg {Z:Nat} (hz:Z<=1000000):∀ (n:Nat) (m:MVB n) (F G:CVal) (r s:B8),RM Z n m F r->RM Z n m G s->Pe 14 [.agg [F,.str r],.agg [G,.str s]] (.bool true)
 | n,m,F,G,r,s,h1,h2=>by
  have hP1:=h1.p
  have hP2:=h2.p
  have main:r=s/\Pe 41 [F,G,.fn (.func 42) [] []] (.bool true):=by
   cases n with
   | zero=>exact ⟨h1.2.trans h2.2.symm,zXv hz h1.1 h2.1 fun x hx=>by cases hx⟩
   | succ n =>
    refine ⟨h1.2.1.trans h2.2.1.symm,zXv hz h1.1 h2.1 fun x _ c d hc hd=>?_⟩
    obtain ⟨A,rfl,pa,ha⟩:=hc
    obtain ⟨B,rfl,pb,hb⟩:=hd
    refine ⟨_,_,_,_,rfl,rfl,pa,pb,?_⟩
    have E:=zd3 hz ha hb fun y _ c d hc hd=>by
     obtain ⟨F1,r1,rfl,a1,a2,p1,q1⟩:=hc
     obtain ⟨G1,s1,rfl,b1,b2,p2,q2⟩:=hd
     refine ⟨_,_,_,_,_,_,_,_,rfl,rfl,p1,p2,?_⟩
     have S:=zUg hz n y.2 F1 G1 r1 s1 q1 q2
     intro h hf K hk
     obtain ⟨hu,hut,hX⟩:=fx4 hf
     refine pq_ p1 fun p1=>?_
     refine pq_ p2 fun p2=>?_
     have z1:(y.1.1 == y.1.1)=true:=by simp
     have z2:(y.1.2 == y.1.2)=true:=by simp
     refine mk_ 94 c94 (s_ ?_)
     have hZ:=j5_ hX p1 p2 z1 z2
     repeat (first
      | refine vk_ ?_
      | (refine pe_ (S) fun n1 hn1=>⟨rfl,?_⟩))
     refine rk_ ?_
     refine hk _ ?_;exact om_
    intro h hf K hk
    obtain ⟨hu,hut,hX⟩:=fx4 hf
    refine pq_ pa fun p1=>?_
    refine pq_ pb fun p2=>?_
    have z1:((x.1:Int) == (x.1:Int))=true:=by simp
    refine mk_ 42 c42 (s_ ?_)
    have hZ:=j4_ hX p1 p2 z1
    repeat (first
     | refine vk_ ?_
     | (refine pe_ (E) fun n1 hn1=>⟨rfl,?_⟩))
    refine rk_ ?_
    refine hk _ ?_;exact om_
  obtain ⟨rfl,E⟩:=main
  intro h hf K hk
  obtain ⟨hu,hut,hX⟩:=fx4 hf
  refine pq_ hP1 fun p1=>?_
  refine pq_ hP2 fun p2=>?_
  have z1:(r == r)=true:=by simp
  refine mk_ 14 c14 (s_ ?_)
  have hZ:=j4_ hX p1 p2 z1
  repeat (first
   | refine vk_ ?_
   | (refine pe_ (E) fun n1 hn1=>⟨rfl,?_⟩))
  refine rk_ ?_
  refine hk _ ?_;exact om_
theorem zBa:∀ {l:EE} {n:Nat},Under l n->zB6 l n=l
 | [],_,_=>rfl
 | (i,o)::r,n,h=>by
  have h1:¬ n<=i:=by have:=h (i,o) (by simp);simp at this;omega
  have h2:=zBa (l:=r) (n:=n) fun x hx=>h x (by simp [hx])
  simp only [zB6,if_neg h1,h2]
theorem zEg:∀ (l:List CVal) (i:Nat) (x:CVal),zBw l i x=l.set i x
 | [],_,_=>rfl
 | _::_,0,_=>rfl
 | _::r,i+1,x=>congrArg _ (zEg r i x)
theorem set_self {α:Type}:∀ {l:List α} {i:Nat} {x:α},l[i]? = some x->l.set i x=l
 | _::_,0,_,h=>by cases h;rfl
 | _::l,i+1,_,h=>congrArg _ (set_self (l:=l) h)
theorem zCn {α:Type} {R:α->CVal->Prop} {l:List α} {es:List CVal} (h:All2 R l es) (hb:∀ x ∈ l,∀ c,R x c->c.bare=c):es.map CVal.bare=es:=by
 induction h with
 | nil=>rfl
 | cons a h ih=>simp only [List.map_cons];rw [hb _ (by simp) _ a,ih fun x hx=>hb x (by simp [hx])]
theorem RV.bare {M:Type} {R:M->CVal->B8->Prop} {x:BV × M} {c:CVal} (h:RV R x c):c.bare=c:=by
 obtain ⟨F,r,rfl,_,_,p,_⟩:=h
 have:=p.s
 simp only [CVal.bare,List.map,this];rfl
theorem zHg {k:Int} {A:CVal} (p:PV1 A):(CVal.agg [.int .i64 k,A]).bare=.agg [.int .i64 k,A]:=by
 have:=p.s
 simp only [CVal.bare,List.map,this];rfl
theorem zco {M:Type} {R:M->CVal->B8->Prop} {l:List (BV × M)} {L:Nat} (hl:l.length=L) (hL:L<=1000000) (hp:∀ m F r,R m F r->PV1 F) (hT:∀ x ∈ l,∀ F r,R x.2 F r->PuR 37 [.agg [F,.str r]] fun v=>∃ G,v=.agg [G,.str r]/\R x.2 G r) {q:Nat} {hh:CHeap} (hf:Fit hh) (hq:hh.next<=q) {Q:QT}
    (hk:∀ (v3 v4:CVal) rs n',All2 (RV R) l rs->q<n'->Q (.exit 0) ⟨[.ref q 0 4 0 L,.int .i64 (L:Nat),.int .i64 (L:Nat),v3,v4,.nils],⟨(q,.row 0 rs)::hh.ents,n',hh.tys⟩,[]⟩) :
    ∀ (m i nx:Nat) (rs:List CVal) (v3 v4:CVal),i+m=L->All2 (RV R) l rs->q<nx->W TF vlL ⟨[.ref q 0 4 0 L,.int .i64 (i:Nat),.int .i64 (L:Nat),v3,v4,.nils],⟨(q,.row 0 rs)::hh.ents,nx,hh.tys⟩,[]⟩ Q:=by
 intro m
 induction m with
 | zero =>
  intro i nx rs v3 v4 e1 e2 e3
  obtain rfl:i=L:=by omega
  refine W.loop ?_
  try refine w0_ ?_
  exact hk _ _ _ _ e2 om_
 | succ m ih =>
  intro i nx rs v3 v4 e1 e2 e3
  obtain ⟨hu,hut,hX⟩:=fx4 (show Fit ⟨hh.ents,nx,hh.tys⟩ from ⟨hf.1.le (by dsimp only;omega),hf.2.le (by dsimp only;omega)⟩)
  have hu0:=hf.1
  have hut0:=hf.2
  dsimp only at hX hu hut
  have hlt:(i:Int)<(L:Int):=by omega
  have hil:i<L:=by omega
  have hls:=e2.len
  have hlr:rs.length=L:=by omega
  obtain ⟨x,hx⟩:∃ x,l[i]? = some x:=⟨_,gE_ om_⟩
  obtain ⟨c,q1,r1⟩:=e2.at hx
  have hm:=List.mem_of_getElem? hx
  obtain ⟨F,r,rfl,b1,b2,pF,rF⟩:=r1
  have T1:=hT x hm F r rF
  have m1:=zAk q1
  obtain ⟨lb0,ls0⟩:=lbs_
  have hD:∀ x m,nx<=m->zA5 ((q,CObj.row 0 x)::hh.ents) m=(q,CObj.row 0 x)::hh.ents:=fun x m hm=>zAa (Under.cons om_ (hf.1.le om_))
  refine pq_ pF fun pF=>?_
  refine W.loop ?_
  have hZ:=j10_ hX hlt hil hlr q1 m1 pF lb0 ls0 hD
  repeat (first
   | refine vk_ ?_
   | (refine pr_ T1 (fun v1 n1 R1 g1=>?_) ⟨Under.cons (by (try dsimp only);omega) (hf.1.le (by (try dsimp only);omega)),hf.2.le (by (try dsimp only);omega)⟩
      obtain ⟨G,rfl,R1⟩:=R1
      have pG:=hp _ _ _ R1
      have hP:=pG.five
      simp only [CVal.isUndef,CVal.whole,CVal.cells,CVal.strip,CVal.bare,List.map,CVal.tup.injEq,List.cons.injEq,and_true] at hP
      have hZ:=And.intro hZ hP
      refine ⟨rfl,?_⟩
      (try dsimp only at g1)))
  have ih1:=fun nx rs v3 v4=>ih (i+1) nx rs v3 v4 om_
  push_cast at ih1
  refine dk_ ?_
  refine ih1 _ _ _ _ ?_ ?_
  . have:=e2.set i (x:=x) (y:=.agg [.int .u64 x.1.1,.str x.1.2,G,.str r]) ⟨_,_,rfl,b1,b2,pG,R1⟩
    rw [zEg]
    rw [set_self hx] at this
    exact this
  . omega
theorem zU1 {M:Type} {R:M->CVal->B8->Prop} {Z:Nat} (hz:Z<=1000000) {l:List (BV × M)} {X:CVal} (hx:LRep Z (RV R) 4 l X) (hp:∀ m F r,R m F r->PV1 F) (hT:∀ x ∈ l,∀ F r,R x.2 F r->PuR 37 [.agg [F,.str r]] fun v=>∃ G,v=.agg [G,.str r]/\R x.2 G r):PuR 47 [X] (LRep Z (RV R) 4 l):=by
 intro h hf K hk
 obtain ⟨hu,hut,hX⟩:=fx4 hf
 obtain ⟨hl,es,he,hx⟩:=hx
 have l1:=he.len
 have hdA:∀ m,h.next<=m->zB6 h.ents m=h.ents:=fun m hm=>zBa (hu.le hm)
 rcases hx with ⟨rfl,rfl⟩ | ⟨t,ht,rfl⟩
 . obtain rfl:l=[]:=n0_ l1.symm
   refine mk_ 47 c47 (s_ ?_)
   have hZ:=j2_ hX hdA
   repeat (first
    | refine vk_ ?_
    | (refine dk_ ?_;refine W.loop ?_)
    | refine W.loop ?_
    | (refine mk_ 101 c101 (s_ ?_))
    | (refine rk_ ?_;refine ⟨rfl,?_⟩))
   refine rk_ ?_
   refine hk _ _ LRep.nil ?_;exact om_
 cases es with
 | nil =>
  obtain rfl:l=[]:=n0_ l1.symm
  rcases ht with rfl | rfl
  all_goals
   refine mk_ 47 c47 (s_ ?_)
   have hZ:=j2_ hX hdA
   repeat (first
    | refine vk_ ?_
    | (refine dk_ ?_;refine W.loop ?_)
    | refine W.loop ?_
    | (refine mk_ 101 c101 (s_ ?_))
    | (refine rk_ ?_;refine ⟨rfl,?_⟩))
   refine rk_ ?_
   refine hk _ _ (LRep.imm .nil (.inr rfl) (by simp)) ?_;exact om_
 | cons e1 e2 =>
  obtain ⟨L,hLL⟩:∃ L,l.length=L:=⟨_,rfl⟩
  have l2:=l1.trans hLL
  have hL6:L<=1000000:=by omega
  have hne2:e2.length+1=L:=by simpa using l2
  have h1:1<=L:=by rw [<- hLL,<- l1];simp
  have hB:=zCn he fun x _ c h=>h.bare
  have he0:=he
  cases he with
  | cons r0 he' =>
  rename_i x0 l0
  obtain ⟨F0,r0',rfl,_,_,p0,_⟩:=r0
  have hB2:=zCn he' fun x _ c h=>h.bare
  have hst:(CVal.imm t 4 (.agg [.int .u64 x0.1.1,.str x0.1.2,F0,.str r0']::e2)).strip=.imm t 4 (.agg [.int .u64 x0.1.1,.str x0.1.2,F0,.str r0']::e2):=by rcases ht with rfl | rfl <;> rfl
  simp only [CVal.strip] at hst
  refine pq_ p0 fun p0=>?_
  have hl2:e2.length+1<=1000000:=by omega
  have hne:(e2.length:Int)+1=(L:Int):=by omega
  have hsm:e2.length+1<=1073741824:=by omega
  refine mk_ 47 c47 (s_ ?_)
  have hZ:=j7_ hX hne hne2 hsm hst hB2 p0
  repeat ((fail_if_success (show W TF vlL _ _));first
   | refine vk_ ?_
   | (refine mk_ 101 c101 (s_ ?_))
   | (refine rk_ ?_;refine ⟨rfl,?_⟩))
  refine zco (L:=L) hLL om_ hp hT hf ?_ ?_ L 0 _ _ _ _ om_ he0 ?_
  . omega
  . intro v3 v4 rs n' hrs hn
    have l3:=hrs.len.trans hLL
    have ht2:List.take L rs=rs:=List.take_of_length_le om_
    have hZ:=j5_ hX l3 ht2 hdA h1
    repeat (first
     | refine vk_ ?_)
    refine rk_ ?_
    refine hk _ _ (LRep.imm hrs (.inl rfl) hl) ?_;exact om_
  . omega
theorem zaz {α:Type} {R:α->CVal->Prop} {l:List α} {L:Nat} (hl:l.length=L) (hL:L<=1000000) (hV:∀ x ∈ l,∀ c,R x c->∃ k A,c=.agg [.int .i64 k,A]/\PV1 A/\PuR 47 [A] fun v=>PV1 v/\R x (.agg [.int .i64 k,v])) {q b1 b6:Nat} {r:B8} {hh:CHeap} (hf:Fit hh) (h1:hh.next<=b1) (h2:b1<b6) (h3:b6<q) {a0:CVal} {Q:QT}
    (hk:∀ (v4 v5:CVal) rs n',All2 R l rs->q<n'->Q (.exit 0) ⟨[a0,.ptr b1 37748738 0,.int .i64 (L:Nat),.int .i64 (L:Nat),v4,v5,.ptr b6 37748738 0],⟨(q,.row 0 rs)::(b6,.cells [.nils,.str []])::(b1,.cells [.ref q 0 2 0 L,.str r])::hh.ents,n',hh.tys⟩,[]⟩) :
    ∀ (m i nx:Nat) (rs:List CVal) (v4 v5:CVal),i+m=L->All2 R l rs->q<nx->W TF twL ⟨[a0,.ptr b1 37748738 0,.int .i64 (i:Nat),.int .i64 (L:Nat),v4,v5,.ptr b6 37748738 0],⟨(q,.row 0 rs)::(b6,.cells [.nils,.str []])::(b1,.cells [.ref q 0 2 0 L,.str r])::hh.ents,nx,hh.tys⟩,[]⟩ Q:=by
 intro m
 induction m with
 | zero =>
  intro i nx rs v4 v5 e1 e2 e3
  obtain rfl:i=L:=by omega
  refine W.loop ?_
  try refine w0_ ?_
  exact hk _ _ _ _ e2 om_
 | succ m ih =>
  intro i nx rs v4 v5 e1 e2 e3
  obtain ⟨hu,hut,hX⟩:=fx4 (show Fit ⟨hh.ents,nx,hh.tys⟩ from ⟨hf.1.le (by dsimp only;omega),hf.2.le (by dsimp only;omega)⟩)
  dsimp only at hX hu hut
  have hlt:(i:Int)<(L:Int):=by omega
  have hls:=e2.len
  have hlr:rs.length=L:=by omega
  obtain ⟨x,hx⟩:∃ x,l[i]? = some x:=⟨_,gE_ om_⟩
  obtain ⟨c,q1,r1⟩:=e2.at hx
  have hm:=List.mem_of_getElem? hx
  obtain ⟨k,A,rfl,pA,T1⟩:=hV x hm c r1
  have m1:=zAk q1
  obtain ⟨lb0,ls0⟩:=lbs_
  have hD:∀ x m,nx<=m->zA5 ((q,CObj.row 0 x)::(b6,CObj.cells [.nils,.str []])::(b1,.cells [.ref q 0 2 0 L,.str r])::hh.ents) m=(q,CObj.row 0 x)::(b6,CObj.cells [.nils,.str []])::(b1,.cells [.ref q 0 2 0 L,.str r])::hh.ents:=fun x m hm=>zAa (Under.cons om_ (Under.cons om_ (Under.cons om_ (hf.1.le om_))))
  refine pq_ pA fun pF=>?_
  refine W.loop ?_
  have hZ:=j9_ hX hlt hlr q1 m1 pF lb0 ls0 hD
  repeat (first
   | refine vk_ ?_
   | (refine pr_ T1 (fun v1 n1 R1 g1=>?_) ⟨Under.cons (by (try dsimp only);omega) (Under.cons (by (try dsimp only);omega) (Under.cons (by (try dsimp only);omega) (hf.1.le (by (try dsimp only);omega)))),hf.2.le (by (try dsimp only);omega)⟩
      obtain ⟨pG,R1⟩:=R1
      have hP:=pG.five
      simp only [CVal.isUndef,CVal.whole,CVal.cells,CVal.strip,CVal.bare,List.map,CVal.tup.injEq,List.cons.injEq,and_true] at hP
      have hZ:=And.intro hZ hP
      refine ⟨hP.1,?_⟩
      (try dsimp only at g1)))
  have ih1:=fun nx rs v4 v5=>ih (i+1) nx rs v4 v5 om_
  push_cast at ih1
  refine dk_ ?_
  refine ih1 _ _ _ _ ?_ ?_
  . have:=e2.set i (x:=x) R1
    rw [zEg]
    rw [set_self hx] at this
    exact this
  . omega
theorem zUm {α:Type} {R:α->CVal->Prop} {Z:Nat} (hz:Z<=1000000) {l:List α} {F:CVal} {r:B8} (hx:LRep Z R 2 l F) (hV:∀ x ∈ l,∀ c,R x c->∃ k A,c=.agg [.int .i64 k,A]/\PV1 A/\PuR 47 [A] fun v=>PV1 v/\R x (.agg [.int .i64 k,v])):PuR 37 [.agg [F,.str r]] fun v=>∃ G,v=.agg [G,.str r]/\LRep Z R 2 l G:=by
 intro h hf K hk
 obtain ⟨hu,hut,hX⟩:=fx4 hf
 obtain ⟨hl,es,he,hx⟩:=hx
 have l1:=he.len
 have hdA:∀ m,h.next<=m->zB6 h.ents m=h.ents:=fun m hm=>zBa (hu.le hm)
 rcases hx with ⟨rfl,rfl⟩ | ⟨t,ht,rfl⟩
 . obtain rfl:l=[]:=n0_ l1.symm
   refine mk_ 37 c37 (s_ ?_)
   have hZ:=j2_ hX hdA
   repeat (first
    | refine vk_ ?_
    | (refine dk_ ?_;refine W.loop ?_)
    | refine W.loop ?_
    | (refine mk_ 83 c83 (s_ ?_))
    | (refine rk_ ?_;refine ⟨rfl,?_⟩))
   refine rk_ ?_
   refine hk _ _ ⟨_,rfl,LRep.nil⟩ ?_;exact om_
 cases es with
 | nil =>
  obtain rfl:l=[]:=n0_ l1.symm
  rcases ht with rfl | rfl
  all_goals
   refine mk_ 37 c37 (s_ ?_)
   have hZ:=j2_ hX hdA
   repeat (first
    | refine vk_ ?_
    | (refine dk_ ?_;refine W.loop ?_)
    | refine W.loop ?_
    | (refine mk_ 83 c83 (s_ ?_))
    | (refine rk_ ?_;refine ⟨rfl,?_⟩))
   refine rk_ ?_
   refine hk _ _ ⟨_,rfl,LRep.imm .nil (.inr rfl) (by simp)⟩ ?_;exact om_
 | cons e1 e2 =>
  obtain ⟨L,hLL⟩:∃ L,l.length=L:=⟨_,rfl⟩
  have l2:=l1.trans hLL
  have hL6:L<=1000000:=by omega
  have hne2:e2.length+1=L:=by simpa using l2
  have h1:1<=L:=by rw [<- hLL,<- l1];simp
  have hl2:e2.length+1<=1000000:=by omega
  have hne:(e2.length:Int)+1=(L:Int):=by omega
  have hsm:e2.length+1<=1073741824:=by omega
  have hB:∀ x ∈ l,∀ c,R x c->c.bare=c:=fun x hx c hc=>by
   obtain ⟨k,A,rfl,p,_⟩:=hV x hx c hc
   exact zHg p
  have he0:=he
  cases he with
  | cons r0 he' =>
  rename_i x0 l0
  obtain ⟨k0,A0,rfl,p0,_⟩:=hV x0 (by simp) _ r0
  have hB2:=zCn he' fun x hx c h=>hB x (by simp [hx]) c h
  have hst:(CVal.imm t 2 (.agg [.int .i64 k0,A0]::e2)).strip=.imm t 2 (.agg [.int .i64 k0,A0]::e2):=by rcases ht with rfl | rfl <;> rfl
  refine pq_ p0 fun p0=>?_
  simp only [CVal.strip] at hst
  refine mk_ 37 c37 (s_ ?_)
  have hZ:=j7_ hX hne hne2 hsm hst hB2 p0
  repeat ((fail_if_success (show W TF twL _ _));first
   | refine vk_ ?_
   | (refine mk_ 83 c83 (s_ ?_))
   | (refine rk_ ?_;refine ⟨rfl,?_⟩))
  refine zaz (L:=L) hLL om_ hV hf ?_ ?_ ?_ ?_ L 0 _ _ _ _ om_ he0 ?_
  . omega
  . omega
  . omega
  . intro v4 v5 rs n' hrs hn
    have l3:=hrs.len.trans hLL
    have ht2:List.take L rs=rs:=List.take_of_length_le om_
    have hZ:=j5_ hX l3 ht2 hdA h1
    repeat (first
     | refine vk_ ?_)
    refine rk_ ?_
    refine hk _ _ ⟨_,rfl,LRep.imm hrs (.inl rfl) hl⟩ ?_;exact om_
  . omega
theorem zKa {Z:Nat} (hz:Z<=1000000):∀ (n:Nat) (m:MVB n) (F:CVal) (r:B8),RM Z n m F r->PuR 37 [.agg [F,.str r]] fun v=>∃ G,v=.agg [G,.str r]/\RM Z n m G r
 | 0,m,F,r,h=>by
  intro h0 hf K hk
  refine zUm hz h.1 (fun x hx=>by cases hx) h0 hf K fun v n' hv=>hk v n' ?_
  obtain ⟨G,e,hG⟩:=hv
  exact ⟨G,e,hG,h.2⟩
 | n+1,m,F,r,h=>by
  intro h0 hf K hk
  refine zUm hz h.1 (fun x hx c hc=>?_) h0 hf K fun v n' hv=>hk v n' ?_
  . obtain ⟨A,rfl,pA,hA⟩:=hc
    refine ⟨_,A,rfl,pA,fun h1 hf1 K1 hk1=>?_⟩
    exact zU1 hz hA (fun m F r h=>h.p) (fun y _ F r h=>zKa hz n y.2 F r h) h1 hf1 K1 fun v n' hv=>hk1 v n' ⟨hv.p,v,rfl,hv.p,hv⟩
  . obtain ⟨G,e,hG⟩:=hv
    exact ⟨G,e,hG,h.2⟩
def ShF {β:Type} (R:Nat × β->CVal->Prop):Prop:=∀ x c,R x c->∃ A,c=.agg [.int .i64 (x.1:Nat),A]/\PV1 A
theorem ShF.rf {M:Type} {Z:Nat} {R:M->CVal->B8->Prop}:ShF (RF Z R):=fun x c ⟨A,e,p,_⟩=>⟨A,e,p⟩
theorem zX0 {β:Type} {R:Nat × β->CVal->Prop} (hS:ShF R) {l:List (Nat × β)} {es:List CVal} {L:Nat} (hl:l.length=L) (hL:L<=1000000) (hE:All2 R l es) {q d w:Nat} {t:Tag} {hh:CHeap} (hf:Fit hh) (hg:zA1 hh.ents q=some (.cells [.int .i64 (w:Nat)])) {Q:QT}
    (hyes:∀ (v1 v3 v5 v6:CVal) n' (k:Nat) x,l[k]? = some x->x.1=w->(∀ j y,j<k->l[j]? = some y->¬ y.1=w)->hh.next<=n'->Q .ret ⟨[.imm t 2 es,v1,.int .i64 (L:Nat),v3,.fn (.func 46) [] [.ptr q d 0],v5,v6,.int .i64 (k:Nat)],⟨hh.ents,n',hh.tys⟩,[]⟩)
    (hno:(∀ j y,j<L->l[j]? = some y->¬ y.1=w)->∀ (v1 v3 v5 v6:CVal) n',hh.next<=n'->Q (.exit 0) ⟨[.imm t 2 es,v1,.int .i64 (L:Nat),v3,.fn (.func 46) [] [.ptr q d 0],v5,v6,.int .i64 0],⟨hh.ents,n',hh.tys⟩,[]⟩) :
    ∀ (m k nx:Nat) (v3 v5 v6:CVal),k+m=L->(∀ j y,j<k->l[j]? = some y->¬ y.1=w)->hh.next<=nx->W TF ixfL ⟨[.imm t 2 es,.int .i64 (k:Nat),.int .i64 (L:Nat),v3,.fn (.func 46) [] [.ptr q d 0],v5,v6,.int .i64 0],⟨hh.ents,nx,hh.tys⟩,[]⟩ Q:=by
 intro m
 induction m with
 | zero =>
  intro k nx v3 v5 v6 h1 h2 h3
  obtain rfl:k=L:=by omega
  refine W.loop ?_
  try refine w0_ ?_
  refine hno h2 _ _ _ _ _ ?_;exact om_
 | succ m ih =>
  intro k nx v3 v5 v6 h1 h2 h3
  obtain ⟨hu,hut,hX⟩:=fx4 (show Fit ⟨hh.ents,nx,hh.tys⟩ from ⟨hf.1.le h3,hf.2.le h3⟩)
  dsimp only at hX hu hut
  have hlt:(k:Int)<(L:Int):=by omega
  have lq:=zA3 hu hg
  have hlen:=hE.len
  have hlr:es.length=L:=by omega
  obtain ⟨x,hx⟩:∃ x,l[k]? = some x:=⟨_,gE_ om_⟩
  obtain ⟨c,q1,r1⟩:=hE.at hx
  obtain ⟨A,rfl,pA⟩:=hS x c r1
  have m1:=zAk q1
  refine pq_ pA fun pF=>?_
  refine W.loop ?_
  by_cases he:x.1=w
  . subst he
    have hZ:=j7_ hX hg hlt q1 m1 hlr pF
    repeat (first
     | refine vk_ ?_
     | (refine mk_ 46 c46 (s_ ?_))
     | (refine rk_ ?_;refine ⟨rfl,?_⟩))
    refine W.ret ?_
    simp only [zB3,zA9,zAe,zAo,reduceIte]
    refine hyes _ _ _ _ _ k x hx rfl h2 ?_;exact om_
  . have e1:((x.1:Int) == (w:Int))=false:=by simp;omega
    have e2:((x.1:Int)=(w:Int))=False:=by simp;omega
    have hZ:=j9_ hX hg hlt q1 m1 hlr pF e1 e2
    repeat (first
     | refine vk_ ?_
     | (refine mk_ 46 c46 (s_ ?_))
     | (refine rk_ ?_;refine ⟨rfl,?_⟩))
    have ih1:=fun nx v3 v5 v6 (h:_<=nx)=>ih (k+1) nx v3 v5 v6 om_ (fun j y a b=>by
     rcases Nat.lt_succ_iff_lt_or_eq.1 a with c | rfl
     . exact h2 j y c b
     . rw [hx] at b;cases b;exact he) h
    push_cast at ih1
    refine dk_ ?_
    refine ih1 _ _ _ _ ?_;exact om_
theorem get_at {V:Type}:∀ {l:List (Nat × V)},SL.Srt nltB l->∀ {k:Nat} {x:Nat × V},l[k]? = some x->SL.get nltB x.1 l=some x.2
 | (a,y)::l,h,0,x,e=>by
  cases e
  simp [SL.get,nltB]
 | (a,y)::l,h,k+1,x,e=>by
  have h1:nltB a x.1=true:=h.1 x (List.mem_of_getElem? (show l[k]? = some x from e))
  unfold SL.get
  rw [if_pos h1]
  exact get_at h.2 (show l[k]? = some x from e)
theorem zNt {V:Type}:∀ {l:List (Nat × V)} {w:Nat},(∀ x ∈ l,¬ x.1=w)->SL.get nltB w l=none
 | [],_,_=>rfl
 | (a,y)::l,w,h=>by
  have h1:¬ a=w:=h (a,y) (by simp)
  unfold SL.get
  split
  . exact zNt fun x hx=>h x (by simp [hx])
  . rename_i h2
    rw [if_pos]
    simp [nltB] at *;omega
def GetR {V:Type} (Z:Nat) (R:V->CVal->Prop):Option (List V)->CVal->Prop
 | none,v=>v=.tup [.nils,.bool false]
 | some y,v=>∃ G,v=.tup [G,.bool true]/\LRep Z R 4 y G
theorem zd9 {M:Type} {R:M->CVal->B8->Prop} {Rr:Nat × List (BV × M)->CVal->Prop} (hS:ShF Rr) {Z Z2:Nat} (hz:Z2<=1000000) {l:List (Nat × List (BV × M))} (hs:SL.Srt nltB l) {F:CVal} {r:B8} (hx:LRep Z2 Rr 2 l F) {w:Nat} (hV:∀ x ∈ l,x.1=w->∀ A,Rr x (.agg [.int .i64 (x.1:Nat),A])->PuR 47 [A] (LRep Z (RV R) 4 x.2)):PuR 17 [.agg [F,.str r],.int .i64 (w:Nat)] (GetR Z (RV R) (SL.get nltB w l)):=by
 intro h hf K hk
 obtain ⟨hu,hut,hX⟩:=fx4 hf
 have pF:=hx.p
 obtain ⟨hl,es,he,hx⟩:=hx
 have l1:=he.len
 refine pq_ pF fun pX=>?_
 rcases hx with ⟨rfl,rfl⟩ | ⟨t,ht,rfl⟩
 . obtain rfl:l=[]:=n0_ l1.symm
   refine mk_ 17 c17 (s_ ?_)
   repeat (first
    | refine vx_ ?_
    | (refine dx_ ?_;refine W.loop ?_)
    | refine W.loop ?_
    | (refine mk_ 45 c45 (s_ ?_))
    | (refine rx_ ?_;refine ⟨rfl,?_⟩))
   refine rx_ ?_
   refine hk _ _ rfl ?_;exact om_
 have hZ:=j3_ hX l1 pX
 refine mk_ 17 c17 (s_ ?_)
 repeat ((fail_if_success (show W TF ixfL _ _));first
  | refine vk_ ?_
  | (refine mk_ 45 c45 (s_ ?_)))
 refine zX0 hS (L:=l.length) rfl om_ he (hh:=⟨_,_,_⟩) (w:=w) ?_ ?_ ?_ ?_ l.length 0 _ _ _ _ om_ (fun j y a _=>by omega) (Nat.le_refl _)
 . exact ft_
 . dsimp only;simp (disch:=omega) [zA1]
 . intro v1 v3 v5 v6 n' k x hx hw _ hn'
   dsimp only at hn'
   subst hw
   rw [get_at hs hx] at hk
   obtain ⟨c,q1,r1⟩:=he.at hx
   have hA:=r1
   obtain ⟨A,rfl,pA⟩:=hS _ _ r1
   have m1:=zAk q1
   have hkl:(k:Int)<(l.length:Int):=by have:=(gs_ hx).1;omega
   have hk0:¬ (k:Int)<0:=by omega
   have T1:=hV x (List.mem_of_getElem? hx) rfl A hA
   refine pq_ pA fun pB=>?_
   have hZ:=j8_ hX l1 pX q1 m1 hkl hk0 pB
   repeat (first
    | refine vk_ ?_
    | (refine rk_ ?_;refine ⟨rfl,?_⟩)
    | (refine pr_ T1 fun v1 n1 R1 g1=>?_;have pG:=R1.p;refine pq_ pG fun hP=>?_;have hZ:=And.intro hZ hP;refine ⟨hP.1,?_⟩))
   refine rk_ ?_
   refine hk _ _ ⟨_,rfl,R1⟩ ?_;exact om_
 . intro hh v1 v3 v5 v6 n' hn'
   dsimp only at hn'
   rw [zNt fun x hx=>by
    obtain ⟨j,hj,e⟩:=List.getElem_of_mem hx
    exact hh j x hj (by rw [<- e];exact gE_ hj)] at hk
   repeat (first
    | refine vk_ ?_
    | (refine rk_ ?_;refine ⟨rfl,?_⟩))
   refine rk_ ?_
   refine hk _ _ rfl ?_;exact om_
def cmpZ (a b:Int):Int:=if a<b then -1 else if b<a then 1 else 0
theorem zZ8 (a b:Int):Pe 88 [.int .i64 a,.int .i64 b] (.int .i64 (cmpZ a b)):=by
 intro h hf K hk
 obtain ⟨hu,hut,hX⟩:=fx4 hf
 unfold cmpZ at hk
 rcases Int.lt_trichotomy a b with g | g | g
 . rw [if_pos g] at hk
   refine mk_ 88 c88 (s_ ?_)
   have hZ:=j2_ hX g
   repeat (first
    | refine vk_ ?_
    | (refine mk_ 119 c119 (s_ ?_))
    | (refine rk_ ?_;refine ⟨rfl,?_⟩))
   refine rk_ ?_
   refine hk _ ?_;exact om_
 . subst g
   rw [if_neg (Int.lt_irrefl a),if_neg (Int.lt_irrefl a)] at hk
   have g:=Int.lt_irrefl a
   refine mk_ 88 c88 (s_ ?_)
   have hZ:=j2_ hX g
   repeat (first
    | refine vk_ ?_
    | (refine mk_ 119 c119 (s_ ?_))
    | (refine rk_ ?_;refine ⟨rfl,?_⟩))
   refine rk_ ?_
   refine hk _ ?_;exact om_
 . have g2:¬ a<b:=by omega
   rw [if_neg g2,if_pos g] at hk
   refine mk_ 88 c88 (s_ ?_)
   have hZ:=j3_ hX g g2
   repeat (first
    | refine vk_ ?_
    | (refine mk_ 119 c119 (s_ ?_))
    | (refine rk_ ?_;refine ⟨rfl,?_⟩))
   refine rk_ ?_
   refine hk _ ?_;exact om_
theorem zTz (k w:Int) {A:CVal} (pA:PV1 A):Pe 87 [.agg [.int .i64 k,A],.int .i64 w] (.int .i64 (cmpZ k w)):=by
 intro h hf K hk
 obtain ⟨hu,hut,hX⟩:=fx4 hf
 refine pq_ pA fun pF=>?_
 have C:=zZ8 k w
 generalize cmpZ k w=z at *
 refine mk_ 87 c87 (s_ ?_)
 have hZ:=j2_ hX pF
 repeat (first
  | refine vk_ ?_
  | (refine pe_ (C) fun n1 hn1=>⟨rfl,?_⟩))
 refine rk_ ?_
 refine hk _ ?_;exact om_
def posN {β:Type} (w:Nat) (l:List (Nat × β)):Nat:=(l.takeWhile fun x=>decide (x.1<w)).length
theorem zIo {β:Type} (w:Nat) (l:List (Nat × β)):posN w l<=l.length:=by
 unfold posN
 exact (List.takeWhile_prefix _).length_le
theorem zJl {β:Type} {w:Nat}:∀ {l:List (Nat × β)},SL.Srt nltB l->∀ {k:Nat} {x:Nat × β},l[k]? = some x->(x.1<w ↔ k<posN w l)
 | (a,y)::l,h,k,x,e=>by
  have ih:=fun k x=>zJl (w:=w) (l:=l) h.2 (k:=k) (x:=x)
  unfold posN at *
  by_cases g:a<w
  . rw [List.takeWhile_cons_of_pos (by simpa using g)]
    cases k with
    | zero=>cases e;simp [g]
    | succ k=>rw [ih k x e];simp
  . rw [List.takeWhile_cons_of_neg (by simpa using g)]
    have:¬ x.1<w:=by
     cases k with
     | zero=>cases e;exact g
     | succ k =>
      have h1:nltB a x.1=true:=h.1 x (List.mem_of_getElem? (show l[k]? = some x from e))
      simp [nltB] at h1
      omega
    simp [this]
theorem zXx {β:Type} {R:Nat × β->CVal->Prop} (hS:ShF R) {l:List (Nat × β)} (hs:SL.Srt nltB l) {es:List CVal} {L:Nat} (hl:l.length=L) (hL:L<=1000000) (hE:All2 R l es) {w:Nat} {t:Tag} {hh:CHeap} (hf:Fit hh) {Q:QT}
    (hk:∀ (v4 v6 v8:CVal) n',hh.next<=n'->Q (.exit 0) ⟨[.imm t 2 es,.int .i64 (L:Nat),.int .i64 (posN w l:Nat),.int .i64 (posN w l:Nat),v4,.fn (.func 87) [] [],v6,.int .i64 (w:Nat),v8,.int .i64 0,.bool false],⟨hh.ents,n',hh.tys⟩,[]⟩) :
    ∀ (m i j nx:Nat) (v4 v6 v8:CVal),j - i<=m->i<=posN w l->posN w l<=j->j<=L->hh.next<=nx->W TF bsfL ⟨[.imm t 2 es,.int .i64 (L:Nat),.int .i64 (i:Nat),.int .i64 (j:Nat),v4,.fn (.func 87) [] [],v6,.int .i64 (w:Nat),v8,.int .i64 0,.bool false],⟨hh.ents,nx,hh.tys⟩,[]⟩ Q:=by
 have end_:∀ (nx:Nat) (v4 v6 v8:CVal),hh.next<=nx->W TF bsfL ⟨[.imm t 2 es,.int .i64 (L:Nat),.int .i64 (posN w l:Nat),.int .i64 (posN w l:Nat),v4,.fn (.func 87) [] [],v6,.int .i64 (w:Nat),v8,.int .i64 0,.bool false],⟨hh.ents,nx,hh.tys⟩,[]⟩ Q:=by
  intro nx v4 v6 v8 e1
  refine W.loop ?_
  try refine w0_ ?_
  refine hk _ _ _ _ ?_;exact om_
 intro m
 induction m with
 | zero =>
  intro i j nx v4 v6 v8 h1 h2 h3 h4 h5
  obtain rfl:i=posN w l:=by omega
  obtain rfl:j=posN w l:=by omega
  exact end_ nx v4 v6 v8 h5
 | succ m ih =>
  intro i j nx v4 v6 v8 h1 h2 h3 h4 h5
  rcases Nat.lt_or_ge i j with g | g
  . obtain ⟨hu,hut,hX⟩:=fx4 (show Fit ⟨hh.ents,nx,hh.tys⟩ from ⟨hf.1.le h5,hf.2.le h5⟩)
    dsimp only at hX hu hut
    obtain ⟨p,hp⟩:∃ p,(i+j) / 2=p:=⟨_,rfl⟩
    have hpl:p<L:=by omega
    have hlen:=hE.len
    have hlr:es.length=L:=by omega
    obtain ⟨x,hx⟩:∃ x,l[p]? = some x:=⟨_,gE_ om_⟩
    obtain ⟨c,q1,r1⟩:=hE.at hx
    obtain ⟨A,rfl,pA⟩:=hS x c r1
    have m1:=zAk q1
    have C:=zTz (x.1:Int) (w:Int) pA
    have hlt:=zJl (w:=w) hs hx
    refine pq_ pA fun pF=>?_
    have hdl:(i:Int)<(j:Int):=by omega
    have hs1:((i:Int)+(j:Int)) / 2=(p:Int):=by omega
    have hs2:((i:Int)+(j:Int)).fdiv (2 ^ min 1 IntKind.u64.bits)=(p:Int):=by rw [show (2:Int) ^ min 1 IntKind.u64.bits=2 from rfl,Int.fdiv_eq_ediv_of_nonneg _ (by omega)];exact hs1
    have hml:(p:Int)<(L:Int):=by omega
    have hij0:0<=(i:Int)+(j:Int)/\(i:Int)+(j:Int)<2000000:=by omega
    have hm2:(p:Int).toNat=p:=by omega
    have hwu:∀ n:Int,0<=n->n<18446744073709551616->IntKind.u64.wrap n=n:=fun n h1 h2=>zAm h1 h2
    by_cases hb:p<posN w l
    . have hc:cmpZ (x.1:Int) (w:Int)<0:=by unfold cmpZ;rw [if_pos (by omega)];omega
      generalize cmpZ (x.1:Int) (w:Int)=z at *
      refine W.loop ?_
      have hZ:=j13_ hX hlr q1 m1 pF hdl hs1 hs2 hml hij0 hm2 hc hwu
      repeat (first
       | refine vk_ ?_
       | (refine pe_ (C) fun n1 hn1=>⟨rfl,?_⟩))
      have ih1:=fun nx v4 v6 v8 (h:_<=nx)=>ih (p+1) j nx v4 v6 v8 om_ om_ h3 h4 h
      push_cast at ih1
      refine dx_ ?_
      refine ih1 _ _ _ _ ?_;exact om_
    . have hc:¬ cmpZ (x.1:Int) (w:Int)<0:=by unfold cmpZ;rw [if_neg (by omega)];split <;> omega
      generalize cmpZ (x.1:Int) (w:Int)=z at *
      refine W.loop ?_
      have hZ:=j13_ hX hlr q1 m1 pF hdl hs1 hs2 hml hij0 hm2 hc hwu
      repeat (first
       | refine vk_ ?_
       | (refine pe_ (C) fun n1 hn1=>⟨rfl,?_⟩))
      refine dx_ ?_
      refine ih i p _ _ _ _ om_ h2 om_ om_ ?_;exact om_
  . obtain rfl:i=posN w l:=by omega
    obtain rfl:j=posN w l:=by omega
    exact end_ nx v4 v6 v8 h5
theorem zdc {β:Type} {R:Nat × β->CVal->Prop} (hS:ShF R) {Z:Nat} (hz:Z<=1000000) {l:List (Nat × β)} (hs:SL.Srt nltB l) {X:CVal} (hx:LRep Z R 2 l X) (w:Nat) {is:Bool} (his:is=true ↔ ∃ x,l[posN w l]? = some x/\x.1=w):Pe 86 [X,.int .i64 (w:Nat),.fn (.func 87) [] []] (.tup [.int .i64 (posN w l:Nat),.bool is]):=by
 intro h hf K hk
 obtain ⟨hu,hut,hX⟩:=fx4 hf
 obtain ⟨hl,es,he,hx⟩:=hx
 have l1:=he.len
 rcases hx with ⟨rfl,rfl⟩ | ⟨t,ht,rfl⟩
 . obtain rfl:l=[]:=n0_ l1.symm
   obtain rfl:is=false:=by cases is;rfl;obtain ⟨x,e,_⟩:=his.1 rfl;cases e
   have hp0:posN w ([]:List (Nat × β))=0:=rfl
   rw [hp0] at hk
   refine mk_ 86 c86 (s_ ?_)
   repeat (first
    | refine vx_ ?_
    | (refine dx_ ?_;refine W.loop ?_)
    | refine W.loop ?_)
   refine rx_ ?_
   refine hk _ ?_;exact om_
 have st1:(CVal.imm t 2 es).strip=.imm t 2 es:=by rcases ht with rfl | rfl <;> rfl
 refine mk_ 86 c86 (s_ ?_)
 have hZ:=j2_ hX l1
 repeat ((fail_if_success (show W TF bsfL _ _));refine vk_ ?_)
 refine zXx hS hs (L:=l.length) rfl (by omega) he (hh:=⟨_,_,_⟩) ?_ ?_ l.length 0 l.length _ _ _ _ (by omega) (by omega) (zIo w l) (by omega) (by (try dsimp only);omega)
 . exact ft_
 . intro v4 v6 v8 n' g
   dsimp only at g
   by_cases hpl:posN w l<l.length
   . obtain ⟨x,hx⟩:∃ x,l[posN w l]? = some x:=⟨_,gE_ hpl⟩
     obtain ⟨c,q1,r1⟩:=he.at hx
     obtain ⟨A,rfl,pA⟩:=hS x c r1
     have m1:=zAk q1
     have C:=zTz (x.1:Int) (w:Int) pA
     have hge:¬ x.1<w:=fun a=>Nat.lt_irrefl _ ((zJl (w:=w) hs hx).1 a)
     refine pq_ pA fun pF=>?_
     have hml:(posN w l:Int)<(l.length:Int):=by omega
     have hzq:(cmpZ (x.1:Int) (w:Int) == 0)=is:=by
      rw [Bool.eq_iff_iff,his]
      unfold cmpZ
      rw [if_neg (by omega)]
      by_cases e:x.1=w
      . simp [e,hx]
      . rw [if_pos (by omega)];simp [hx,e]
     generalize cmpZ (x.1:Int) (w:Int)=z at *
     generalize posN w l=pz at *
     have hZ:=j7_ hX l1 q1 m1 pF hml hzq
     repeat (first
      | refine vk_ ?_
      | (refine pe_ (C) fun n1 hn1=>⟨rfl,?_⟩))
     refine rk_ ?_
     refine hk _ ?_;exact om_
   . obtain rfl:is=false:=by
      cases is;rfl
      obtain ⟨x,e,_⟩:=his.1 rfl
      have:=(gs_ e).1;omega
     have hml:¬ (posN w l:Int)<(l.length:Int):=by omega
     generalize posN w l=pz at *
     have hZ:=j3_ hX l1 hml
     repeat (first
      | refine vk_ ?_)
     refine rk_ ?_
     refine hk _ ?_;exact om_
variable {h:CHeap} {K:KT}
theorem zQi (x:CVal) (t:Tag) (hb:x.bare=x) (hf:Fit h) (hk:∀ n',h.next<n'->K (.ref h.next 0 2 0 1) ⟨(h.next,.row 0 [x])::h.ents,n',h.tys⟩):Wc TF 90 [.nils,.int .i64 0,.imm t 2 [x]] h K:=by
 have hN:=zAc hf.1 (Nat.le_refl _)
 have hN2:=zBz hf.2 (Nat.le_refl _)
 refine Wc.primM (f:=90) (p:=zBb 2) (by kernel_rfl) ?_
 generalize e:zBb 2 _ _=r
 simp (disch:=omega) [zBb,hN,hN2,hb,-CVal.bare] at e
 subst e
 exact hk _ (by (try dsimp only);omega)
theorem zSd (x:CVal) (t:Tag) (hb:x.bare=x) (hf:Fit h) (hk:∀ n',h.next<n'->K (.ref h.next 0 2 0 1) ⟨(h.next,.row 0 [x])::h.ents,n',h.tys⟩):Wc TF 90 [.imm .full 2 [],.int .i64 0,.imm t 2 [x]] h K:=by
 have hN:=zAc hf.1 (Nat.le_refl _)
 have hN2:=zBz hf.2 (Nat.le_refl _)
 refine Wc.primM (f:=90) (p:=zBb 2) (by kernel_rfl) ?_
 generalize e:zBb 2 _ _=r
 simp (disch:=omega) [zBb,hN,hN2,hb,-CVal.bare] at e
 subst e
 exact hk _ (by (try dsimp only);omega)
theorem zWm {a va L:Nat} {es:List CVal} (i:Nat) (hL:es.length=L) (hi:i<=L) (hel:L<=1000000) (x:CVal) (t:Tag) (hb:x.bare=x) (hf:Fit h) (hg:zA1 h.ents a=some (.row va es)) (hty:zCy h.tys a=none) (hk:∀ n',h.next<=n'->K (.ref a (va+1) 2 0 (L+1)) ⟨zA2 h.ents a (.row (va+1) (es.take i++x::es.drop i)),n',h.tys⟩):Wc TF 90 [.ref a va 2 0 L,.int .i64 (i:Int),.imm t 2 [x]] h K:=by
 subst hL
 have hi2:(i:Int).toNat=i:=by omega
 refine Wc.primM (f:=90) (p:=zBb 2) (by kernel_rfl) ?_
 generalize e:zBb 2 _ _=r
 rcases Nat.lt_or_ge i es.length with g | g
 . have g2:i≠es.length:=by omega
   have htk:List.take es.length es=es:=List.take_length
   simp (disch:=omega) [zBb,hg,hty,hi2,g,g2,htk,hb,-CVal.bare] at e
   subst e
   exact hk _ (by (try dsimp only);omega)
 . have g2:i=es.length:=by omega
   subst g2
   have htk:List.take es.length es=es:=List.take_length
   simp (disch:=omega) [zBb,hg,hty,hi2,htk,hb,-CVal.bare] at e
   subst e
   have:=hk (h.next+1) om_
   rw [List.take_length,List.drop_length] at this
   exact this
theorem zWx (x y:CVal) (t:Tag) (hb:x.bare=x) (hb2:y.bare=y) (hf:Fit h) (hk:∀ n',h.next<n'->K (.ref h.next 0 4 0 2) ⟨(h.next,.row 0 [x,y])::h.ents,n',h.tys⟩):Wc TF 123 [.nils,.int .i64 0,.imm t 4 [x,y]] h K:=by
 have hN:=zAc hf.1 (Nat.le_refl _)
 have hN2:=zBz hf.2 (Nat.le_refl _)
 refine Wc.primM (f:=123) (p:=zBb 4) (by kernel_rfl) ?_
 generalize e:zBb 4 _ _=r
 simp (disch:=omega) [zBb,hN,hN2,hb,hb2,-CVal.bare] at e
 subst e
 exact hk _ (by (try dsimp only);omega)
theorem zS8 (x y:CVal) (t:Tag) (hb:x.bare=x) (hb2:y.bare=y) (hf:Fit h) (hk:∀ n',h.next<n'->K (.ref h.next 0 4 0 2) ⟨(h.next,.row 0 [x,y])::h.ents,n',h.tys⟩):Wc TF 123 [.imm .full 4 [],.int .i64 0,.imm t 4 [x,y]] h K:=by
 have hN:=zAc hf.1 (Nat.le_refl _)
 have hN2:=zBz hf.2 (Nat.le_refl _)
 refine Wc.primM (f:=123) (p:=zBb 4) (by kernel_rfl) ?_
 generalize e:zBb 4 _ _=r
 simp (disch:=omega) [zBb,hN,hN2,hb,hb2,-CVal.bare] at e
 subst e
 exact hk _ (by (try dsimp only);omega)
theorem zQp {a va L:Nat} {es:List CVal} (i:Nat) (hL:es.length=L) (hi:i<=L) (hel:L<=1000000) (x y:CVal) (t:Tag) (hb:x.bare=x) (hb2:y.bare=y) (hf:Fit h) (hg:zA1 h.ents a=some (.row va es)) (hty:zCy h.tys a=none) (hk:∀ n',h.next<=n'->K (.ref a (va+1) 4 0 (L+2)) ⟨zA2 h.ents a (.row (va+1) (es.take i++x::y::es.drop i)),n',h.tys⟩):Wc TF 123 [.ref a va 4 0 L,.int .i64 (i:Int),.imm t 4 [x,y]] h K:=by
 subst hL
 have hi2:(i:Int).toNat=i:=by omega
 refine Wc.primM (f:=123) (p:=zBb 4) (by kernel_rfl) ?_
 generalize e:zBb 4 _ _=r
 rcases Nat.lt_or_ge i es.length with g | g
 . have g2:i≠es.length:=by omega
   have htk:List.take es.length es=es:=List.take_length
   simp (disch:=omega) [zBb,hg,hty,hi2,g,g2,htk,hb,hb2,-CVal.bare] at e
   subst e
   exact hk _ (by (try dsimp only);omega)
 . have g2:i=es.length:=by omega
   subst g2
   have htk:List.take es.length es=es:=List.take_length
   simp (disch:=omega) [zBb,hg,hty,hi2,htk,hb,hb2,-CVal.bare] at e
   subst e
   have:=hk (h.next+1) om_
   rw [List.take_length,List.drop_length] at this
   exact this
theorem put_pos {V:Type} {w:Nat} {v:V}:∀ {l:List (Nat × V)},SL.Srt nltB l->(∀ x,l[posN w l]? = some x->x.1≠w)->SL.put nltB w v l=l.take (posN w l)++(w,v)::l.drop (posN w l)
 | [],_,_=>rfl
 | (a,y)::l,hs,hn=>by
  unfold posN at *
  by_cases g:a<w
  . rw [List.takeWhile_cons_of_pos (by simpa using g)] at hn ⊢
    have ih:=put_pos (w:=w) (v:=v) (l:=l) hs.2 fun x hx=>hn x (by unfold posN at hx;simpa using hx)
    unfold posN at ih
    simp only [SL.put,nltB,g,decide_true,if_true,ih,List.length_cons,List.take_succ_cons,List.drop_succ_cons,List.cons_append]
  . rw [List.takeWhile_cons_of_neg (by simpa using g)] at hn ⊢
    have g2:w<a:=by have:=hn (a,y) rfl;dsimp only at this;omega
    simp [SL.put,nltB,g,g2]
theorem zMw {V:Type} {w:Nat} {v:V}:∀ {l:List (Nat × V)},SL.Srt nltB l->∀ {x:Nat × V},l[posN w l]? = some x->x.1=w->SL.put nltB w v l=l.set (posN w l) (w,v)
 | [],_,x,e,_=>by cases e
 | (a,y)::l,hs,x,e,ex=>by
  unfold posN at *
  by_cases g:a<w
  . rw [List.takeWhile_cons_of_pos (by simpa using g)] at e ⊢
    have ih:=zMw (w:=w) (v:=v) (l:=l) hs.2 (x:=x) (by unfold posN;simpa using e) ex
    unfold posN at ih
    simp only [SL.put,nltB,g,decide_true,if_true,ih,List.length_cons,List.set_cons_succ]
  . rw [List.takeWhile_cons_of_neg (by simpa using g)] at e ⊢
    cases e
    dsimp only at ex
    subst ex
    simp [SL.put,nltB]
theorem zcg {β:Type} {R:Nat × β->CVal->Prop} (hS:ShF R) {Z:Nat} (hz:Z<=900000) {l:List (Nat × β)} (hs:SL.Srt nltB l) {X V:CVal} (hx:LRep Z R 2 l X) {w:Nat} {y:β} {t1:Tag} {vs:List CVal} (hV:V=.imm t1 4 vs) (ht1:zGg t1) (hvs:0<vs.length/\vs.length<=2000000) (hy:R (w,y) (.agg [.int .i64 (w:Nat),V])):PuR 39 [X,.int .i64 (w:Nat),V] (LRep (Z+1) R 2 (SL.put nltB w y l)):=by
 intro h hf K hk
 obtain ⟨hu,hut,hX⟩:=fx4 hf
 have hst1:(CVal.imm t1 4 vs).strip=.imm t1 4 vs:=by rcases ht1 with rfl | rfl <;> rfl
 simp only [CVal.strip] at hst1
 have hbV:(CVal.agg [.int .i64 (w:Nat),V]).bare=.agg [.int .i64 (w:Nat),V]:=by
  obtain ⟨A,e,p⟩:=hS _ _ hy
  rw [e];exact zHg p
 have hB:=fun is his=>zdc hS (show Z<=1000000 by omega) hs hx w (is:=is) his
 obtain ⟨hl,es,he,hx⟩:=hx
 have l1:=he.len
 have hdA:∀ m,h.next<=m->zB6 h.ents m=h.ents:=fun m hm=>zBa (hu.le hm)
 obtain ⟨hv1,hv2⟩:=hvs
 have hv3:(0:Int)<(vs.length:Int):=by omega
 have hv4:((vs.length:Int) == 0)=false:=bn_ om_
 have hv5:((vs.length:Int)=0)=False:=eq_false om_
 subst hV
 have nl:∀ {t:Tag} {x:CVal},l=[]->R (w,y) x->zGg t->LRep (Z+1) R 2 (SL.put nltB w y l) (.imm t 2 [x]):=fun e hy ht=>by subst e;exact LRep.imm (.cons hy .nil) ht (by simp [SL.put])
 rcases hx with ⟨rfl,rfl⟩ | ⟨t,ht,rfl⟩
 . have e0:l=[]:=n0_ l1.symm
   have B1:=hB false (by subst e0;simp)
   have p0:posN w l=0:=by subst e0;rfl
   rw [p0] at B1
   have HB:=@zQi
   refine mk_ 39 c39 (s_ ?_)
   have hZ:=j6_ hX hdA hst1 hv3 hv4 hv5
   repeat (first
    | refine vk_ ?_
    | (refine pe_ (B1) fun n1 hn1=>⟨rfl,?_⟩)
    | (refine zQi _ _ hbV ft_ fun n1 g1=>⟨rfl,?_⟩;(try dsimp only at g1))
    | (refine mk_ 83 c83 (s_ ?_))
    | (refine rk_ ?_;refine ⟨rfl,?_⟩))
   refine rk_ ?_
   refine hk _ _ (nl e0 hy (.inl rfl)) ?_;exact om_
 cases es with
 | nil =>
  have e0:l=[]:=n0_ l1.symm
  have B1:=hB false (by subst e0;simp)
  have p0:posN w l=0:=by subst e0;rfl
  rw [p0] at B1
  rcases ht with rfl | rfl
  all_goals
   refine mk_ 39 c39 (s_ ?_)
   have hZ:=j6_ hX hdA hst1 hv3 hv4 hv5
   repeat (first
    | refine vk_ ?_
    | (refine pe_ (B1) fun n1 hn1=>⟨rfl,?_⟩)
    | (refine zSd _ _ hbV ft_ fun n1 g1=>⟨rfl,?_⟩;(try dsimp only at g1))
    | (refine mk_ 83 c83 (s_ ?_))
    | (refine rk_ ?_;refine ⟨rfl,?_⟩))
   refine rk_ ?_
   refine hk _ _ (nl e0 hy (.inl rfl)) ?_;exact om_
 | cons e1 e2 =>
  obtain ⟨L,hLL⟩:∃ L,l.length=L:=⟨_,rfl⟩
  have l2:=l1.trans hLL
  have hL6:L<=900000:=by omega
  have hne2:e2.length+1=L:=by simpa using l2
  have hne:(e2.length:Int)+1=(L:Int):=by omega
  have hsm:e2.length+1<=1073741824:=by omega
  have h1:1<=L:=by omega
  have hBare:∀ x ∈ l,∀ c,R x c->c.bare=c:=fun x hx c hc=>by
   obtain ⟨A,rfl,p⟩:=hS x c hc
   exact zHg p
  have he0:=he
  have hpl:=zIo w l
  rw [hLL] at hpl
  have hps:=@put_pos β w y l hs
  have hst0:=@zMw β w y l hs
  generalize SL.put nltB w y l=pl at *
  cases he with
  | cons r0 he' =>
  rename_i x0 l0
  obtain ⟨A0,rfl,p0⟩:=hS x0 _ r0
  have hB2:=zCn he' fun x hx c h=>hBare x (by simp [hx]) c h
  have hst:(CVal.imm t 2 (.agg [.int .i64 (x0.1:Nat),A0]::e2)).strip=.imm t 2 (.agg [.int .i64 (x0.1:Nat),A0]::e2):=by rcases ht with rfl | rfl <;> rfl
  simp only [CVal.strip] at hst
  refine pq_ p0 fun p0=>?_
  by_cases hin:∃ x,(x0::l0)[posN w (x0::l0)]? = some x/\x.1=w
  . have B1:=hB true (by simp [hin])
    obtain ⟨x,hx,hxw⟩:=hin
    have hpl2:posN w (x0::l0)<L:=by have:=(gs_ hx).1;rw [hLL] at this;exact this
    obtain ⟨cc,q1,r1⟩:=he0.at hx
    obtain ⟨A1,rfl,p1⟩:=hS x _ r1
    have m1:=zAk q1
    have hres:LRep (Z+1) R 2 pl (.imm .none 2 ((CVal.agg [.int .i64 (x0.1:Nat),A0]::e2).set (posN w (x0::l0)) (.agg [.int .i64 (w:Nat),.imm t1 4 vs]))):=by
     rw [hst0 hx hxw]
     refine LRep.imm (he0.set _ hy) (.inl rfl) ?_
     rw [List.length_set];omega
    generalize posN w (x0::l0)=pz at *
    have hp3:(pz:Int)<(L:Int):=by omega
    have hp4:pz<e2.length+1:=by omega
    have hsn:∀ x,zBw (CVal.agg [.int .i64 (x0.1:Nat),A0]::e2) pz x=(CVal.agg [.int .i64 (x0.1:Nat),A0]::e2).set pz x:=fun x=>zEg _ _ _
    have hlS:∀ x,((CVal.agg [.int .i64 (x0.1:Nat),A0]::e2).set pz x).length=L:=fun x=>by rw [List.length_set];simpa using l2
    have htS:∀ x,List.take L ((CVal.agg [.int .i64 (x0.1:Nat),A0]::e2).set pz x)=(CVal.agg [.int .i64 (x0.1:Nat),A0]::e2).set pz x:=fun x=>List.take_of_length_le (by rw [hlS];omega)
    refine mk_ 39 c39 (s_ ?_)
    have hZ:=j19_ hX hdA hst1 hv3 hv4 hv5 hne hne2 hsm hst hB2 p0 hp3 hp4 q1 m1 hsn hlS htS
    repeat (first
     | refine vk_ ?_
     | (refine pe_ (B1) fun n1 hn1=>⟨rfl,?_⟩)
     | (refine mk_ 83 c83 (s_ ?_))
     | (refine rk_ ?_;refine ⟨rfl,?_⟩))
    refine rk_ ?_
    refine hk _ _ hres ?_;exact om_
  . have B1:=hB false (by simp [hin])
    have hpos:=hps fun x hx e=>hin ⟨x,hx,e⟩
    have hres:LRep (Z+1) R 2 pl (.imm .none 2 ((CVal.agg [.int .i64 (x0.1:Nat),A0]::e2).take (posN w (x0::l0))++.agg [.int .i64 (w:Nat),.imm t1 4 vs]::(CVal.agg [.int .i64 (x0.1:Nat),A0]::e2).drop (posN w (x0::l0)))):=by
     rw [hpos]
     refine LRep.imm ((he0.take _).app (.cons hy (he0.drop _))) (.inl rfl) ?_
     have:=congrArg List.length (List.take_append_drop (posN w (x0::l0)) (x0::l0))
     rw [List.length_append] at this
     rw [List.length_append,List.length_cons]
     omega
    have hlS:((CVal.agg [.int .i64 (x0.1:Nat),A0]::e2).take (posN w (x0::l0))++.agg [.int .i64 (w:Nat),.imm t1 4 vs]::(CVal.agg [.int .i64 (x0.1:Nat),A0]::e2).drop (posN w (x0::l0))).length=L+1:=by
     rw [List.length_append,List.length_cons,List.length_take,List.length_drop]
     simp only [List.length_cons]
     omega
    generalize posN w (x0::l0)=pz at *
    generalize hes:(CVal.agg [.int .i64 (x0.1:Nat),A0]::e2).take pz++.agg [.int .i64 (w:Nat),.imm t1 4 vs]::(CVal.agg [.int .i64 (x0.1:Nat),A0]::e2).drop pz=rs at *
    have htS:List.take (L+1) rs=rs:=List.take_of_length_le om_
    have hnl:∀ q,h.next<=q->zCy h.tys q=none:=hX.2.2.2
    refine mk_ 39 c39 (s_ ?_)
    have hZ:=j14_ hX hdA hst1 hv3 hv4 hv5 hne hne2 hsm hst hB2 p0 htS hlS
    repeat (first
     | refine vk_ ?_
     | (refine pe_ (B1) fun n1 hn1=>⟨rfl,?_⟩)
     | (refine zWm (es:=.agg [.int .i64 (x0.1:Nat),A0]::e2) pz l2 hpl (by omega) _ _ hbV ft_ (by simp (disch:=omega) [zA1]) (by dsimp only;exact hnl _ (by omega)) fun n1 g1=>⟨rfl,?_⟩;rw [hes];simp (disch:=omega) only [zA2];(try dsimp only at g1))
     | (refine mk_ 83 c83 (s_ ?_))
     | (refine rk_ ?_;refine ⟨rfl,?_⟩))
    refine rk_ ?_
    refine hk _ _ hres ?_;exact om_
theorem vm_I {a b:BD} (hl:a.rs.length<=100):Pe 29 [schV a b,.str [97,46,73]] (.tup [mgV [97,46,73] a,.bool true]):=by
 intro h hf K hk
 obtain ⟨hu,hut,hX⟩:=fx4 hf
 have PsA:=lV8P (zAd a.rs)
 have PsB:=lV8P (zAd b.rs)
 have PoA:=oV1P (!a.os.isEmpty)
 have PoB:=oV1P (!b.os.isEmpty)
 have CU:=(PsA).u
 have C8:=zZy (zAd a.rs) (by rw [zBh];exact hl)
 have PoAo:=oV2 (!a.os.isEmpty)
 have PoBo:=oV2 (!b.os.isEmpty)
 unfold schV mgV
 unfold mgV at hk
 unfold oV1 at *
 generalize (if (!a.os.isEmpty)=true then CVal.imm .none 1 [.str [99]] else .nils)=oA at *
 generalize (if (!b.os.isEmpty)=true then CVal.imm .none 1 [.str [99]] else .nils)=oB at *
 generalize lV8 (zAd a.rs)=sA at *
 generalize lV8 (zAd b.rs)=sB at *
 have oA0:oA.beq oA=true:=zB4 _
 obtain ⟨oA1,oA2,oA3,oA4,oA5⟩:=PoA
 have oB0:oB.beq oB=true:=zB4 _
 obtain ⟨oB1,oB2,oB3,oB4,oB5⟩:=PoB
 have sA0:sA.beq sA=true:=zB4 _
 obtain ⟨sA1,sA2,sA3,sA4,sA5⟩:=PsA
 have sB0:sB.beq sB=true:=zB4 _
 obtain ⟨sB1,sB2,sB3,sB4,sB5⟩:=PsB
 simp only [CVal.isUndef,CVal.whole,CVal.cells,CVal.strip,CVal.bare] at oA1 oA2 oA3 oA4 oA5 oB1 oB2 oB3 oB4 oB5 sA1 sA2 sA3 sA4 sA5 sB1 sB2 sB3 sB4 sB5
 rcases PoAo with rfl | rfl
 all_goals (
  refine mk_ 29 c29 (s_ ?_)
  have hZ:=j25_ hX oA0 oA1 oA2 oA3 oA4 oA5 oB0 oB1 oB2 oB3 oB4 oB5 sA0 sA1 sA2 sA3 sA4 sA5 sB0 sB1 sB2 sB3 sB4 sB5
  repeat (first
   | refine vk_ ?_
   | (refine W.loop ?_)
   | (show W TF _ (dropped true _ _) _;generalize e:dropped _ _ _=r;simp (disch:=omega) [hX,oA0,oA1,oA2,oA3,oA4,oA5,oB0,oB1,oB2,oB3,oB4,oB5,sA0,sA1,sA2,sA3,sA4,sA5,sB0,sB1,sB2,sB3,sB4,sB5] at e;subst e;refine W.loop ?_)
   | (refine pe_ C8 fun n8 g8=>⟨CU,?_⟩)
   | (refine mk_ 63 c63 (s_ ?_))
   | (refine mk_ 64 c64 (s_ ?_))
   | (refine mk_ 66 c66 (s_ ?_))
   | (refine rk_ ?_;refine ⟨rfl,?_⟩))
  have hZ:=j25_ hX oA0 oA1 oA2 oA3 oA4 oA5 oB0 oB1 oB2 oB3 oB4 oB5 sA0 sA1 sA2 sA3 sA4 sA5 sB0 sB1 sB2 sB3 sB4 sB5
  refine rk_ ?_
  refine hk _ ?_;exact om_)
theorem vm_M {a b:BD} (hl:b.rs.length<=100):Pe 29 [schV a b,.str [97,46,77]] (.tup [mgV [97,46,77] b,.bool true]):=by
 intro h hf K hk
 obtain ⟨hu,hut,hX⟩:=fx4 hf
 have PsA:=lV8P (zAd a.rs)
 have PsB:=lV8P (zAd b.rs)
 have PoA:=oV1P (!a.os.isEmpty)
 have PoB:=oV1P (!b.os.isEmpty)
 have CU:=(PsB).u
 have C8:=zZy (zAd b.rs) (by rw [zBh];exact hl)
 have PoAo:=oV2 (!a.os.isEmpty)
 have PoBo:=oV2 (!b.os.isEmpty)
 unfold schV mgV
 unfold mgV at hk
 unfold oV1 at *
 generalize (if (!a.os.isEmpty)=true then CVal.imm .none 1 [.str [99]] else .nils)=oA at *
 generalize (if (!b.os.isEmpty)=true then CVal.imm .none 1 [.str [99]] else .nils)=oB at *
 generalize lV8 (zAd a.rs)=sA at *
 generalize lV8 (zAd b.rs)=sB at *
 have oA0:oA.beq oA=true:=zB4 _
 obtain ⟨oA1,oA2,oA3,oA4,oA5⟩:=PoA
 have oB0:oB.beq oB=true:=zB4 _
 obtain ⟨oB1,oB2,oB3,oB4,oB5⟩:=PoB
 have sA0:sA.beq sA=true:=zB4 _
 obtain ⟨sA1,sA2,sA3,sA4,sA5⟩:=PsA
 have sB0:sB.beq sB=true:=zB4 _
 obtain ⟨sB1,sB2,sB3,sB4,sB5⟩:=PsB
 simp only [CVal.isUndef,CVal.whole,CVal.cells,CVal.strip,CVal.bare] at oA1 oA2 oA3 oA4 oA5 oB1 oB2 oB3 oB4 oB5 sA1 sA2 sA3 sA4 sA5 sB1 sB2 sB3 sB4 sB5
 rcases PoBo with rfl | rfl
 all_goals (
  refine mk_ 29 c29 (s_ ?_)
  have hZ:=j25_ hX oA0 oA1 oA2 oA3 oA4 oA5 oB0 oB1 oB2 oB3 oB4 oB5 sA0 sA1 sA2 sA3 sA4 sA5 sB0 sB1 sB2 sB3 sB4 sB5
  repeat (first
   | refine vk_ ?_
   | (refine W.loop ?_)
   | (show W TF _ (dropped true _ _) _;generalize e:dropped _ _ _=r;simp (disch:=omega) [hX,oA0,oA1,oA2,oA3,oA4,oA5,oB0,oB1,oB2,oB3,oB4,oB5,sA0,sA1,sA2,sA3,sA4,sA5,sB0,sB1,sB2,sB3,sB4,sB5] at e;subst e;refine W.loop ?_)
   | (refine pe_ C8 fun n8 g8=>⟨CU,?_⟩)
   | (refine mk_ 63 c63 (s_ ?_))
   | (refine mk_ 64 c64 (s_ ?_))
   | (refine mk_ 66 c66 (s_ ?_))
   | (refine rk_ ?_;refine ⟨rfl,?_⟩))
  have hZ:=j25_ hX oA0 oA1 oA2 oA3 oA4 oA5 oB0 oB1 oB2 oB3 oB4 oB5 sA0 sA1 sA2 sA3 sA4 sA5 sB0 sB1 sB2 sB3 sB4 sB5
  refine rk_ ?_
  refine hk _ ?_;exact om_)
theorem rm_I {a b:BD}:Pe 22 [schV a b,.str [97,46,73]] (.tup [mgV [97,46,73] a,.bool true]):=by
 intro h hf K hk
 obtain ⟨hu,hut,hX⟩:=fx4 hf
 unfold schV mgV at *
 have PsA:=lV8P (zAd a.rs)
 have PsB:=lV8P (zAd b.rs)
 have PoA:PV1 (oV1 (!a.os.isEmpty)):=oV1P _
 have PoB:PV1 (oV1 (!b.os.isEmpty)):=oV1P _
 generalize oV1 (!a.os.isEmpty)=oA at *
 generalize oV1 (!b.os.isEmpty)=oB at *
 generalize lV8 (zAd a.rs)=sA at *
 generalize lV8 (zAd b.rs)=sB at *
 obtain ⟨a1,a2,a3,a4,a5⟩:=PoA
 obtain ⟨b1,b2,b3,b4,b5⟩:=PoB
 obtain ⟨d1,d2,d3,d4,d5⟩:=PsA
 obtain ⟨e1,e2,e3,e4,e5⟩:=PsB
 simp only [CVal.isUndef,CVal.whole,CVal.cells,CVal.strip,CVal.bare] at a1 a2 a3 a4 a5 b1 b2 b3 b4 b5 d1 d2 d3 d4 d5 e1 e2 e3 e4 e5
 have hP:=j20_ a1 a2 a3 a4 a5 b1 b2 b3 b4 b5 d1 d2 d3 d4 d5 e1 e2 e3 e4 e5
 refine mk_ 22 c22 (s_ ?_)
 have hZ:=j2_ hX hP
 repeat (first
  | refine vk_ ?_
  | refine W.loop ?_
  | (refine dk_ ?_;refine W.loop ?_))
 refine rk_ ?_
 refine hk _ ?_;exact om_
theorem rm_M {a b:BD}:Pe 22 [schV a b,.str [97,46,77]] (.tup [mgV [97,46,77] b,.bool true]):=by
 intro h hf K hk
 obtain ⟨hu,hut,hX⟩:=fx4 hf
 unfold schV mgV at *
 have PsA:=lV8P (zAd a.rs)
 have PsB:=lV8P (zAd b.rs)
 have PoA:PV1 (oV1 (!a.os.isEmpty)):=oV1P _
 have PoB:PV1 (oV1 (!b.os.isEmpty)):=oV1P _
 generalize oV1 (!a.os.isEmpty)=oA at *
 generalize oV1 (!b.os.isEmpty)=oB at *
 generalize lV8 (zAd a.rs)=sA at *
 generalize lV8 (zAd b.rs)=sB at *
 obtain ⟨a1,a2,a3,a4,a5⟩:=PoA
 obtain ⟨b1,b2,b3,b4,b5⟩:=PoB
 obtain ⟨d1,d2,d3,d4,d5⟩:=PsA
 obtain ⟨e1,e2,e3,e4,e5⟩:=PsB
 simp only [CVal.isUndef,CVal.whole,CVal.cells,CVal.strip,CVal.bare] at a1 a2 a3 a4 a5 b1 b2 b3 b4 b5 d1 d2 d3 d4 d5 e1 e2 e3 e4 e5
 have hP:=j20_ a1 a2 a3 a4 a5 b1 b2 b3 b4 b5 d1 d2 d3 d4 d5 e1 e2 e3 e4 e5
 refine mk_ 22 c22 (s_ ?_)
 have hZ:=j2_ hX hP
 repeat (first
  | refine vk_ ?_
  | refine W.loop ?_
  | (refine dk_ ?_;refine W.loop ?_))
 refine rk_ ?_
 refine hk _ ?_;exact om_
theorem zbh {Ls:List RW} (hl:Ls.length<=100) {w:Nat} {n:B8} {O:CVal} {bx bc:Nat} (hbc:bx≠bc) {hh:CHeap} (hf:Fit hh) (gx:zA1 hh.ents bx=some (.cells [.str n,.imm .none 8 (Ls.map RW.pf),O])) (gc:zA1 hh.ents bc=some (.cells [.int .i64 0,.str [],.int .i64 0,.int .i64 0,.str [],.int .i64 0,.bool false,.int .i64 0])) {v0:CVal} {Q:QT}
    (hyes:∀ (v1 v3 v5:CVal) n' (k:Nat) (x:RW),Ls[k]? = some x->x.num=w->(∀ (j:Nat) (y:RW),j<k->Ls[j]? = some y->y.num≠w)->hh.next<=n'->Q .ret ⟨[v0,v1,.ptr bx 49283075 0,v3,.int .i64 (w:Nat),v5,.ptr bc 63963144 0,.bool true],⟨zA2 hh.ents bc (.cells x.pf.cells),n',hh.tys⟩,[]⟩)
    (hno:(∀ (j:Nat) (y:RW),j<Ls.length->Ls[j]? = some y->y.num≠w)->∀ (v1 v3 v5:CVal) n',hh.next<=n'->Q (.exit 0) ⟨[v0,v1,.ptr bx 49283075 0,v3,.int .i64 (w:Nat),v5,.ptr bc 63963144 0,.bool false],⟨hh.ents,n',hh.tys⟩,[]⟩) :
    ∀ (m k nx:Nat) (v3 v5:CVal),k+m=Ls.length->(∀ (j:Nat) (y:RW),j<k->Ls[j]? = some y->y.num≠w)->hh.next<=nx->W TF rfL ⟨[v0,.int .i64 (k:Nat),.ptr bx 49283075 0,v3,.int .i64 (w:Nat),v5,.ptr bc 63963144 0,.bool false],⟨hh.ents,nx,hh.tys⟩,[]⟩ Q:=by
 have hlen:(Ls.map RW.pf).length=Ls.length:=List.length_map ..
 intro m
 induction m with
 | zero =>
  intro k nx v3 v5 h1 h2 h3
  obtain rfl:k=Ls.length:=by omega
  refine W.loop ?_
  have hgt:¬ (Ls.length:Int)<(Ls.length:Int):=by omega
  have hZ:=j3_ gx hlen hgt
  try refine wk_ ?_
  refine hno h2 _ _ _ _ ?_;exact om_
 | succ m ih =>
  intro k nx v3 v5 h1 h2 h3
  obtain ⟨hu,hut,hX⟩:=fx4 (show Fit ⟨hh.ents,nx,hh.tys⟩ from ⟨hf.1.le h3,hf.2.le h3⟩)
  have hY:=fx5 (show Fit ⟨hh.ents,nx,hh.tys⟩ from ⟨hf.1.le h3,hf.2.le h3⟩) gc
  dsimp only at hX hu hut hY
  have hlt:(k:Int)<(Ls.length:Int):=by omega
  have lq:=zA3 hu gx
  have hkl:k<Ls.length:=by omega
  obtain ⟨x,hx⟩:∃ x,Ls[k]? = some x:=⟨_,gE_ hkl⟩
  have hn:nth (Ls.map RW.pf) k=x.pf:=zCc RW.pf Ls k x hx
  have hn2:(Ls.map RW.pf)[k]? = some x.pf:=by rw [List.getElem?_map,hx];rfl
  have gs:∀ z,zA1 (zA2 hh.ents bc z) bx=zA1 hh.ents bx:=fun z=>zA0 hbc
  obtain ⟨lb0,ls0⟩:=lbs_
  have yes:=fun v1 v3 v5 n' (h:x.num=w) (g:hh.next<=n')=>hyes v1 v3 v5 n' k x hx h h2 g
  generalize hPF:Ls.map RW.pf=PF at *
  unfold RW.pf at hn hn2 yes
  simp only [CVal.cells] at yes
  refine W.loop ?_
  by_cases he:x.num=w
  . subst he
    have e1:((x.num:Int) == (x.num:Int))=true:=by simp
    have hZ:=j12_ hX gx gc hY hlt hn hn2 hlen e1 gs lb0 ls0
    repeat (first
     | refine vk_ ?_)
    refine W.ret ?_
    simp only [zB3,zA9,zAe,zAo,reduceIte]
    refine yes _ _ _ _ rfl ?_;exact om_
  . have e1:((x.num:Int) == (w:Int))=false:=by simp;omega
    have he2:((x.num:Int)=(w:Int))=False:=eq_false om_
    have hZ:=j11_ hX gx gc hlt hn hn2 hlen e1 lb0 ls0 he2
    repeat (first
     | refine vk_ ?_)
    have ih1:=fun nx v3 v5 (h:_<=nx)=>ih (k+1) nx v3 v5 om_ (fun j y a b=>by
     rcases Nat.lt_succ_iff_lt_or_eq.1 a with c | rfl
     . exact h2 j y c b
     . rw [hx] at b;cases b;exact he) h
    push_cast at ih1
    refine dx_ ?_
    refine ih1 _ _ _ ?_;exact om_
theorem rf_F {Ls:List RW} (hl:Ls.length<=100) {w:Nat} {n:B8} {O:CVal} (HO:PV1 O) {R:CVal} (hyes:∀ (k:Nat) (x:RW),Ls[k]? = some x->x.num=w->R=.tup [x.pf,.bool true]) (hno:(∀ (j:Nat) (y:RW),Ls[j]? = some y->y.num≠w)->R=.tup [zPF,.bool false]):Pe 33 [.agg [.str n,lV8 Ls,O],.int .i64 (w:Nat)] R:=by
 intro h hf K hk
 obtain ⟨hu,hut,hX⟩:=fx4 hf
 obtain ⟨f1,f2,f3,f4,f5⟩:=HO
 simp only [CVal.isUndef,CVal.whole,CVal.cells,CVal.strip,CVal.bare] at f1 f2 f3 f4 f5
 cases hLs:Ls with
 | nil =>
  subst hLs
  obtain rfl:=hno (by intro j y e;cases e)
  unfold lV8
  unfold zPF at hk
  have hZ:=j6_ hX f1 f2 f3 f4 f5
  refine mk_ 33 c33 (s_ ?_)
  repeat (first
   | refine vk_ ?_
   | refine W.loop ?_
   | (refine dk_ ?_;refine W.loop ?_))
  refine rk_ ?_
  refine hk _ ?_;exact om_
 | cons r0 l0 =>
  have e8:lV8 Ls=.imm .none 8 (Ls.map RW.pf):=by rw [hLs];rfl
  have hlen:(Ls.map RW.pf).length=Ls.length:=List.length_map ..
  rw [<- hLs,e8]
  have hZ:=j7_ hX f1 f2 f3 f4 f5 hlen
  refine mk_ 33 c33 (s_ ?_)
  skip
  repeat ((fail_if_success (show W TF rfL _ _));first
   | refine st_ rfl ?_
   | refine ws_ ?_
   | refine W.loop ?_
   | (refine dk_ ?_;refine W.loop ?_)
   | refine xs_ ?_)
  refine zbh hl (hh:=⟨_,h.next+2,_⟩) (w:=w) (n:=n) (O:=O) ?_ ?_ ?_ ?_ ?_ ?_ Ls.length 0 _ _ _ (by omega) (fun j y a _=>by omega) (by (try dsimp only);omega)
  . omega
  . exact ft_
  . dsimp only;simp (disch:=omega) [zA1]
  . dsimp only;simp (disch:=omega) [zA1]
  . intro v1 v3 v5 n' k x hx hw _ hn'
    obtain rfl:=hyes k x hx hw
    dsimp only at hn'
    unfold RW.pf at hk ⊢
    simp only [CVal.cells]
    have hZ:=j7_ hX f1 f2 f3 f4 f5 hlen
    repeat (first
     | refine vk_ ?_)
    refine rk_ ?_
    refine hk _ ?_;exact om_
  . intro hh v1 v3 v5 n' hn'
    obtain rfl:=hno (fun j y e=>hh j y (gs_ e).1 e)
    dsimp only at hn'
    unfold zPF at hk
    have hZ:=j7_ hX f1 f2 f3 f4 f5 hlen
    repeat (first
     | refine vk_ ?_)
    refine rk_ ?_
    refine hk _ ?_;exact om_
def fRW (Ls:List RW) (k:Nat):Option RW:=Ls.find? fun x=>decide (x.num=k)
theorem zNy {Ls:List RW} (hd:(Ls.map RW.num).Nodup) {k:Nat} {x:RW} (hx:Ls[k]? = some x):fRW Ls x.num=some x:=by
 induction Ls generalizing k with
 | nil=>cases hx
 | cons y l ih =>
  rw [List.map_cons,List.nodup_cons] at hd
  unfold fRW
  cases k with
  | zero=>cases hx;simp
  | succ k =>
   have hm:=List.mem_of_getElem? (show l[k]? = some x from hx)
   have:¬ y.num=x.num:=fun e=>hd.1 (e ▸ List.mem_map_of_mem hm)
   rw [List.find?_cons_of_neg (by simpa using this)]
   exact ih hd.2 (show l[k]? = some x from hx)
theorem zR3 {Ls:List RW} {w:Nat} (h:∀ (j:Nat) (y:RW),Ls[j]? = some y->y.num≠w):fRW Ls w=none:=by
 unfold fRW
 rw [List.find?_eq_none]
 intro x hx
 obtain ⟨j,hj,e⟩:=List.getElem_of_mem hx
 simpa using h j x (by rw [<- e];exact gE_ hj)
theorem zGo {Ls:List RW} {w:Nat} {x:RW} (h:fRW Ls w=some x):x ∈ Ls/\x.num=w:=by
 unfold fRW at h
 exact ⟨List.mem_of_find?_eq_some h,by simpa using List.find?_some h⟩
def FldR (o:Option RW):CVal:=match o with | some x=>.tup [x.pf,.bool true] | none=>.tup [zPF,.bool false]
theorem zOr {Ls:List RW} (hl:Ls.length<=100) (hd:(Ls.map RW.num).Nodup) (w:Nat) {n:B8} {O:CVal} (HO:PV1 O):Pe 31 [.agg [.str n,lV8 Ls,O],.int .i64 (w:Nat)] (FldR (fRW Ls w)) :=
 fd_F hl HO (fun k x hx hw => by obtain rfl : x.num = w := by omega
                                 rw [zNy hd hx];rfl) fun h=>by rw [zR3 fun j y e q=>h j y e (by omega)];rfl
theorem zZ7 {Ls:List RW} (hl:Ls.length<=100) (hd:(Ls.map RW.num).Nodup) (w:Nat) {n:B8} {O:CVal} (HO:PV1 O):Pe 33 [.agg [.str n,lV8 Ls,O],.int .i64 (w:Nat)] (FldR (fRW Ls w)) :=
 rf_F hl HO (fun k x hx hw => by obtain rfl : x.num = w := by omega
                                 rw [zNy hd hx];rfl) fun h=>by rw [zR3 h];rfl
theorem zZn {β:Type} {R:Nat × β->CVal->Prop} (hS:ShF R) {l:List (Nat × β)} {rs:List CVal} {L:Nat} (hl:l.length=L) (hL:L<=1000000) (hR:All2 R l rs) {q g n0:Nat} {caps:List CVal} {p:Nat × β->Bool} {E:EE} {ty:NN} (hE:Under E n0) (hT:zA7 ty n0) (hq:n0<=q) (HC:∀ x ∈ l,∀ c,R x c->∀ (h:CHeap) (K:KT),Fit h->(∀ b,b<n0->zA1 h.ents b=zA1 E b)->(∀ n',h.next<=n'->K (.bool (p x)) ⟨h.ents,n',h.tys⟩)->Wc TF g (c::caps) h K) {Q:QT}
    (hyes:∀ (v1 v3 v5 v6:CVal) n' (k:Nat) x,l[k]? = some x->p x=true->(∀ j y,j<k->l[j]? = some y->p y=false)->q<n'->Q .ret ⟨[.ref q 0 2 0 L,v1,.int .i64 (L:Nat),v3,.fn (.func g) [] caps,v5,v6,.int .i64 (k:Nat)],⟨(q,.row 0 rs)::E,n',ty⟩,[]⟩)
    (hno:(∀ j y,j<L->l[j]? = some y->p y=false)->∀ (v1 v3 v5 v6:CVal) n',q<n'->Q (.exit 0) ⟨[.ref q 0 2 0 L,v1,.int .i64 (L:Nat),v3,.fn (.func g) [] caps,v5,v6,.int .i64 0],⟨(q,.row 0 rs)::E,n',ty⟩,[]⟩) :
    ∀ (m k nx:Nat) (v3 v5 v6:CVal),k+m=L->(∀ j y,j<k->l[j]? = some y->p y=false)->q<nx->W TF ixrL ⟨[.ref q 0 2 0 L,.int .i64 (k:Nat),.int .i64 (L:Nat),v3,.fn (.func g) [] caps,v5,v6,.int .i64 0],⟨(q,.row 0 rs)::E,nx,ty⟩,[]⟩ Q:=by
 intro m
 induction m with
 | zero =>
  intro k nx v3 v5 v6 h1 h2 h3
  obtain rfl:k=L:=by omega
  refine W.loop ?_
  try refine w0_ ?_
  refine hno h2 _ _ _ _ _ ?_;exact om_
 | succ m ih =>
  intro k nx v3 v5 v6 h1 h2 h3
  have hu:=hE
  have hut:=hT
  have hlt:(k:Int)<(L:Int):=by omega
  have hlen:=hR.len
  have hlr:rs.length=L:=by omega
  obtain ⟨x,hx⟩:∃ x,l[k]? = some x:=⟨_,gE_ om_⟩
  obtain ⟨c,q1,r1⟩:=hR.at hx
  have H:=HC x (List.mem_of_getElem? hx) c r1
  obtain ⟨A,rfl,pA⟩:=hS x c r1
  have m1:=zAk q1
  have hD:∀ x m,nx<=m->zA5 ((q,CObj.row 0 x)::E) m=(q,CObj.row 0 x)::E:=fun x m hm=>zAa (Under.cons om_ (hE.le om_))
  refine pq_ pA fun pF=>?_
  refine W.loop ?_
  cases he:p x with
  | true =>
   rw [he] at H
   have hZ:=j6_ hD hlt q1 m1 hlr pF
   repeat (first
    | refine vk_ ?_
    | (refine H _ _ ft_ (by intro b hb;dsimp only;repeat rw [zA6 (by omega)]) fun n1 g1=>⟨rfl,?_⟩;(try dsimp only at g1)))
   refine W.ret ?_
   simp only [zB3,zA9,zAe,zAo,reduceIte]
   refine hyes _ _ _ _ _ k x hx he h2 ?_;exact om_
  | false =>
   rw [he] at H
   have hZ:=j6_ hD hlt q1 m1 hlr pF
   repeat (first
    | refine vk_ ?_
    | (refine H _ _ ft_ (by intro b hb;dsimp only;repeat rw [zA6 (by omega)]) fun n1 g1=>⟨rfl,?_⟩;(try dsimp only at g1)))
   have ih1:=fun nx v3 v5 v6 (h:_<nx)=>ih (k+1) nx v3 v5 v6 om_ (fun j y a b=>by
    rcases Nat.lt_succ_iff_lt_or_eq.1 a with c | rfl
    . exact h2 j y c b
    . rw [hx] at b;cases b;exact he) h
   push_cast at ih1
   refine dk_ ?_
   refine ih1 _ _ _ _ ?_;exact om_
def Two (c:CVal):Prop:=∃ k A,c=.agg [.int .i64 k,A]/\PV1 A
theorem zZo {β:Type} {R:Nat × β->CVal->Prop} (hS:ShF R) {l:List (Nat × β)} {L:Nat} (hl:l.length=L) (hL:L<=1000000) {q g n0:Nat} {caps:List CVal} {p:Nat × β->Bool} {E:EE} {ty:NN} (hE:Under E n0) (hT:zA7 ty n0) (hq:n0<=q) (HC:∀ x ∈ l,∀ c,R x c->∀ (h:CHeap) (K:KT),Fit h->(∀ b,b<n0->zA1 h.ents b=zA1 E b)->(∀ n',h.next<=n'->K (.bool (p x)) ⟨h.ents,n',h.tys⟩)->Wc TF g (c::caps) h K) {Q:QT}
    (hk:∀ (v3 v5 v6 v7:CVal) (i n':Nat) (rs:List CVal),q<n'->rs.length=L->i<=L->All2 R (l.filter fun x=>!p x) (rs.take i)->Q (.exit 0) ⟨[.ref q 0 2 0 L,.fn (.func g) [] caps,.int .i64 (i:Nat),v3,.int .i64 (L:Nat),v5,v6,v7,.nils],⟨(q,.row 0 rs)::E,n',ty⟩,[]⟩) :
    ∀ (m i j nx:Nat) (rs:List CVal) (v3 v5 v6 v7:CVal),j+m=L->i<=j->rs.length=L->(∀ c ∈ rs,Two c)->All2 R ((l.take j).filter fun x=>!p x) (rs.take i)->All2 R (l.drop j) (rs.drop j)->q<nx->W TF delL ⟨[.ref q 0 2 0 L,.fn (.func g) [] caps,.int .i64 (i:Nat),v3,.int .i64 (j:Nat),v5,v6,v7,.nils],⟨(q,.row 0 rs)::E,nx,ty⟩,[]⟩ Q:=by
 intro m
 induction m with
 | zero =>
  intro i j nx rs v3 v5 v6 v7 h1 h2 h3 h4 h5 h6 h7
  obtain rfl:j=L:=by omega
  rw [List.take_of_length_le (by omega)] at h5
  refine W.loop ?_
  try refine w0_ ?_
  refine hk _ _ _ _ i _ rs ?_ h3 h2 h5;exact om_
 | succ m ih =>
  intro i j nx rs v3 v5 v6 v7 h1 h2 h3 h4 h5 h6 h7
  have hu:=hE
  have hut:=hT
  have hlt:(j:Int)<(L:Int):=by omega
  obtain ⟨x,hx⟩:∃ x,l[j]? = some x:=⟨_,gE_ om_⟩
  obtain ⟨c,q0,r1⟩:=h6.at (i:=0) (x:=x) (by rw [List.getElem?_drop];exact hx)
  have q1:rs[j]? = some c:=by rw [List.getElem?_drop] at q0;exact q0
  have H:=HC x (List.mem_of_getElem? hx) c r1
  obtain ⟨A,rfl,pA⟩:=hS x c r1
  have m1:=zAk q1
  have hil:(i:Int)<(L:Int):=by omega
  have hdl:l.drop j=x::l.drop (j+1):=by
   have hjl:j<l.length:=(gs_ hx).1
   rw [List.drop_eq_getElem_cons hjl]
   congr 1
   exact (gs_ hx).2
  have hdr:∀ y k,k<=j->(rs.set k y).drop (j+1)=rs.drop (j+1):=fun y k hk=>List.drop_set_of_lt om_
  have h6':All2 R (l.drop (j+1)) (rs.drop (j+1)):=by
   have:=h6.drop 1
   rw [List.drop_drop,List.drop_drop] at this
   exact this
  have htk:l.take (j+1)=l.take j++[x]:=by
   rw [List.take_add_one,hx];rfl
  obtain ⟨ki,Ai,q3,pAi⟩:∃ k A,rs[i]? = some (.agg [.int .i64 k,A])/\PV1 A:=by
   obtain ⟨k,A,e,pA⟩:=h4 (rs[i]'om_) (List.getElem_mem _)
   exact ⟨k,A,by rw [gE_ (by omega),e],pA⟩
  have m3:=zAk q3
  have hD:∀ x m,nx<=m->zA5 ((q,CObj.row 0 x)::E) m=(q,CObj.row 0 x)::E:=fun x m hm=>zAa (Under.cons om_ (hE.le om_))
  have lqn:q<nx:=h7
  have hEn:∀ b,n0<=b->zA1 E b=none:=fun b hb=>zAc hE hb
  refine pq_ pA fun pF=>?_
  refine W.loop ?_
  cases he:p x with
  | true =>
   rw [he] at H
   have hZ:=j7_ hD hEn hlt q1 m1 h3 pF
   repeat (first
    | refine vk_ ?_
    | (refine H _ _ ft_ (by intro b hb;dsimp only;repeat rw [zA6 (by omega)]) fun n1 g1=>⟨rfl,?_⟩;(try dsimp only at g1)))
   have ih1:=fun nx v3 v5 v6 v7=>ih i (j+1) nx rs v3 v5 v6 v7 (by omega) (by omega) h3 h4 (by rw [htk,List.filter_append];simpa [he] using h5) h6'
   push_cast at ih1
   refine dk_ ?_
   refine ih1 _ _ _ _ _ ?_;exact om_
  | false =>
   rw [he] at H
   have hs2:∀ x,zBw rs i x=rs.set i x:=fun x=>zEg _ _ _
   have hZ:=j11_ hD hEn hlt q1 m1 h3 pF hil q3 m3 hs2
   repeat (first
    | refine vk_ ?_
    | (refine H _ _ ft_ (by intro b hb;dsimp only;repeat rw [zA6 (by omega)]) fun n1 g1=>⟨rfl,?_⟩;(try dsimp only at g1)))
   have ih1:=fun nx v3 v5 v6 v7=>ih (i+1) (j+1) nx (rs.set i (.agg [.int .i64 (x.1:Nat),A])) v3 v5 v6 v7 (by omega) (by omega) (by rw [List.length_set];exact h3) (fun c hc=>by
    rcases List.mem_or_eq_of_mem_set hc with h | rfl
    . exact h4 c h
    . exact ⟨_,_,rfl,pA⟩) (by
    rw [htk,List.filter_append,List.take_add_one,List.take_set_of_le (Nat.le_refl _)]
    have e1:(rs.set i (CVal.agg [.int .i64 (x.1:Nat),A]))[i]? = some (.agg [.int .i64 (x.1:Nat),A]):=by
     rw [List.getElem?_set_self (by omega)]
    rw [e1]
    refine h5.app ?_
    simp only [List.filter_cons,he,Bool.not_false,if_true,List.filter_nil,Option.toList_some]
    exact .cons r1 .nil) (by rw [hdr _ _ h2];exact h6')
   push_cast at ih1
   refine dk_ ?_
   refine ih1 _ _ _ _ _ ?_;exact om_
def woP (Ls:List RW) (fr:RW) (k:Nat):Bool:=match fRW Ls k with
 | some g=>decide (0<fr.oo) && (decide (g.oo=fr.oo) && !decide (g.num=fr.num))
 | none=>false
theorem zad {Ls:List RW} (hl:Ls.length<=100) (hd:(Ls.map RW.num).Nodup) {n:B8} {O:CVal} (HO:PV1 O) {fr:RW} {k:Nat} {A:CVal} (pA:PV1 A) {bp bf:Nat} {h:CHeap} (hf:Fit h) (gp:zA1 h.ents bp=some (.cells [.str n,lV8 Ls,O])) (gf:zA1 h.ents bf=some (.cells fr.pf.cells)) {K:KT} (hk:∀ n',h.next<=n'->K (.bool (woP Ls fr k)) ⟨h.ents,n',h.tys⟩):Wc TF 85 (.agg [.int .i64 (k:Nat),A]::[.ptr bp 49283075 0,.ptr bf 63963144 0]) h K:=by
 obtain ⟨hu,hut,hX⟩:=fx4 hf
 have lp:=zA3 hu gp
 have lf:=zA3 hu gf
 have F1:=zOr hl hd k (n:=n) HO
 have pL:=lV8P Ls
 unfold woP at hk
 unfold RW.pf at gf
 simp only [CVal.cells] at gf
 refine pq_ pA fun pF=>?_
 refine pq_ HO fun pO=>?_
 refine pq_ pL fun pV=>?_
 cases e:fRW Ls k with
 | none =>
  rw [e] at F1 hk
  simp only [FldR,zPF] at F1
  dsimp only at hk
  refine mk_ 85 c85 (s_ ?_)
  have hZ:=j6_ hX gp gf pF pO pV
  repeat (first
   | refine vk_ ?_
   | (refine pe_ (F1) fun n1 hn1=>⟨rfl,?_⟩))
  refine rk_ ?_
  refine hk _ ?_;exact om_
 | some g =>
  rw [e] at F1 hk
  simp only [FldR,RW.pf] at F1
  dsimp only at hk
  by_cases h1:0<fr.oo
  . have i1:(0:Int)<(fr.oo:Int):=by omega
    by_cases h2:g.oo=fr.oo
    . have i2:((g.oo:Int) == (fr.oo:Int))=true:=by simp [h2]
      by_cases h3:g.num=fr.num
      . have i3:((g.num:Int) != (fr.num:Int))=false:=by simp [h3]
        simp only [h1,h2,h3,decide_true,Bool.not_true,Bool.and_false] at hk
        refine mk_ 85 c85 (s_ ?_)
        have hZ:=j9_ hX gp gf pF pO pV i1 i2 i3
        repeat (first
         | refine vk_ ?_
         | (refine pe_ (F1) fun n1 hn1=>⟨rfl,?_⟩))
        refine rk_ ?_
        refine hk _ ?_;exact om_
      . have i3:((g.num:Int) != (fr.num:Int))=true:=bne_iff_ne.2 om_
        simp only [h1,h2,h3,decide_true,decide_false,Bool.not_false,Bool.and_true] at hk
        refine mk_ 85 c85 (s_ ?_)
        have hZ:=j9_ hX gp gf pF pO pV i1 i2 i3
        repeat (first
         | refine vk_ ?_
         | (refine pe_ (F1) fun n1 hn1=>⟨rfl,?_⟩))
        refine rk_ ?_
        refine hk _ ?_;exact om_
    . have i2:((g.oo:Int) == (fr.oo:Int))=false:=bn_ om_
      simp only [h1,h2,decide_true,decide_false,Bool.false_and,Bool.and_false] at hk
      refine mk_ 85 c85 (s_ ?_)
      have hZ:=j8_ hX gp gf pF pO pV i1 i2
      repeat (first
       | refine vk_ ?_
       | (refine pe_ (F1) fun n1 hn1=>⟨rfl,?_⟩))
      refine rk_ ?_
      refine hk _ ?_;exact om_
  . have i1:¬ (0:Int)<(fr.oo:Int):=by omega
    simp only [h1,decide_false,Bool.false_and] at hk
    refine mk_ 85 c85 (s_ ?_)
    have hZ:=j7_ hX gp gf pF pO pV i1
    repeat (first
     | refine vk_ ?_
     | (refine pe_ (F1) fun n1 hn1=>⟨rfl,?_⟩))
    refine rk_ ?_
    refine hk _ ?_;exact om_
theorem zJn {α:Type} {p:α->Bool} {l:List α} {k:Nat} (h:∀ j y,j<k->l[j]? = some y->p y=false):(l.take k).filter (fun x=>!p x)=l.take k:=by
 refine List.filter_eq_self.2 fun x hx=>?_
 obtain ⟨j,hj,e⟩:=List.getElem_of_mem hx
 rw [List.length_take] at hj
 have:=h j x (by omega) (by rw [<- e,List.getElem_take,gE_])
 simp [this]
theorem wo_F {Ls:List RW} (hl:Ls.length<=100) (hd:(Ls.map RW.num).Nodup) {n:B8} {O:CVal} (HO:PV1 O) {fr:RW} {β:Type} {R:Nat × β->CVal->Prop} (hS:ShF R) {Z:Nat} (hz:Z<=1000000) {l:List (Nat × β)} {X:CVal} (hx:LRep Z R 2 l X):PuR 38 [.agg [.str n,lV8 Ls,O],X,fr.pf] (LRep Z R 2 (l.filter fun x=>!woP Ls fr x.1)):=by
 intro h hf K hk
 obtain ⟨hu,hut,hX⟩:=fx4 hf
 obtain ⟨hl2,es,he,hx⟩:=hx
 have l1:=he.len
 have hdA:∀ m,h.next<=m->zB6 h.ents m=h.ents:=fun m hm=>zBa (hu.le hm)
 have pL:=lV8P Ls
 refine pq_ HO fun pO=>?_
 refine pq_ pL fun pV=>?_
 have W1:=fun (k:Nat) (A:CVal) (pA:PV1 A)=>@zad Ls hl hd n O HO fr k A pA
 unfold RW.pf at W1 ⊢
 simp only [CVal.cells] at W1
 rcases hx with ⟨rfl,rfl⟩ | ⟨t,ht,rfl⟩
 . have e0:l=[]:=n0_ l1.symm
   rw [e0,List.filter_nil] at hk
   refine mk_ 38 c38 (s_ ?_)
   have hZ:=j4_ hX hdA pO pV
   repeat (first
    | refine vk_ ?_
    | (refine dk_ ?_;refine W.loop ?_)
    | refine W.loop ?_
    | (refine mk_ 83 c83 (s_ ?_))
    | (refine mk_ 84 c84 (s_ ?_))
    | (refine mk_ 45 c45 (s_ ?_))
    | (refine rk_ ?_;refine ⟨rfl,?_⟩))
   refine rk_ ?_
   refine hk _ _ LRep.nil ?_;exact om_
 cases es with
 | nil =>
  have e0:l=[]:=n0_ l1.symm
  rw [e0,List.filter_nil] at hk
  rcases ht with rfl | rfl
  all_goals
   refine mk_ 38 c38 (s_ ?_)
   have hZ:=j4_ hX hdA pO pV
   repeat (first
    | refine vk_ ?_
    | (refine dk_ ?_;refine W.loop ?_)
    | refine W.loop ?_
    | (refine mk_ 83 c83 (s_ ?_))
    | (refine mk_ 84 c84 (s_ ?_))
    | (refine mk_ 45 c45 (s_ ?_))
    | (refine rk_ ?_;refine ⟨rfl,?_⟩))
   refine rk_ ?_
   refine hk _ _ (LRep.imm .nil (.inr rfl) (by simp)) ?_;exact om_
 | cons e1 e2 =>
  obtain ⟨L,hLL⟩:∃ L,l.length=L:=⟨_,rfl⟩
  have l2:=l1.trans hLL
  have hL6:L<=1000000:=by omega
  have hne2:e2.length+1=L:=by simpa using l2
  have hne:(e2.length:Int)+1=(L:Int):=by omega
  have hsm:e2.length+1<=1073741824:=by omega
  have h1:1<=L:=by omega
  have hBare:∀ x ∈ l,∀ c,R x c->c.bare=c:=fun x hx c hc=>by
   obtain ⟨A,rfl,p⟩:=hS x c hc
   exact zHg p
  have hTwo:∀ c ∈ e1::e2,Two c:=by
   intro c hc
   obtain ⟨j,hj,e⟩:=List.getElem_of_mem hc
   obtain ⟨x,hx⟩:∃ x,l[j]? = some x:=⟨_,gE_ om_⟩
   obtain ⟨d,q1,r1⟩:=he.at hx
   rw [gE_ hj,e] at q1
   cases q1
   obtain ⟨A,rfl,p⟩:=hS x _ r1
   exact ⟨_,_,rfl,p⟩
  have hst:(CVal.imm t 2 (e1::e2)).strip=.imm t 2 (e1::e2):=by rcases ht with rfl | rfl <;> rfl
  simp only [CVal.strip] at hst
  have hB2:=zCn he hBare
  have hb1:e1.bare=e1:=by simpa using (List.cons.inj hB2).1
  have hb2:e2.map CVal.bare=e2:=(List.cons.inj hB2).2
  obtain ⟨k1,A1,rfl,pA1⟩:=hTwo e1 (by simp)
  refine pq_ pA1 fun p1=>?_
  have HC:∀ (bp bf n0:Nat) (E:EE),zA1 E bp=some (.cells [.str n,lV8 Ls,O])->zA1 E bf=some (.cells [.int .i64 fr.num,.str fr.nm,.int .i64 fr.lab,.int .i64 fr.kind,.str fr.ty,.int .i64 (zAi fr.key),.bool fr.pkd,.int .i64 fr.oo])->bp<n0->bf<n0->∀ x ∈ l,∀ c,R x c->∀ (h:CHeap) (K:KT),Fit h->(∀ b,b<n0->zA1 h.ents b=zA1 E b)->(∀ n',h.next<=n'->K (.bool (woP Ls fr x.1)) ⟨h.ents,n',h.tys⟩)->Wc TF 85 (c::[.ptr bp 49283075 0,.ptr bf 63963144 0]) h K:=by
   intro bp bf n0 E gp gf hp hf x _ c hc h K hf' hb hk
   obtain ⟨A,rfl,pA⟩:=hS x c hc
   exact W1 x.1 A pA hf' ((hb _ hp).trans gp) ((hb _ hf).trans gf) hk
  have UE:∀ (E:EE) n0,Under E n0->∀ b,n0<=b->zA1 E b=none:=fun E n0 hE b hb=>zAc hE hb
  refine mk_ 38 c38 (s_ ?_)
  have hZ:=j9_ hX hne hne2 hsm hst hb2 p1 pO pV
  repeat ((fail_if_success (show W TF ixrL _ _));first
   | refine vk_ ?_
   | (refine mk_ 84 c84 (s_ ?_))
   | (refine mk_ 45 c45 (s_ ?_))
   | (refine mk_ 83 c83 (s_ ?_))
   | (refine rk_ ?_;refine ⟨rfl,?_⟩))
  have hE0:∀ (m:Nat),h.next<=m->∀ x y,Under ((h.next+1,CObj.cells x)::(h.next,CObj.cells y)::h.ents) (h.next+2):=fun m hm x y=>Under.cons om_ (Under.cons om_ (hu.le om_))
  have hT0:zA7 h.tys (h.next+2):=hut.le om_
  refine zZn hS hLL hL6 he (n0:=h.next+2) (p:=fun x=>woP Ls fr x.1) (hE0 h.next (Nat.le_refl _) _ _) hT0 (by omega) (HC h.next (h.next+1) (h.next+2) _ (by simp [zA1]) (by simp [zA1]) (by omega) (by omega)) ?_ ?_ L 0 _ _ _ _ (by omega) (fun j y a _=>by omega) (by omega)
  . intro v1 v3 v5 v6 n' k x hx hpx hno hn'
    have hkL:k<L:=by have:=(gs_ hx).1;omega
    have hkm:((k:Int) == -1)=false:=bn_ om_
    have hk2:((k:Int)=-1)=False:=eq_false om_
    have hZ:=j11_ hX hne hne2 hsm hst hb2 p1 pO pV hkm hk2
    repeat ((fail_if_success (show W TF delL _ _));first
     | refine vk_ ?_
     | (refine rk_ ?_;refine ⟨rfl,?_⟩))
    have hck:((k:Int)+1)=((k+1:Nat):Int):=by push_cast;rfl
    rw [hck]
    have hfl0:=zJn hno
    refine zZo hS hLL hL6 (p:=fun x=>woP Ls fr x.1) (hE0 h.next (Nat.le_refl _) _ _) hT0 (by omega) (HC h.next (h.next+1) (h.next+2) _ (by simp [zA1]) (by simp [zA1]) (by omega) (by omega)) ?_ (L - (k+1)) k (k+1) _ _ _ _ _ _ (by omega) (by omega) l2 hTwo ?_ (he.drop _) (by omega)
    . intro w3 w5 w6 w7 i n2 rs hn2 hrl hi hfin
      have hi2:(i:Int).toNat=i:=by omega
      have hi3:(i:Int)<=(L:Int):=by omega
      have hlf:(l.filter fun x=>!woP Ls fr x.1).length<=Z:=Nat.le_trans (List.length_filter_le _ _) hl2
      have htL:(rs.take i).length=i:=by rw [List.length_take];omega
      have hclr:∀ zs,zs.length=L - i->List.take i (setCells rs i zs)=rs.take i:=fun zs hz=>by unfold setCells;exact List.take_left' htL
      have hclL:∀ zs,zs.length=L - i->(setCells rs i zs).length=L:=fun zs hz=>by unfold setCells;rw [List.length_append,List.length_append,htL,List.length_drop];omega
      have hZ:=j8_ hX hdA hi2 hi3 hrl htL hclr hclL
      repeat (first
       | refine vk_ ?_
       | (refine rk_ ?_;refine ⟨rfl,?_⟩))
      refine rk_ ?_
      refine hk _ _ (LRep.imm hfin (.inl rfl) hlf) ?_;exact om_
    . have htk:l.take (k+1)=l.take k++[x]:=by rw [List.take_add_one,hx];rfl
      rw [htk,List.filter_append,hfl0]
      simp only [List.filter_cons,hpx,Bool.not_true,Bool.false_eq_true,if_false,List.filter_nil,List.append_nil]
      exact he.take k
  . intro hno v1 v3 v5 v6 n' hn'
    have hfl:l.filter (fun x=>!woP Ls fr x.1)=l:=by
     have:=zJn hno
     rwa [List.take_of_length_le om_] at this
    rw [hfl] at hk
    have htk:List.take L (CVal.agg [.int .i64 k1,A1]::e2)=.agg [.int .i64 k1,A1]::e2:=List.take_of_length_le (by simp;omega)
    have hZ:=j12_ hX hdA hne hne2 hsm hst hb2 p1 pO pV htk l2
    repeat (first
     | refine vk_ ?_
     | (refine rk_ ?_;refine ⟨rfl,?_⟩))
    refine rk_ ?_
    refine hk _ _ (LRep.imm he (.inl rfl) hl2) ?_;exact om_
def cmpV (s:Bool) (a b:BV):Int:=if ltV s a b then -1 else if ltV s b a then 1 else 0
theorem zNw (s:Bool) {n m:Int} (hn:0<=n) (hn':n<18446744073709551616) (hm:0<=m) (hm':m<18446744073709551616):cmpV s (n,[]) (m,[])=cmpZ (if s then sgn n else n) (if s then sgn m else m):=by
 unfold cmpV cmpZ
 rw [zR9 s hn hn' hm hm',zR9 s hm hm' hn hn']
 cases s <;> simp
theorem zU7:∀ a b:B8,Go.Lib.compareBytes a b=-1\/Go.Lib.compareBytes a b=0\/Go.Lib.compareBytes a b=1
 | [],[]=>by simp [Go.Lib.compareBytes]
 | [],_::_=>by simp [Go.Lib.compareBytes]
 | _::_,[]=>by simp [Go.Lib.compareBytes]
 | x::a,y::b=>by
  unfold Go.Lib.compareBytes
  by_cases h1:x<y
  . simp [h1]
  by_cases h2:y<x
  . simp [h1,h2]
  . simp only [if_neg h1,if_neg h2];exact zU7 a b
theorem zSz (s:Bool) (n:Int) (a b:B8):cmpV s (n,a) (n,b)=Go.Lib.compareBytes a b:=by
 unfold cmpV
 rw [zD6,zD6,zG0,zG0]
 have h1:=zMv a b
 rcases zU7 a b with h | h | h <;> simp [h,h1]
def KK (k:Nat):Prop:=k=14\/k=3\/k=13\/k=6\/k=7\/k=9
def sgK (k:Nat):Bool:=k == 3 || k == 7
def kokK (k:Nat) (b:BV):Prop:=0<=b.1/\b.1<18446744073709551616/\(if k=14 then b.1=0 else b.2=[])
theorem zIm {n:Int} (h0:0<=n) (h1:n<18446744073709551616):IntKind.i64.wrap n=sgn n:=by
 unfold sgn
 simp only [IntKind.wrap,IntKind.bits,IntKind.signed]
 have e:n % 2 ^ 64=n:=Int.emod_eq_of_lt h0 om_
 simp only [e,Bool.true_and,decide_eq_true_eq]
 by_cases g:n<9223372036854775808
 . rw [if_neg (by omega),if_pos g]
 . rw [if_pos (by omega),if_neg g];omega
theorem zYy (a b:Int):Pe 53 [.int .i64 a,.int .i64 b] (.int .i64 (cmpZ a b)):=by
 intro h hf K hk
 obtain ⟨hu,hut,hX⟩:=fx4 hf
 unfold cmpZ at hk
 rcases Int.lt_trichotomy a b with g | g | g
 . rw [if_pos g] at hk
   refine mk_ 53 c53 (s_ ?_)
   have hZ:=j2_ hX g
   repeat (first
    | refine vk_ ?_
    | (refine mk_ 104 c104 (s_ ?_))
    | (refine rk_ ?_;refine ⟨rfl,?_⟩))
   refine rk_ ?_
   refine hk _ ?_;exact om_
 . subst g
   rw [if_neg (Int.lt_irrefl a),if_neg (Int.lt_irrefl a)] at hk
   have g:=Int.lt_irrefl a
   refine mk_ 53 c53 (s_ ?_)
   have hZ:=j2_ hX g
   repeat (first
    | refine vk_ ?_
    | (refine mk_ 104 c104 (s_ ?_))
    | (refine rk_ ?_;refine ⟨rfl,?_⟩))
   refine rk_ ?_
   refine hk _ ?_;exact om_
 . have g2:¬ a<b:=by omega
   rw [if_neg g2,if_pos g] at hk
   refine mk_ 53 c53 (s_ ?_)
   have hZ:=j3_ hX g g2
   repeat (first
    | refine vk_ ?_
    | (refine mk_ 104 c104 (s_ ?_))
    | (refine rk_ ?_;refine ⟨rfl,?_⟩))
   refine rk_ ?_
   refine hk _ ?_;exact om_
theorem zXk (a b:Int):Pe 54 [.int .u64 a,.int .u64 b] (.int .i64 (cmpZ a b)):=by
 intro h hf K hk
 obtain ⟨hu,hut,hX⟩:=fx4 hf
 unfold cmpZ at hk
 rcases Int.lt_trichotomy a b with g | g | g
 . rw [if_pos g] at hk
   refine mk_ 54 c54 (s_ ?_)
   have hZ:=j2_ hX g
   repeat (first
    | refine vk_ ?_
    | (refine mk_ 105 c105 (s_ ?_))
    | (refine rk_ ?_;refine ⟨rfl,?_⟩))
   refine rk_ ?_
   refine hk _ ?_;exact om_
 . subst g
   rw [if_neg (Int.lt_irrefl a),if_neg (Int.lt_irrefl a)] at hk
   have g:=Int.lt_irrefl a
   refine mk_ 54 c54 (s_ ?_)
   have hZ:=j2_ hX g
   repeat (first
    | refine vk_ ?_
    | (refine mk_ 105 c105 (s_ ?_))
    | (refine rk_ ?_;refine ⟨rfl,?_⟩))
   refine rk_ ?_
   refine hk _ ?_;exact om_
 . have g2:¬ a<b:=by omega
   rw [if_neg g2,if_pos g] at hk
   refine mk_ 54 c54 (s_ ?_)
   have hZ:=j3_ hX g g2
   repeat (first
    | refine vk_ ?_
    | (refine mk_ 105 c105 (s_ ?_))
    | (refine rk_ ?_;refine ⟨rfl,?_⟩))
   refine rk_ ?_
   refine hk _ ?_;exact om_
theorem zY1 (a b:B8):Pe 132 [.str a,.str b] (.int .i64 (Go.Lib.compareBytes a b)):=by
 intro h hf K hk
 refine Wc.primM (f:=132) (p:=zH0) (by kernel_rfl) ?_
 exact hk _ (by (try dsimp only);omega)
theorem zOs {k:Nat} (hK:KK k) {a b:BV} (ha:kokK k a) (hb:kokK k b) {F G:CVal} {r s:B8} (pF:PV1 F) (pG:PV1 G):Pe 20 [.int .i64 (k:Nat),(.agg [.int .u64 a.1,.str a.2,F,.str r]),(.agg [.int .u64 b.1,.str b.2,G,.str s])] (.int .i64 (cmpV (sgK k) a b)):=by
 obtain ⟨n,u⟩:=a
 obtain ⟨m,v⟩:=b
 obtain ⟨a1,a2,a3⟩:=ha
 obtain ⟨b1,b2,b3⟩:=hb
 dsimp only at *
 refine pq_ pF fun p1=>?_
 refine pq_ pG fun p2=>?_
 intro h hf K hk
 obtain ⟨hu,hut,hX⟩:=fx4 hf
 have w1:=zIm a1 a2
 have w2:=zIm b1 b2
 rcases hK with rfl | rfl | rfl | rfl | rfl | rfl
 . simp only [if_true] at a3 b3
   subst a3;subst b3
   rw [zSz] at hk
   have C:=zY1 u v
   generalize Go.Lib.compareBytes u v=z at *
   refine mk_ 20 c20 (s_ ?_)
   have hZ:=j3_ hX p1 p2
   repeat (first
    | refine vk_ ?_
    | (refine pe_ (C) fun n1 hn1=>⟨rfl,?_⟩)
    | (refine mk_ 51 c51 (s_ ?_))
    | (refine mk_ 102 c102 (s_ ?_))
    | (refine rk_ ?_;refine ⟨rfl,?_⟩))
   refine rk_ ?_
   refine hk _ ?_;exact om_
 all_goals
  simp only [Nat.reduceEqDiff,if_false] at a3 b3
  subst a3;subst b3
  rw [zNw _ a1 a2 b1 b2] at hk
  have C1:=zYy (sgn n) (sgn m)
  have C2:=zXk n m
  simp only [sgK,Nat.reduceBEq,Bool.or_false,Bool.or_true,Bool.false_or,if_true,if_false,Bool.false_eq_true] at hk
  generalize cmpZ (sgn n) (sgn m)=z at *
  generalize cmpZ n m=y at *
  refine mk_ 20 c20 (s_ ?_)
  have hZ:=j5_ hX p1 p2 w1 w2
  repeat (first
   | refine vk_ ?_
   | (refine dk_ ?_;refine W.loop ?_)
   | refine W.loop ?_
   | ((first | refine pe_ (C1) ?_ | refine pe_ (C2) ?_);intro n1 hn1;refine ⟨rfl,?_⟩;(try dsimp only at hn1))
   | (refine mk_ 52 c52 (s_ ?_))
   | (refine mk_ 103 c103 (s_ ?_))
   | (refine mk_ 133 c133 (s_ ?_))
   | (refine rk_ ?_;refine ⟨rfl,?_⟩))
  refine rk_ ?_
  refine hk _ ?_;exact om_
theorem zV6 {n m:Int} (h0:0<=n) (h1:n<18446744073709551616) (h2:0<=m) (h3:m<18446744073709551616) (h:¬ n=m) (g:¬ sgn n<sgn m):sgn m<sgn n:=by
 unfold sgn at *
 split at g <;> split at g <;> (try split) <;> (try split) <;> omega
theorem zRk {k:Nat} (hK:KK k) {a b:BV} (ha:kokK k a) (hb:kokK k b) {F G:CVal} {r s:B8} (pF:PV1 F) (pG:PV1 G):Pe 56 [.int .i64 (k:Nat),(.agg [.int .u64 a.1,.str a.2,F,.str r]),(.agg [.int .u64 b.1,.str b.2,G,.str s])] (.int .i64 (cmpV (sgK k) a b)):=by
 obtain ⟨n,u⟩:=a
 obtain ⟨m,v⟩:=b
 obtain ⟨a1,a2,a3⟩:=ha
 obtain ⟨b1,b2,b3⟩:=hb
 dsimp only at *
 refine pq_ pF fun p1=>?_
 refine pq_ pG fun p2=>?_
 intro h hf K hk
 obtain ⟨hu,hut,hX⟩:=fx4 hf
 have w1:=zIm a1 a2
 have w2:=zIm b1 b2
 rcases hK with rfl | rfl | rfl | rfl | rfl | rfl
 . simp only [if_true] at a3 b3
   subst a3;subst b3
   rw [cmpV,zD6,zD6] at hk
   cases e1:zCp u v with
   | true =>
    rw [e1] at hk
    simp only [if_true] at hk
    refine mk_ 56 c56 (s_ ?_)
    have hZ:=j4_ hX p1 p2 e1
    repeat (first
     | refine vk_ ?_)
    refine rk_ ?_
    refine hk _ ?_;exact om_
   | false =>
    rw [e1] at hk
    cases e2:zCp v u with
    | true =>
     rw [e2] at hk
     simp only [if_true,if_false,Bool.false_eq_true] at hk
     have e3:(u == v)=false:=bn_ fun e=>by rw [e] at e1 e2;rw [e1] at e2;cases e2
     refine mk_ 56 c56 (s_ ?_)
     have hZ:=j6_ hX p1 p2 e1 e2 e3
     repeat (first
      | refine vk_ ?_)
     refine rk_ ?_
     refine hk _ ?_;exact om_
    | false =>
     rw [e2] at hk
     simp only [if_false,Bool.false_eq_true] at hk
     have e3:(u == v)=true:=by
      have:=(ordV false).tri (0,u) (0,v) (by rw [zD6];exact e1) (by rw [zD6];exact e2)
      cases this;simp
     refine mk_ 56 c56 (s_ ?_)
     have hZ:=j6_ hX p1 p2 e1 e2 e3
     repeat (first
      | refine vk_ ?_)
     refine rk_ ?_
     refine hk _ ?_;exact om_
 all_goals
  simp only [Nat.reduceEqDiff,if_false] at a3 b3
  subst a3;subst b3
  rw [zNw _ a1 a2 b1 b2] at hk
  simp only [sgK,Nat.reduceBEq,Bool.or_false,Bool.or_true,Bool.false_or,if_true,if_false,Bool.false_eq_true] at hk
  unfold cmpZ at hk
  by_cases e0:n=m
  . subst e0
    rw [if_neg (Int.lt_irrefl _),if_neg (Int.lt_irrefl _)] at hk
    refine mk_ 56 c56 (s_ ?_)
    have hZ:=j4_ hX p1 p2 w1
    repeat (first
     | refine vk_ ?_
     | (refine mk_ 110 c110 (s_ ?_))
     | (refine rk_ ?_;refine ⟨rfl,?_⟩))
    refine rk_ ?_
    refine hk _ ?_;exact om_
  . have g0:(n == m)=false:=bn_ e0
    have gs:=zV6 a1 a2 b1 b2 e0
    by_cases g1:sgn n<sgn m <;> by_cases g2:n<m
    all_goals
     have g3:¬ sgn n<sgn m->sgn m<sgn n:=gs
     have g4:¬ n<m->m<n:=fun h=>by omega
     simp only [g1,g2,not_true_eq_false,not_false_eq_true,true_implies,false_implies,forall_const] at g3 g4
     simp only [g1,g2,g3,g4,if_true,if_false] at hk
     refine mk_ 56 c56 (s_ ?_)
     have hZ:=j8_ hX p1 p2 w1 w2 g0 g1 g2
     repeat (first
      | refine vk_ ?_
      | (refine mk_ 110 c110 (s_ ?_))
      | (refine rk_ ?_;refine ⟨rfl,?_⟩))
     refine rk_ ?_
     refine hk _ ?_;exact om_
section
variable {K V M:Type}
theorem zEh (e:M):∀ a b:List (BV × (BV × M)),zB2 e (a++b)=zB2 e a++zB2 e b
 | [],_=>rfl
 | (k,v)::a,b=>by show (k,e)::v::zB2 e (a++b)=_;rw [zEh e a b];rfl
theorem zB0 (e:M):∀ a:List (BV × (BV × M)),(zB2 e a).length=2 * a.length
 | []=>rfl
 | (k,v)::a=>by show (zB2 e a).length+1+1=_;rw [zB0 e a];simp;omega
theorem zC6 {e:M}:∀ {a:List (BV × (BV × M))} {j:Nat} {k:BV} {v:BV × M},a[j]? = some (k,v)->(zB2 e a)[2 * j]? = some (k,e)/\(zB2 e a)[2 * j+1]? = some v
 | (x,y)::a,0,k,v,h=>by cases h;exact ⟨rfl,rfl⟩
 | (x,y)::a,j+1,k,v,h=>zC6 (a:=a) (show a[j]? = some (k,v) from h)
theorem zFw (e:M):∀ (a:List (BV × (BV × M))) (i:Nat),(zB2 e a).take (2 * i)=zB2 e (a.take i)
 | [],i=>by simp [zB2]
 | (k,v)::a,0=>rfl
 | (k,v)::a,i+1=>by
  show ((k,e)::v::zB2 e a).take (2 * i+1+1)=(k,e)::v::zB2 e (a.take i)
  rw [List.take_succ_cons,List.take_succ_cons,zFw e a i]
theorem zEi (e:M):∀ (a:List (BV × (BV × M))) (i:Nat),(zB2 e a).drop (2 * i)=zB2 e (a.drop i)
 | [],i=>by simp [zB2]
 | (k,v)::a,0=>rfl
 | (k,v)::a,i+1=>zEi e a i
theorem zMm {e:M}:∀ {a:List (BV × (BV × M))} {j:Nat} {k:BV} {v w:BV × M},a[j]? = some (k,v)->(zB2 e a).set (2 * j+1) w=zB2 e (a.set j (k,w))
 | (x,y)::a,0,k,v,w,h=>by cases h;rfl
 | (x,y)::a,j+1,k,v,w,h=>by
  show (x,e)::y::(zB2 e a).set (2 * j+1) w=(x,e)::y::zB2 e (a.set j (k,w))
  rw [zMm (a:=a) (show a[j]? = some (k,v) from h)]
def posK (lt:K->K->Bool) (k:K) (l:List (K × V)):Nat:=(l.takeWhile fun p=>lt p.1 k).length
theorem zHz (lt:K->K->Bool) (k:K) (l:List (K × V)):posK lt k l<=l.length:=(List.takeWhile_prefix _).length_le
theorem zFh {lt:K->K->Bool} (O:SL.Ord lt) {k:K}:∀ {l:List (K × V)},SL.Srt lt l->∀ {j:Nat} {x:K × V},l[j]? = some x->(lt x.1 k=true ↔ j<posK lt k l)
 | (a,y)::l,h,j,x,e=>by
  have ih:=fun j x=>zFh O (k:=k) (l:=l) h.2 (j:=j) (x:=x)
  unfold posK at *
  by_cases g:lt a k=true
  . rw [List.takeWhile_cons_of_pos (p:=fun p=>lt p.1 k) (a:=(a,y)) g]
    cases j with
    | zero=>cases e;simp [g]
    | succ j=>rw [ih j x e];simp
  . rw [List.takeWhile_cons_of_neg (p:=fun p=>lt p.1 k) (a:=(a,y)) g]
    have:¬ lt x.1 k=true:=by
     cases j with
     | zero=>cases e;exact g
     | succ j=>exact fun h2=>g (O.trans _ _ _ (h.1 x (List.mem_of_getElem? (show l[j]? = some x from e))) h2)
    simp [this]
theorem zNs {lt:K->K->Bool} {k:K} {v:V}:∀ {l:List (K × V)},(∀ x,l[posK lt k l]? = some x->lt k x.1=true)->SL.put lt k v l=l.take (posK lt k l)++(k,v)::l.drop (posK lt k l)
 | [],_=>rfl
 | (a,y)::l,h=>by
  unfold posK at *
  by_cases g:lt a k=true
  . rw [List.takeWhile_cons_of_pos (p:=fun p=>lt p.1 k) (a:=(a,y)) g] at h ⊢
    have ih:=zNs (lt:=lt) (k:=k) (v:=v) (l:=l) fun x hx=>h x (by unfold posK at hx;simpa using hx)
    unfold posK at ih
    simp only [SL.put,g,if_true,ih,List.length_cons,List.take_succ_cons,List.drop_succ_cons,List.cons_append]
  . rw [List.takeWhile_cons_of_neg (p:=fun p=>lt p.1 k) (a:=(a,y)) g] at h ⊢
    have g2:=h (a,y) rfl
    simp [SL.put,g,g2]
theorem zRm {lt:K->K->Bool} {k:K} {v:V}:∀ {l:List (K × V)} {x:K × V},l[posK lt k l]? = some x->¬ lt k x.1=true->SL.put lt k v l=l.set (posK lt k l) (x.1,v)
 | [],x,e,_=>by cases e
 | (a,y)::l,x,e,h=>by
  unfold posK at *
  by_cases g:lt a k=true
  . rw [List.takeWhile_cons_of_pos (p:=fun p=>lt p.1 k) (a:=(a,y)) g] at e ⊢
    have ih:=zRm (lt:=lt) (k:=k) (v:=v) (l:=l) (x:=x) (by unfold posK;simpa using e) h
    unfold posK at ih
    simp only [SL.put,g,if_true,ih,List.length_cons,List.set_cons_succ]
  . rw [List.takeWhile_cons_of_neg (p:=fun p=>lt p.1 k) (a:=(a,y)) g] at e ⊢
    cases e
    simp [SL.put,g,h]
end
theorem zNa {s:Bool} {a b:BV} (h:ltV s a b=true):cmpV s a b<0:=by unfold cmpV;rw [if_pos h];omega
theorem zOg {s:Bool} {a b:BV} (h:¬ ltV s a b=true):¬ cmpV s a b<0:=by unfold cmpV;rw [if_neg h];split <;> omega
theorem zQq {s:Bool} {a b:BV} (h:¬ ltV s a b=true) (g:¬ ltV s b a=true):(cmpV s a b == 0)=true:=by unfold cmpV;rw [if_neg h,if_neg g];rfl
theorem zRw {s:Bool} {a b:BV} (h:¬ ltV s a b=true) (g:ltV s b a=true):(cmpV s a b == 0)=false:=by unfold cmpV;rw [if_neg h,if_pos g];rfl
theorem zZc {M:Type} {R:M->CVal->B8->Prop} {e:M} {kd:Nat} (hK:KK kd) {qo:List (BV × (BV × M))} (hs:SL.Srt (ltV (sgK kd)) qo) (hko:∀ x ∈ qo,kokK kd x.1) {rs fs:List CVal} {L i:Nat} (hL:2 * qo.length=L) (hL6:L<=1000000) (hE:All2 (RV R) (zB2 e qo) rs) {kb:BV} (hkb:kokK kd kb) {Fb:CVal} {rb:B8} (pFb:PV1 Fb) (hfs:fs[i]? = some (.agg [.int .u64 kb.1,.str kb.2,Fb,.str rb])) (hi6:i<=1000000) {t:Tag} {q va n0:Nat} {E:EE} {ty:NN} (hu:Under E n0) (hut:zA7 ty n0) (hq:n0<=q) {v0 v3 v8:CVal} {Q:QT}
    (hk:∀ (v7:CVal) n',q<n'->Q (.exit 2) ⟨[v0,.int .i64 (i:Nat),.imm t 4 fs,v3,.int .i64 (2 * posK (ltV (sgK kd)) kb qo:Nat),.ref q va 4 0 L,.int .i64 (kd:Nat),v7,v8,.nils],⟨(q,.row va rs)::E,n',ty⟩,[]⟩) :
    ∀ (m j nx:Nat) (v7:CVal),j+m=posK (ltV (sgK kd)) kb qo->q<nx->W TF pinL ⟨[v0,.int .i64 (i:Nat),.imm t 4 fs,v3,.int .i64 (2 * j:Nat),.ref q va 4 0 L,.int .i64 (kd:Nat),v7,v8,.nils],⟨(q,.row va rs)::E,nx,ty⟩,[]⟩ Q:=by
 have O:=ordV (sgK kd)
 have hlen:=hE.len
 rw [zB0] at hlen
 have hlr:rs.length=L:=by omega
 have mb:=zAk hfs
 have hfl:=(gs_ hfs).1
 have hfl2:(i:Int)<(fs.length:Int):=by omega
 refine pq_ pFb fun pb=>?_
 have hEn:∀ b,n0<=b->zA1 E b=none:=fun b hb=>zAc hu hb
 intro m
 induction m with
 | zero =>
  intro j nx v7 h1 h2
  obtain rfl:j=posK (ltV (sgK kd)) kb qo:=by omega
  have hD:∀ x m,nx<=m->zA5 ((q,CObj.row va x)::E) m=(q,CObj.row va x)::E:=fun x m hm=>zAa (Under.cons om_ (hu.le om_))
  have hpl:=zHz (ltV (sgK kd)) kb qo
  by_cases hj:posK (ltV (sgK kd)) kb qo<qo.length
  . obtain ⟨x,hx⟩:∃ x,qo[posK (ltV (sgK kd)) kb qo]? = some x:=⟨_,gE_ hj⟩
    have hnl:¬ ltV (sgK kd) x.1 kb=true:=fun g=>Nat.lt_irrefl _ ((zFh O hs hx).1 g)
    have hc:=zOg hnl
    obtain ⟨c,q1,r1⟩:=hE.at (zC6 (e:=e) (show qo[_]? = some (x.1,x.2) from hx)).1
    obtain ⟨F,r,rfl,_,_,pF,_⟩:=r1
    have m1:=zAk q1
    have C:=zOs hK (hko x (List.mem_of_getElem? hx)) hkb (r:=r) (s:=rb) pF pFb
    dsimp only at m1 C hc q1
    generalize cmpV (sgK kd) x.1 kb=z at *
    refine pq_ pF fun pF=>?_
    generalize posK (ltV (sgK kd)) kb qo=p at *
    obtain ⟨w,hw⟩:∃ w,2 * p=w:=⟨_,rfl⟩
    rw [hw] at hk m1 q1 ⊢
    have hlt:(w:Int)<(L:Int):=by omega
    refine W.loop ?_
    have hZ:=j12_ hEn hD hlt hlr q1 m1 pF pb hfs mb hfl2 hc
    repeat (first
     | refine vk_ ?_
     | (refine pe_ (C) fun n1 hn1=>⟨rfl,?_⟩))
    refine hk _ _ ?_;exact om_
  . have hge:¬ ((2 * posK (ltV (sgK kd)) kb qo:Nat):Int)<(L:Int):=by omega
    generalize 2 * posK (ltV (sgK kd)) kb qo=p at *
    refine W.loop ?_
    have hZ:=j4_ hEn hD hge hlr
    repeat (first
     | refine vk_ ?_)
    refine hk _ _ ?_;exact om_
 | succ m ih =>
  intro j nx v7 h1 h2
  have hD:∀ x m,nx<=m->zA5 ((q,CObj.row va x)::E) m=(q,CObj.row va x)::E:=fun x m hm=>zAa (Under.cons om_ (hu.le om_))
  have hpl:=zHz (ltV (sgK kd)) kb qo
  have hj:j<qo.length:=by omega
  obtain ⟨x,hx⟩:∃ x,qo[j]? = some x:=⟨_,gE_ hj⟩
  have hc:=zNa ((zFh O (k:=kb) hs hx).2 om_)
  obtain ⟨c,q1,r1⟩:=hE.at (zC6 (e:=e) (show qo[_]? = some (x.1,x.2) from hx)).1
  obtain ⟨F,r,rfl,_,_,pF,_⟩:=r1
  have m1:=zAk q1
  have C:=zOs hK (hko x (List.mem_of_getElem? hx)) hkb (r:=r) (s:=rb) pF pFb
  dsimp only at m1 C hc q1
  generalize cmpV (sgK kd) x.1 kb=z at *
  refine pq_ pF fun pF=>?_
  obtain ⟨w,hw⟩:∃ w,2 * j=w:=⟨_,rfl⟩
  have hlt:(w:Int)<(L:Int):=by omega
  have ih1:=fun nx v7=>ih (j+1) nx v7 om_
  have e2:((2 * (j+1):Nat):Int)=(w:Int)+2:=by omega
  rw [e2] at ih1
  rw [hw] at m1 q1 ⊢
  refine W.loop ?_
  have hZ:=j12_ hEn hD hlt hlr q1 m1 pF pb hfs mb hfl2 hc
  repeat (first
   | refine vk_ ?_
   | (refine pe_ (C) fun n1 hn1=>⟨rfl,?_⟩))
  refine dk_ ?_
  refine ih1 _ _ ?_;exact om_
def OutS {M:Type} (R:M->CVal->B8->Prop) (e:M) (n0:Nat) (E:EE) (qo:List (BV × (BV × M))) (out:CVal) (ents:EE) (nx:Nat):Prop :=
 (out=.nils/\qo=[]/\ents=E)\/(out=.imm .full 4 []/\qo=[]/\ents=E)\/∃ q va rs L,out=.ref q va 4 0 L/\2 * qo.length=L/\ents=(q,.row va rs)::E/\n0<=q/\q<nx/\All2 (RV R) (zB2 e qo) rs
theorem zVw {M:Type} {R:M->CVal->B8->Prop} {e:M} {kd:Nat} (hK:KK kd) {qo:List (BV × (BV × M))} (hs:SL.Srt (ltV (sgK kd)) qo) (hko:∀ x ∈ qo,kokK kd x.1) (hL6:2 * qo.length<=900000) {fs:List CVal} {i:Nat} {kb:BV} (hkb:kokK kd kb) {vb:BV × M} {cb:CVal} {c:CVal} (hcb:RV R (kb,e) cb) (hcv:RV R vb c) (hfs:fs[i]? = some cb) (hfs2:fs[i+1]? = some c) (hi6:fs.length<=1000000) {t:Tag} {n0:Nat} {E:EE} {ty:NN} (hu:Under E n0) (hut:zA7 ty n0) {v0 v3 v4 v7 v8 out:CVal} {ents:EE} {nx:Nat} (hn0:n0<=nx) (HO:OutS R e n0 E qo out ents nx) {Q:QT}
    (hk:∀ (v3 v4 v7 v8 out':CVal) (ents':EE) (n':Nat),OutS R e n0 E (SL.put (ltV (sgK kd)) kb vb qo) out' ents' n'->n0<=n'->W TF zIe ⟨[v0,.int .i64 ((i:Int)+2),.imm t 4 fs,v3,v4,out',.int .i64 (kd:Nat),v7,v8,.nils],⟨ents',n',ty⟩,[]⟩ Q):W TF zIe ⟨[v0,.int .i64 (i:Nat),.imm t 4 fs,v3,v4,out,.int .i64 (kd:Nat),v7,v8,.nils],⟨ents,nx,ty⟩,[]⟩ Q:=by
 have O:=ordV (sgK kd)
 have hbx:=hcb.bare
 have hby:=hcv.bare
 obtain ⟨Fb,rb,rfl,_,_,pFb,hR0⟩:=id hcb
 obtain ⟨Fv,rv,rfl,_,_,pFv,_⟩:=id hcv
 dsimp only at *
 have mb:=zAk hfs
 have mv:=zAk hfs2
 have hfl:=(gs_ hfs2).1
 have hfl1:(i:Int)<(fs.length:Int):=by omega
 have hfl2:(i:Int)+1<(fs.length:Int):=by omega
 have hti:((i:Int)+1).toNat=i+1:=by omega
 refine pq_ pFb fun pb=>?_
 refine pq_ pFv fun pv=>?_
 have hEn:∀ b,n0<=b->zA1 E b=none:=fun b hb=>zAc hu hb
 have hDE:∀ m,n0<=m->zA5 E m=E:=fun m hm=>zAa (hu.le hm)
 have hnl:∀ b,n0<=b->zCy ty b=none:=fun b hb=>zBz hut hb
 rcases HO with ⟨rfl,rfl,rfl⟩ | ⟨rfl,rfl,rfl⟩ | ⟨q,va,rs,L,rfl,hLq,rfl,hq,hqn,hE⟩
 . refine W.loop ?_
   have hZ:=j11_ hEn hDE hti hfs hfs2 mb mv hfl1 hfl2 pb pv
   repeat ((fail_if_success (show W TF zIe _ _));first
    | refine vk_ ?_
    | (refine dk_ ?_;refine W.loop ?_)
    | refine W.loop ?_
    | (refine zWx _ _ _ hbx hby ft_ fun n1 g1=>⟨rfl,?_⟩;(try dsimp only at g1)))
   refine dk_ ?_
   refine hk _ _ _ _ _ _ _ (.inr (.inr ⟨_,_,_,_,rfl,rfl,rfl,by omega,by omega,.cons hcb (.cons hcv .nil)⟩)) ?_;exact om_
 . refine W.loop ?_
   have hZ:=j11_ hEn hDE hti hfs hfs2 mb mv hfl1 hfl2 pb pv
   repeat ((fail_if_success (show W TF zIe _ _));first
    | refine vk_ ?_
    | (refine dk_ ?_;refine W.loop ?_)
    | refine W.loop ?_
    | (refine zS8 _ _ _ hbx hby ft_ fun n1 g1=>⟨rfl,?_⟩;(try dsimp only at g1)))
   refine dk_ ?_
   refine hk _ _ _ _ _ _ _ (.inr (.inr ⟨_,_,_,_,rfl,rfl,rfl,by omega,by omega,.cons hcb (.cons hcv .nil)⟩)) ?_;exact om_
 . have hD:∀ v x m,nx<=m->zA5 ((q,CObj.row v x)::E) m=(q,CObj.row v x)::E:=fun v x m hm=>zAa (Under.cons om_ (hu.le om_))
   have hlen:=hE.len
   rw [zB0] at hlen
   have hlr:rs.length=L:=by omega
   have hpl:=zHz (ltV (sgK kd)) kb qo
   have P0:=@zNs _ _ (ltV (sgK kd)) kb vb qo
   have P1:=@zRm _ _ (ltV (sgK kd)) kb vb qo
   have hnl2:=@zFh _ _ (ltV (sgK kd)) O kb qo hs
   have PG:=@zZc M R e kd hK qo hs hko rs fs L i hLq om_ hE kb hkb Fb rb pFb hfs om_ t q va n0 E ty hu hut hq
   refine W.loop ?_
   have hZ:=j13_ hEn hDE hti hfs hfs2 mb mv hfl1 hfl2 pb pv hD hlr
   repeat ((fail_if_success (show W TF pinL _ _));refine vk_ ?_)
   refine PG ?_ (posK (ltV (sgK kd)) kb qo) 0 _ _ om_ om_
   intro w7 n1 hn1
   generalize posK (ltV (sgK kd)) kb qo=p at *
   obtain ⟨w,hw⟩:∃ w,2 * p=w:=⟨_,rfl⟩
   by_cases hp:p<qo.length
   . obtain ⟨x,hx⟩:∃ x,qo[p]? = some x:=⟨_,gE_ hp⟩
     have hnlt:¬ ltV (sgK kd) x.1 kb=true:=fun g=>Nat.lt_irrefl _ ((hnl2 hx).1 g)
     obtain ⟨ck,q1,r1⟩:=hE.at (zC6 (e:=e) (show qo[_]? = some (x.1,x.2) from hx)).1
     obtain ⟨cv,q2,r2⟩:=hE.at (zC6 (e:=e) (show qo[_]? = some (x.1,x.2) from hx)).2
     obtain ⟨F,r,rfl,_,_,pF,_⟩:=r1
     obtain ⟨F2,r2',rfl,_,_,pF2,_⟩:=r2
     have m1:=zAk q1
     have m2:=zAk q2
     have C:=zOs hK (hko x (List.mem_of_getElem? hx)) hkb (r:=r) (s:=rb) pF pFb
     rw [hw] at m1 m2 q1 q2 ⊢
     dsimp only at m1 m2 C q1 q2
     refine pq_ pF fun pF=>?_
     refine pq_ pF2 fun pF2=>?_
     have hwl:(w:Int)<(L:Int):=by omega
     have hwl1:(w:Int)+1<(L:Int):=by omega
     have htw:((w:Int)+1).toNat=w+1:=by omega
     by_cases hg:ltV (sgK kd) kb x.1=true
     . have hc:=zRw hnlt hg
       have hc2:(cmpV (sgK kd) x.1 kb=0)=False:=by simpa using hc
       rw [P0 fun y hy=>by rw [hx] at hy;cases hy;exact hg] at hk
       have hwle:(w:Int)<=(L:Int):=by omega
       generalize cmpV (sgK kd) x.1 kb=z at *
       have hZ:=j20_ hEn hDE hti hfs hfs2 mb mv hfl1 hfl2 pb pv hD hlr q1 m1 pF hwl hc hc2 hwle
       repeat ((fail_if_success (show W TF zIe _ _));first
        | refine vk_ ?_
        | (refine dk_ ?_;refine W.loop ?_)
        | refine W.loop ?_
        | (refine pe_ (C) fun n1 hn1=>⟨rfl,?_⟩)
        | (refine zQp w hlr (by omega) (by omega) _ _ _ hbx hby ft_ (by simp (disch:=omega) [zA1]) (by dsimp only;exact hnl _ (by omega)) fun n1 g1=>⟨rfl,?_⟩;simp (disch:=omega) only [zA2,zCg,beq_self_eq_true,reduceIte];(try dsimp only at g1)))
       refine dk_ ?_
       refine hk _ _ _ _ _ _ _ (.inr (.inr ⟨_,_,_,_,rfl,?_,rfl,hq,by omega,?_⟩)) ?_
       . rw [List.length_append,List.length_cons,List.length_take,List.length_drop];omega
       . rw [zEh]
         have h1:=hE.take (2 * p)
         have h2:=hE.drop (2 * p)
         rw [zFw,hw] at h1
         rw [zEi,hw] at h2
         exact h1.app (.cons hcb (.cons hcv h2))
       . exact om_
     . have hc:=zQq hnlt hg
       have hc2:(cmpV (sgK kd) x.1 kb=0)=True:=by simpa using hc
       rw [P1 hx hg] at hk
       have hlw:w+1<L:=by omega
       have hsn:∀ y,zBw rs (w+1) y=rs.set (w+1) y:=fun y=>zEg _ _ _
       generalize cmpV (sgK kd) x.1 kb=z at *
       have hZ:=j26_ hEn hDE hti hfs hfs2 mb mv hfl1 hfl2 pb pv hD hlr q1 m1 q2 m2 pF pF2 hwl hwl1 htw hc hc2 hlw hsn
       repeat ((fail_if_success (show W TF zIe _ _));first
        | refine vk_ ?_
        | (refine dk_ ?_;refine W.loop ?_)
        | refine W.loop ?_
        | (refine pe_ (C) fun n1 hn1=>⟨rfl,?_⟩))
       refine dk_ ?_
       refine hk _ _ _ _ _ _ _ (.inr (.inr ⟨_,_,_,_,rfl,by rw [List.length_set];exact hLq,rfl,hq,by omega,?_⟩)) ?_
       . have:=hE.set (2 * p+1) hcv
         rw [zMm (show qo[p]? = some (x.1,x.2) from hx),hw] at this
         exact this
       . exact om_
   . have hnw:¬ (w:Int)<(L:Int):=by omega
     have hwle:(w:Int)<=(L:Int):=by omega
     rw [P0 fun y hy=>by have:=(gs_ hy).1;omega] at hk
     rw [hw]
     have hZ:=j15_ hEn hDE hti hfs hfs2 mb mv hfl1 hfl2 pb pv hD hlr hnw hwle
     repeat ((fail_if_success (show W TF zIe _ _));first
      | refine vk_ ?_
      | (refine dk_ ?_;refine W.loop ?_)
      | refine W.loop ?_
      | (refine zQp w hlr (by omega) (by omega) _ _ _ hbx hby ft_ (by simp (disch:=omega) [zA1]) (by dsimp only;exact hnl _ (by omega)) fun n1 g1=>⟨rfl,?_⟩;simp (disch:=omega) only [zA2,zCg,beq_self_eq_true,reduceIte];(try dsimp only at g1)))
     refine dk_ ?_
     refine hk _ _ _ _ _ _ _ (.inr (.inr ⟨_,_,_,_,rfl,?_,rfl,hq,by omega,?_⟩)) ?_
     . rw [List.length_append,List.length_cons,List.length_take,List.length_drop];omega
     . rw [zEh]
       have h1:=hE.take (2 * p)
       have h2:=hE.drop (2 * p)
       rw [zFw,hw] at h1
       rw [zEi,hw] at h2
       exact h1.app (.cons hcb (.cons hcv h2))
     . exact om_
end Go.Proofs.YtafeofghkhhhkaaGreat.IrM
