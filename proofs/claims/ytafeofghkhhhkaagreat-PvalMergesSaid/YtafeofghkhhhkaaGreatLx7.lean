/- What the functions of the law 'PvalMerges' do: part 7 of 9. -/
import Derived.Test.YtafeofghkhhhkaaGreatLx6
namespace Go.Proofs.YtafeofghkhhhkaaGreat.IrM
open Go Go.CI
set_option maxRecDepth 100000
set_option maxHeartbeats 4000000
set_option linter.unusedVariables false
set_option linter.unusedSimpArgs false
attribute [local irreducible] W Wo Wc WoR
theorem zLi {K V:Type} {lt:K->K->Bool} {k:K} {v:V}:∀ {l:List (K × V)},(SL.put lt k v l).length<=l.length+1
 | []=>by simp [SL.put]
 | (a,x)::l=>by
  have:=zLi (lt:=lt) (k:=k) (v:=v) (l:=l)
  unfold SL.put
  split
  . simp;omega
  split <;> simp
theorem zQv {K V:Type} {lt:K->K->Bool} {op:K->Option V->V->V}:∀ {b a:List (K × V)},(SL.mrg lt op a b).length<=a.length+b.length
 | [],a=>by simp [SL.mrg]
 | p::b,a=>by
  have h1:=zQv (lt:=lt) (op:=op) (b:=b) (a:=SL.put lt p.1 (op p.1 (SL.get lt p.1 a) p.2) a)
  have h2:=zLi (lt:=lt) (k:=p.1) (v:=op p.1 (SL.get lt p.1 a) p.2) (l:=a)
  have h3:SL.mrg lt op a (p::b)=SL.mrg lt op (SL.put lt p.1 (op p.1 (SL.get lt p.1 a) p.2) a) b:=rfl
  rw [h3,List.length_cons];omega
abbrev mrgP {M:Type} (kd:Nat) (a b:List (BV × (BV × M))):List (BV × (BV × M)):=SL.mrg (ltV (sgK kd)) (fun _ _ z=>z) a b
theorem zNc {M:Type} {R:M->CVal->B8->Prop} {e:M} {kd:Nat} (hK:KK kd) {qb:List (BV × (BV × M))} {fs:List CVal} (hfs:All2 (RV R) (zB2 e qb) fs) (hi6:2 * qb.length<=400000) (hkb:∀ x ∈ qb,kokK kd x.1) {t:Tag} {n0:Nat} {E:EE} {ty:NN} (hu:Under E n0) (hut:zA7 ty n0) {v0:CVal} {Q:QT} {fin:List (BV × (BV × M))}
    (hk:∀ (v3 v4 v7 v8 out:CVal) (ents:EE) (nx:Nat),OutS R e n0 E fin out ents nx->n0<=nx->Q (.exit 0) ⟨[v0,.int .i64 (2 * qb.length:Nat),.imm t 4 fs,v3,v4,out,.int .i64 (kd:Nat),v7,v8,.nils],⟨ents,nx,ty⟩,[]⟩) :
    ∀ (rest:List (BV × (BV × M))) (j:Nat) (qo:List (BV × (BV × M))),qb.drop j=rest->mrgP kd qo rest=fin->SL.Srt (ltV (sgK kd)) qo->(∀ x ∈ qo,kokK kd x.1)->2 * (qo.length+rest.length)<=900000->j+rest.length=qb.length->∀ (v3 v4 v7 v8 out:CVal) (ents:EE) (nx:Nat),n0<=nx->OutS R e n0 E qo out ents nx->W TF zIe ⟨[v0,.int .i64 (2 * j:Nat),.imm t 4 fs,v3,v4,out,.int .i64 (kd:Nat),v7,v8,.nils],⟨ents,nx,ty⟩,[]⟩ Q:=by
 have hlen:=hfs.len
 rw [zB0] at hlen
 intro rest
 induction rest with
 | nil =>
  intro j qo h1 h2 h3 h4 h5 h6 v3 v4 v7 v8 out ents nx h7 h8
  obtain rfl:qo=fin:=h2
  obtain rfl:j=qb.length:=by simpa using h6
  refine W.loop ?_
  have hge:¬ ((2 * qb.length:Nat):Int)+1<(fs.length:Int):=by omega
  generalize 2 * qb.length=w at *
  have hw:(w:Int)+1<1000000:=by omega
  have hZ:=j2_ hge hw
  try refine wk_ ?_
  refine hk _ _ _ _ _ _ _ ?_ ?_
  . rcases h8 with h | h | ⟨q,va,rs,L,a1,a2,a3,a4,a5,a6⟩
    . exact .inl h
    . exact .inr (.inl h)
    . exact .inr (.inr ⟨q,va,rs,L,a1,a2,a3,a4,by omega,a6⟩)
  . omega
 | cons p rest ih =>
  intro j qo h1 h2 h3 h4 h5 h6 v3 v4 v7 v8 out ents nx h7 h8
  obtain ⟨kb,vb⟩:=p
  have hj:qb[j]? = some (kb,vb):=by
   have:(qb.drop j)[0]? = some (kb,vb):=by rw [h1];rfl
   rw [List.getElem?_drop] at this;exact this
  have hd:qb.drop (j+1)=rest:=by
   have:=congrArg (List.drop 1) h1
   rw [List.drop_drop] at this;exact this
  obtain ⟨cb,q1,r1⟩:=hfs.at (zC6 (e:=e) hj).1
  obtain ⟨cv,q2,r2⟩:=hfs.at (zC6 (e:=e) hj).2
  rw [List.length_cons] at h5 h6
  refine zVw hK h3 h4 om_ (hkb _ (List.mem_of_getElem? hj)) r1 r2 q1 q2 om_ hu hut h7 h8 fun v3 v4 v7 v8 out' ents' n' h9 h10=>?_
  have e2:((2 * j:Nat):Int)+2=((2 * (j+1):Nat):Int):=by omega
  rw [e2]
  have pl:=zLi (lt:=ltV (sgK kd)) (k:=kb) (v:=vb) (l:=qo)
  exact ih (j+1) (SL.put (ltV (sgK kd)) kb vb qo) hd h2 (SL.srt_put (ordV _) h3) (fun x hx=>by
   rcases SL.mem_put hx with e | hx | ⟨y,hy,e⟩
   . rw [e];exact hkb _ (List.mem_of_getElem? hj)
   . exact h4 x hx
   . rw [<- e];exact h4 y hy) (by omega) (by omega) v3 v4 v7 v8 out' ents' n' h10 h9
theorem zUv {M:Type} {R:M->CVal->B8->Prop} {e:M} {kd:Nat} (hK:KK kd) {qa qb:List (BV × (BV × M))} (hsa:SL.Srt (ltV (sgK kd)) qa) (hka:∀ x ∈ qa,kokK kd x.1) (hkb:∀ x ∈ qb,kokK kd x.1) (hne:qb≠[]) {Za Zb:Nat} (hza:Za<=400000) (hzb:Zb<=400000) {X Y:CVal} (hx:LRep Za (RV R) 4 (zB2 e qa) X) (hy:LRep Zb (RV R) 4 (zB2 e qb) Y):PuR 92 [.int .i64 (kd:Nat),X,Y] (LRep (Za+Zb) (RV R) 4 (zB2 e (mrgP kd qa qb))):=by
 intro h hf K hk
 obtain ⟨hu,hut,hX⟩:=fx4 hf
 have hdA:∀ m,h.next<=m->zB6 h.ents m=h.ents:=fun m hm=>zBa (hu.le hm)
 have pY:=hy.p
 refine pq_ pY fun pY=>?_
 obtain ⟨hla,es,hea,hx⟩:=hx
 obtain ⟨hlb,fs,heb,hy⟩:=hy
 have l1:=hea.len
 have l2:=heb.len
 rw [zB0] at hla hlb l1 l2
 have hfl:(zB2 e (mrgP kd qa qb)).length<=Za+Zb:=by
  rw [zB0]
  have:(mrgP kd qa qb).length<=qa.length+qb.length:=zQv
  omega
 have hB:∀ x ∈ zB2 e qa,∀ c,RV R x c->c.bare=c:=fun x _ c h=>h.bare
 rcases hy with ⟨rfl,rfl⟩ | ⟨t1,ht1,rfl⟩
 . exfalso
   cases qb with
   | nil=>exact hne rfl
   | cons p q=>simp at l2
 rcases hx with ⟨rfl,rfl⟩ | ⟨t,ht,rfl⟩
 . have e1:qa=[]:=n0_ (by rw [List.length_nil] at l1;omega)
   refine mk_ 92 c92 (s_ ?_)
   have hZ:=j3_ hX hdA pY
   repeat ((fail_if_success (show W TF zIe _ _));first
    | refine vk_ ?_
    | (refine mk_ 101 c101 (s_ ?_))
    | (refine rk_ ?_;refine ⟨rfl,?_⟩))
   refine zNc hK heb om_ hkb hu hut (fin:=mrgP kd qa qb) ?_ qb 0 qa rfl rfl hsa hka om_ om_ _ _ _ _ _ _ _ om_ (.inl ⟨rfl,e1,rfl⟩)
   intro v3 v4 v7 v8 out ents nx HO hn
   rcases HO with ⟨rfl,hq0,rfl⟩ | ⟨rfl,hq0,rfl⟩ | ⟨q,va,rs,L,rfl,hLq,rfl,hq,hqn,hE⟩
   . rw [hq0] at hk
     have hZ:=j2_ hX hdA
     repeat (first
      | refine vk_ ?_)
     refine rk_ ?_
     refine hk _ _ LRep.nil ?_;exact om_
   . rw [hq0] at hk
     have hZ:=j2_ hX hdA
     repeat (first
      | refine vk_ ?_)
     refine rk_ ?_
     refine hk _ _ (LRep.imm .nil (.inr rfl) (Nat.zero_le _)) ?_;exact om_
   . have l3:=hE.len
     rw [zB0] at l3
     have l4:rs.length=L:=by omega
     have ht2:List.take L rs=rs:=List.take_of_length_le om_
     have hZ:=j4_ hX hdA l4 ht2
     repeat (first
      | refine vk_ ?_)
     refine rk_ ?_
     refine hk _ _ (LRep.imm hE (.inl rfl) hfl) ?_;exact om_
 cases es with
 | nil =>
  have e1:qa=[]:=n0_ (by rw [List.length_nil] at l1;omega)
  rcases ht with rfl | rfl
  all_goals
   refine mk_ 92 c92 (s_ ?_)
   have hZ:=j3_ hX hdA pY
   repeat ((fail_if_success (show W TF zIe _ _));first
    | refine vk_ ?_
    | (refine mk_ 101 c101 (s_ ?_))
    | (refine rk_ ?_;refine ⟨rfl,?_⟩))
   refine zNc hK heb om_ hkb hu hut (fin:=mrgP kd qa qb) ?_ qb 0 qa rfl rfl hsa hka om_ om_ _ _ _ _ _ _ _ om_ (.inr (.inl ⟨rfl,e1,rfl⟩))
   intro v3 v4 v7 v8 out ents nx HO hn
   rcases HO with ⟨rfl,hq0,rfl⟩ | ⟨rfl,hq0,rfl⟩ | ⟨q,va,rs,L,rfl,hLq,rfl,hq,hqn,hE⟩
   . rw [hq0] at hk
     have hZ:=j2_ hX hdA
     repeat (first
      | refine vk_ ?_)
     refine rk_ ?_
     refine hk _ _ LRep.nil ?_;exact om_
   . rw [hq0] at hk
     have hZ:=j2_ hX hdA
     repeat (first
      | refine vk_ ?_)
     refine rk_ ?_
     refine hk _ _ (LRep.imm .nil (.inr rfl) (Nat.zero_le _)) ?_;exact om_
   . have l3:=hE.len
     rw [zB0] at l3
     have l4:rs.length=L:=by omega
     have ht2:List.take L rs=rs:=List.take_of_length_le om_
     have hZ:=j4_ hX hdA l4 ht2
     repeat (first
      | refine vk_ ?_)
     refine rk_ ?_
     refine hk _ _ (LRep.imm hE (.inl rfl) hfl) ?_;exact om_
 | cons e1 e2 =>
  obtain ⟨L,hLL⟩:∃ L,2 * qa.length=L:=⟨_,rfl⟩
  have hne2:e2.length+1=L:=by rw [<- hLL,<- l1];simp
  have hneI:(e2.length:Int)+1=(L:Int):=by omega
  have hsm:e2.length+1<=1073741824:=by omega
  have h1:1<=L:=by omega
  have hst:(CVal.imm t 4 (e1::e2)).strip=.imm t 4 (e1::e2):=by rcases ht with rfl | rfl <;> rfl
  simp only [CVal.strip] at hst
  have hB2:=zCn hea hB
  have hb2:e2.map CVal.bare=e2:=(List.cons.inj hB2).2
  have hE1:∃ (x:BV × M) (F:CVal) (r:B8),e1=.agg [.int .u64 x.1.1,.str x.1.2,F,.str r]/\PV1 F:=by
   obtain ⟨x,hx⟩:∃ x,(zB2 e qa)[0]? = some x:=⟨_,gE_ (by rw [zB0];omega)⟩
   obtain ⟨c,q1,F,r,r1,_,_,p,_⟩:=hea.at hx
   cases q1
   exact ⟨x,F,r,r1,p⟩
  obtain ⟨x1,F1,r1,rfl,pF1⟩:=hE1
  refine pq_ pF1 fun p1=>?_
  refine mk_ 92 c92 (s_ ?_)
  have hZ:=j9_ hX hdA pY hneI hne2 hsm hst hb2 p1
  repeat ((fail_if_success (show W TF zIe _ _));first
   | refine vk_ ?_
   | (refine mk_ 101 c101 (s_ ?_))
   | (refine rk_ ?_;refine ⟨rfl,?_⟩))
  refine zNc hK heb om_ hkb hu hut (fin:=mrgP kd qa qb) ?_ qb 0 qa rfl rfl hsa hka om_ om_ _ _ _ _ _ _ _ om_ (.inr (.inr ⟨_,_,_,L,rfl,hLL,rfl,by omega,by omega,hea⟩))
  intro v3 v4 v7 v8 out ents nx HO hn
  rcases HO with ⟨rfl,hq0,rfl⟩ | ⟨rfl,hq0,rfl⟩ | ⟨q,va,rs,L,rfl,hLq,rfl,hq,hqn,hE⟩
  . rw [hq0] at hk
    have hZ:=j2_ hX hdA
    repeat (first
     | refine vk_ ?_)
    refine rk_ ?_
    refine hk _ _ LRep.nil ?_;exact om_
  . rw [hq0] at hk
    have hZ:=j2_ hX hdA
    repeat (first
     | refine vk_ ?_)
    refine rk_ ?_
    refine hk _ _ (LRep.imm .nil (.inr rfl) (Nat.zero_le _)) ?_;exact om_
  . have l3:=hE.len
    rw [zB0] at l3
    have l4:rs.length=L:=by omega
    have ht2:List.take L rs=rs:=List.take_of_length_le om_
    have hZ:=j4_ hX hdA l4 ht2
    repeat (first
     | refine vk_ ?_)
    refine rk_ ?_
    refine hk _ _ (LRep.imm hE (.inl rfl) hfl) ?_;exact om_
theorem zIh {r x:RW}:∀ {l:List RW},x ∈ insR r l ↔ x=r\/x ∈ l
 | []=>by simp [insR]
 | y::l=>by
  have:=zIh (r:=r) (x:=x) (l:=l)
  unfold insR
  split
  . simp only [List.mem_cons,this]
    constructor
    . rintro (h | h | h) <;> simp [h]
    . rintro (h | h | h) <;> simp [h]
  . simp
def Rise (l:List RW):Prop:=SL.Srt nltB (l.map fun r=>(r.num,r))
theorem zJh {r:RW}:∀ {l:List RW},Rise l->(∀ x ∈ l,x.num≠r.num)->Rise (insR r l)
 | [],_,_=>⟨fun p hp=>(by cases hp),trivial⟩
 | y::l,h,hn=>by
  have ih:=zJh (r:=r) (l:=l) h.2 fun x hx=>hn x (by simp [hx])
  unfold insR
  split
  . rename_i h1
    refine ⟨fun p hp=>?_,ih⟩
    obtain ⟨x,hx,rfl⟩:=List.mem_map.1 hp
    rcases zIh.1 hx with rfl | hx
    . simp [nltB,h1]
    . exact h.1 _ (List.mem_map_of_mem hx)
  . rename_i h1
    have h2:r.num<y.num:=by have:=hn y (by simp);omega
    refine ⟨fun p hp=>?_,h⟩
    obtain ⟨x,hx,rfl⟩:=List.mem_map.1 hp
    rcases List.mem_cons.1 hx with rfl | hx
    . simp [nltB,h2]
    . have:=h.1 _ (List.mem_map_of_mem hx)
      simp [nltB] at this ⊢;omega
theorem zKz:∀ {l acc:List RW},Rise acc->((acc++l).map RW.num).Nodup->Rise (l.foldl (fun acc r=>insR r acc) acc)/\∀ x,x ∈ l.foldl (fun acc r=>insR r acc) acc ↔ x ∈ acc\/x ∈ l
 | [],acc,h,_=>⟨h,fun x=>by simp⟩
 | r::l,acc,h,hn=>by
  have h1:∀ x ∈ acc,x.num≠r.num:=fun x hx e=>by
   rw [List.map_append,List.nodup_append] at hn
   exact hn.2.2 x.num (List.mem_map_of_mem hx) r.num (by simp) e
  have hp:((insR r acc++l).map RW.num).Nodup:=by
   rw [List.map_append,List.nodup_append] at hn ⊢
   obtain ⟨n1,n2,n3⟩:=hn
   rw [List.map_cons,List.nodup_cons] at n2
   refine ⟨?_,n2.2,fun a ha b hb=>?_⟩
   . have:=(zJh h h1)
     exact nodup_rise this
   . obtain ⟨x,hx,rfl⟩:=List.mem_map.1 ha
     rcases zIh.1 hx with rfl | hx
     . rintro rfl;exact n2.1 hb
     . exact n3 _ (List.mem_map_of_mem hx) b (by simp [hb])
  obtain ⟨a1,a2⟩:=zKz (l:=l) (zJh h h1) hp
  refine ⟨a1,fun x=>?_⟩
  rw [List.foldl_cons,a2,zIh,List.mem_cons]
  constructor
  . rintro ((h | h) | h) <;> simp [h]
  . rintro (h | h | h) <;> simp [h]
where
 nodup_rise:∀ {l:List RW},Rise l->(l.map RW.num).Nodup
 | [],_=>by simp
 | y::l,h=>by
  rw [List.map_cons,List.nodup_cons]
  refine ⟨fun hm=>?_,nodup_rise h.2⟩
  obtain ⟨x,hx,e⟩:=List.mem_map.1 hm
  have:=h.1 _ (List.mem_map_of_mem hx)
  simp [nltB] at this;omega
structure SOk (Ls:List RW):Prop where
 len:Ls.length<=100
 nd:(Ls.map RW.num).Nodup
 rise:Rise Ls
 ok:∀ r ∈ Ls,r.ok/\(r.lab=3->KK (zAi r.key))
theorem zdh:∀ k ∈ K6,KK (zAi k):=by
 intro k hk
 simp only [K6,List.mem_cons,List.not_mem_nil,or_false] at hk
 unfold KK
 rcases hk with rfl | rfl | rfl | rfl | rfl | rfl <;> decide
theorem BD.sok {c:BD} {m:Nat} (h:c.ok m) (hm:m<=7):SOk (zAd c.rs):=by
 have hn:=BD.rs_num h hm
 obtain ⟨s1,s2⟩:=zKz (l:=c.rs) (acc:=[]) trivial hn
 refine ⟨?_,zKz.nodup_rise s1,s1,fun r hr=>?_⟩
 . rw [zBh]
   obtain ⟨i,hi,B⟩:=h.b
   have:=B.l
   simp only [BD.rs,List.length_append,List.length_map]
   omega
 . have hr2:r ∈ c.rs:=by rcases (s2 r).1 hr with h | h;cases h;exact h
   refine ⟨BD.rs_ok h r hr2,fun e=>?_⟩
   obtain ⟨i,hi,B⟩:=h.b
   rcases List.mem_append.1 hr2 with h3 | h3
   . obtain ⟨d,hd,rfl⟩:=List.mem_map.1 h3
     have hok:=(B.f d hd).1
     obtain ⟨sh,t,num⟩:=d
     cases sh with
     | map key=>exact zdh _ hok.2.2.2
     | _=>simp [FD.rw] at e
   . obtain ⟨d,hd,rfl⟩:=List.mem_map.1 h3
     simp [OD.rw] at e
abbrev Nmt:=B8
abbrev tyI:Nmt:=[97,46,73]
abbrev tyM:Nmt:=[97,46,77]
def bdOf (a b:BD) (t:Nmt):Option BD:=if t=tyI then some a else if t=tyM then some b else none
def N16:List Int:=[0,1,2,5,127,128,300,2147483647,2147483648,4294967295,1099511627776,9223372036854775807,9223372036854775808,18446744073709551615,18446744073709551614,9221120237041090561]
def sg32 (x:Int):Int:=if 2147483648<=x % 4294967296 then x % 4294967296+18446744069414584320 else x % 4294967296
def zagF (x:Int):Int:=if x % 2=1 then 18446744073709551615 - x / 2 else x / 2
def zFg (k:Nat) (x:Int):Int:=if k=3\/k=11 then sg32 x else if k=5\/k=9\/k=2 then x % 4294967296 else if k=13 then min x 1 else if k=7 then sg32 (zagF (x % 4294967296)) else if k=8 then zagF x else x
def KN (k:Nat):Prop:=1<=k/\k<=13
def STR5:List (B8):=[[],[97],[195,164],[116,101,120,116],[97,10,98]]
def BYT4:List (B8):=[[],[255],[0,1],[98]]
def ENM4:List Int:=[0,1,18446744073709551615,7]
def VOK (k:Nat) (b:BV):Prop:=(k=14->b.1=0/\b.2 ∈ STR5)/\(k=15->b.1=0/\b.2 ∈ BYT4)/\(k=17->b.2=[]/\b.1 ∈ ENM4)/\(KN k->b.2=[]/\∃ x ∈ N16,b.1=zFg k x)
def vb2 (v:Nat):B8:=if v<128 then [UInt8.ofNat v] else [UInt8.ofNat (v % 128)+128,UInt8.ofNat (v / 128)]
def recB (num w n:Nat):B8:=vb2 (num * 8+w)++(if w=0 then vb2 n else if w=1 then UInt8.ofNat n::List.replicate 7 0 else if w=5 then UInt8.ofNat n::List.replicate 3 0 else [1,114])
def zTt (x:Nat × Nat × Nat):Prop:=(x.1=900\/x.1=901\/x.1=902)/\(x.2.1=0\/x.2.1=1\/x.2.1=2\/x.2.1=5)/\x.2.2<200
def zEn (l:List (Nat × Nat × Nat)):B8:=l.flatMap fun x=>recB x.1 x.2.1 x.2.2
def rokS (r:B8):Prop:=∃ l,(∀ x ∈ l,zTt x)/\r=zEn l
abbrev b0V:BV:=(0,[])
def RW.fld (r:RW):Fld BV Nmt:=⟨if r.lab=2 then 1 else if r.lab=3 then 2 else 0,decide (r.kind=16),r.ty,ltV (sgK (zAi r.key)),fun b=>kokK (zAi r.key) b/\VOK (zAi r.key) b,fun b=>VOK r.kind b/\(r.lab=0->r.oo=0->b≠b0V),r.oo⟩
def fldS (a b:BD) (t:Nmt) (k:Nat):Option (Fld BV Nmt):=match bdOf a b t with
 | some c=>(fRW (zAd c.rs) k).map RW.fld
 | none=>none
theorem zE5 (a b:BD):zRh rokS (fldS a b):=by
 refine ⟨?_,⟨[],fun x hx=>(by cases hx),rfl⟩,?_⟩
 rotate_left
 . rintro x y ⟨l,hl,rfl⟩ ⟨m,hm,rfl⟩
   exact ⟨l++m,fun x hx=>(List.mem_append.1 hx).elim (hl x) (hm x),by simp [zEn]⟩
 intro t k f h
 unfold fldS at h
 split at h
 . obtain ⟨r,_,rfl⟩:=Option.map_eq_some_iff.1 h
   exact ordV _
 . cases h
theorem zOp {r:RW} (hr:r.ok) (h:r.kind=16):r.ty=tyI\/r.ty=tyM:=by
 obtain ⟨h1,h2,_⟩:=zF4 _ hr.t
 unfold RW.kind at h
 by_cases h0:zAi r.t=0
 . rw [if_pos h0] at h
   unfold RW.ty
   rw [if_pos h0]
   rcases h2 h0 with e | e | e
   . rw [e] at h;simp at h
   . rw [e];exact .inl rfl
   . rw [e];exact .inr rfl
 . rw [if_neg h0] at h;omega
abbrev OkMs (a b:BD):=OkM b0V rokS (fldS a b)
abbrev mgM (a b:BD):=zJu b0V (fldS a b)
theorem zSh {fr:RW} (hl:fr.lab=2) {M:Type} {R:M->CVal->B8->Prop} {Za Zb:Nat} (hza:Za<=400000) (hzb:Zb<=400000) {la lb:List (BV × M)} (hne:lb≠[]) {X Y S:CVal} (pS:∃ s1 s2,S=.agg [s1,s2]/\PV1 s1/\PV1 s2) (hx:LRep Za (RV R) 4 la X) (hy:LRep Zb (RV R) 4 lb Y):PuR 40 [S,fr.pf,X,Y] (LRep (Za+Zb) (RV R) 4 (la++lb)):=by
 intro h hf K hk
 obtain ⟨hu,hut,hX⟩:=fx4 hf
 have hdA:∀ m,h.next<=m->zB6 h.ents m=h.ents:=fun m hm=>zBa (hu.le hm)
 obtain ⟨s1,s2,rfl,pS1,pS2⟩:=pS
 refine pq_ pS1 fun q1=>?_
 refine pq_ pS2 fun q2=>?_
 have pX:=hx.p
 have pY:=hy.p
 refine pq_ pX fun pX=>?_
 refine pq_ pY fun pY=>?_
 obtain ⟨hla,es,hea,hx⟩:=hx
 obtain ⟨hlb,fs,heb,hy⟩:=hy
 have l1:=hea.len
 have l2:=heb.len
 have hbx:=zCn hea fun x _ c h=>h.bare
 have hby:=zCn heb fun x _ c h=>h.bare
 have hll:(la++lb).length<=Za+Zb:=by rw [List.length_append];omega
 unfold RW.pf
 rw [hl]
 rcases hy with ⟨rfl,rfl⟩ | ⟨t1,ht1,rfl⟩
 . exact absurd (n0_ l2.symm) hne
 cases fs with
 | nil=>exact absurd (n0_ l2.symm) hne
 | cons f1 f2 =>
 obtain ⟨nb,hnb⟩:∃ nb,(f1::f2).length=nb:=⟨_,rfl⟩
 have hnb2:f2.length+1=nb:=by simpa using hnb
 have hnb1:1<=nb:=by omega
 have hnb3:nb<=400000:=by omega
 have hb2:f2.map CVal.bare=f2:=(List.cons.inj hby).2
 have hF1:∃ (x:BV × M) (F:CVal) (r:B8),f1=.agg [.int .u64 x.1.1,.str x.1.2,F,.str r]/\PV1 F:=by
  obtain ⟨x,hx⟩:∃ x,lb[0]? = some x:=⟨_,gE_ (by simp at l2;omega)⟩
  obtain ⟨c,q1,F,r,r1,_,_,p,_⟩:=heb.at hx
  cases q1
  exact ⟨x,F,r,r1,p⟩
 obtain ⟨y1,G1,s1',rfl,pG1⟩:=hF1
 refine pq_ pG1 fun p1=>?_
 have htb:List.take nb (CVal.agg [.int .u64 y1.1.1,.str y1.1.2,G1,.str s1']::f2)=.agg [.int .u64 y1.1.1,.str y1.1.2,G1,.str s1']::f2:=List.take_of_length_le om_
 rcases hx with ⟨rfl,rfl⟩ | ⟨t,ht,rfl⟩
 . have e1:la=[]:=n0_ l1.symm
   subst e1
   rw [List.nil_append] at hk hll
   refine mk_ 40 c40 (s_ ?_)
   have hZ:=j13_ hX hdA q1 q2 pX pY hnb hnb1 hnb2 hnb3 hb2 p1 htb
   repeat (first
    | refine vk_ ?_
    | (refine dk_ ?_;refine W.loop ?_)
    | refine W.loop ?_
    | (refine mk_ 91 c91 (s_ ?_))
    | (refine mk_ 122 c122 (s_ ?_))
    | (refine rk_ ?_;refine ⟨rfl,?_⟩))
   refine rk_ ?_
   refine hk _ _ (LRep.imm heb (.inl rfl) hll) ?_;exact om_
 cases es with
 | nil =>
  have e1:la=[]:=n0_ l1.symm
  subst e1
  rw [List.nil_append] at hk hll
  rcases ht with rfl | rfl
  all_goals
   refine mk_ 40 c40 (s_ ?_)
   have hZ:=j13_ hX hdA q1 q2 pX pY hnb hnb1 hnb2 hnb3 hb2 p1 htb
   repeat (first
    | refine vk_ ?_
    | (refine dk_ ?_;refine W.loop ?_)
    | refine W.loop ?_
    | (refine mk_ 91 c91 (s_ ?_))
    | (refine mk_ 122 c122 (s_ ?_))
    | (refine rk_ ?_;refine ⟨rfl,?_⟩))
   refine rk_ ?_
   refine hk _ _ (LRep.imm heb (.inl rfl) hll) ?_;exact om_
 | cons e1 e2 =>
 obtain ⟨na,hna⟩:∃ na,(e1::e2).length=na:=⟨_,rfl⟩
 have hna2:e2.length+1=na:=by simpa using hna
 have hna1:1<=na:=by omega
 have hna3:na<=400000:=by omega
 have ha2:e2.map CVal.bare=e2:=(List.cons.inj hbx).2
 have hE1:∃ (x:BV × M) (F:CVal) (r:B8),e1=.agg [.int .u64 x.1.1,.str x.1.2,F,.str r]/\PV1 F:=by
  obtain ⟨x,hx⟩:∃ x,la[0]? = some x:=⟨_,gE_ (by simp at l1;omega)⟩
  obtain ⟨c,q1,F,r,r1,_,_,p,_⟩:=hea.at hx
  cases q1
  exact ⟨x,F,r,r1,p⟩
 obtain ⟨x1,F1,r1',rfl,pF1⟩:=hE1
 refine pq_ pF1 fun p2=>?_
 have hab:=hea.app heb
 obtain ⟨a1,ha1⟩:∃ a1,a1=CVal.agg [.int .u64 x1.1.1,.str x1.1.2,F1,.str r1']:=⟨_,rfl⟩
 have htn:((na:Int)+(nb:Int)).toNat - na=nb:=by omega
 have hT:∀ z:CVal,List.take na (CVal.agg [.int .u64 x1.1.1,.str x1.1.2,F1,.str r1']::(e2++List.replicate nb z))=.agg [.int .u64 x1.1.1,.str x1.1.2,F1,.str r1']::e2:=fun z=>by
  rw [<- List.cons_append];exact List.take_left' hna
 have hDr:∀ z:CVal,List.drop (na+nb) (CVal.agg [.int .u64 x1.1.1,.str x1.1.2,F1,.str r1']::(e2++List.replicate nb z))=[]:=fun z=>by
  rw [<- List.cons_append];exact List.drop_of_length_le (by rw [List.length_append,List.length_replicate];omega)
 have hTT:List.take (na+nb) (CVal.agg [.int .u64 x1.1.1,.str x1.1.2,F1,.str r1']::(e2++CVal.agg [.int .u64 y1.1.1,.str y1.1.2,G1,.str s1']::f2))=.agg [.int .u64 x1.1.1,.str x1.1.2,F1,.str r1']::(e2++CVal.agg [.int .u64 y1.1.1,.str y1.1.2,G1,.str s1']::f2):=List.take_of_length_le (by rw [<- List.cons_append,List.length_append];omega)
 refine mk_ 40 c40 (s_ ?_)
 have hZ:=j22_ hX hdA q1 q2 pX pY hnb hnb1 hnb2 hnb3 hb2 p1 hna hna1 hna2 hna3 ha2 p2 htn hT hDr hTT
 repeat (first
  | refine vk_ ?_
  | (refine dk_ ?_;refine W.loop ?_)
  | refine W.loop ?_
  | (refine mk_ 91 c91 (s_ ?_))
  | (refine mk_ 122 c122 (s_ ?_))
  | (refine rk_ ?_;refine ⟨rfl,?_⟩))
 refine rk_ ?_
 refine hk _ _ (LRep.imm hab (.inl rfl) hll) ?_;exact om_
def LF (v:CVal):Prop:=v=.nils\/(∃ es,v=.imm .none 4 es)\/∃ es,v=.imm .full 4 es
theorem LF.p {v:CVal} (h:LF v):PV1 v:=by
 rcases h with rfl | ⟨es,rfl⟩ | ⟨es,rfl⟩ <;> exact ⟨rfl,rfl,rfl,rfl,rfl⟩
theorem LRep.lf {α:Type} {Z:Nat} {R:α->CVal->Prop} {l:List α} {v:CVal} (h:LRep Z R 4 l v):LF v:=by
 obtain ⟨_,es,_,⟨rfl,_⟩ | ⟨t,rfl | rfl,rfl⟩⟩:=h
 . exact .inl rfl
 . exact .inr (.inl ⟨_,rfl⟩)
 . exact .inr (.inr ⟨_,rfl⟩)
theorem zSw {fr:RW} (hl:fr.lab=3) {S:CVal} (pS:∃ s1 s2,S=.agg [s1,s2]/\PV1 s1/\PV1 s2) {X Y:CVal} (pX:PV1 X) (pY:PV1 Y) {R:CVal->Prop} (hR:∀ v,R v->LF v) (H:PuR 92 [.int .i64 (zAi fr.key:Nat),X,Y] R):PuR 40 [S,fr.pf,X,Y] R:=by
 intro h hf K hk
 obtain ⟨hu,hut,hX⟩:=fx4 hf
 have hdA:∀ m,h.next<=m->zB6 h.ents m=h.ents:=fun m hm=>zBa (hu.le hm)
 obtain ⟨s1,s2,rfl,pS1,pS2⟩:=pS
 refine pq_ pS1 fun q1=>?_
 refine pq_ pS2 fun q2=>?_
 refine pq_ pX fun pX=>?_
 refine pq_ pY fun pY=>?_
 unfold RW.pf
 rw [hl]
 refine mk_ 40 c40 (s_ ?_)
 have hZ:=j6_ hX hdA q1 q2 pX pY
 repeat (first
  | refine vk_ ?_
  | (refine pr_ H fun v1 n1 R1 g1=>?_;skip;refine pq_ (hR _ R1).p fun hP=>?_;have hZ:=And.intro hZ hP;refine ⟨hP.1,?_⟩))
 rcases hR _ R1 with rfl | ⟨es,rfl⟩ | ⟨es,rfl⟩
 all_goals
  refine rk_ ?_
  refine hk _ _ R1 ?_;exact om_
theorem zOa {fr:RW} (hl2:fr.lab≠2) (hl3:fr.lab≠3) {S:CVal} (pS:∃ s1 s2,S=.agg [s1,s2]/\PV1 s1/\PV1 s2) {X Y:CVal} (pX:PV1 X) (fY:LF Y) (hc:fr.kind≠16\/X=.nils):PuR 40 [S,fr.pf,X,Y] (fun v=>v=Y):=by
 intro h hf K hk
 obtain ⟨hu,hut,hX⟩:=fx4 hf
 have hdA:∀ m,h.next<=m->zB6 h.ents m=h.ents:=fun m hm=>zBa (hu.le hm)
 obtain ⟨s1,s2,rfl,pS1,pS2⟩:=pS
 refine pq_ pS1 fun q1=>?_
 refine pq_ pS2 fun q2=>?_
 have pY:=fY.p
 refine pq_ pX fun pX=>?_
 refine pq_ pY fun pY=>?_
 unfold RW.pf
 have e2:((fr.lab:Int) == 2)=false:=bn_ om_
 have e3:((fr.lab:Int) == 3)=false:=bn_ om_
 have e2':((fr.lab:Int)=2)=False:=eq_false om_
 have e3':((fr.lab:Int)=3)=False:=eq_false om_
 by_cases hk16:fr.kind=16
 . rcases hc with hc | rfl
   . exact absurd hk16 hc
   . rw [hk16]
     refine mk_ 40 c40 (s_ ?_)
     have hZ:=j10_ hX hdA q1 q2 pX pY e2 e3 e2' e3'
     repeat (first
      | refine vk_ ?_)
     rcases fY with rfl | ⟨es,rfl⟩ | ⟨es,rfl⟩
     all_goals
      refine rk_ ?_
      refine hk _ _ rfl ?_;exact om_
 . have e4:((fr.kind:Int) == 16)=false:=bn_ om_
   have e4':((fr.kind:Int)=16)=False:=eq_false om_
   refine mk_ 40 c40 (s_ ?_)
   have hZ:=j12_ hX hdA q1 q2 pX pY e2 e3 e4 e2' e3' e4'
   repeat (first
    | refine vk_ ?_)
   rcases fY with rfl | ⟨es,rfl⟩ | ⟨es,rfl⟩
   all_goals
    refine rk_ ?_
    refine hk _ _ rfl ?_;exact om_
theorem zT4 {fr:RW} (hl2:fr.lab≠2) (hl3:fr.lab≠3) (hk16:fr.kind=16) {S:CVal} (pS:∃ s1 s2,S=.agg [s1,s2]/\PV1 s1/\PV1 s2) {t t1:Tag} (ht:zGg t) (ht1:zGg t1) {n1 n2:Int} {x1 x2 r1 r2:B8} {F1 F2:CVal} (pF1:PV1 F1) (pF2:PV1 F2) {R:CVal->B8->Prop} (hR:∀ v r,R v r->PV1 v) (H:PuR 13 [S,.str fr.ty,.agg [F1,.str r1],.agg [F2,.str r2]] fun v=>∃ G u,v=.agg [G,.str u]/\R G u):PuR 40 [S,fr.pf,.imm t 4 [.agg [.int .u64 n1,.str x1,F1,.str r1]],.imm t1 4 [.agg [.int .u64 n2,.str x2,F2,.str r2]]] fun v=>∃ G u,v=.imm .full 4 [.agg [.int .u64 0,.str [],G,.str u]]/\R G u:=by
 intro h hf K hk
 obtain ⟨hu,hut,hX⟩:=fx4 hf
 have hdA:∀ m,h.next<=m->zB6 h.ents m=h.ents:=fun m hm=>zBa (hu.le hm)
 obtain ⟨s1,s2,rfl,pS1,pS2⟩:=pS
 refine pq_ pS1 fun q1=>?_
 refine pq_ pS2 fun q2=>?_
 refine pq_ pF1 fun pX=>?_
 refine pq_ pF2 fun pY=>?_
 unfold RW.pf at *
 have hst:(CVal.imm t 4 [.agg [.int .u64 n1,.str x1,F1,.str r1]]).strip=.imm t 4 [.agg [.int .u64 n1,.str x1,F1,.str r1]]:=by rcases ht with rfl | rfl <;> rfl
 have hst1:(CVal.imm t1 4 [.agg [.int .u64 n2,.str x2,F2,.str r2]]).strip=.imm t1 4 [.agg [.int .u64 n2,.str x2,F2,.str r2]]:=by rcases ht1 with rfl | rfl <;> rfl
 simp only [CVal.strip] at hst hst1
 have e2:((fr.lab:Int) == 2)=false:=bn_ om_
 have e3:((fr.lab:Int) == 3)=false:=bn_ om_
 have e2':((fr.lab:Int)=2)=False:=eq_false om_
 have e3':((fr.lab:Int)=3)=False:=eq_false om_
 rw [hk16]
 refine mk_ 40 c40 (s_ ?_)
 have hZ:=j12_ hX hdA q1 q2 pX pY e2 e3 e2' e3' hst hst1
 repeat (first
  | refine vk_ ?_
  | (refine pr_ H fun v1 n1 R1 g1=>?_;obtain ⟨G,u,rfl,R1⟩:=R1;refine pq_ (hR _ _ R1) fun hP=>?_;have hZ:=And.intro hZ hP;refine ⟨rfl,?_⟩))
 refine rk_ ?_
 refine hk _ _ ⟨_,_,rfl,R1⟩ ?_;exact om_
theorem PuR.mono {f:Nat} {ar:List CVal} {R S:CVal->Prop} (h:PuR f ar R) (hs:∀ v,R v->S v):PuR f ar S:=fun h0 hf K hk=>h h0 hf K fun v n' hv=>hk v n' (hs v hv)
theorem RV1 {M:Type} {R:M->CVal->B8->Prop} {Z:Nat} {v:BV × M} {X:CVal} (h:LRep Z (RV R) 4 [v] X):∃ t F r,zGg t/\X=.imm t 4 [.agg [.int .u64 v.1.1,.str v.1.2,F,.str r]]/\PV1 F/\R v.2 F r:=by
 obtain ⟨_,es,he,⟨rfl,rfl⟩ | ⟨t,ht,rfl⟩⟩:=h
 . have:=he.len;simp at this
 . obtain ⟨c,r,rfl,hc,hr⟩:=he.cons_inv
   obtain rfl:=hr.nil_inv
   obtain ⟨F,r,rfl,_,_,p,q⟩:=hc
   exact ⟨t,F,r,ht,rfl,p,q⟩
theorem schS (a b:BD):∃ s1 s2,schV a b=.agg [s1,s2]/\PV1 s1/\PV1 s2:=⟨_,_,rfl,⟨rfl,rfl,rfl,rfl,rfl⟩,⟨rfl,rfl,rfl,rfl,rfl⟩⟩
def MgC (a b:BD) (n:Nat):Prop:=∀ (t:Nmt),t=tyI\/t=tyM->∀ (Za Zb:Nat),Za<=300000->Zb<=300000->∀ (m1 m2:MVB n) (F G:CVal) (r s:B8),OkMs a b n t m1->OkMs a b n t m2->RM Za n m1 F r->RM Zb n m2 G s->PuR 13 [schV a b,.str t,.agg [F,.str r],.agg [G,.str s]] fun v=>∃ H u,v=.agg [H,.str u]/\RM (Za+Zb) n (mgM a b n t m1 m2) H u
theorem zY5 {a b:BD} {n Za Zb:Nat} (hza:Za<=300000) (hzb:Zb<=300000) {fr:RW} (hfr:fr.ok) (hk3:fr.lab=3->KK (zAi fr.key)) (MC:MgC a b n) {old:Option (List (BV × MVB n))} {l:List (BV × MVB n)} (hold:∀ x,old=some x->OkF b0V (OkMs a b n) fr.fld x) (hl:OkF b0V (OkMs a b n) fr.fld l) {X Y:CVal} (hx:LRep Za (RV (RM Za n)) 4 (old.getD []) X) (hXn:old=none->X=.nils) (hy:LRep Zb (RV (RM Zb n)) 4 l Y):PuR 40 [schV a b,fr.pf,X,Y] (LRep (Za+Zb) (RV (RM (Za+Zb) n)) 4 (opM b0V (mgM a b n) fr.fld old l)):=by
 have hx2:LRep Za (RV (RM (Za+Zb) n)) 4 (old.getD []) X:=hx.mono (Nat.le_refl _) fun _ _=>RV.mono (RM.mono om_ n)
 have hy2:LRep Zb (RV (RM (Za+Zb) n)) 4 l Y:=hy.mono (Nat.le_refl _) fun _ _=>RV.mono (RM.mono om_ n)
 have hy3:LRep (Za+Zb) (RV (RM (Za+Zb) n)) 4 l Y:=hy2.mono om_ fun _ _ h=>h
 unfold opM
 by_cases l2:fr.lab=2
 . have e1:fr.fld.lab=1:=by simp [RW.fld,l2]
   rw [if_pos e1]
   exact zSh l2 om_ om_ hl.1 (schS a b) hx2 hy2
 by_cases l3:fr.lab=3
 . have e1:fr.fld.lab=2:=by simp [RW.fld,l3]
   rw [if_neg (by omega),if_pos e1]
   obtain ⟨qb,hsb,hkb',rfl⟩:=hl.2.1 e1
   have hkb:∀ x ∈ qb,kokK (zAi fr.key) x.1:=fun x hx=>(hkb' x hx).1.1
   have hqa:∃ qa,SL.Srt fr.fld.lt qa/\SL.All (fun k _=>kokK (zAi fr.key) k) qa/\old.getD []=zB2 (mv0 BV n) qa:=by
    cases old with
    | none=>exact ⟨[],trivial,fun p hp=>(by cases hp),rfl⟩
    | some x =>
     obtain ⟨q,h1,h2,h3⟩:=(hold x rfl).2.1 e1
     exact ⟨q,h1,fun p hp=>(h2 p hp).1.1,h3⟩
   obtain ⟨qa,hsa,hka,hqe⟩:=hqa
   rw [hqe] at hx2 ⊢
   rw [zCl,zCl]
   refine zSw l3 (schS a b) hx2.p hy2.p (fun v hv=>hv.lf) ?_
   exact zUv (hk3 l3) hsa hka hkb (zKl hl.1) om_ om_ hx2 hy2
 have e0:fr.fld.lab=0:=by simp [RW.fld,l2,l3]
 rw [if_neg (by omega),if_neg (by omega)]
 by_cases hk:fr.kind=16
 . have e1:fr.fld.msg=true:=by simp [RW.fld,hk]
   rw [if_pos e1]
   obtain ⟨v,rfl,hv⟩:=hl.2.2.1 om_ om_
   cases old with
   | none =>
    exact (zOa l2 l3 (schS a b) hx2.p hy2.lf (.inr (hXn rfl))).mono fun w hw=>by rw [hw];exact hy3
   | some x =>
    obtain ⟨w,rfl,hw⟩:=(hold x rfl).2.2.1 om_ om_
    obtain ⟨t,F,r,ht,rfl,pF,hF⟩:=RV1 hx
    obtain ⟨t1,G,s,ht1,rfl,pG,hG⟩:=RV1 hy
    refine (zT4 l2 l3 hk (schS a b) ht ht1 pF pG (fun v r h=>RM.p h) (MC fr.ty (zOp hfr hk) Za Zb hza hzb w.2 v.2 F G r s (hw.1 e1).2 (hv.1 e1).2 hF hG)).mono ?_
    rintro _ ⟨H,u,rfl,hH⟩
    by_cases hz:Za+Zb=0
    . have:=hx.1
      simp at this;omega
    exact LRep.imm (.cons ⟨H,u,rfl,by simp,by simp,hH.p,hH⟩ .nil) (.inr rfl) (by simp;omega)
 . have e1:¬ fr.fld.msg=true:=by simp [RW.fld,hk]
   rw [if_neg e1]
   exact (zOa l2 l3 (schS a b) hx2.p hy2.lf (.inl hk)).mono fun w hw=>by rw [hw];exact hy3
theorem zHq {a b c:BD} {t:Nmt} (hc:bdOf a b t=some c) (k:Nat):fldS a b t k=(fRW (zAd c.rs) k).map RW.fld:=by
 unfold fldS;rw [hc]
theorem zQ0 {a b c:BD} {t:Nmt} (hc:bdOf a b t=some c) {k:Nat} {fr:RW} (hfr:fRW (zAd c.rs) k=some fr) {W:Type} (o:List (Nat × W)):wout (fldS a b t) k fr.fld o=o.filter fun x=>!woP (zAd c.rs) fr x.1:=by
 unfold wout
 refine List.filter_congr fun x _=>?_
 rw [zHq hc]
 unfold woP
 cases e:fRW (zAd c.rs) x.1 with
 | none=>rfl
 | some g =>
  have h1:=(zGo e).2
  have h2:=(zGo hfr).2
  have h3:decide (x.1=k)=decide (g.num=fr.num):=by rw [h1,h2]
  dsimp only [Option.map_some,RW.fld]
  rw [h3,Bool.and_assoc]
  rfl
def RX (Za Zb n:Nat) (ks:List Nat) (x:Nat × List (BV × MVB n)) (c:CVal):Prop:=RF (Za+Zb) (RM (Za+Zb) n) x c/\(x.1 ∈ ks->RF Za (RM Za n) x c)
theorem RX.sh {Za Zb n:Nat} {ks:List Nat}:ShF (RX Za Zb n ks):=fun x c h=>ShF.rf x c h.1
theorem zcv {a b c:BD} {n:Nat} {t:Nmt} (hc:bdOf a b t=some c) (hs:SOk (zAd c.rs)) {O:CVal} (HO:PV1 O) (MC:MgC a b n) {S1 S2:CVal} (hS:schV a b=.agg [S1,S2]) (pS1:PV1 S1) (pS2:PV1 S2) {Za Zb:Nat} (hza:Za<=300000) (hzb:Zb<=300000) {l:List (Nat × List (BV × MVB n))} {es:List CVal} {L:Nat} (hl:l.length=L) (hlZ:L<=Zb) (hE:All2 (RF Zb (RM Zb n)) l es) {tb:Tag} {b3 b11 b13:Nat} {hb:CHeap} (hf:Fit hb) (g3:zA1 hb.ents b3=some (.cells [S1,S2])) (g11:zA1 hb.ents b11=some (.cells [.str t,lV8 (zAd c.rs),O])) {x0:CObj} (g13:zA1 hb.ents b13=some x0) (n3:b3≠b13) (n11:b11≠b13) {a0 a1 a2 v5 v6 v16:CVal} {ro:B8} {r0:B8} {Q:QT} {fin:List (Nat × List (BV × MVB n))}
    (hk:∀ (Fo v9 v12 v14 v15:CVal) (nx:Nat),LRep (Za+L) (RF (Za+Zb) (RM (Za+Zb) n)) 2 fin Fo->hb.next<=nx->Q (.exit 0) ⟨[a0,a1,a2,.ptr b3 30408706 0,.str t,v5,v6,.int .i64 (L:Nat),.int .i64 (L:Nat),v9,.imm tb 2 es,.ptr b11 49283075 0,v12,.ptr b13 37748738 0,v14,v15,v16],⟨zA2 hb.ents b13 (.cells [Fo,.str ro]),nx,hb.tys⟩,[]⟩) :
    ∀ (rest:List (Nat × List (BV × MVB n))) (i:Nat) (o:List (Nat × List (BV × MVB n))) (Fo v9 v12 v14 v15:CVal) (nx:Nat),l.drop i=rest->i+rest.length=L->SL.Srt nltB rest->SL.All (fun k l=>∃ f,fldS a b t k=some f/\OkF b0V (OkMs a b n) f l) rest->rest.foldl (fun o p=>(match fldS a b t p.1 with | some f=>SL.put nltB p.1 (opM b0V (mgM a b n) f (SL.get nltB p.1 (wout (fldS a b t) p.1 f o)) p.2) (wout (fldS a b t) p.1 f o) | none=>o)) o=fin->OkM b0V rokS (fldS a b) (n+1) t ((o,r0):MVB (n+1))->LRep (Za+i) (RX Za Zb n (rest.map (·.1))) 2 o Fo->hb.next<=nx->W TF mgL ⟨[a0,a1,a2,.ptr b3 30408706 0,.str t,v5,v6,.int .i64 (i:Nat),.int .i64 (L:Nat),v9,.imm tb 2 es,.ptr b11 49283075 0,v12,.ptr b13 37748738 0,v14,v15,v16],⟨zA2 hb.ents b13 (.cells [Fo,.str ro]),nx,hb.tys⟩,[]⟩ Q:=by
 intro rest
 induction rest with
 | nil =>
  intro i o Fo v9 v12 v14 v15 nx h1 h2 h3 h4 h5 h6 h7 h8
  obtain rfl:i=L:=by simpa using h2
  have hok:=h5
  simp only [List.foldl_nil] at hok
  subst hok
  refine W.loop ?_
  try refine w0_ ?_
  refine hk _ _ _ _ _ _ (h7.mono (Nat.le_refl _) fun _ _ h=>h.1) ?_;exact om_
 | cons p rest ih =>
  intro i o Fo v9 v12 v14 v15 nx h1 h2 h3 h4 h5 h6 h7 h8
  rw [List.length_cons] at h2
  have hp:l[i]? = some p:=by
   have:(l.drop i)[0]? = some p:=by rw [h1];rfl
   rw [List.getElem?_drop] at this;exact this
  have hd:l.drop (i+1)=rest:=by
   have:=congrArg (List.drop 1) h1
   rw [List.drop_drop] at this;exact this
  obtain ⟨f,hff,hfl⟩:=h4 p (by simp)
  have hff':=hff
  rw [zHq hc] at hff'
  obtain ⟨fr,hfr,rfl⟩:=Option.map_eq_some_iff.1 hff'
  obtain ⟨hfm,hfn⟩:=zGo hfr
  obtain ⟨hfok,hfk⟩:=hs.ok fr hfm
  obtain ⟨ce,q1,r1⟩:=hE.at hp
  obtain ⟨A,rfl,pA,hA⟩:=r1
  have m1:=zAk q1
  have hlen:=hE.len
  have hlt:(i:Int)<(L:Int):=by omega
  have hlr:es.length=L:=by omega
  obtain ⟨hu,hut,hX⟩:=fx4 (show Fit ⟨hb.ents,nx,hb.tys⟩ from ⟨hf.1.le h8,hf.2.le h8⟩)
  have hY:=fx5 (show Fit ⟨hb.ents,nx,hb.tys⟩ from ⟨hf.1.le h8,hf.2.le h8⟩) g13
  dsimp only at hX hu hut hY
  have lq3:=zA3 hf.1 g3
  have lq11:=zA3 hf.1 g11
  have lq13:=zA3 hf.1 g13
  have gs3:∀ x,zA1 (zA2 hb.ents b13 x) b3=some (.cells [S1,S2]):=fun x=>by rw [zA0 n3,g3]
  have gs11:∀ x,zA1 (zA2 hb.ents b13 x) b11=some (.cells [.str t,lV8 (zAd c.rs),O]):=fun x=>by rw [zA0 n11,g11]
  have F1:=zOr hs.len hs.nd p.1 (n:=t) HO
  rw [hfr] at F1
  simp only [FldR] at F1
  have W1:=wo_F hs.len hs.nd (n:=t) HO (fr:=fr) RX.sh (Z:=Za+i) om_ h7
  rw [<- zQ0 hc hfr] at W1
  have hso:SL.Srt nltB (wout (fldS a b t) p.1 fr.fld o):=zDv h6.1
  have hres:=step_ok b0V (zE5 a b) (zE2 b0V (zE5 a b) n) (r':=r0) h6 hff hfl
  have hold:∀ x,SL.get nltB p.1 (wout (fldS a b t) p.1 fr.fld o)=some x->OkF b0V (OkMs a b n) fr.fld x:=fun x hx=>by
   obtain ⟨g,hg',hx⟩:=zLc (fld:=fldS a b t) (k:=p.1) (f:=fr.fld) h6.2.1 (p.1,x) (SL.get_mem ordN hx)
   rw [hff] at hg';cases hg';exact hx
  have G1:∀ F',LRep (Za+i) (RX Za Zb n ((p::rest).map (·.1))) 2 (wout (fldS a b t) p.1 fr.fld o) F'->PuR 17 [.agg [F',.str ro],.int .i64 (p.1:Nat)] fun v=>∃ X bl,v=.tup [X,.bool bl]/\LRep Za (RV (RM Za n)) 4 ((SL.get nltB p.1 (wout (fldS a b t) p.1 fr.fld o)).getD []) X/\(SL.get nltB p.1 (wout (fldS a b t) p.1 fr.fld o)=none->X=.nils):=fun F' hF'=>by
   refine (zd9 (R:=RM Za n) (Z:=Za) RX.sh (Z2:=Za+i) om_ hso hF' (w:=p.1) fun x _ hx A hA=>?_).mono fun v hv=>?_
   . obtain ⟨A',e,_,hA'⟩:=hA.2 (by rw [hx];simp)
     cases e
     exact zU1 om_ hA' (fun m F r h=>h.p) fun y _ F r h=>zKa om_ n y.2 F r h
   . cases e:SL.get nltB p.1 (wout (fldS a b t) p.1 fr.fld o) with
     | none=>rw [e] at hv;exact ⟨.nils,false,hv,LRep.nil,fun _=>rfl⟩
     | some y =>
      rw [e] at hv
      obtain ⟨G,rfl,hG⟩:=hv
      exact ⟨G,true,rfl,hG,fun h=>by cases h⟩
  generalize hget:SL.get nltB p.1 (wout (fldS a b t) p.1 fr.fld o)=old at *
  have OV1:=fun X hx hn=>zY5 hza hzb hfok hfk MC (old:=old) hold hfl (X:=X) hx hn hA
  have PT:∀ F' V,LRep (Za+i) (RX Za Zb n ((p::rest).map (·.1))) 2 (wout (fldS a b t) p.1 fr.fld o) F'->LRep (Za+Zb) (RV (RM (Za+Zb) n)) 4 (opM b0V (mgM a b n) fr.fld old p.2) V->PuR 39 [F',.int .i64 (p.1:Nat),V] (LRep (Za+i+1) (RX Za Zb n (rest.map (·.1))) 2 (SL.put nltB p.1 (opM b0V (mgM a b n) fr.fld old p.2) (wout (fldS a b t) p.1 fr.fld o))):=fun F' V hF' hV=>by
   have hne:opM b0V (mgM a b n) fr.fld old p.2≠[]:=by
    cases old with
    | none=>rw [zIj b0V (ordV _) hfl];exact hfl.1
    | some x=>exact (zQ3 b0V (zE2 b0V (zE5 a b) n) (ordV _) (hold x rfl) hfl).1
   have hpV:=hV.p
   obtain ⟨hvl,vs,hvs,hv⟩:=id hV
   rcases hv with ⟨rfl,rfl⟩ | ⟨tv,htv,rfl⟩
   . exact absurd (n0_ hvs.len.symm) hne
   . refine zcg RX.sh (by omega) hso (hF'.mono (Nat.le_refl _) fun x c h=>⟨h.1,fun hm=>h.2 (by simp at hm ⊢;exact .inr hm)⟩) rfl htv ⟨?_,?_⟩ ⟨⟨_,rfl,hpV,hV⟩,fun hm=>?_⟩
     . rw [hvs.len];exact List.length_pos_iff.2 hne
     . rw [hvs.len];omega
     . exfalso
       obtain ⟨q,hq,e⟩:=List.mem_map.1 hm
       have:=h3.1 q hq
       rw [e] at this
       simp [nltB] at this
  have e5:rest.foldl (fun o p=>(match fldS a b t p.1 with | some f=>SL.put nltB p.1 (opM b0V (mgM a b n) f (SL.get nltB p.1 (wout (fldS a b t) p.1 f o)) p.2) (wout (fldS a b t) p.1 f o) | none=>o)) (SL.put nltB p.1 (opM b0V (mgM a b n) fr.fld old p.2) (wout (fldS a b t) p.1 fr.fld o))=fin:=by
   rw [<- h5,List.foldl_cons,hff]
   simp only [hget]
  rw [hS] at OV1
  generalize SL.put nltB p.1 (opM b0V (mgM a b n) fr.fld old p.2) (wout (fldS a b t) p.1 fr.fld o)=o2 at *
  generalize opM b0V (mgM a b n) fr.fld old p.2=vl at *
  generalize wout (fldS a b t) p.1 fr.fld o=o1 at *
  have pFo:=h7.p
  have pL:=lV8P (zAd c.rs)
  unfold RW.pf at F1 W1 OV1
  refine pq_ pFo fun w1=>?_
  refine pq_ pL fun w2=>?_
  refine pq_ HO fun w3=>?_
  refine pq_ pS1 fun w4=>?_
  refine pq_ pS2 fun w5=>?_
  refine pq_ pA fun w6=>?_
  have hd1:∀ m,nx<=m->zA5 hb.ents m=hb.ents:=hX.2.1
  refine W.loop ?_
  obtain ⟨lb0,ls0⟩:=lbs_
  have hZ:=j17_ hX hY gs3 gs11 hlt hlr q1 m1 w1 w2 w3 w4 w5 w6 hd1 lb0 ls0
  repeat (first
   | refine vk_ ?_
   | (refine pe_ (F1) fun n1 hn1=>⟨rfl,?_⟩)
   | (refine pr_ (W1) fun v1 n1 RA g1=>?_;skip;refine pq_ (RA.p) fun hP=>?_;have hZ:=And.intro hZ hP;refine ⟨hP.1,?_⟩)
   | (refine pr_ (G1 _ RA) fun v1 n1 RB g1=>?_;obtain ⟨X,bl,rfl,RB,RN⟩:=RB;refine pq_ (RB.p) fun hP=>?_;have hZ:=And.intro hZ hP;refine ⟨rfl,?_⟩)
   | (refine pr_ (OV1 _ RB RN) fun v1 n1 RC g1=>?_;skip;refine pq_ (RC.p) fun hP=>?_;have hZ:=And.intro hZ hP;refine ⟨hP.1,?_⟩)
   | (refine pr_ (PT _ _ RA RC) fun v1 n1 RD g1=>?_;skip;refine pq_ (RD.p) fun hP=>?_;have hZ:=And.intro hZ hP;refine ⟨hP.1,?_⟩))
  have ih1:=fun Fo v9 v12 v14 v15 nx=>ih (i+1) o2 Fo v9 v12 v14 v15 nx hd om_ h3.2 (fun q hq=>h4 q (List.mem_cons_of_mem _ hq)) e5 hres
  push_cast at ih1
  refine dk_ ?_
  refine ih1 _ _ _ _ _ _ RD ?_;exact om_
theorem zZg  {a b c:BD} {n:Nat} {t:Nmt} (hc:bdOf a b t=some c) (hs:SOk (zAd c.rs)) {O:CVal} (HO:PV1 O) (MC:MgC a b n) {S1 S2:CVal} (hS:schV a b=.agg [S1,S2]) (pS1:PV1 S1) (pS2:PV1 S2) {Za Zb:Nat} (hza:Za<=300000) (hzb:Zb<=300000) {l:List (Nat × List (BV × MVB n))} {es:List CVal} {L:Nat} (hl:l.length=L) (hlZ:L<=Zb) (hE:All2 (RF Zb (RM Zb n)) l es) {tb:Tag} {b3 b11 b13:Nat} {hb:CHeap} (hf:Fit hb) (g3:zA1 hb.ents b3=some (.cells [S1,S2])) (g11:zA1 hb.ents b11=some (.cells [.str t,lV8 (zAd c.rs),O])) {Fo0:CVal} {ro:B8} (g13:zA1 hb.ents b13=some (.cells [Fo0,.str ro])) (n3:b3≠b13) (n11:b11≠b13) {a0 a1 a2 v5 v6 v16:CVal} {r0:B8} {Q:QT} 
 {m1:List (Nat × List (BV × MVB n))} (hsl:SL.Srt nltB l) (hal:SL.All (fun k l=>∃ f,fldS a b t k=some f/\OkF b0V (OkMs a b n) f l) l) (hm1:OkM b0V rokS (fldS a b) (n+1) t ((m1,r0):MVB (n+1))) (hF0:LRep Za (RF Za (RM Za n)) 2 m1 Fo0) {v9 v12 v14 v15:CVal}
    (hk:∀ (Fo v9 v12 v14 v15:CVal) (nx:Nat),LRep (Za+Zb) (RF (Za+Zb) (RM (Za+Zb) n)) 2 (l.foldl (fun o p=>(match fldS a b t p.1 with | some f=>SL.put nltB p.1 (opM b0V (mgM a b n) f (SL.get nltB p.1 (wout (fldS a b t) p.1 f o)) p.2) (wout (fldS a b t) p.1 f o) | none=>o)) m1) Fo->hb.next<=nx->Q (.exit 0) ⟨[a0,a1,a2,.ptr b3 30408706 0,.str t,v5,v6,.int .i64 (L:Nat),.int .i64 (L:Nat),v9,.imm tb 2 es,.ptr b11 49283075 0,v12,.ptr b13 37748738 0,v14,v15,v16],⟨zA2 hb.ents b13 (.cells [Fo,.str ro]),nx,hb.tys⟩,[]⟩):W TF mgL ⟨[a0,a1,a2,.ptr b3 30408706 0,.str t,v5,v6,.int .i64 0,.int .i64 (L:Nat),v9,.imm tb 2 es,.ptr b11 49283075 0,v12,.ptr b13 37748738 0,v14,v15,v16],⟨hb.ents,hb.next,hb.tys⟩,[]⟩ Q:=by
  have:=zcv hc hs HO MC hS pS1 pS2 hza hzb hl hlZ hE (tb:=tb) hf g3 g11 g13 n3 n11 (a0:=a0) (a1:=a1) (a2:=a2) (v5:=v5) (v6:=v6) (v16:=v16) (ro:=ro) (r0:=r0) (Q:=Q) (fin:=l.foldl (fun o p=>(match fldS a b t p.1 with | some f=>SL.put nltB p.1 (opM b0V (mgM a b n) f (SL.get nltB p.1 (wout (fldS a b t) p.1 f o)) p.2) (wout (fldS a b t) p.1 f o) | none=>o)) m1) (fun Fo v9 v12 v14 v15 nx h1 h2=>hk Fo v9 v12 v14 v15 nx (h1.mono om_ fun _ _ h=>h) h2) l 0 m1 Fo0 v9 v12 v14 v15 hb.next rfl om_ hsl hal rfl hm1 (hF0.mono om_ fun x c h=>⟨RF.mono om_ (RM.mono om_ n) h,fun _=>h⟩) (Nat.le_refl _)
  rw [zB1 g13] at this
  exact this
theorem zRg {a b:BD} {n:Nat} {t:Nmt} {m1 m2:MVB (n+1)}:(mgM a b (n+1) t m1 m2).1=m2.1.foldl (fun o p=>(match fldS a b t p.1 with | some f=>SL.put nltB p.1 (opM b0V (mgM a b n) f (SL.get nltB p.1 (wout (fldS a b t) p.1 f o)) p.2) (wout (fldS a b t) p.1 f o) | none=>o)) m1.1:=by
 show List.foldl _ m1.1 m2.1=_
 congr 1
 funext o p
 cases fldS a b t p.1 <;> rfl
theorem zTw {a b:BD} (ha:a.ok 4) (hb:b.ok 7) {n:Nat} (MC:MgC a b n):MgC a b (n+1):=by
 intro t ht Za Zb hza hzb m1 m2 F G r s hm1 hm2 hF hG
 intro h hf K hk
 obtain ⟨hu,hut,hX⟩:=fx4 hf
 obtain ⟨S1,S2,hS,pS1,pS2⟩:=schS a b
 have hr1:=hF.2.2
 have hr2:=hG.2.2
 have hrs:r.length+s.length<4611686018427387904:=by omega
 have TA:=zKa (Z:=Za) om_ (n+1) m1 F r hF
 have TB:=zKa (Z:=Zb) om_ (n+1) m2 G s hG
 have pF:=RM.p hF
 have pG:=RM.p hG
 have sa:=BD.sok ha om_
 have sb:=BD.sok hb om_
 have PI:=@vm_I a b (by have:=sa.len;rwa [zBh] at this)
 have PM:=@vm_M a b (by have:=sb.len;rwa [zBh] at this)
 rw [hS] at PI PM ⊢
 refine pq_ pF fun w1=>?_
 refine pq_ pG fun w2=>?_
 refine pq_ pS1 fun w4=>?_
 refine pq_ pS2 fun w5=>?_
 obtain ⟨lb0,ls0⟩:=lbs_
 obtain ⟨c,hc,hs,O,HO,PC⟩:∃ c,bdOf a b t=some c/\SOk (zAd c.rs)/\∃ O,PV1 O/\Pe 29 [.agg [S1,S2],.str t] (.tup [.agg [.str t,lV8 (zAd c.rs),O],.bool true]):=by
  rcases ht with rfl | rfl
  . exact ⟨a,rfl,sa,_,oV1P _,PI⟩
  . exact ⟨b,rfl,sb,_,oV1P _,PM⟩
 have pL:=lV8P (zAd c.rs)
 refine pq_ HO fun w3=>?_
 refine pq_ pL fun w6=>?_
 refine mk_ 13 c13 (s_ ?_)
 have hZ:=j10_ hX w1 w2 w3 w4 w5 w6 lb0 ls0 hrs
 repeat ((fail_if_success (show W TF mgL _ _));first
  | refine vk_ ?_
  | (refine pe_ (PC) fun n1 hn1=>⟨rfl,?_⟩)
  | (refine pr_ (TA) fun v1 n1 RA g1=>?_;obtain ⟨F',rfl,RA⟩:=RA;refine pq_ (RM.p RA) fun hP=>?_;have hZ:=And.intro hZ hP;refine ⟨rfl,?_⟩)
  | (refine pr_ (TB) fun v1 n1 RB g1=>?_;obtain ⟨G',rfl,RB⟩:=RB;refine pq_ (RM.p RB) fun hP=>?_;have hZ:=And.intro hZ hP;refine ⟨rfl,?_⟩))
 have pF1:=(RM.p RA).five
 simp only [CVal.isUndef,CVal.whole,CVal.cells,CVal.strip,CVal.bare,List.map,CVal.tup.injEq,List.cons.injEq,and_true] at pF1
 obtain ⟨hlb,es,heb,hGf⟩:=RB.1
 have l2:=heb.len
 rcases hGf with ⟨rfl,rfl⟩ | ⟨tb,htb,rfl⟩
 . have e2:m2.1=[]:=n0_ l2.symm
   have hZ:=j11_ hX w1 w2 w3 w4 w5 w6 lb0 ls0 hrs pF1
   repeat (first
    | refine vk_ ?_
    | (refine dk_ ?_;refine W.loop ?_)
    | refine W.loop ?_)
   refine rk_ ?_
   refine hk _ _ ⟨_,_,rfl,?_,?_,?_⟩ ?_
   . have:(mgM a b (n+1) t m1 m2).1=m1.1:=by
      show List.foldl _ m1.1 m2.1=m1.1
      rw [e2];rfl
     rw [this]
     exact RA.1.mono om_ fun _ _=>RF.mono om_ (RM.mono om_ n)
   . rw [RA.2.1,RB.2.1];rfl
   . rw [List.length_append];omega
   . exact om_
 . have hst:(CVal.imm tb 2 es).strip=.imm tb 2 es:=by rcases htb with rfl | rfl <;> rfl
   simp only [CVal.strip] at hst
   obtain ⟨L,hLL⟩:∃ L,m2.1.length=L:=⟨_,rfl⟩
   have l3:=l2.trans hLL
   have hZ:=j12_ hX w1 w2 w3 w4 w5 w6 lb0 ls0 hrs pF1 (And.intro hst l3)
   repeat ((fail_if_success (show W TF mgL _ _));refine vk_ ?_)
   refine zZg hc hs HO MC hS pS1 pS2 hza hzb hLL (by omega) heb (hb:=⟨_,_,_⟩) (Fo0:=F') (ro:=r++s) (r0:=m1.2) ft_ (by simp (disch:=omega) [zA1]) (by simp (disch:=omega) [zA1]) (by simp (disch:=omega) [zA1]) (by omega) (by omega) hm2.1 hm2.2.1 hm1 RA.1 ?_
   intro Fo v9 v12 v14 v15 nx hFo hnx
   dsimp only at hnx
   have pFo:=hFo.p
   refine pq_ pFo fun w7=>?_
   have hZ:=j10_ hX w1 w2 w3 w4 w5 w6 w7 lb0 ls0
   repeat (first
    | refine vk_ ?_)
   refine rk_ ?_
   refine hk _ _ ⟨_,_,rfl,?_,?_,?_⟩ ?_
   . rw [zRg];exact hFo
   . rw [RA.2.1,RB.2.1];rfl
   . rw [List.length_append];omega
   . exact om_
theorem zTv {a b:BD} (ha:a.ok 4) (hb:b.ok 7):MgC a b 0:=by
 intro t ht Za Zb hza hzb m1 m2 F G r s hm1 hm2 hF hG
 intro h hf K hk
 obtain ⟨hu,hut,hX⟩:=fx4 hf
 obtain ⟨S1,S2,hS,pS1,pS2⟩:=schS a b
 obtain rfl:=hF.2
 obtain rfl:=hG.2
 have hrs:=True.intro
 have TA:=zKa (Z:=Za) om_ 0 m1 F [] hF
 have TB:=zKa (Z:=Zb) om_ 0 m2 G [] hG
 have pF:=RM.p hF
 have pG:=RM.p hG
 have sa:=BD.sok ha om_
 have sb:=BD.sok hb om_
 have PI:=@vm_I a b (by have:=sa.len;rwa [zBh] at this)
 have PM:=@vm_M a b (by have:=sb.len;rwa [zBh] at this)
 rw [hS] at PI PM ⊢
 refine pq_ pF fun w1=>?_
 refine pq_ pG fun w2=>?_
 refine pq_ pS1 fun w4=>?_
 refine pq_ pS2 fun w5=>?_
 obtain ⟨lb0,ls0⟩:=lbs_
 obtain ⟨c,hc,hs,O,HO,PC⟩:∃ c,bdOf a b t=some c/\SOk (zAd c.rs)/\∃ O,PV1 O/\Pe 29 [.agg [S1,S2],.str t] (.tup [.agg [.str t,lV8 (zAd c.rs),O],.bool true]):=by
  rcases ht with rfl | rfl
  . exact ⟨a,rfl,sa,_,oV1P _,PI⟩
  . exact ⟨b,rfl,sb,_,oV1P _,PM⟩
 have pL:=lV8P (zAd c.rs)
 refine pq_ HO fun w3=>?_
 refine pq_ pL fun w6=>?_
 refine mk_ 13 c13 (s_ ?_)
 have hZ:=j10_ hX w1 w2 w3 w4 w5 w6 lb0 ls0 hrs
 repeat ((fail_if_success (show W TF mgL _ _));first
  | refine vk_ ?_
  | (refine pe_ (PC) fun n1 hn1=>⟨rfl,?_⟩)
  | (refine pr_ (TA) fun v1 n1 RA g1=>?_;obtain ⟨F',rfl,RA⟩:=RA;refine pq_ (RM.p RA) fun hP=>?_;have hZ:=And.intro hZ hP;refine ⟨rfl,?_⟩)
  | (refine pr_ (TB) fun v1 n1 RB g1=>?_;obtain ⟨G',rfl,RB⟩:=RB;refine pq_ (RM.p RB) fun hP=>?_;have hZ:=And.intro hZ hP;refine ⟨rfl,?_⟩))
 have pF1:=(RM.p RA).five
 simp only [CVal.isUndef,CVal.whole,CVal.cells,CVal.strip,CVal.bare,List.map,CVal.tup.injEq,List.cons.injEq,and_true] at pF1
 obtain ⟨hlb,es,heb,hGf⟩:=RB.1
 obtain rfl:=heb.nil_inv
 have fin:RM (Za+Zb) 0 (mgM a b 0 t m1 m2) F' []:=⟨RA.1.mono om_ fun _ _ h=>h,rfl⟩
 rcases hGf with ⟨rfl,_⟩ | ⟨tb,rfl | rfl,rfl⟩
 all_goals
  have hZ:=j11_ hX w1 w2 w3 w4 w5 w6 lb0 ls0 hrs pF1
  repeat (first
   | refine vk_ ?_
   | (refine dk_ ?_;refine W.loop ?_)
   | refine W.loop ?_)
  refine rk_ ?_
  refine hk _ _ ⟨_,_,rfl,fin⟩ ?_
  exact om_
theorem zQ2 {a b:BD} (ha:a.ok 4) (hb:b.ok 7):∀ n,MgC a b n
 | 0=>zTv ha hb
 | n+1=>zTw ha hb (zQ2 ha hb n)
theorem zbl {β:Type} {R:Nat × β->CVal->Prop} (hS:ShF R) {l:List (Nat × β)} {es:List CVal} {L:Nat} (hl:l.length=L) (hL:L<=1000000) (hE:All2 R l es) {bq w:Nat} {t:Tag} {r:B8} {hh:CHeap} (hf:Fit hh) (hg:zA1 hh.ents bq=some (.cells [.imm t 2 es,.str r])) {v0:CVal} {Q:QT}
    (hyes:∀ (v1 v3 v5 A:CVal) n' (k:Nat) x,l[k]? = some x->x.1=w->PV1 A->R x (.agg [.int .i64 (x.1:Nat),A])->hh.next<=n'->Q .ret ⟨[v0,v1,.ptr bq 37748738 0,v3,.int .i64 (w:Nat),v5,A,.bool true],⟨hh.ents,n',hh.tys⟩,[]⟩)
    (hno:(∀ j y,j<L->l[j]? = some y->¬ y.1=w)->∀ (v1 v3 v5:CVal) n',hh.next<=n'->Q (.exit 0) ⟨[v0,v1,.ptr bq 37748738 0,v3,.int .i64 (w:Nat),v5,.nils,.bool false],⟨hh.ents,n',hh.tys⟩,[]⟩) :
    ∀ (m k nx:Nat) (v3 v5:CVal),k+m=L->(∀ j y,j<k->l[j]? = some y->¬ y.1=w)->hh.next<=nx->W TF rgL ⟨[v0,.int .i64 (k:Nat),.ptr bq 37748738 0,v3,.int .i64 (w:Nat),v5,.nils,.bool false],⟨hh.ents,nx,hh.tys⟩,[]⟩ Q:=by
 have hlen:=hE.len
 have hlr:es.length=L:=by omega
 intro m
 induction m with
 | zero =>
  intro k nx v3 v5 h1 h2 h3
  obtain rfl:k=L:=by omega
  refine W.loop ?_
  have hZ:=j2_ hg hlr
  try refine wk_ ?_
  refine hno h2 _ _ _ _ ?_;exact om_
 | succ m ih =>
  intro k nx v3 v5 h1 h2 h3
  obtain ⟨hu,hut,hX⟩:=fx4 (show Fit ⟨hh.ents,nx,hh.tys⟩ from ⟨hf.1.le h3,hf.2.le h3⟩)
  dsimp only at hX hu hut
  have hlt:(k:Int)<(L:Int):=by omega
  have lq:=zA3 hu hg
  obtain ⟨x,hx⟩:∃ x,l[k]? = some x:=⟨_,gE_ om_⟩
  obtain ⟨c,q1,r1⟩:=hE.at hx
  obtain ⟨A,rfl,pA⟩:=hS x c r1
  have m1:=zAk q1
  refine pq_ pA fun pF=>?_
  refine W.loop ?_
  by_cases he:x.1=w
  . subst he
    have e1:((x.1:Int) == (x.1:Int))=true:=by simp
    have hZ:=j8_ hX hg hlt q1 m1 hlr pF e1
    repeat (first
     | refine vk_ ?_)
    refine W.ret ?_
    simp only [zB3,zA9,zAe,zAo,reduceIte]
    refine hyes _ _ _ _ _ k x hx rfl pA r1 ?_;exact om_
  . have e1:((x.1:Int) == (w:Int))=false:=bn_ om_
    have e2:((x.1:Int)=(w:Int))=False:=eq_false om_
    have hZ:=j9_ hX hg hlt q1 m1 hlr pF e1 e2
    repeat (first
     | refine vk_ ?_)
    have ih1:=fun nx v3 v5 (h:_<=nx)=>ih (k+1) nx v3 v5 om_ (fun j y a b=>by
     rcases Nat.lt_succ_iff_lt_or_eq.1 a with c | rfl
     . exact h2 j y c b
     . rw [hx] at b;cases b;exact he) h
    push_cast at ih1
    refine dk_ ?_
    refine ih1 _ _ _ ?_;exact om_
theorem zZz {β:Type} {R:Nat × β->CVal->Prop} (hS:ShF R) {Z:Nat} (hz:Z<=1000000) {l:List (Nat × β)} (hs:SL.Srt nltB l) {F:CVal} {r:B8} (hx:LRep Z R 2 l F) (w:Nat):PuR 59 [.agg [F,.str r],.int .i64 (w:Nat)] fun v=>∃ A bl,v=.tup [A,.bool bl]/\PV1 A/\(SL.get nltB w l=none->A=.nils/\bl=false)/\∀ y,SL.get nltB w l=some y->bl=true/\R (w,y) (.agg [.int .i64 (w:Nat),A]):=by
 intro h hf K hk
 obtain ⟨hu,hut,hX⟩:=fx4 hf
 have pF:=hx.p
 obtain ⟨hl,es,he,hx⟩:=hx
 have l1:=he.len
 refine pq_ pF fun pX=>?_
 rcases hx with ⟨rfl,rfl⟩ | ⟨t,ht,rfl⟩
 . obtain rfl:l=[]:=n0_ l1.symm
   refine mk_ 59 c59 (s_ ?_)
   repeat (first
    | refine vx_ ?_
    | (refine dx_ ?_;refine W.loop ?_)
    | refine W.loop ?_)
   refine rx_ ?_
   refine hk _ _ ⟨_,_,rfl,LRep.nil (Z:=0) (R:=R) (k:=2).p,fun _=>⟨rfl,rfl⟩,fun y hy=>by cases hy⟩ ?_;exact om_
 have hZ:=j3_ hX l1 pX
 refine mk_ 59 c59 (s_ ?_)
 repeat ((fail_if_success (show W TF rgL _ _));refine vk_ ?_)
 refine zbl hS (L:=l.length) rfl om_ he (hh:=⟨_,_,_⟩) (w:=w) (r:=r) (t:=t) ?_ ?_ ?_ ?_ l.length 0 _ _ _ om_ (fun j y a _=>by omega) (Nat.le_refl _)
 . exact ft_
 . dsimp only;simp (disch:=omega) [zA1]
 . intro v1 v3 v5 A n' k x hx hw pA hR hn'
   dsimp only at hn'
   subst hw
   refine pq_ pA fun p9=>?_
   have hZ:=j4_ hX l1 pX p9
   repeat (first
    | refine vk_ ?_)
   refine rk_ ?_
   refine hk _ _ ⟨_,_,rfl,pA,fun e=>?_,fun y hy=>⟨rfl,?_⟩⟩ ?_
   . rw [get_at hs hx] at e;cases e
   . rw [get_at hs hx] at hy;cases hy;exact hR
   . exact om_
 . intro hno v1 v3 v5 n' hn'
   dsimp only at hn'
   have hn0:SL.get nltB w l=none:=zNt fun x hx=>by
    obtain ⟨j,hj,e⟩:=List.getElem_of_mem hx
    exact hno j x hj (by rw [<- e];exact gE_ hj)
   have hZ:=j3_ hX l1 pX
   repeat (first
    | refine vk_ ?_)
   refine rk_ ?_
   refine hk _ _ ⟨_,_,rfl,LRep.nil (Z:=0) (R:=R) (k:=2).p,fun _=>⟨rfl,rfl⟩,fun y hy=>by rw [hn0] at hy;cases hy⟩ ?_;exact om_
theorem zZk {β:Type} {R:Nat × β->CVal->Prop} (hS:ShF R) {l:List (Nat × β)} (hs:SL.Srt nltB l) {es:List CVal} {L:Nat} (hl:l.length=L) (hL:L<=1000000) (hE:All2 R l es) {bq w:Nat} {t:Tag} {r:B8} {hh:CHeap} (hf:Fit hh) (hg:zA1 hh.ents bq=some (.cells [.imm t 2 es,.str r])) {v0 v5 v6 v7 v8 v9 v10:CVal} {Q:QT}
    (hk:∀ (v4:CVal) n',hh.next<=n'->Q (.exit 0) ⟨[v0,.int .i64 (posN w l:Nat),.ptr bq 37748738 0,.int .i64 (w:Nat),v4,v5,v6,v7,v8,v9,v10],⟨hh.ents,n',hh.tys⟩,[]⟩) :
    ∀ (m k nx:Nat) (v4:CVal),k+m=posN w l->hh.next<=nx->W TF rsL ⟨[v0,.int .i64 (k:Nat),.ptr bq 37748738 0,.int .i64 (w:Nat),v4,v5,v6,v7,v8,v9,v10],⟨hh.ents,nx,hh.tys⟩,[]⟩ Q:=by
 have hlen:=hE.len
 have hlr:es.length=L:=by omega
 have hpl:=zIo w l
 intro m
 induction m with
 | zero =>
  intro k nx v4 h1 h3
  obtain rfl:k=posN w l:=by omega
  obtain ⟨hu,hut,hX⟩:=fx4 (show Fit ⟨hh.ents,nx,hh.tys⟩ from ⟨hf.1.le h3,hf.2.le h3⟩)
  dsimp only at hX hu hut
  refine W.loop ?_
  by_cases hj:posN w l<L
  . obtain ⟨x,hx⟩:∃ x,l[posN w l]? = some x:=⟨_,gE_ om_⟩
    have hge:¬ x.1<w:=fun a=>Nat.lt_irrefl _ ((zJl (w:=w) hs hx).1 a)
    obtain ⟨c,q1,r1⟩:=hE.at hx
    obtain ⟨A,rfl,pA⟩:=hS x c r1
    have m1:=zAk q1
    have hlt:((posN w l:Nat):Int)<(L:Int):=by omega
    have hg2:¬ (x.1:Int)<(w:Int):=by omega
    refine pq_ pA fun pF=>?_
    generalize posN w l=p at *
    have hZ:=j8_ hX hg hlt q1 m1 hlr pF hg2
    repeat (first
     | refine vk_ ?_)
    refine hk _ _ ?_;exact om_
  . have hlt:¬ ((posN w l:Nat):Int)<(L:Int):=by omega
    generalize posN w l=p at *
    have hZ:=j4_ hX hg hlt hlr
    repeat (first
     | refine vk_ ?_)
    refine hk _ _ ?_;exact om_
 | succ m ih =>
  intro k nx v4 h1 h3
  obtain ⟨hu,hut,hX⟩:=fx4 (show Fit ⟨hh.ents,nx,hh.tys⟩ from ⟨hf.1.le h3,hf.2.le h3⟩)
  dsimp only at hX hu hut
  have hlt:(k:Int)<(L:Int):=by omega
  obtain ⟨x,hx⟩:∃ x,l[k]? = some x:=⟨_,gE_ om_⟩
  have hlw:=(zJl (w:=w) hs hx).2 om_
  obtain ⟨c,q1,r1⟩:=hE.at hx
  obtain ⟨A,rfl,pA⟩:=hS x c r1
  have m1:=zAk q1
  have hg2:(x.1:Int)<(w:Int):=by omega
  refine pq_ pA fun pF=>?_
  refine W.loop ?_
  have hZ:=j8_ hX hg hlt q1 m1 hlr pF hg2
  repeat (first
   | refine vk_ ?_)
  have ih1:=fun nx v4 (h:_<=nx)=>ih (k+1) nx v4 om_ h
  push_cast at ih1
  refine dk_ ?_
  refine ih1 _ _ ?_;exact om_
def delN {β:Type} (w:Nat) (l:List (Nat × β)):List (Nat × β):=l.filter fun x=>!decide (x.1=w)
def zE4 {β:Type} (w:Nat) (l:List (Nat × β)):List (Nat × β):=match l[posN w l]? with
 | some x=>if x.1=w then l.drop (posN w l+1) else l.drop (posN w l)
 | none=>[]
theorem zPr {β:Type} {w:Nat} {y:β} {l:List (Nat × β)} (hs:SL.Srt nltB l):SL.put nltB w y l=l.take (posN w l)++(w,y)::zE4 w l:=by
 unfold zE4
 cases e:l[posN w l]? with
 | none =>
  rw [put_pos hs fun x hx=>by rw [e] at hx;cases hx]
  rw [List.drop_of_length_le (List.getElem?_eq_none_iff.1 e)]
 | some x =>
  dsimp only
  by_cases g:x.1=w
  . rw [if_pos g,zMw hs e g,List.set_eq_take_append_cons_drop,if_pos (gs_ e).1]
  . rw [if_neg g,put_pos hs fun y hy=>by rw [e] at hy;cases hy;exact g]
theorem zOd {β:Type} {w:Nat}:∀ {l:List (Nat × β)},SL.Srt nltB l->delN w l=l.take (posN w l)++zE4 w l
 | [],_=>rfl
 | (a,y)::l,h=>by
  have ih:=zOd (w:=w) h.2
  unfold delN zE4 posN at *
  by_cases g:a<w
  . rw [List.takeWhile_cons_of_pos (p:=fun x:Nat × β=>decide (x.1<w)) (a:=(a,y)) (by simpa using g)]
    simp only [List.length_cons,List.getElem?_cons_succ,List.take_succ_cons,List.drop_succ_cons,List.cons_append]
    rw [List.filter_cons_of_pos (by simp;omega),ih]
  . rw [List.takeWhile_cons_of_neg (p:=fun x:Nat × β=>decide (x.1<w)) (a:=(a,y)) (by simpa using g)]
    have hall:l.filter (fun x=>!decide (x.1=w))=l:=List.filter_eq_self.2 fun x hx=>by
     have:=h.1 x hx
     simp [nltB] at this
     simp;omega
    by_cases e:a=w
    . subst e;simp [hall]
    . simp [e,hall]
theorem shpL {β:Type} {R:Nat × β->CVal->Prop} (hS:ShF R) {l':List (Nat × β)} {T:List CVal} (ha:All2 R l' T):(T=[]/\Nonempty Nat/\True)\/∃ k A T2,T=.agg [.int .i64 k,A]::T2/\(A.isUndef=false/\A.whole=true/\A.cells=[A]/\A.strip=A/\A.bare=A)/\T2.map CVal.bare=T2:=by
 have hb:=zCn ha fun x _ c hc=>by obtain ⟨A,rfl,p⟩:=hS x c hc;exact zHg p
 cases ha with
 | nil=>exact .inl ⟨rfl,⟨0⟩,trivial⟩
 | cons h1 h2 =>
  obtain ⟨A,rfl,p⟩:=hS _ _ h1
  exact .inr ⟨_,A,_,rfl,⟨p.u,p.w,p.c,p.s,p.b⟩,(List.cons.inj hb).2⟩
theorem zTs {β:Type} {R:Nat × β->CVal->Prop} (hS:ShF R) {Z:Nat} (hz:Z<=900000) {l:List (Nat × β)} (hs:SL.Srt nltB l) {F:CVal} {r:B8} (hx:LRep Z R 2 l F) {w:Nat} {y:β} {t1:Tag} {vs:List CVal} (ht1:zGg t1) (hvs:0<vs.length/\vs.length<=2000000) (hy:R (w,y) (.agg [.int .i64 (w:Nat),.imm t1 4 vs])):PuR 60 [.agg [F,.str r],.int .i64 (w:Nat),.imm t1 4 vs] fun v=>∃ G,v=.agg [G,.str r]/\LRep (Z+1) R 2 (SL.put nltB w y l) G:=by
 intro h hf K hk
 obtain ⟨hu,hut,hX⟩:=fx4 hf
 have hst1:(CVal.imm t1 4 vs).strip=.imm t1 4 vs:=by rcases ht1 with rfl | rfl <;> rfl
 simp only [CVal.strip] at hst1
 have hv3:(0:Int)<(vs.length:Int):=by omega
 have pF:=hx.p
 refine pq_ pF fun pX=>?_
 obtain ⟨hl,es,he,hx⟩:=hx
 have l1:=he.len
 rcases hx with ⟨rfl,rfl⟩ | ⟨t,ht,rfl⟩
 . obtain rfl:l=[]:=n0_ l1.symm
   refine mk_ 60 c60 (s_ ?_)
   have hZ:=j3_ hX hst1 hv3
   repeat (first
    | refine vk_ ?_
    | (refine dk_ ?_;refine W.loop ?_)
    | refine W.loop ?_)
   refine rk_ ?_
   refine hk _ _ ⟨_,rfl,LRep.imm (.cons hy .nil) (.inl rfl) (by simp [SL.put])⟩ ?_;exact om_
 have hst:(CVal.imm t 2 es).strip=.imm t 2 es:=by rcases ht with rfl | rfl <;> rfl
 simp only [CVal.strip] at hst
 obtain ⟨L,hLL⟩:∃ L,l.length=L:=⟨_,rfl⟩
 have l2:=l1.trans hLL
 have hpl:=zIo w l
 refine mk_ 60 c60 (s_ ?_)
 have hZ:=j3_ hX hst pX
 repeat ((fail_if_success (show W TF rsL _ _));refine vk_ ?_)
 refine zZk hS hs (L:=L) hLL om_ he (hh:=⟨_,_,_⟩) (w:=w) (r:=r) (t:=t) ?_ ?_ ?_ (posN w l) 0 _ _ om_ (Nat.le_refl _)
 . exact ft_
 . dsimp only;simp (disch:=omega) [zA1]
 intro v4 n' hn'
 dsimp only at hn'
 have htt:List.take L es=es:=List.take_of_length_le om_
 have hpL:(posN w l:Int)<=(L:Int):=by omega
 have hsz:L<=900000:=by omega
 have hsm:∀ n:Nat,n<=3000000->(n<=1073741824)=True:=fun n h=>eq_true om_
 obtain ⟨T,hTT⟩:∃ T,List.take (posN w l) es=T:=⟨_,rfl⟩
 have hT:=he.take (posN w l)
 rw [hTT] at hT
 have hTl:T.length<=L:=by rw [<- hTT,List.length_take];omega
 have sT:=shpL hS hT
 have hln:(l.take (posN w l)).length+(zE4 w l).length<=L:=by
  rw [List.length_take]
  unfold zE4
  split
  . split <;> (rw [List.length_drop];omega)
  . simp;omega
 by_cases hj:posN w l<L
 . obtain ⟨x,hx⟩:∃ x,l[posN w l]? = some x:=⟨_,gE_ om_⟩
   obtain ⟨c,q1,r1⟩:=he.at hx
   obtain ⟨A,rfl,pA⟩:=hS x c r1
   have m1:=zAk q1
   refine pq_ pA fun pA=>?_
   have hlt:((posN w l:Nat):Int)<(L:Int):=by omega
   by_cases hg:x.1=w
   . have hg2:((x.1:Int) == (w:Int))=true:=by simp [hg]
     have hg3:((x.1:Int)=(w:Int))=True:=by simp [hg]
     have hdN:zE4 w l=l.drop (posN w l+1):=by unfold zE4;rw [hx];exact if_pos hg
     obtain ⟨D,hDD⟩:∃ D,List.drop (posN w l+1) es=D:=⟨_,rfl⟩
     have hD:=he.drop (posN w l+1)
     rw [hDD,<- hdN] at hD
     have hDl:D.length<=L:=by rw [<- hDD,List.length_drop];omega
     have sD:=shpL hS hD
     have hrep:∀ G,(G=.imm .none 2 (T++(.agg [.int .i64 (w:Nat),.imm t1 4 vs])::D)\/G=.imm .full 2 (T++(.agg [.int .i64 (w:Nat),.imm t1 4 vs])::D))->LRep (Z+1) R 2 (SL.put nltB w y l) G:=fun G hG=>by
      rw [zPr hs]
      rcases hG with rfl | rfl
      . exact LRep.imm (hT.app (.cons hy hD)) (.inl rfl) (by rw [List.length_append,List.length_cons];omega)
      . exact LRep.imm (hT.app (.cons hy hD)) (.inr rfl) (by rw [List.length_append,List.length_cons];omega)
     have htp:((posN w l:Nat):Int)+1<=(L:Int):=by omega
     have htn:(((posN w l:Nat):Int)+1).toNat=posN w l+1:=by omega
     generalize posN w l=p at *
     rcases sT with ⟨rfl,pc,hbT⟩ | ⟨kc,Ac,T2,rfl,pc,hbT⟩ <;> rcases sD with ⟨rfl,pd,hbD⟩ | ⟨kd,Ad,D2,rfl,pd,hbD⟩ <;> (
      have hT3:=hTl
      have hD3:=hDl
      simp only [List.length_cons,List.length_nil] at hT3 hD3
      try simp only [CVal.isUndef,CVal.whole,CVal.cells,CVal.strip,CVal.bare] at pc pd
      have hZ:=And.intro (j18_ hX l2 hTT hDD htt hpL hsz hsm hst1 hv3 q1 m1 pA hlt hg2 hg3 htp htn) (j6_ pc hbT pd hbD hTl hDl)
      repeat (refine vk_ ?_)
      refine rk_ ?_
      refine hk _ _ ⟨_,rfl,hrep _ ?_⟩ ?_ <;> first | exact .inl rfl | exact .inr rfl | exact .inl (by simp) | exact om_)
   . have hg2:((x.1:Int) == (w:Int))=false:=bn_ om_
     have hg3:((x.1:Int)=(w:Int))=False:=eq_false om_
     have hdN:zE4 w l=l.drop (posN w l):=by unfold zE4;rw [hx];exact if_neg hg
     obtain ⟨D,hDD⟩:∃ D,List.drop (posN w l) es=D:=⟨_,rfl⟩
     have hD:=he.drop (posN w l)
     rw [hDD,<- hdN] at hD
     have hDl:D.length<=L:=by rw [<- hDD,List.length_drop];omega
     have sD:=shpL hS hD
     have hrep:∀ G,(G=.imm .none 2 (T++(.agg [.int .i64 (w:Nat),.imm t1 4 vs])::D)\/G=.imm .full 2 (T++(.agg [.int .i64 (w:Nat),.imm t1 4 vs])::D))->LRep (Z+1) R 2 (SL.put nltB w y l) G:=fun G hG=>by
      rw [zPr hs]
      rcases hG with rfl | rfl
      . exact LRep.imm (hT.app (.cons hy hD)) (.inl rfl) (by rw [List.length_append,List.length_cons];omega)
      . exact LRep.imm (hT.app (.cons hy hD)) (.inr rfl) (by rw [List.length_append,List.length_cons];omega)
     generalize posN w l=p at *
     rcases sT with ⟨rfl,pc,hbT⟩ | ⟨kc,Ac,T2,rfl,pc,hbT⟩ <;> rcases sD with ⟨rfl,pd,hbD⟩ | ⟨kd,Ad,D2,rfl,pd,hbD⟩ <;> (
      have hT3:=hTl
      have hD3:=hDl
      simp only [List.length_cons,List.length_nil] at hT3 hD3
      try simp only [CVal.isUndef,CVal.whole,CVal.cells,CVal.strip,CVal.bare] at pc pd
      have hZ:=And.intro (j16_ hX l2 hTT hDD htt hpL hsz hsm hst1 hv3 q1 m1 pA hlt hg2 hg3) (j6_ pc hbT pd hbD hTl hDl)
      repeat (refine vk_ ?_)
      refine rk_ ?_
      refine hk _ _ ⟨_,rfl,hrep _ ?_⟩ ?_ <;> first | exact .inl rfl | exact .inr rfl | exact .inl (by simp) | exact om_)
 . have hlt:¬ ((posN w l:Nat):Int)<(L:Int):=by omega
   have hdN:zE4 w l=[]:=by
    unfold zE4
    rw [List.getElem?_eq_none_iff.2 (by omega)]
   obtain ⟨D,hDD⟩:∃ D,List.drop (posN w l) es=D:=⟨_,rfl⟩
   have hD0:D=[]:=by rw [<- hDD];exact List.drop_of_length_le (by omega)
   have hD:All2 R (zE4 w l) D:=by rw [hdN,hD0];exact .nil
   have hDl:D.length<=L:=by rw [hD0];simp
   have sD:=shpL hS hD
   have hrep:∀ G,(G=.imm .none 2 (T++(.agg [.int .i64 (w:Nat),.imm t1 4 vs])::D)\/G=.imm .full 2 (T++(.agg [.int .i64 (w:Nat),.imm t1 4 vs])::D))->LRep (Z+1) R 2 (SL.put nltB w y l) G:=fun G hG=>by
    rw [zPr hs]
    rcases hG with rfl | rfl
    . exact LRep.imm (hT.app (.cons hy hD)) (.inl rfl) (by rw [List.length_append,List.length_cons];omega)
    . exact LRep.imm (hT.app (.cons hy hD)) (.inr rfl) (by rw [List.length_append,List.length_cons];omega)
   generalize posN w l=p at *
   rcases sT with ⟨rfl,pc,hbT⟩ | ⟨kc,Ac,T2,rfl,pc,hbT⟩ <;> rcases sD with ⟨rfl,pd,hbD⟩ | ⟨kd,Ad,D2,rfl,pd,hbD⟩ <;> (
    have hT3:=hTl
    have hD3:=hDl
    simp only [List.length_cons,List.length_nil] at hT3 hD3
    try simp only [CVal.isUndef,CVal.whole,CVal.cells,CVal.strip,CVal.bare] at pc pd
    have hZ:=And.intro (j11_ hX l2 hTT hDD htt hpL hsz hsm hst1 hv3 hlt) (j6_ pc hbT pd hbD hTl hDl)
    repeat (refine vk_ ?_)
    refine rk_ ?_
    refine hk _ _ ⟨_,rfl,hrep _ ?_⟩ ?_ <;> first | exact .inl rfl | exact .inr rfl | exact .inl (by simp) | exact om_)
theorem zSl {β:Type} {R:Nat × β->CVal->Prop} (hS:ShF R) {Z:Nat} (hz:Z<=900000) {l:List (Nat × β)} (hs:SL.Srt nltB l) {F:CVal} {r:B8} (hx:LRep Z R 2 l F) {w:Nat}  : PuR 60 [.agg [F,.str r],.int .i64 (w:Nat),.nils] fun v=>∃ G,v=.agg [G,.str r]/\LRep Z R 2 (delN w l) G:=by
 intro h hf K hk
 obtain ⟨hu,hut,hX⟩:=fx4 hf
 have pF:=hx.p
 refine pq_ pF fun pX=>?_
 obtain ⟨hl,es,he,hx⟩:=hx
 have l1:=he.len
 rcases hx with ⟨rfl,rfl⟩ | ⟨t,ht,rfl⟩
 . obtain rfl:l=[]:=n0_ l1.symm
   refine mk_ 60 c60 (s_ ?_)
   repeat (first
    | refine vx_ ?_
    | (refine dx_ ?_;refine W.loop ?_)
    | refine W.loop ?_)
   refine rx_ ?_
   refine hk _ _ ⟨_,rfl,LRep.imm .nil (.inr rfl) (by simp [delN])⟩ ?_;exact om_
 have hst:(CVal.imm t 2 es).strip=.imm t 2 es:=by rcases ht with rfl | rfl <;> rfl
 simp only [CVal.strip] at hst
 obtain ⟨L,hLL⟩:∃ L,l.length=L:=⟨_,rfl⟩
 have l2:=l1.trans hLL
 have hpl:=zIo w l
 refine mk_ 60 c60 (s_ ?_)
 have hZ:=j3_ hX hst pX
 repeat ((fail_if_success (show W TF rsL _ _));refine vk_ ?_)
 refine zZk hS hs (L:=L) hLL om_ he (hh:=⟨_,_,_⟩) (w:=w) (r:=r) (t:=t) ?_ ?_ ?_ (posN w l) 0 _ _ om_ (Nat.le_refl _)
 . exact ft_
 . dsimp only;simp (disch:=omega) [zA1]
 intro v4 n' hn'
 dsimp only at hn'
 have htt:List.take L es=es:=List.take_of_length_le om_
 have hpL:(posN w l:Int)<=(L:Int):=by omega
 have hsz:L<=900000:=by omega
 have hsm:∀ n:Nat,n<=3000000->(n<=1073741824)=True:=fun n h=>eq_true om_
 obtain ⟨T,hTT⟩:∃ T,List.take (posN w l) es=T:=⟨_,rfl⟩
 have hT:=he.take (posN w l)
 rw [hTT] at hT
 have hTl:T.length<=L:=by rw [<- hTT,List.length_take];omega
 have sT:=shpL hS hT
 have hln:(l.take (posN w l)).length+(zE4 w l).length<=L:=by
  rw [List.length_take]
  unfold zE4
  split
  . split <;> (rw [List.length_drop];omega)
  . simp;omega
 by_cases hj:posN w l<L
 . obtain ⟨x,hx⟩:∃ x,l[posN w l]? = some x:=⟨_,gE_ om_⟩
   obtain ⟨c,q1,r1⟩:=he.at hx
   obtain ⟨A,rfl,pA⟩:=hS x c r1
   have m1:=zAk q1
   refine pq_ pA fun pA=>?_
   have hlt:((posN w l:Nat):Int)<(L:Int):=by omega
   by_cases hg:x.1=w
   . have hg2:((x.1:Int) == (w:Int))=true:=by simp [hg]
     have hg3:((x.1:Int)=(w:Int))=True:=by simp [hg]
     have hdN:zE4 w l=l.drop (posN w l+1):=by unfold zE4;rw [hx];exact if_pos hg
     obtain ⟨D,hDD⟩:∃ D,List.drop (posN w l+1) es=D:=⟨_,rfl⟩
     have hD:=he.drop (posN w l+1)
     rw [hDD,<- hdN] at hD
     have hDl:D.length<=L:=by rw [<- hDD,List.length_drop];omega
     have sD:=shpL hS hD
     have hrep:∀ G,(G=.imm .none 2 (T++D)\/G=.imm .full 2 (T++D))->LRep Z R 2 (delN w l) G:=fun G hG=>by
      rw [zOd hs]
      rcases hG with rfl | rfl
      . exact LRep.imm (hT.app hD) (.inl rfl) (by rw [List.length_append];omega)
      . exact LRep.imm (hT.app hD) (.inr rfl) (by rw [List.length_append];omega)
     have htp:((posN w l:Nat):Int)+1<=(L:Int):=by omega
     have htn:(((posN w l:Nat):Int)+1).toNat=posN w l+1:=by omega
     generalize posN w l=p at *
     rcases sT with ⟨rfl,pc,hbT⟩ | ⟨kc,Ac,T2,rfl,pc,hbT⟩ <;> rcases sD with ⟨rfl,pd,hbD⟩ | ⟨kd,Ad,D2,rfl,pd,hbD⟩ <;> (
      have hT3:=hTl
      have hD3:=hDl
      simp only [List.length_cons,List.length_nil] at hT3 hD3
      try simp only [CVal.isUndef,CVal.whole,CVal.cells,CVal.strip,CVal.bare] at pc pd
      have hZ:=And.intro (j16_ hX l2 hTT hDD htt hpL hsz hsm q1 m1 pA hlt hg2 hg3 htp htn) (j6_ pc hbT pd hbD hTl hDl)
      repeat (refine vk_ ?_)
      refine rk_ ?_
      refine hk _ _ ⟨_,rfl,hrep _ ?_⟩ ?_ <;> first | exact .inl rfl | exact .inr rfl | exact .inl (by simp) | exact om_)
   . have hg2:((x.1:Int) == (w:Int))=false:=bn_ om_
     have hg3:((x.1:Int)=(w:Int))=False:=eq_false om_
     have hdN:zE4 w l=l.drop (posN w l):=by unfold zE4;rw [hx];exact if_neg hg
     obtain ⟨D,hDD⟩:∃ D,List.drop (posN w l) es=D:=⟨_,rfl⟩
     have hD:=he.drop (posN w l)
     rw [hDD,<- hdN] at hD
     have hDl:D.length<=L:=by rw [<- hDD,List.length_drop];omega
     have sD:=shpL hS hD
     have hrep:∀ G,(G=.imm .none 2 (T++D)\/G=.imm .full 2 (T++D))->LRep Z R 2 (delN w l) G:=fun G hG=>by
      rw [zOd hs]
      rcases hG with rfl | rfl
      . exact LRep.imm (hT.app hD) (.inl rfl) (by rw [List.length_append];omega)
      . exact LRep.imm (hT.app hD) (.inr rfl) (by rw [List.length_append];omega)
     generalize posN w l=p at *
     rcases sT with ⟨rfl,pc,hbT⟩ | ⟨kc,Ac,T2,rfl,pc,hbT⟩ <;> rcases sD with ⟨rfl,pd,hbD⟩ | ⟨kd,Ad,D2,rfl,pd,hbD⟩ <;> (
      have hT3:=hTl
      have hD3:=hDl
      simp only [List.length_cons,List.length_nil] at hT3 hD3
      try simp only [CVal.isUndef,CVal.whole,CVal.cells,CVal.strip,CVal.bare] at pc pd
      have hZ:=And.intro (j14_ hX l2 hTT hDD htt hpL hsz hsm q1 m1 pA hlt hg2 hg3) (j6_ pc hbT pd hbD hTl hDl)
      repeat (refine vk_ ?_)
      refine rk_ ?_
      refine hk _ _ ⟨_,rfl,hrep _ ?_⟩ ?_ <;> first | exact .inl rfl | exact .inr rfl | exact .inl (by simp) | exact om_)
 . have hlt:¬ ((posN w l:Nat):Int)<(L:Int):=by omega
   have hdN:zE4 w l=[]:=by
    unfold zE4
    rw [List.getElem?_eq_none_iff.2 (by omega)]
   obtain ⟨D,hDD⟩:∃ D,List.drop (posN w l) es=D:=⟨_,rfl⟩
   have hD0:D=[]:=by rw [<- hDD];exact List.drop_of_length_le (by omega)
   have hD:All2 R (zE4 w l) D:=by rw [hdN,hD0];exact .nil
   have hDl:D.length<=L:=by rw [hD0];simp
   have sD:=shpL hS hD
   have hrep:∀ G,(G=.imm .none 2 (T++D)\/G=.imm .full 2 (T++D))->LRep Z R 2 (delN w l) G:=fun G hG=>by
    rw [zOd hs]
    rcases hG with rfl | rfl
    . exact LRep.imm (hT.app hD) (.inl rfl) (by rw [List.length_append];omega)
    . exact LRep.imm (hT.app hD) (.inr rfl) (by rw [List.length_append];omega)
   generalize posN w l=p at *
   rcases sT with ⟨rfl,pc,hbT⟩ | ⟨kc,Ac,T2,rfl,pc,hbT⟩ <;> rcases sD with ⟨rfl,pd,hbD⟩ | ⟨kd,Ad,D2,rfl,pd,hbD⟩ <;> (
    have hT3:=hTl
    have hD3:=hDl
    simp only [List.length_cons,List.length_nil] at hT3 hD3
    try simp only [CVal.isUndef,CVal.whole,CVal.cells,CVal.strip,CVal.bare] at pc pd
    have hZ:=And.intro (j9_ hX l2 hTT hDD htt hpL hsz hsm hlt) (j6_ pc hbT pd hbD hTl hDl)
    repeat (refine vk_ ?_)
    refine rk_ ?_
    refine hk _ _ ⟨_,rfl,hrep _ ?_⟩ ?_ <;> first | exact .inl rfl | exact .inr rfl | exact .inl (by simp) | exact om_)
def stA {β:Type} (fr:RW) (o:List (Nat × β)) (g:RW):List (Nat × β):=if g.oo=fr.oo/\g.num≠fr.num then delN g.num o else o
theorem zVy {β:Type} {w:Nat} {l:List (Nat × β)} (h:SL.Srt nltB l):SL.Srt nltB (delN w l):=zDv h
theorem zbb {β:Type} {R:Nat × β->CVal->Prop} (hS:ShF R) {Z:Nat} (hz:Z<=900000) {Ls:List RW} (hl9:Ls.length<=100) {fr:RW} (hoo:0<fr.oo) {n:B8} {O:CVal} {b3 b5 b8:Nat} {hb:CHeap} (hf:Fit hb) (g3:zA1 hb.ents b3=some (.cells [.int .i64 fr.num,.str fr.nm,.int .i64 fr.lab,.int .i64 fr.kind,.str fr.ty,.int .i64 (zAi fr.key),.bool fr.pkd,.int .i64 fr.oo])) (g5:zA1 hb.ents b5=some (.cells [.str n,.imm .none 8 (Ls.map RW.pf),O])) {x0:CObj} (g8:zA1 hb.ents b8=some x0) (n3:b3≠b8) (n5:b5≠b8) {a0 a1 a2 v9:CVal} {r:B8} {fin:List (Nat × β)} {Q:QT}
    (hk:∀ (Fo v6 v7:CVal) (nx:Nat),LRep Z R 2 fin Fo->hb.next<=nx->Q (.exit 0) ⟨[a0,a1,a2,.ptr b3 63963144 0,.int .i64 (Ls.length:Nat),.ptr b5 49283075 0,v6,v7,.ptr b8 37748738 0,v9],⟨zA2 hb.ents b8 (.cells [Fo,.str r]),nx,hb.tys⟩,[]⟩) :
    ∀ (rest:List RW) (k:Nat) (o:List (Nat × β)) (Fo v6 v7:CVal) (nx:Nat),Ls.drop k=rest->k+rest.length=Ls.length->rest.foldl (stA fr) o=fin->SL.Srt nltB o->LRep Z R 2 o Fo->hb.next<=nx->W TF alL ⟨[a0,a1,a2,.ptr b3 63963144 0,.int .i64 (k:Nat),.ptr b5 49283075 0,v6,v7,.ptr b8 37748738 0,v9],⟨zA2 hb.ents b8 (.cells [Fo,.str r]),nx,hb.tys⟩,[]⟩ Q:=by
 have gs3:∀ x,zA1 (zA2 hb.ents b8 x) b3=some (.cells [.int .i64 fr.num,.str fr.nm,.int .i64 fr.lab,.int .i64 fr.kind,.str fr.ty,.int .i64 (zAi fr.key),.bool fr.pkd,.int .i64 fr.oo]):=fun x=>by rw [zA0 n3,g3]
 have gs5:∀ x,zA1 (zA2 hb.ents b8 x) b5=some (.cells [.str n,.imm .none 8 (Ls.map RW.pf),O]):=fun x=>by rw [zA0 n5,g5]
 have lq3:=zA3 hf.1 g3
 have lq5:=zA3 hf.1 g5
 have lq8:=zA3 hf.1 g8
 have hlen:(Ls.map RW.pf).length=Ls.length:=List.length_map ..
 have hooI:(0:Int)<(fr.oo:Int):=by omega
 intro rest
 induction rest with
 | nil =>
  intro k o Fo v6 v7 nx h1 h2 h3 h4 h5 h6
  obtain rfl:k=Ls.length:=by simpa using h2
  obtain rfl:o=fin:=h3
  have hge:¬ (Ls.length:Int)<(Ls.length:Int):=by omega
  refine W.loop ?_
  have hZ:=j5_ gs3 gs5 hlen hge hooI
  try refine wk_ ?_
  refine hk _ _ _ _ h5 ?_;exact om_
 | cons g rest ih =>
  intro k o Fo v6 v7 nx h1 h2 h3 h4 h5 h6
  rw [List.length_cons] at h2
  obtain ⟨hu,hut,hX⟩:=fx4 (show Fit ⟨hb.ents,nx,hb.tys⟩ from ⟨hf.1.le h6,hf.2.le h6⟩)
  have hY:=fx5 (show Fit ⟨hb.ents,nx,hb.tys⟩ from ⟨hf.1.le h6,hf.2.le h6⟩) g8
  dsimp only at hX hu hut hY
  have hp:Ls[k]? = some g:=by
   have:(Ls.drop k)[0]? = some g:=by rw [h1];rfl
   rw [List.getElem?_drop] at this;exact this
  have hd:Ls.drop (k+1)=rest:=by
   have:=congrArg (List.drop 1) h1
   rw [List.drop_drop] at this;exact this
  have hlt:(k:Int)<(Ls.length:Int):=by omega
  have hn:nth (Ls.map RW.pf) k=g.pf:=zCc RW.pf Ls k g hp
  have hn2:(Ls.map RW.pf)[k]? = some g.pf:=by rw [List.getElem?_map,hp];rfl
  have S1:=zSl hS hz h4 h5 (r:=r) (w:=g.num)
  have pFo:=h5.p
  have e3:=h3
  rw [List.foldl_cons] at e3
  have ih1:=fun o Fo v6 v7 nx=>ih (k+1) o Fo v6 v7 nx hd om_
  push_cast at ih1
  generalize hPF:Ls.map RW.pf=PF at *
  unfold RW.pf at hn hn2
  refine pq_ pFo fun w1=>?_
  refine W.loop ?_
  by_cases q1:g.oo=fr.oo
  . have i1:((g.oo:Int) == (fr.oo:Int))=true:=by simp [q1]
    have i1':((g.oo:Int)=(fr.oo:Int))=True:=by simp [q1]
    by_cases q2:g.num=fr.num
    . have i2:((g.num:Int) != (fr.num:Int))=false:=by simp [q2]
      have i2':((g.num:Int)=(fr.num:Int))=True:=by simp [q2]
      have es:stA fr o g=o:=if_neg fun h=>h.2 q2
      rw [es] at e3
      have hZ:=j14_ hX hY gs3 gs5 hlen hlt hn hn2 hooI w1 i1 i1' i2 i2'
      repeat (first
       | refine vk_ ?_)
      refine dk_ ?_
      refine ih1 _ _ _ _ _ e3 h4 h5 ?_;exact om_
    . have i2:((g.num:Int) != (fr.num:Int))=true:=bne_iff_ne.2 om_
      have i2':((g.num:Int)=(fr.num:Int))=False:=eq_false om_
      have es:stA fr o g=delN g.num o:=if_pos ⟨q1,q2⟩
      rw [es] at e3
      have hZ:=j14_ hX hY gs3 gs5 hlen hlt hn hn2 hooI w1 i1 i1' i2 i2'
      repeat (first
       | refine vk_ ?_
       | (refine pr_ (S1) fun v1 n1 RA g1=>?_;obtain ⟨G,rfl,RA⟩:=RA;refine pq_ (RA.p) fun hP=>?_;have hZ:=And.intro hZ hP;refine ⟨rfl,?_⟩))
      refine dk_ ?_
      refine ih1 _ _ _ _ _ e3 (zVy h4) RA ?_;exact om_
  . have i1:((g.oo:Int) == (fr.oo:Int))=false:=bn_ om_
    have i1':((g.oo:Int)=(fr.oo:Int))=False:=eq_false om_
    have es:stA fr o g=o:=if_neg fun h=>q1 h.1
    rw [es] at e3
    have hZ:=j12_ hX hY gs3 gs5 hlen hlt hn hn2 hooI w1 i1 i1'
    repeat (first
     | refine vk_ ?_)
    refine dk_ ?_
    refine ih1 _ _ _ _ _ e3 h4 h5 ?_;exact om_
theorem zYr  {β:Type} {R:Nat × β->CVal->Prop} (hS:ShF R) {Z:Nat} (hz:Z<=900000) {Ls:List RW} (hl9:Ls.length<=100) {fr:RW} (hoo:0<fr.oo) {n:B8} {O:CVal} {b3 b5 b8:Nat} {hb:CHeap} (hf:Fit hb) (g3:zA1 hb.ents b3=some (.cells [.int .i64 fr.num,.str fr.nm,.int .i64 fr.lab,.int .i64 fr.kind,.str fr.ty,.int .i64 (zAi fr.key),.bool fr.pkd,.int .i64 fr.oo])) (g5:zA1 hb.ents b5=some (.cells [.str n,.imm .none 8 (Ls.map RW.pf),O])) {Fo0:CVal} {r:B8} (g8:zA1 hb.ents b8=some (.cells [Fo0,.str r])) (n3:b3≠b8) (n5:b5≠b8) {a0 a1 a2 v6 v7 v9:CVal} {l:List (Nat × β)} (hs:SL.Srt nltB l) (hx:LRep Z R 2 l Fo0) {Q:QT}
    (hk:∀ (Fo v6 v7:CVal) (nx:Nat),LRep Z R 2 (Ls.foldl (stA fr) l) Fo->hb.next<=nx->Q (.exit 0) ⟨[a0,a1,a2,.ptr b3 63963144 0,.int .i64 (Ls.length:Nat),.ptr b5 49283075 0,v6,v7,.ptr b8 37748738 0,v9],⟨zA2 hb.ents b8 (.cells [Fo,.str r]),nx,hb.tys⟩,[]⟩):W TF alL ⟨[a0,a1,a2,.ptr b3 63963144 0,.int .i64 0,.ptr b5 49283075 0,v6,v7,.ptr b8 37748738 0,v9],⟨hb.ents,hb.next,hb.tys⟩,[]⟩ Q:=by
 have:=zbb hS hz hl9 hoo hf g3 g5 g8 n3 n5 (a0:=a0) (a1:=a1) (a2:=a2) (v9:=v9) (r:=r) hk Ls 0 l Fo0 v6 v7 hb.next rfl om_ rfl hs hx (Nat.le_refl _)
 rw [zB1 g8] at this
 exact this
theorem zO1 {β:Type} {fr:RW}:∀ {Ls:List RW} {o:List (Nat × β)},Ls.foldl (stA fr) o=o.filter fun x=>!(Ls.any fun g=>decide (g.oo=fr.oo) && (!decide (g.num=fr.num) && decide (x.1=g.num)))
 | [],o=>(List.filter_eq_self.2 fun _ _=>by simp).symm
 | g::Ls,o=>by
  rw [List.foldl_cons,zO1]
  unfold stA
  split
  . rename_i h
    unfold delN
    rw [List.filter_filter]
    refine List.filter_congr fun x _=>?_
    simp only [List.any_cons,h.1,decide_true,h.2,decide_false,Bool.not_false,Bool.true_and,Bool.not_or]
    exact Bool.and_comm _ _
  . rename_i h
    refine List.filter_congr fun x _=>?_
    simp only [List.any_cons]
    by_cases q1:g.oo=fr.oo
    . have q2:g.num=fr.num:=Classical.not_not.1 fun q2=>h ⟨q1,q2⟩
      simp [q2]
    . simp [q1]
theorem zW9 {β:Type} {Ls:List RW} (hd:(Ls.map RW.num).Nodup) {fr:RW} (hoo:0<fr.oo) (o:List (Nat × β)):Ls.foldl (stA fr) o=o.filter fun x=>!woP Ls fr x.1:=by
 rw [zO1]
 refine List.filter_congr fun x _=>?_
 congr 1
 rw [Bool.eq_iff_iff,List.any_eq_true]
 unfold woP
 constructor
 . rintro ⟨g,hg,h⟩
   simp at h
   obtain ⟨h1,h2,h3⟩:=h
   obtain ⟨j,hj,e⟩:=List.getElem_of_mem hg
   rw [h3,zNy hd (show Ls[j]? = some g by rw [<- e];exact gE_ hj)]
   simp [hoo,h1,h2]
 . intro h
   cases e:fRW Ls x.1 with
   | none=>rw [e] at h;simp at h
   | some g =>
    rw [e] at h
    obtain ⟨m1,m2⟩:=zGo e
    simp at h
    exact ⟨g,m1,by simp only [h.2.1,h.2.2,m2.symm,decide_true,decide_false,Bool.not_false,Bool.and_self]⟩
theorem zb2 {Ls:List RW} (hl9:Ls.length<=100) (hd:(Ls.map RW.num).Nodup) {n:B8} {O:CVal} (HO:PV1 O) {fr:RW} {β:Type} {R:Nat × β->CVal->Prop} (hS:ShF R) {Z:Nat} (hz:Z<=900000) {l:List (Nat × β)} (hs:SL.Srt nltB l) {F:CVal} {r:B8} (hx:LRep Z R 2 l F):PuR 58 [.agg [.str n,lV8 Ls,O],.agg [F,.str r],fr.pf] fun v=>∃ G,v=.agg [G,.str r]/\LRep Z R 2 (l.filter fun x=>!woP Ls fr x.1) G:=by
 intro h hf K hk
 obtain ⟨hu,hut,hX⟩:=fx4 hf
 have pF:=hx.p
 have pL:=lV8P Ls
 refine pq_ pF fun w1=>?_
 refine pq_ pL fun w2=>?_
 refine pq_ HO fun w3=>?_
 unfold RW.pf
 by_cases hoo:0<fr.oo
 . rw [<- zW9 hd hoo l] at hk
   have hooI:(0:Int)<(fr.oo:Int):=by omega
   cases hLs:Ls with
   | nil =>
    subst hLs
    unfold lV8
    refine mk_ 58 c58 (s_ ?_)
    have hZ:=j5_ hX w1 w2 w3 hooI
    repeat (first
     | refine vk_ ?_
     | (refine dk_ ?_;refine W.loop ?_)
     | refine W.loop ?_)
    refine rk_ ?_
    refine hk _ _ ⟨_,rfl,hx⟩ ?_;exact om_
   | cons r0 l0 =>
    have e8:lV8 Ls=.imm .none 8 (Ls.map RW.pf):=by rw [hLs];rfl
    rw [<- hLs,e8]
    refine mk_ 58 c58 (s_ ?_)
    have hZ:=j5_ hX w1 w2 w3 hooI
    repeat ((fail_if_success (show W TF alL _ _));refine vk_ ?_)
    refine zYr hS hz hl9 hoo (n:=n) (O:=O) (r:=r) (Fo0:=F) (hb:=⟨_,_,_⟩) ft_ (by simp (disch:=omega) [zA1]) (by simp (disch:=omega) [zA1]) (by simp (disch:=omega) [zA1]) (by omega) (by omega) hs hx ?_
    intro Fo v6 v7 nx hFo hnx
    dsimp only at hnx
    have pFo:=hFo.p
    refine pq_ pFo fun w7=>?_
    have hZ:=j5_ hX w1 w2 w3 w7
    repeat (first
     | refine vk_ ?_)
    refine rk_ ?_
    refine hk _ _ ⟨_,rfl,hFo⟩ ?_;exact om_
 . have hw:∀ k,woP Ls fr k=false:=fun k=>by
    unfold woP
    split <;> simp [hoo]
   have hfl:l.filter (fun x=>!woP Ls fr x.1)=l:=List.filter_eq_self.2 fun x _=>by rw [hw];rfl
   rw [hfl] at hk
   have hooI:¬ (0:Int)<(fr.oo:Int):=by omega
   refine mk_ 58 c58 (s_ ?_)
   have hZ:=j5_ hX w1 w2 w3 hooI
   repeat (first
    | refine vk_ ?_
    | (refine dk_ ?_;refine W.loop ?_)
    | refine W.loop ?_)
   refine rk_ ?_
   refine hk _ _ ⟨_,rfl,hx⟩ ?_;exact om_
theorem zcf {M:Type} {R:M->CVal->B8->Prop} {e:M} {kd:Nat} (hK:KK kd) {qo:List (BV × (BV × M))} (hs:SL.Srt (ltV (sgK kd)) qo) (hko:∀ x ∈ qo,kokK kd x.1) {es:List CVal} {L:Nat} (hL:2 * qo.length=L) (hL6:L<=1000000) (hE:All2 (RV R) (zB2 e qo) es) {kb:BV} (hkb:kokK kd kb) {Fb:CVal} {rb:B8} (pFb:PV1 Fb) {bq:Nat} {t:Tag} {hh:CHeap} (hf:Fit hh) (hg:zA1 hh.ents bq=some (.cells [.int .u64 kb.1,.str kb.2,Fb,.str rb])) {v0 v1 v7 v8 v9 v10:CVal} {Q:QT}
    (hk:∀ (v6:CVal) n',hh.next<=n'->Q (.exit 0) ⟨[v0,v1,.int .i64 (2 * posK (ltV (sgK kd)) kb qo:Nat),.imm t 4 es,.int .i64 (kd:Nat),.ptr bq 53477380 0,v6,v7,v8,v9,v10],⟨hh.ents,n',hh.tys⟩,[]⟩) :
    ∀ (m j nx:Nat) (v6:CVal),j+m=posK (ltV (sgK kd)) kb qo->hh.next<=nx->W TF rpL ⟨[v0,v1,.int .i64 (2 * j:Nat),.imm t 4 es,.int .i64 (kd:Nat),.ptr bq 53477380 0,v6,v7,v8,v9,v10],⟨hh.ents,nx,hh.tys⟩,[]⟩ Q:=by
 have O:=ordV (sgK kd)
 have hlen:=hE.len
 rw [zB0] at hlen
 have hlr:es.length=L:=by omega
 refine pq_ pFb fun pb=>?_
 have lq:=zA3 hf.1 hg
 intro m
 induction m with
 | zero =>
  intro j nx v6 h1 h2
  obtain rfl:j=posK (ltV (sgK kd)) kb qo:=by omega
  obtain ⟨hu,hut,hX⟩:=fx4 (show Fit ⟨hh.ents,nx,hh.tys⟩ from ⟨hf.1.le h2,hf.2.le h2⟩)
  dsimp only at hX hu hut
  have hpl:=zHz (ltV (sgK kd)) kb qo
  by_cases hj:posK (ltV (sgK kd)) kb qo<qo.length
  . obtain ⟨x,hx⟩:∃ x,qo[posK (ltV (sgK kd)) kb qo]? = some x:=⟨_,gE_ hj⟩
    have hnl:¬ ltV (sgK kd) x.1 kb=true:=fun g=>Nat.lt_irrefl _ ((zFh O hs hx).1 g)
    have hc:=zOg hnl
    obtain ⟨c,q1,r1⟩:=hE.at (zC6 (e:=e) (show qo[_]? = some (x.1,x.2) from hx)).1
    obtain ⟨F,r,rfl,_,_,pF,_⟩:=r1
    have m1:=zAk q1
    have C:=zRk hK (hko x (List.mem_of_getElem? hx)) hkb (r:=r) (s:=rb) pF pFb
    dsimp only at m1 C hc q1
    generalize cmpV (sgK kd) x.1 kb=z at *
    refine pq_ pF fun pF=>?_
    generalize posK (ltV (sgK kd)) kb qo=p at *
    obtain ⟨w,hw⟩:∃ w,2 * p=w:=⟨_,rfl⟩
    rw [hw] at hk m1 q1 ⊢
    have hlt:(w:Int)<(L:Int):=by omega
    refine W.loop ?_
    have hZ:=j9_ hX hg hlt hlr q1 m1 pF pb hc
    repeat (first
     | refine vk_ ?_
     | (refine pe_ (C) fun n1 hn1=>⟨rfl,?_⟩))
    refine hk _ _ ?_;exact om_
  . have hge:¬ ((2 * posK (ltV (sgK kd)) kb qo:Nat):Int)<(L:Int):=by omega
    generalize 2 * posK (ltV (sgK kd)) kb qo=p at *
    refine W.loop ?_
    have hZ:=j4_ hX hg hge hlr
    repeat (first
     | refine vk_ ?_)
    refine hk _ _ ?_;exact om_
 | succ m ih =>
  intro j nx v6 h1 h2
  obtain ⟨hu,hut,hX⟩:=fx4 (show Fit ⟨hh.ents,nx,hh.tys⟩ from ⟨hf.1.le h2,hf.2.le h2⟩)
  dsimp only at hX hu hut
  have hpl:=zHz (ltV (sgK kd)) kb qo
  have hj:j<qo.length:=by omega
  obtain ⟨x,hx⟩:∃ x,qo[j]? = some x:=⟨_,gE_ hj⟩
  have hc:=zNa ((zFh O (k:=kb) hs hx).2 om_)
  obtain ⟨c,q1,r1⟩:=hE.at (zC6 (e:=e) (show qo[_]? = some (x.1,x.2) from hx)).1
  obtain ⟨F,r,rfl,_,_,pF,_⟩:=r1
  have m1:=zAk q1
  have C:=zRk hK (hko x (List.mem_of_getElem? hx)) hkb (r:=r) (s:=rb) pF pFb
  dsimp only at m1 C hc q1
  generalize cmpV (sgK kd) x.1 kb=z at *
  refine pq_ pF fun pF=>?_
  obtain ⟨w,hw⟩:∃ w,2 * j=w:=⟨_,rfl⟩
  have hlt:(w:Int)<(L:Int):=by omega
  have ih1:=fun nx v6=>ih (j+1) nx v6 om_
  have e2:((2 * (j+1):Nat):Int)=(w:Int)+2:=by omega
  rw [e2] at ih1
  rw [hw] at m1 q1 ⊢
  refine W.loop ?_
  have hZ:=j9_ hX hg hlt hlr q1 m1 pF pb hc
  repeat (first
   | refine vk_ ?_
   | (refine pe_ (C) fun n1 hn1=>⟨rfl,?_⟩))
  refine dk_ ?_
  refine ih1 _ _ ?_;exact om_
def zFa {K V:Type} (lt:K->K->Bool) (k:K) (l:List (K × V)):List (K × V):=match l[posK lt k l]? with
 | some x=>if lt k x.1 then l.drop (posK lt k l) else l.drop (posK lt k l+1)
 | none=>[]
theorem zPw {K V:Type} {lt:K->K->Bool} (O:SL.Ord lt) {k:K} {v:V} {l:List (K × V)} (hs:SL.Srt lt l):SL.put lt k v l=l.take (posK lt k l)++(k,v)::zFa lt k l:=by
 unfold zFa
 cases e:l[posK lt k l]? with
 | none =>
  rw [zNs fun x hx=>by rw [e] at hx;cases hx]
  rw [List.drop_of_length_le (List.getElem?_eq_none_iff.1 e)]
 | some x =>
  dsimp only
  by_cases g:lt k x.1=true
  . rw [if_pos g,zNs fun y hy=>by rw [e] at hy;cases hy;exact g]
  . have h1:x.1=k:=O.tri _ _ (by cases h:lt x.1 k with | false=>rfl | true=>exact absurd ((zFh O (k:=k) hs e).1 h) (Nat.lt_irrefl _)) (by simpa using g)
    rw [if_neg g,zRm e g,List.set_eq_take_append_cons_drop,if_pos (gs_ e).1,h1]
theorem shpV {M:Type} {R:M->CVal->B8->Prop} {l':List (BV × M)} {T:List CVal} (ha:All2 (RV R) l' T):(T=[]/\Nonempty Nat/\True)\/∃ (x:BV × M) (F:CVal) (r:B8) (T2:List CVal),T=.agg [.int .u64 x.1.1,.str x.1.2,F,.str r]::T2/\(F.isUndef=false/\F.whole=true/\F.cells=[F]/\F.strip=F/\F.bare=F)/\T2.map CVal.bare=T2:=by
 have hb:=zCn ha fun x _ c hc=>hc.bare
 cases ha with
 | nil=>exact .inl ⟨rfl,⟨0⟩,trivial⟩
 | cons h1 h2 =>
  obtain ⟨F,r,rfl,_,_,p,_⟩:=h1
  exact .inr ⟨_,F,r,_,rfl,⟨p.u,p.w,p.c,p.s,p.b⟩,(List.cons.inj hb).2⟩
theorem zUi {M:Type} {R:M->CVal->B8->Prop} {e:M} {kd:Nat} (hK:KK kd) {qo:List (BV × (BV × M))} (hs:SL.Srt (ltV (sgK kd)) qo) (hko:∀ x ∈ qo,kokK kd x.1) {kb:BV} (hkb:kokK kd kb) {vb:BV × M} {cb cv:CVal} (hcb:RV R (kb,e) cb) (hcv:RV R vb cv) {Z:Nat} (hz:Z<=400000) {X:CVal} (hx:LRep Z (RV R) 4 (zB2 e qo) X):PuR 25 [.int .i64 (kd:Nat),X,cb,cv] (LRep (Z+2) (RV R) 4 (zB2 e (SL.put (ltV (sgK kd)) kb vb qo))):=by
 intro h hf K hk
 obtain ⟨hu,hut,hX⟩:=fx4 hf
 obtain ⟨lb0,ls0⟩:=lbs_
 have O:=ordV (sgK kd)
 obtain ⟨Fb,rb,rfl,_,_,pFb,hR0⟩:=id hcb
 obtain ⟨Fv,rv,rfl,_,_,pFv,_⟩:=id hcv
 dsimp only at *
 refine pq_ pFb fun pb=>?_
 refine pq_ pFv fun pv=>?_
 obtain ⟨hl,es,he,hx⟩:=hx
 have l1:=he.len
 rw [zB0] at hl l1
 rcases hx with ⟨rfl,rfl⟩ | ⟨t,ht,rfl⟩
 . have e1:qo=[]:=n0_ (by rw [List.length_nil] at l1;omega)
   subst e1
   refine mk_ 25 c25 (s_ ?_)
   have hZ:=j5_ hX pb pv lb0 ls0
   repeat (first
    | refine vk_ ?_
    | (refine dk_ ?_;refine W.loop ?_)
    | refine W.loop ?_)
   refine rk_ ?_
   refine hk _ _ (LRep.imm (.cons hcb (.cons hcv .nil)) (.inl rfl) (by simp [SL.put,zB2])) ?_;exact om_
 have hst:(CVal.imm t 4 es).strip=.imm t 4 es:=by rcases ht with rfl | rfl <;> rfl
 simp only [CVal.strip] at hst
 obtain ⟨L,hLL⟩:∃ L,2 * qo.length=L:=⟨_,rfl⟩
 have l2:es.length=L:=by omega
 have hpl:=zHz (ltV (sgK kd)) kb qo
 refine mk_ 25 c25 (s_ ?_)
 have hZ:=j4_ hX hst pb pv
 repeat ((fail_if_success (show W TF rpL _ _));refine vk_ ?_)
 refine zcf hK hs hko hLL om_ he hkb pFb (hh:=⟨_,_,_⟩) (rb:=rb) ?_ ?_ ?_ (posK (ltV (sgK kd)) kb qo) 0 _ _ om_ (Nat.le_refl _)
 . exact ft_
 . dsimp only;simp (disch:=omega) [zA1]
 intro v6 n' hn'
 dsimp only at hn'
 have htt:List.take L es=es:=List.take_of_length_le om_
 have hsz:L<=400000:=by omega
 have hsm:∀ n:Nat,n<=3000000->(n<=1073741824)=True:=fun n h=>eq_true om_
 obtain ⟨w,hw⟩:∃ w,2 * posK (ltV (sgK kd)) kb qo=w:=⟨_,rfl⟩
 have hwL:(w:Int)<=(L:Int):=by omega
 obtain ⟨T,hTT⟩:∃ T,List.take w es=T:=⟨_,rfl⟩
 have hT:=he.take (2 * posK (ltV (sgK kd)) kb qo)
 rw [hw,hTT,<- hw,zFw] at hT
 have hTl:T.length<=L:=by rw [<- hTT,List.length_take];omega
 have sT:=shpV hT
 by_cases hj:posK (ltV (sgK kd)) kb qo<qo.length
 . obtain ⟨x,hx⟩:∃ x,qo[posK (ltV (sgK kd)) kb qo]? = some x:=⟨_,gE_ hj⟩
   have hnlt:¬ ltV (sgK kd) x.1 kb=true:=fun g=>Nat.lt_irrefl _ ((zFh O hs hx).1 g)
   obtain ⟨ck,q1,r1⟩:=he.at (zC6 (e:=e) (show qo[_]? = some (x.1,x.2) from hx)).1
   obtain ⟨F,r,rfl,_,_,pF,_⟩:=r1
   have m1:=zAk q1
   have C:=zRk hK (hko x (List.mem_of_getElem? hx)) hkb (r:=r) (s:=rb) pF pFb
   dsimp only at m1 C q1
   refine pq_ pF fun pF=>?_
   have hlt:(w:Int)<(L:Int):=by omega
   by_cases hg:ltV (sgK kd) kb x.1=true
   . have hc:=zRw hnlt hg
     have hc2:(cmpV (sgK kd) x.1 kb=0)=False:=by simpa using hc
     have hdN:zFa (ltV (sgK kd)) kb qo=qo.drop (posK (ltV (sgK kd)) kb qo):=by unfold zFa;rw [hx];exact if_pos hg
     obtain ⟨D,hDD⟩:∃ D,List.drop w es=D:=⟨_,rfl⟩
     have hD:=he.drop (2 * posK (ltV (sgK kd)) kb qo)
     rw [hw,hDD,<- hw,zEi,<- hdN] at hD
     have hDl:D.length<=L:=by rw [<- hDD,List.length_drop];omega
     have sD:=shpV hD
     have hln:(qo.take (posK (ltV (sgK kd)) kb qo)).length+(zFa (ltV (sgK kd)) kb qo).length<=qo.length:=by
      rw [List.length_take]
      unfold zFa
      split
      . split <;> (rw [List.length_drop];omega)
      . simp;omega
     have hrep:∀ G,(G=.imm .none 4 (T++(.agg [.int .u64 kb.1,.str kb.2,Fb,.str rb])::(.agg [.int .u64 vb.1.1,.str vb.1.2,Fv,.str rv])::D)\/G=.imm .full 4 (T++(.agg [.int .u64 kb.1,.str kb.2,Fb,.str rb])::(.agg [.int .u64 vb.1.1,.str vb.1.2,Fv,.str rv])::D))->LRep (Z+2) (RV R) 4 (zB2 e (SL.put (ltV (sgK kd)) kb vb qo)) G:=fun G hG=>by
      rw [zPw O hs,zEh]
      have hl:(zB2 e (qo.take (posK (ltV (sgK kd)) kb qo))++zB2 e ((kb,vb)::zFa (ltV (sgK kd)) kb qo)).length<=Z+2:=by
       rw [List.length_append,zB0,zB0,List.length_cons];omega
      rcases hG with rfl | rfl
      . exact LRep.imm (hT.app (.cons hcb (.cons hcv hD))) (.inl rfl) hl
      . exact LRep.imm (hT.app (.cons hcb (.cons hcv hD))) (.inr rfl) hl
     generalize cmpV (sgK kd) x.1 kb=z at *
     rw [hw] at m1 q1 ⊢
     generalize posK (ltV (sgK kd)) kb qo=p at *
     rcases sT with ⟨rfl,pc,hbT⟩ | ⟨xc,Fc,rc,T2,rfl,pc,hbT⟩ <;> rcases sD with ⟨rfl,pd,hbD⟩ | ⟨xd,Fd,rd,D2,rfl,pd,hbD⟩ <;> (
      have hT3:=hTl
      have hD3:=hDl
      simp only [List.length_cons,List.length_nil] at hT3 hD3
      try simp only [CVal.isUndef,CVal.whole,CVal.cells,CVal.strip,CVal.bare] at pc pd
      have hZ:=And.intro (j18_ hX lb0 ls0 l2 hTT hDD htt hwL hsz hsm pb pv q1 m1 pF hlt hc hc2) (j6_ pc hbT pd hbD hTl hDl)
      repeat (first
       | refine vk_ ?_
       | (refine pe_ (C) fun n1 hn1=>⟨rfl,?_⟩))
      refine rk_ ?_
      refine hk _ _ (hrep _ ?_) ?_ <;> first | exact .inl rfl | exact .inr rfl | exact .inl (by simp) | exact om_)
   . have hc:=zQq hnlt hg
     have hc2:(cmpV (sgK kd) x.1 kb=0)=True:=by simpa using hc
     have hdN:zFa (ltV (sgK kd)) kb qo=qo.drop (posK (ltV (sgK kd)) kb qo+1):=by unfold zFa;rw [hx];exact if_neg hg
     obtain ⟨D,hDD⟩:∃ D,List.drop (w+2) es=D:=⟨_,rfl⟩
     have hD:=he.drop (2 * (posK (ltV (sgK kd)) kb qo+1))
     rw [show 2 * (posK (ltV (sgK kd)) kb qo+1)=w+2 by omega,hDD,<- show 2 * (posK (ltV (sgK kd)) kb qo+1)=w+2 by omega,zEi,<- hdN] at hD
     have hDl:D.length<=L:=by rw [<- hDD,List.length_drop];omega
     have sD:=shpV hD
     have htp:(w:Int)+2<=(L:Int):=by omega
     have htn:((w:Int)+2).toNat=w+2:=by omega
     have hln:(qo.take (posK (ltV (sgK kd)) kb qo)).length+(zFa (ltV (sgK kd)) kb qo).length<=qo.length:=by
      rw [List.length_take]
      unfold zFa
      split
      . split <;> (rw [List.length_drop];omega)
      . simp;omega
     have hrep:∀ G,(G=.imm .none 4 (T++(.agg [.int .u64 kb.1,.str kb.2,Fb,.str rb])::(.agg [.int .u64 vb.1.1,.str vb.1.2,Fv,.str rv])::D)\/G=.imm .full 4 (T++(.agg [.int .u64 kb.1,.str kb.2,Fb,.str rb])::(.agg [.int .u64 vb.1.1,.str vb.1.2,Fv,.str rv])::D))->LRep (Z+2) (RV R) 4 (zB2 e (SL.put (ltV (sgK kd)) kb vb qo)) G:=fun G hG=>by
      rw [zPw O hs,zEh]
      have hl:(zB2 e (qo.take (posK (ltV (sgK kd)) kb qo))++zB2 e ((kb,vb)::zFa (ltV (sgK kd)) kb qo)).length<=Z+2:=by
       rw [List.length_append,zB0,zB0,List.length_cons];omega
      rcases hG with rfl | rfl
      . exact LRep.imm (hT.app (.cons hcb (.cons hcv hD))) (.inl rfl) hl
      . exact LRep.imm (hT.app (.cons hcb (.cons hcv hD))) (.inr rfl) hl
     generalize cmpV (sgK kd) x.1 kb=z at *
     rw [hw] at m1 q1 ⊢
     generalize posK (ltV (sgK kd)) kb qo=p at *
     rcases sT with ⟨rfl,pc,hbT⟩ | ⟨xc,Fc,rc,T2,rfl,pc,hbT⟩ <;> rcases sD with ⟨rfl,pd,hbD⟩ | ⟨xd,Fd,rd,D2,rfl,pd,hbD⟩ <;> (
      have hT3:=hTl
      have hD3:=hDl
      simp only [List.length_cons,List.length_nil] at hT3 hD3
      try simp only [CVal.isUndef,CVal.whole,CVal.cells,CVal.strip,CVal.bare] at pc pd
      have hZ:=And.intro (j20_ hX lb0 ls0 l2 hTT hDD htt hwL hsz hsm pb pv q1 m1 pF hlt hc hc2 htp htn) (j6_ pc hbT pd hbD hTl hDl)
      repeat (first
       | refine vk_ ?_
       | (refine pe_ (C) fun n1 hn1=>⟨rfl,?_⟩))
      refine rk_ ?_
      refine hk _ _ (hrep _ ?_) ?_ <;> first | exact .inl rfl | exact .inr rfl | exact .inl (by simp) | exact om_)
 . have hlt:¬ (w:Int)<(L:Int):=by omega
   have hdN:zFa (ltV (sgK kd)) kb qo=[]:=by
    unfold zFa
    rw [List.getElem?_eq_none_iff.2 (by omega)]
   obtain ⟨D,hDD⟩:∃ D,List.drop w es=D:=⟨_,rfl⟩
   have hD0:D=[]:=by rw [<- hDD];exact List.drop_of_length_le (by omega)
   have hD:All2 (RV R) (zB2 e (zFa (ltV (sgK kd)) kb qo)) D:=by rw [hdN,hD0];exact .nil
   have hDl:D.length<=L:=by rw [hD0];simp
   have sD:=shpV hD
   have hln:(qo.take (posK (ltV (sgK kd)) kb qo)).length+(zFa (ltV (sgK kd)) kb qo).length<=qo.length:=by
    rw [List.length_take]
    unfold zFa
    split
    . split <;> (rw [List.length_drop];omega)
    . simp;omega
   have hrep:∀ G,(G=.imm .none 4 (T++(.agg [.int .u64 kb.1,.str kb.2,Fb,.str rb])::(.agg [.int .u64 vb.1.1,.str vb.1.2,Fv,.str rv])::D)\/G=.imm .full 4 (T++(.agg [.int .u64 kb.1,.str kb.2,Fb,.str rb])::(.agg [.int .u64 vb.1.1,.str vb.1.2,Fv,.str rv])::D))->LRep (Z+2) (RV R) 4 (zB2 e (SL.put (ltV (sgK kd)) kb vb qo)) G:=fun G hG=>by
    rw [zPw O hs,zEh]
    have hl:(zB2 e (qo.take (posK (ltV (sgK kd)) kb qo))++zB2 e ((kb,vb)::zFa (ltV (sgK kd)) kb qo)).length<=Z+2:=by
     rw [List.length_append,zB0,zB0,List.length_cons];omega
    rcases hG with rfl | rfl
    . exact LRep.imm (hT.app (.cons hcb (.cons hcv hD))) (.inl rfl) hl
    . exact LRep.imm (hT.app (.cons hcb (.cons hcv hD))) (.inr rfl) hl
   rw [hw]
   generalize posK (ltV (sgK kd)) kb qo=p at *
   rcases sT with ⟨rfl,pc,hbT⟩ | ⟨xc,Fc,rc,T2,rfl,pc,hbT⟩ <;> rcases sD with ⟨rfl,pd,hbD⟩ | ⟨xd,Fd,rd,D2,rfl,pd,hbD⟩ <;> (
    have hT3:=hTl
    have hD3:=hDl
    simp only [List.length_cons,List.length_nil] at hT3 hD3
    try simp only [CVal.isUndef,CVal.whole,CVal.cells,CVal.strip,CVal.bare] at pc pd
    have hZ:=And.intro (j13_ hX lb0 ls0 l2 hTT hDD htt hwL hsz hsm pb pv hlt) (j6_ pc hbT pd hbD hTl hDl)
    repeat (first
     | refine vk_ ?_
     | (refine pe_ (C) fun n1 hn1=>⟨rfl,?_⟩))
    refine rk_ ?_
    refine hk _ _ (hrep _ ?_) ?_ <;> first | exact .inl rfl | exact .inr rfl | exact .inl (by simp) | exact om_)
theorem zLq {fr:RW} {s1 s2 LV O Fo Y:CVal} (pS1:PV1 s1) (pS2:PV1 s2) (pL:PV1 LV) (HO:PV1 O) (pFo:PV1 Fo) {t:B8} {r:B8} {P1 P2 P3 P4:CVal->Prop} (h1:∀ v,P1 v->PV1 v) (h2:∀ v,P2 v->PV1 v) (h4:∀ v,P4 v->PV1 v) (H1:PuR 58 [.agg [.str t,LV,O],.agg [Fo,.str r],fr.pf] fun v=>∃ G,v=.agg [G,.str r]/\P1 G) (H2:∀ G,P1 G->PuR 59 [.agg [G,.str r],.int .i64 (fr.num:Nat)] fun v=>∃ A bl,v=.tup [A,.bool bl]/\P2 A) (H3:∀ G V,P1 G->P3 V->PuR 60 [.agg [G,.str r],.int .i64 (fr.num:Nat),V] fun v=>∃ G',v=.agg [G',.str r]/\P4 G') (hl2:fr.lab≠2) (hl3:fr.lab≠3) (pY:PV1 Y) (hc:fr.kind≠16\/∀ v,P2 v->v=.nils) (hY:P3 Y):PuR 27 [.agg [s1,s2],.agg [.str t,LV,O],fr.pf,.agg [Fo,.str r],Y] fun v=>∃ G',v=.agg [G',.str r]/\P4 G':=by
 intro h hf K hk
 obtain ⟨hu,hut,hX⟩:=fx4 hf
 obtain ⟨lb0,ls0⟩:=lbs_
 refine pq_ pS1 fun w1=>?_
 refine pq_ pS2 fun w2=>?_
 refine pq_ pL fun w3=>?_
 refine pq_ HO fun w4=>?_
 refine pq_ pFo fun w5=>?_
 refine pq_ pY fun w6=>?_
 unfold RW.pf at *
 have e2:((fr.lab:Int) == 2)=false:=bn_ om_
 have e3:((fr.lab:Int) == 3)=false:=bn_ om_
 have e2':((fr.lab:Int)=2)=False:=eq_false om_
 have e3':((fr.lab:Int)=3)=False:=eq_false om_
 by_cases hk16:fr.kind=16
 . rcases hc with hc | hc
   . exact absurd hk16 hc
   . have e4:((fr.kind:Int) == 16)=true:=by simp [hk16]
     have e4':((fr.kind:Int)=16)=True:=by simp [hk16]
     refine mk_ 27 c27 (s_ ?_)
     have hZ:=j15_ hX lb0 ls0 w1 w2 w3 w4 w5 w6 e2 e3 e2' e3' e4 e4'
     repeat (first
      | refine vk_ ?_
      | (refine pr_ (H1) fun v1 n1 RA g1=>?_;obtain ⟨G1,rfl,RA⟩:=RA;refine pq_ (h1 _ RA) fun hP=>?_;have hZ:=And.intro hZ hP;refine ⟨rfl,?_⟩)
      | (refine pr_ (H2 _ RA) fun v1 n1 RB g1=>?_;obtain ⟨A1,bl,rfl,RB⟩:=RB;obtain rfl:=hc _ RB;refine pq_ (h2 _ RB) fun hP=>?_;have hZ:=And.intro hZ hP;refine ⟨rfl,?_⟩)
      | (refine pr_ (H3 _ _ RA hY) fun v1 n1 RC g1=>?_;obtain ⟨G2,rfl,RC⟩:=RC;refine pq_ (h4 _ RC) fun hP=>?_;have hZ:=And.intro hZ hP;refine ⟨rfl,?_⟩))
     refine rk_ ?_
     refine hk _ _ ⟨_,rfl,RC⟩ ?_;exact om_
 . have e4:((fr.kind:Int) == 16)=false:=bn_ om_
   have e4':((fr.kind:Int)=16)=False:=eq_false om_
   refine mk_ 27 c27 (s_ ?_)
   have hZ:=j15_ hX lb0 ls0 w1 w2 w3 w4 w5 w6 e2 e3 e2' e3' e4 e4'
   repeat (first
    | refine vk_ ?_
    | (refine pr_ (H1) fun v1 n1 RA g1=>?_;obtain ⟨G1,rfl,RA⟩:=RA;refine pq_ (h1 _ RA) fun hP=>?_;have hZ:=And.intro hZ hP;refine ⟨rfl,?_⟩)
    | (refine pr_ (H2 _ RA) fun v1 n1 RB g1=>?_;obtain ⟨A1,bl,rfl,RB⟩:=RB;refine pq_ (h2 _ RB) fun hP=>?_;have hZ:=And.intro hZ hP;refine ⟨rfl,?_⟩)
    | (refine pr_ (H3 _ _ RA hY) fun v1 n1 RC g1=>?_;obtain ⟨G2,rfl,RC⟩:=RC;refine pq_ (h4 _ RC) fun hP=>?_;have hZ:=And.intro hZ hP;refine ⟨rfl,?_⟩))
   refine rk_ ?_
   refine hk _ _ ⟨_,rfl,RC⟩ ?_;exact om_
theorem zQs {my:Int} {xy:B8} {Fy:CVal} {ry:B8} {fr:RW} {s1 s2 LV O Fo Y:CVal} (pS1:PV1 s1) (pS2:PV1 s2) (pL:PV1 LV) (HO:PV1 O) (pFo:PV1 Fo) {t:B8} {r:B8} {P1 P2 P3 P4:CVal->Prop} (h1:∀ v,P1 v->PV1 v) (h2:∀ v,P2 v->PV1 v) (h4:∀ v,P4 v->PV1 v) (H1:PuR 58 [.agg [.str t,LV,O],.agg [Fo,.str r],fr.pf] fun v=>∃ G,v=.agg [G,.str r]/\P1 G) (H2:∀ G,P1 G->PuR 59 [.agg [G,.str r],.int .i64 (fr.num:Nat)] fun v=>∃ A bl,v=.tup [A,.bool bl]/\P2 A) (H3:∀ G V,P1 G->P3 V->PuR 60 [.agg [G,.str r],.int .i64 (fr.num:Nat),V] fun v=>∃ G',v=.agg [G',.str r]/\P4 G') (hl2:fr.lab≠2) (hl3:fr.lab≠3) (hk16:fr.kind=16) (hP2:∀ v,P2 v->∃ (t0:Tag) (m:Int) (x:B8) (F2:CVal) (r2:B8),zGg t0/\v=.imm t0 4 [.agg [.int .u64 m,.str x,F2,.str r2]]/\PV1 F2/\PuR 15 [.agg [s1,s2],.str fr.ty,.agg [F2,.str r2],.agg [Fy,.str ry]] fun v=>∃ G u,v=.agg [G,.str u]/\PV1 G/\P3 (.imm .full 4 [.agg [.int .u64 0,.str [],G,.str u]])) (hY:∃ (t1:Tag),zGg t1/\Y=.imm t1 4 [.agg [.int .u64 my,.str xy,Fy,.str ry]]/\PV1 Fy):PuR 27 [.agg [s1,s2],.agg [.str t,LV,O],fr.pf,.agg [Fo,.str r],Y] fun v=>∃ G',v=.agg [G',.str r]/\P4 G':=by
 intro h hf K hk
 obtain ⟨hu,hut,hX⟩:=fx4 hf
 obtain ⟨lb0,ls0⟩:=lbs_
 refine pq_ pS1 fun w1=>?_
 refine pq_ pS2 fun w2=>?_
 refine pq_ pL fun w3=>?_
 refine pq_ HO fun w4=>?_
 refine pq_ pFo fun w5=>?_
 obtain ⟨t1,ht1,rfl,pFy⟩:=hY
 refine pq_ pFy fun w6=>?_
 unfold RW.pf at *
 have hst1:(CVal.imm t1 4 [.agg [.int .u64 my,.str xy,Fy,.str ry]]).strip=.imm t1 4 [.agg [.int .u64 my,.str xy,Fy,.str ry]]:=by rcases ht1 with rfl | rfl <;> rfl
 simp only [CVal.strip] at hst1
 have e2:((fr.lab:Int) == 2)=false:=bn_ om_
 have e3:((fr.lab:Int) == 3)=false:=bn_ om_
 have e2':((fr.lab:Int)=2)=False:=eq_false om_
 have e3':((fr.lab:Int)=3)=False:=eq_false om_
 have e4:((fr.kind:Int) == 16)=true:=by simp [hk16]
 have e4':((fr.kind:Int)=16)=True:=by simp [hk16]
 refine mk_ 27 c27 (s_ ?_)
 have hZ:=j16_ hX lb0 ls0 w1 w2 w3 w4 w5 w6 hst1 e2 e3 e2' e3' e4 e4'
 repeat (first
  | refine vk_ ?_
  | (refine pr_ (H1) fun v1 n1 RA g1=>?_;obtain ⟨G1,rfl,RA⟩:=RA;refine pq_ (h1 _ RA) fun hP=>?_;have hZ:=And.intro hZ hP;refine ⟨rfl,?_⟩)
  | (refine pr_ (H2 _ RA) fun v1 n1 RB g1=>?_;obtain ⟨A1,bl,rfl,RB⟩:=RB;obtain ⟨t0,m,x,F2,r2,ht0,rfl,pF2,HM⟩:=hP2 _ RB;refine pq_ (pF2) fun hP=>?_;have hZ:=And.intro hZ hP;refine ⟨by cases t0 <;> rfl,?_⟩)
  | (refine pr_ (HM) fun v1 n1 RM g1=>?_;obtain ⟨G3,u3,rfl,pG3,RM⟩:=RM;refine pq_ (pG3) fun hP=>?_;have hZ:=And.intro hZ hP;refine ⟨rfl,?_⟩)
  | (refine pr_ (H3 _ _ RA RM) fun v1 n1 RC g1=>?_;obtain ⟨G2,rfl,RC⟩:=RC;refine pq_ (h4 _ RC) fun hP=>?_;have hZ:=And.intro hZ hP;refine ⟨rfl,?_⟩))
 refine rk_ ?_
 refine hk _ _ ⟨_,rfl,RC⟩ ?_;exact om_
end Go.Proofs.YtafeofghkhhhkaaGreat.IrM
