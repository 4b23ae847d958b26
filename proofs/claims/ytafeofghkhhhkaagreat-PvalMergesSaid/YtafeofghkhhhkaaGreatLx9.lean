/- What the functions of the law 'PvalMerges' do: part 9 of 9. -/
import Derived.Test.YtafeofghkhhhkaaGreatLx8
namespace Go.Proofs.YtafeofghkhhhkaaGreat.IrM
open Go Go.CI
set_option maxRecDepth 100000
set_option maxHeartbeats 4000000
set_option linter.unusedVariables false
set_option linter.unusedSimpArgs false
attribute [local irreducible] W Wo Wc WoR
theorem Fr0.base {n0 p:Nat} {E:EE} {L:CVal} {j:Int} {o:CObj} (hu:Under E n0) (hg:zA1 E p=some o):Fr0 n0 E p L [] j (zA2 E p (pk L j)) n0 :=
 ⟨⟨[],rfl,fun x hx=>(by cases hx),hu.set⟩,hu.set,Nat.le_refl _,zA3 hu hg,zA4 hg,fun x hx=>(by cases hx)⟩
theorem zW8 {a b:BD} (ha:a.ok 4) (hb:b.ok 7):MsC a b 1 5:=by
 intro t ht E nx ty p d L o hu hut hg hL j hj0 hj1 K hk
 have hY:=fxp hu hg
 have lp:=zA3 hu hg
 obtain ⟨S1,S2,hS,pS1,pS2⟩:=schS a b
 have hX3:∀ q,nx<=q->zA1 E q=none:=fun q hq=>zAc hu hq
 have PC:∃ (c:BD) (O:CVal),PV1 O/\Pe 22 [schV a b,.str t] (.tup [.agg [.str t,lV8 (zAd c.rs),O],.bool true]):=by
  rcases ht with rfl | rfl
  . exact ⟨a,_,oV1P _,rm_I⟩
  . exact ⟨b,_,oV1P _,rm_M⟩
 obtain ⟨c,O,HO,PC⟩:=PC
 rw [hS] at PC ⊢
 have pL:=lV8P (zAd c.rs)
 refine pq_ pS1 fun w1=>?_
 refine pq_ pS2 fun w2=>?_
 refine pq_ HO fun w3=>?_
 refine pq_ pL fun w4=>?_
 refine mk_ 9 c9 (s_ ?_)
 have hZ:=j6_ hY hX3 w1 w2 w3 w4
 repeat (first
  | refine vk_ ?_
  | (refine pe_ (PC) fun n1 hn1=>⟨rfl,?_⟩))
 refine rk_ ?_
 refine hk _ _ _ ?_ hj0 hj1 ⟨.nils,[],((([]:List (Nat × List (BV × MVB 0))),[]):MVB 1),rfl,⟨LRep.nil,rfl,by simp⟩,⟨trivial,fun p hp=>(by cases hp),fun p hp=>(by cases hp),(zE5 a b).2.1⟩⟩;exact om_
theorem zSk {a b:BD} (ha:a.ok 4) (hb:b.ok 7) {n deep:Nat} (hd:deep<=4) (HM:MsC a b n (deep+1)):MsC a b (n+1) deep:=by
 intro t ht E nx ty p d L o hu hut hg hL j hj0 hj1 K hk
 have hY:=fxp hu hg
 have lp:=zA3 hu hg
 obtain ⟨S1,S2,hS,pS1,pS2⟩:=schS a b
 have hX3:∀ q,nx<=q->zA1 E q=none:=fun q hq=>zAc hu hq
 have sa:=BD.sok ha om_
 have sb:=BD.sok hb om_
 have PC:∃ c,bdOf a b t=some c/\SOk (zAd c.rs)/\∃ O,PV1 O/\Pe 22 [schV a b,.str t] (.tup [.agg [.str t,lV8 (zAd c.rs),O],.bool true]):=by
  rcases ht with rfl | rfl
  . exact ⟨a,rfl,sa,_,oV1P _,rm_I⟩
  . exact ⟨b,rfl,sb,_,oV1P _,rm_M⟩
 obtain ⟨c,hc,hs,O,HO,PC⟩:=PC
 rw [hS] at PC ⊢
 have pL:=lV8P (zAd c.rs)
 have hdI:¬ (4:Int)<(deep:Int):=by omega
 refine pq_ pS1 fun w1=>?_
 refine pq_ pS2 fun w2=>?_
 refine pq_ HO fun w3=>?_
 refine pq_ pL fun w4=>?_
 refine mk_ 9 c9 (s_ ?_)
 have hZ:=j7_ hY hX3 w1 w2 w3 w4 hdI
 repeat ((fail_if_success (show W TF mmL _ _));first
  | refine vk_ ?_
  | (refine pe_ (PC) fun n1 hn1=>⟨rfl,?_⟩))
 have hok0:OkM b0V rokS (fldS a b) (n+1) t ((([]:List (Nat × List (BV × MVB n))),[]):MVB (n+1)):=⟨trivial,fun p hp=>(by cases hp),fun p hp=>(by cases hp),(zE5 a b).2.1⟩
 by_cases hLs:zAd c.rs=[]
 . have e8:lV8 (zAd c.rs)=.nils:=by rw [hLs];rfl
   have F0:=True.intro
   rw [e8] at *
   have hZ:=j7_ hY hX3 w1 w2 w3 w4 hdI
   repeat ((fail_if_success (show W TF msE _ _));first
    | refine st_ rfl ?_
    | refine ws_ ?_
    | refine W.loop ?_
    | (refine dk_ ?_;refine W.loop ?_)
    | refine xs_ ?_)
   refine zUa (S1:=S1) (S2:=S2) (LV:=.nils) (O:=O) ⟨?_,?_,?_⟩ hL hut hk hok0 LRep.nil (Fr0.sub (Fr0.cell (Fr0.cell (n2:=nx+4) (i:=nx+2+1) (Fr0.cell (n2:=nx+2) (i:=nx+1) (Fr0.cell (n2:=nx+1) (i:=nx) (Fr0.base hu hg) (by omega) (by omega)) (by omega) (by omega)) (by omega) (by omega)) ?_ ?_) fun x hx=>by simp only [List.mem_cons,List.not_mem_nil,or_false] at hx ⊢;rcases hx with rfl | rfl | rfl | rfl <;> simp) hj0 hj1 msE rfl
   . omega
   . omega
   . omega
   . omega
   . omega
 . have hne0:lV8 (zAd c.rs)=.imm .none 8 ((zAd c.rs).map RW.pf):=by
    cases e:zAd c.rs with
    | nil=>exact absurd e hLs
    | cons x l=>rfl
   refine za6 (by omega) HM hc hs HO hS pS1 pS2 (n0:=nx) (r:=[]) ⟨?_,?_,?_⟩ hL hut hne0 ?_ (zAd c.rs) 0 [] .nils _ _ _ _ _ _ _ _ _ _ _ _ _ _ _ _ _ j rfl (by omega) hok0 (fun x hx=>by cases hx) LRep.nil (Fr0.sub (Fr0.cell (Fr0.cell (n2:=nx+4) (i:=nx+2+1) (Fr0.cell (n2:=nx+2) (i:=nx+1) (Fr0.cell (n2:=nx+1) (i:=nx) (Fr0.base hu hg) (by omega) (by omega)) (by omega) (by omega)) (by omega) (by omega)) ?_ ?_) fun x hx=>by simp only [List.mem_cons,List.not_mem_nil,or_false] at hx ⊢;rcases hx with rfl | rfl | rfl | rfl <;> simp) hj0 hj1
   . omega
   . omega
   . omega
   . intro o Fo v7 v0 v4 v10 v11 v12 v13 v14 v15 v16 v17 v18 v19 v20 v21 v22 E2 nx2 j2 hok hF f2 hj2 hj2'
     (try simp only [zB3,zA9,zAe,zBd,zAo,reduceIte])
     exact zUa ⟨by omega,by omega,by omega⟩ hL hut hk hok hF f2 hj2 hj2' msE rfl
   . omega
   . omega
theorem zZ2 {a b:BD} (ha:a.ok 4) (hb:b.ok 7):∀ n deep,n+deep=5->MsC a b (n+1) deep
 | 0,deep,h=>by
  obtain rfl:deep=5:=by omega
  exact zW8 ha hb
 | n+1,deep,h=>zSk ha hb om_ (zZ2 ha hb n (deep+1) om_)
theorem va_1 {c:UInt8} (hc:c.toNat<128) {m:B8} (hm:m.length<=100000):Pe 137 [.str (c::m)] (.tup [.int .u64 (c.toNat:Int),.int .i64 1,.int .i64 0]):=by
 intro h hf K hk
 have e1:IntKind.u64.wrap (c.toNat:Int)=(c.toNat:Int):=zAm om_ om_
 have h2:(c.toNat:Int)<128:=by omega
 have e3:(c.toNat:Int).tmod 128=(c.toNat:Int):=Int.tmod_eq_of_lt om_ om_
 have e5:zD0 .or .u64 0 (c.toNat:Int)=some (.int .u64 (c.toNat:Int)):=by
  have:=zMb (v:=0) (c:=c.toNat) (s:=0) om_ om_
  simpa using this
 obtain ⟨hu,hut,hX⟩:=fx4 hf
 refine mk_ 137 c137 (s_ ?_)
 have hZ:=j5_ hX e1 h2 e3 e5
 repeat (first
  | refine vk_ ?_
  | (refine dk_ ?_;refine W.loop ?_)
  | refine W.loop ?_)
 refine rk_ ?_
 refine hk _ ?_;exact om_
theorem va_2 {a b:Nat} (ha:a<128) (hb:b<128) {c d:UInt8} (h0:c.toNat=a+128) (h1:d.toNat=b) {m:B8} (hm:m.length<=100000):Pe 137 [.str (c::d::m)] (.tup [.int .u64 ((a+b * 128:Nat):Int),.int .i64 2,.int .i64 0]):=by
 intro h hf K hk
 have e0:IntKind.u64.wrap (c.toNat:Int)=((a+128:Nat):Int):=by rw [h0];exact zAm (by omega) (by omega)
 have e1:IntKind.u64.wrap (d.toNat:Int)=(b:Int):=by rw [h1];exact zAm (by omega) (by omega)
 have e2:((a+128:Nat):Int).tmod 128=(a:Int):=by rw [Int.tmod_eq_emod_of_nonneg (by omega)];omega
 have e3:(b:Int).tmod 128=(b:Int):=Int.tmod_eq_of_lt om_ om_
 have e4:IntKind.u64.wrap (a:Int)=(a:Int):=zAm om_ om_
 have e5:zD0 .or .u64 0 (a:Int)=some (.int .u64 (a:Int)):=by
  have:=zMb (v:=0) (c:=a) (s:=0) om_ om_
  simpa using this
 have e6:IntKind.u64.wrap ((b:Int) * 2 ^ min 7 IntKind.u64.bits)=((b * 2 ^ 7:Nat):Int):=by
  show IntKind.u64.wrap ((b:Int) * 128)=_
  rw [show ((b:Int) * 128)=((b * 2 ^ 7:Nat):Int) by push_cast;rfl]
  exact zAm om_ om_
 have e7:zD0 .or .u64 (a:Int) ((b * 2 ^ 7:Nat):Int)=some (.int .u64 ((a+b * 2 ^ 7:Nat):Int)):=zMb om_ om_
 have e8:a+b * 2 ^ 7=a+b * 128:=rfl
 rw [e8] at e7
 generalize b * 2 ^ 7=B at *
 generalize a+b * 128=V at *
 have h2:¬ ((a+128:Nat):Int)<128:=by omega
 have h3:(b:Int)<128:=by omega
 generalize ((a+128:Nat):Int)=A at *
 obtain ⟨hu,hut,hX⟩:=fx4 hf
 refine mk_ 137 c137 (s_ ?_)
 have hZ:=j11_ hX e0 e1 e2 e3 e4 e5 e6 e7 h2 h3
 repeat (first
  | refine vk_ ?_
  | (refine dk_ ?_;refine W.loop ?_)
  | refine W.loop ?_)
 refine rk_ ?_
 refine hk _ ?_;exact om_
theorem fx_8 (c:UInt8):PuR 139 [.str (c::List.replicate 7 0)] fun v=>∃ x:Int,v=.int .u64 x:=by
 intro h hf K hk
 have w0:IntKind.u64.wrap 0=0:=by decide
 have w1:zD0 .or .u64 0 0=some (.int .u64 0):=by have:=zMb (v:=0) (c:=0) (s:=0) (by omega) (by omega);simpa using this
 have e1:IntKind.u64.wrap (c.toNat:Int)=(c.toNat:Int):=zAm om_ (by have:=c.toNat_lt;omega)
 obtain ⟨hu,hut,hX⟩:=fx4 hf
 simp only [List.replicate]
 refine mk_ 139 c139 (s_ ?_)
 have hZ:=j4_ hX w0 w1 e1
 repeat (first
  | refine vk_ ?_
  | (refine dk_ ?_;refine W.loop ?_)
  | refine W.loop ?_)
 refine rk_ ?_
 refine hk _ _ ⟨_,rfl⟩ ?_;exact om_
theorem fx_4 (c:UInt8):PuR 139 [.str (c::List.replicate 3 0)] fun v=>∃ x:Int,v=.int .u64 x:=by
 intro h hf K hk
 have w0:IntKind.u64.wrap 0=0:=by decide
 have w1:zD0 .or .u64 0 0=some (.int .u64 0):=by have:=zMb (v:=0) (c:=0) (s:=0) (by omega) (by omega);simpa using this
 have e1:IntKind.u64.wrap (c.toNat:Int)=(c.toNat:Int):=zAm om_ (by have:=c.toNat_lt;omega)
 obtain ⟨hu,hut,hX⟩:=fx4 hf
 simp only [List.replicate]
 refine mk_ 139 c139 (s_ ?_)
 have hZ:=j4_ hX w0 w1 e1
 repeat (first
  | refine vk_ ?_
  | (refine dk_ ?_;refine W.loop ?_)
  | refine W.loop ?_)
 refine rk_ ?_
 refine hk _ _ ⟨_,rfl⟩ ?_;exact om_
def RcR (num w:Nat) (raw:B8) (v:CVal):Prop:=∃ (n:Int) (s:B8),v=.tup [.agg [.int .i64 (num:Nat),.int .i64 (w:Nat),.int .u64 n,.str s,.str raw],.int .i64 0]
theorem zcz {n:Nat} (h:n<128):∃ c:UInt8,c.toNat=n/\vb2 n=[c]:=⟨UInt8.ofNat n,by rw [UInt8.toNat_ofNat'];omega,by unfold vb2;rw [if_pos h]⟩
theorem zWz {n:Nat} (h:128<=n) (h2:n<16384):∃ c d:UInt8,c.toNat=n % 128+128/\d.toNat=n / 128/\vb2 n=[c,d]:=by
 have e0:(UInt8.ofNat (n % 128)).toNat=n % 128:=by rw [UInt8.toNat_ofNat'];omega
 refine ⟨UInt8.ofNat (n % 128)+128,UInt8.ofNat (n / 128),?_,?_,by unfold vb2;rw [if_neg (by omega)]⟩
 . rw [UInt8.toNat_add,e0];show (n % 128+128) % 256=_;omega
 . rw [UInt8.toNat_ofNat'];omega
theorem rc_C {num w n:Nat} (h:zTt (num,w,n)) {m:B8} (hm:m.length<=5000):PuR 112 [.str (recB num w n++m)] (RcR num w (recB num w n)):=by
 obtain ⟨h1,h2,h3⟩:=h
 dsimp only at h1 h2 h3
 obtain ⟨c,d,hc,hd,hv⟩:=zWz (n:=num * 8+w) om_ om_
 have V:=fun (m:B8) (hm:m.length<=100000)=>va_2 (a:=(num * 8+w) % 128) (b:=(num * 8+w) / 128) om_ om_ hc hd hm
 have et:(num * 8+w) % 128+(num * 8+w) / 128 * 128=num * 8+w:=by omega
 rw [et] at V
 unfold recB
 rw [hv]
 have q1:((num * 8+w:Nat):Int).tdiv 8=(num:Int):=by rw [Int.tdiv_eq_ediv_of_nonneg (by omega)];omega
 have q2:((num * 8+w:Nat):Int).tmod 8=(w:Int):=by rw [Int.tmod_eq_emod_of_nonneg (by omega)];omega
 have q3:IntKind.i64.wrap (num:Int)=(num:Int):=by simp [IntKind.wrap,IntKind.bits,IntKind.signed];omega
 have q4:IntKind.i64.wrap (w:Int)=(w:Int):=by simp [IntKind.wrap,IntKind.bits,IntKind.signed];omega
 have q5:¬ (num:Int)<1:=by omega
 have q6:¬ (536870911:Int)<(num:Int):=by omega
 have q7:IntKind.u64.wrap (num:Int)=(num:Int):=zAm om_ om_
 have q8:IntKind.u64.wrap ((m.length:Int)+1)=(m.length:Int)+1:=zAm om_ om_
 have q9:¬ (m.length:Int)+1<1:=by omega
 have hm2:∀ k:Nat,k<=20->(m.length+k<4611686018427387904)=True:=fun k hk=>eq_true om_
 generalize num * 8+w=T at *
 rcases h2 with rfl | rfl | rfl | rfl
 . rw [if_pos rfl]
   by_cases h4:n<128
   . obtain ⟨e,he,hv2⟩:=zcz h4
     rw [hv2]
     have V1:=V (e::m) (by simp;omega)
     have V2:=va_1 (c:=e) om_ (m:=m) om_
     simp only [List.cons_append,List.nil_append]
     intro h hf K hk
     obtain ⟨hu,hut,hX⟩:=fx4 hf
     refine mk_ 112 c112 (s_ ?_)
     have hZ:=j11_ hX q1 q2 q3 q4 q5 q6 q7 q8 q9 hm2
     repeat (first
      | refine vk_ ?_
      | (refine dk_ ?_;refine W.loop ?_)
      | refine W.loop ?_
      | ((first | refine pe_ (V1) ?_ | refine pe_ (V2) ?_);intro n1 hn1;refine ⟨rfl,?_⟩;(try dsimp only at hn1))
      | (refine mk_ 138 c138 (s_ ?_))
      | (refine rk_ ?_;refine ⟨rfl,?_⟩))
     refine rk_ ?_
     refine hk _ _ ⟨_,_,rfl⟩ ?_;exact om_
   . obtain ⟨e,f,he,hf2,hv2⟩:=zWz (n:=n) om_ om_
     rw [hv2]
     have V1:=V (e::f::m) (by simp;omega)
     have V2:=va_2 om_ om_ he hf2 (m:=m) om_
     simp only [List.cons_append,List.nil_append]
     intro h hf K hk
     obtain ⟨hu,hut,hX⟩:=fx4 hf
     refine mk_ 112 c112 (s_ ?_)
     have hZ:=j11_ hX q1 q2 q3 q4 q5 q6 q7 q8 q9 hm2
     repeat (first
      | refine vk_ ?_
      | (refine dk_ ?_;refine W.loop ?_)
      | refine W.loop ?_
      | ((first | refine pe_ (V1) ?_ | refine pe_ (V2) ?_);intro n1 hn1;refine ⟨rfl,?_⟩;(try dsimp only at hn1))
      | (refine mk_ 138 c138 (s_ ?_))
      | (refine rk_ ?_;refine ⟨rfl,?_⟩))
     refine rk_ ?_
     refine hk _ _ ⟨_,_,rfl⟩ ?_;exact om_
 . rw [if_neg (by omega),if_pos rfl]
   have V1:=V (UInt8.ofNat n::List.replicate 7 0++m) (by simp;omega)
   have V2:=fx_8 (UInt8.ofNat n)
   simp only [List.replicate,List.cons_append,List.nil_append] at *
   intro h hf K hk
   obtain ⟨hu,hut,hX⟩:=fx4 hf
   refine mk_ 112 c112 (s_ ?_)
   have hZ:=j11_ hX q1 q2 q3 q4 q5 q6 q7 q8 q9 hm2
   repeat (first
    | refine vk_ ?_
    | (refine dk_ ?_;refine W.loop ?_)
    | refine W.loop ?_
    | (refine pe_ (V1) fun n1 hn1=>⟨rfl,?_⟩)
    | (refine pr_ (V2) fun v1 n1 RA g1=>?_;obtain ⟨x,rfl⟩:=RA;refine ⟨rfl,?_⟩)
    | (refine mk_ 138 c138 (s_ ?_))
    | (refine rk_ ?_;refine ⟨rfl,?_⟩))
   refine rk_ ?_
   refine hk _ _ ⟨_,_,rfl⟩ ?_;exact om_
 . rw [if_neg (by omega),if_neg (by omega),if_neg (by omega)]
   have V1:=V (1::114::m) (by simp;omega)
   have V2:=va_1 (c:=1) (by decide) (m:=114::m) (by simp;omega)
   rw [show (((1:UInt8).toNat:Nat):Int)=1 from rfl] at V2
   simp only [List.cons_append,List.nil_append]
   intro h hf K hk
   obtain ⟨hu,hut,hX⟩:=fx4 hf
   refine mk_ 112 c112 (s_ ?_)
   have hZ:=j11_ hX q1 q2 q3 q4 q5 q6 q7 q8 q9 hm2
   repeat (first
    | refine vk_ ?_
    | (refine dk_ ?_;refine W.loop ?_)
    | refine W.loop ?_
    | ((first | refine pe_ (V1) ?_ | refine pe_ (V2) ?_);intro n1 hn1;refine ⟨rfl,?_⟩;(try dsimp only at hn1))
    | (refine mk_ 138 c138 (s_ ?_))
    | (refine rk_ ?_;refine ⟨rfl,?_⟩))
   refine rk_ ?_
   refine hk _ _ ⟨_,_,rfl⟩ ?_;exact om_
 . rw [if_neg (by omega),if_neg (by omega),if_pos rfl]
   have V1:=V (UInt8.ofNat n::List.replicate 3 0++m) (by simp;omega)
   have V2:=fx_4 (UInt8.ofNat n)
   simp only [List.replicate,List.cons_append,List.nil_append] at *
   intro h hf K hk
   obtain ⟨hu,hut,hX⟩:=fx4 hf
   refine mk_ 112 c112 (s_ ?_)
   have hZ:=j11_ hX q1 q2 q3 q4 q5 q6 q7 q8 q9 hm2
   repeat (first
    | refine vk_ ?_
    | (refine dk_ ?_;refine W.loop ?_)
    | refine W.loop ?_
    | (refine pe_ (V1) fun n1 hn1=>⟨rfl,?_⟩)
    | (refine pr_ (V2) fun v1 n1 RA g1=>?_;obtain ⟨x,rfl⟩:=RA;refine ⟨rfl,?_⟩)
    | (refine mk_ 138 c138 (s_ ?_))
    | (refine rk_ ?_;refine ⟨rfl,?_⟩))
   refine rk_ ?_
   refine hk _ _ ⟨_,_,rfl⟩ ?_;exact om_
def RcE (c:CVal):Prop:=∃ (num w:Nat) (n:Int) (s raw:B8),900<=num/\c=.agg [.int .i64 (num:Nat),.int .i64 (w:Nat),.int .u64 n,.str s,.str raw]
def acV (k i u:Nat) (l:List CVal):CVal:=match l with | []=>.nils | _::_=>.imm (.own i u) k l
def acE (i u:Nat) (l:List CVal) (base:EE):EE:=match l with | []=>base | _::_=>(i,.tok u)::base
theorem zQt {i u n:Nat} {l:List CVal} {base:EE} (h:Under base n) (hi:i<n):Under (acE i u l base) n:=by
 cases l with
 | nil=>exact h
 | cons a l=>exact Under.cons hi h
theorem zP1 (x:Nat × Nat × Nat) (l:List (Nat × Nat × Nat)):zEn (x::l)=recB x.1 x.2.1 x.2.2++zEn l:=by simp [zEn]
theorem zS9 (num w n:Nat):0<(recB num w n).length:=List.length_pos_iff.2 (by unfold recB vb2;split <;> simp)
theorem zYw (base:EE) (ty:NN) (n0:Nat) (hb:Under base n0) (hty:zA7 ty n0) (Q:QT):∀ (l:List (Nat × Nat × Nat)) (A:List CVal) (i u nx:Nat) (w1 w2 w3 w4 w6:CVal),(∀ x ∈ l,zTt x)->(∀ c ∈ A,RcE c)->(zEn l).length<=5000->A.length+(zEn l).length<=5000->n0<=i->i<nx ->
    (∀ es i u n' w1 w2 w3 w4 w6,(∀ c ∈ es,RcE c)->es.length<=5000->n0<=i->i<n'->Q (.exit 0) ⟨[.str [],w1,w2,w3,w4,acV 5 i u es,w6,.nils,.int .i64 0],⟨acE i u es base,n',ty⟩,[]⟩) ->
    W TF rspL ⟨[.str (zEn l),w1,w2,w3,w4,acV 5 i u A,w6,.nils,.int .i64 0],⟨acE i u A base,nx,ty⟩,[]⟩ Q:=by
 intro l
 induction l with
 | nil =>
  intro A i u nx w1 w2 w3 w4 w6 _ hA _ hl hi hx h1
  rw [show zEn []=[] from rfl]
  repeat (first
   | refine v0_ ?_
   | refine W.loop ?_
   | (refine d0_ ?_;refine W.loop ?_))
  refine h1 A _ _ _ _ _ _ _ _ hA om_ ?_ ?_ <;> exact om_
 | cons x l ih =>
  intro A i u nx w1 w2 w3 w4 w6 hx0 hA hs hl hi hx h1
  rw [zP1] at hs hl ⊢
  have hpos:=zS9 x.1 x.2.1 x.2.2
  rw [List.length_append] at hs hl
  have hne:(recB x.1 x.2.1 x.2.2++zEn l == [])=false:=bn_ fun e=>by rw [List.append_eq_nil_iff.1 e |>.1] at hpos;simp at hpos
  have hne2:(recB x.1 x.2.1 x.2.2++zEn l=[])=False:=eq_false fun e=>by rw [List.append_eq_nil_iff.1 e |>.1] at hpos;simp at hpos
  have V1:=rc_C (num:=x.1) (w:=x.2.1) (n:=x.2.2) (hx0 x (by simp)) (m:=zEn l) (by omega)
  have hnum:900<=x.1:=by have:=(hx0 x (by simp)).1;omega
  have key:∀ (es:List CVal) (i' u' nx':Nat) (w1 w2 w3 w4 w6:CVal),(∀ c ∈ es,RcE c)->es.length=A.length+1->n0<=i'->i'<nx'->W TF rspL ⟨[.str (zEn l),w1,w2,w3,w4,acV 5 i' u' es,w6,.nils,.int .i64 0],⟨acE i' u' es base,nx',ty⟩,[]⟩ Q:=fun es i' u' nx' w1 w2 w3 w4 w6 he hel hi' hx' =>
   ih es i' u' nx' w1 w2 w3 w4 w6 (fun y hy=>hx0 y (List.mem_cons_of_mem _ hy)) he om_ om_ hi' hx' h1
  have hdp:List.drop (recB x.1 x.2.1 x.2.2).length (recB x.1 x.2.1 x.2.2++zEn l)=zEn l:=List.drop_left ..
  have hlB:(recB x.1 x.2.1 x.2.2++zEn l).length=(recB x.1 x.2.1 x.2.2).length+(zEn l).length:=List.length_append ..
  generalize recB x.1 x.2.1 x.2.2++zEn l=s at *
  generalize recB x.1 x.2.1 x.2.2=R at *
  generalize zEn l=S at *
  obtain ⟨hub,hutb,hXb⟩:=fx4 (h:=⟨base,n0,ty⟩) ⟨hb,hty⟩
  dsimp only at hub hutb hXb
  have hAl:A.length<=5000:=by omega
  have hu:Under (acE i u A base) nx:=zQt (hb.le om_) hx
  have hut:zA7 ty nx:=hty.le om_
  have hR:(R.length:Int)<=(s.length:Int):=by omega
  cases A with
  | nil =>
   dsimp only [acV,acE] at *
   have hZ:=j5_ hne hne2 hXb hdp hR
   repeat ((fail_if_success (show W TF _ (dropped true _ _) _));first
    | refine st_ rfl ?_
    | refine ws_ ?_
    | refine W.loop ?_
    | refine xs_ ?_
    | (refine pr_ (V1) fun v1 n1 RA g1=>?_;obtain ⟨n9,s9,rfl⟩:=RA;refine ⟨rfl,?_⟩))
   refine dk_ ?_
   refine key [.agg [.int .i64 (x.1:Nat),.int .i64 (x.2.1:Nat),.int .u64 n9,.str s9,.str R]] _ _ _ _ _ _ _ _ (fun c hc=>?_) rfl ?_ ?_
   . simp at hc;rw [hc];exact ⟨_,_,_,_,_,hnum,rfl⟩
   all_goals exact om_
  | cons a A =>
   have hA2:A.length<5000:=by simp at hAl;omega
   dsimp only [acV,acE] at *
   have hZ:=j5_ hne hne2 hXb hdp hR
   repeat ((fail_if_success (show W TF _ (dropped true _ _) _));first
    | refine st_ rfl ?_
    | refine ws_ ?_
    | refine W.loop ?_
    | refine xs_ ?_
    | (refine pr_ (V1) fun v1 n1 RA g1=>?_;obtain ⟨n9,s9,rfl⟩:=RA;refine ⟨rfl,?_⟩))
   refine dk_ ?_
   refine key (a::(A++[.agg [.int .i64 (x.1:Nat),.int .i64 (x.2.1:Nat),.int .u64 n9,.str s9,.str R]])) _ _ _ _ _ _ _ _ (fun c hc=>?_) (by simp) ?_ ?_
   . rcases List.mem_cons.1 hc with rfl | hc
     . exact hA _ (by simp)
     rcases List.mem_append.1 hc with hc | hc
     . exact hA _ (by simp [hc])
     . simp at hc;rw [hc];exact ⟨_,_,_,_,_,hnum,rfl⟩
   all_goals exact om_
def lst5 (es:List CVal):CVal:=match es with | []=>.nils | _::_=>.imm .none 5 es
theorem zWg {r:B8} (hr:rokS r) (hl:r.length<=5000):PuR 67 [.str r] fun v=>∃ es,(∀ c ∈ es,RcE c)/\es.length<=5000/\v=.tup [lst5 es,.int .i64 0]:=by
 intro h hf K hk
 obtain ⟨hu,hut,hX⟩:=fx4 hf
 obtain ⟨l,hr,rfl⟩:=hr
 refine mk_ 67 c67 (s_ ?_)
 repeat ((fail_if_success (show W TF rspL _ _));first
  | refine st_ rfl ?_
  | refine wsx_ ?_
  | refine xs_ ?_)
 refine zYw h.ents h.tys h.next hu hut _ l [] h.next 0 _ _ _ _ _ _ hr (fun c hc=>by cases hc) hl (by simp;omega) (Nat.le_refl _) ?_ ?_
 . exact om_
 intro es i u n' w1 w2 w3 w4 w6 he hel hi hn
 have hk2:=fun n'=>hk _ n' ⟨es,he,hel,rfl⟩
 simp only [zB3,zA9,zAe,zBd,zAo,reduceIte]
 cases es with
 | nil =>
  dsimp only [acV,acE,lst5] at hk2 ⊢
  repeat (first
   | refine vx_ ?_)
  refine rx_ ?_
  refine hk2 _ ?_;exact om_
 | cons a es =>
  dsimp only [acV,acE,lst5] at hk2 ⊢
  repeat (first
   | refine vx_ ?_)
  refine rx_ ?_
  refine hk2 _ ?_;exact om_
theorem BD.low {c:BD} {m:Nat} (h:c.ok m) (hm:m<=7):∀ r ∈ zAd c.rs,r.num<900/\r.oo<=1:=by
 obtain ⟨s1,s2⟩:=zKz (l:=c.rs) (acc:=[]) trivial (BD.rs_num h hm)
 intro r hr
 have hr2:r ∈ c.rs:=by rcases (s2 r).1 hr with h | h;cases h;exact h
 obtain ⟨i,hi,B⟩:=h.b
 unfold BD.rs at hr2
 rcases List.mem_append.1 hr2 with h1 | h1
 . obtain ⟨x,hx,rfl⟩:=List.mem_map.1 h1
   obtain ⟨_,k,hk,hn⟩:=B.f x hx
   rw [FD.rw_num]
   refine ⟨by unfold zJr at hn;omega,?_⟩
   obtain ⟨sh,t,n⟩:=x
   cases sh <;> exact Nat.zero_le _
 . obtain ⟨x,hx,rfl⟩:=List.mem_map.1 h1
   obtain ⟨_,h2,k,hk,hn⟩:=B.o x hx
   show x.num<900/\1<=1
   unfold zJr at hn
   omega
theorem zdb {es:List CVal} (hE:∀ c ∈ es,RcE c) {Ls:List RW} (hl9:Ls.length<=100) (hd9:(Ls.map RW.num).Nodup) (hlow:∀ r ∈ Ls,r.num<900) {n:B8} {O:CVal} (HO:PV1 O) {L:Nat} (hlr:es.length=L) (hL:L<=1000000) {q d:Nat} {hh:CHeap} (hf:Fit hh) (hg:zA1 hh.ents q=some (.cells [.str n,lV8 Ls,O])) {Q:QT}
    (hno:∀ (v1 v3 v5 v6:CVal) n',hh.next<=n'->Q (.exit 0) ⟨[.imm .none 5 es,v1,.int .i64 (L:Nat),v3,.fn (.func 69) [] [.ptr q d 0],v5,v6,.int .i64 0],⟨hh.ents,n',hh.tys⟩,[]⟩) :
    ∀ (m k nx:Nat) (v3 v5 v6:CVal),k+m=L->hh.next<=nx->W TF rxL ⟨[.imm .none 5 es,.int .i64 (k:Nat),.int .i64 (L:Nat),v3,.fn (.func 69) [] [.ptr q d 0],v5,v6,.int .i64 0],⟨hh.ents,nx,hh.tys⟩,[]⟩ Q:=by
 have pL:=lV8P Ls
 refine pq_ pL fun w1=>?_
 refine pq_ HO fun w2=>?_
 obtain ⟨lb0,ls0⟩:=lbs_
 intro m
 induction m with
 | zero =>
  intro k nx v3 v5 v6 h1 h3
  obtain rfl:k=L:=by omega
  refine W.loop ?_
  try refine w0_ ?_
  refine hno _ _ _ _ _ ?_;exact om_
 | succ m ih =>
  intro k nx v3 v5 v6 h1 h3
  obtain ⟨hu,hut,hX⟩:=fx4 (show Fit ⟨hh.ents,nx,hh.tys⟩ from ⟨hf.1.le h3,hf.2.le h3⟩)
  dsimp only at hX hu hut
  have hlt:(k:Int)<(L:Int):=by omega
  have lq:=zA3 hu hg
  obtain ⟨c,q1⟩:∃ c,es[k]? = some c:=⟨_,gE_ om_⟩
  obtain ⟨num,w,n9,s9,raw,hxn,rfl⟩:=hE c (List.mem_of_getElem? q1)
  have m1:=zAk q1
  have F1:=zOr hl9 hd9 num (n:=n) HO
  rw [zR3 fun j y hy e=>by have:=hlow y (List.mem_of_getElem? hy);omega] at F1
  simp only [FldR,zPF] at F1
  refine W.loop ?_
  have hZ:=j10_ hX hg hlt q1 m1 hlr w1 w2 lb0 ls0
  repeat (first
   | refine vk_ ?_
   | (refine pe_ (F1) fun n1 hn1=>⟨rfl,?_⟩)
   | (refine mk_ 69 c69 (s_ ?_))
   | (refine rk_ ?_;refine ⟨rfl,?_⟩))
  have ih1:=fun nx v3 v5 v6 (h:_<=nx)=>ih (k+1) nx v3 v5 v6 om_ h
  push_cast at ih1
  refine dk_ ?_
  refine ih1 _ _ _ _ ?_;exact om_
theorem zUf {r:B8} (hr:rokS r) (hrl:r.length<=5000) {Ls:List RW} (hl9:Ls.length<=100) (hd9:(Ls.map RW.num).Nodup) (hlow:∀ r ∈ Ls,r.num<900) {n:B8} {O:CVal} (HO:PV1 O):Pe 30 [.agg [.str n,lV8 Ls,O],.str r] (.bool true):=by
 intro h hf K hk
 obtain ⟨hu,hut,hX⟩:=fx4 hf
 have pL:=lV8P Ls
 refine pq_ pL fun w1=>?_
 refine pq_ HO fun w2=>?_
 obtain ⟨lb0,ls0⟩:=lbs_
 have S1:=zWg hr hrl
 refine mk_ 30 c30 (s_ ?_)
 have hZ:=j5_ hX w1 w2 lb0 ls0
 repeat (first
  | refine vk_ ?_)
 refine pr_ S1 fun v1 n1 RA g1=>?_
 obtain ⟨es,hE,hel,rfl⟩:=RA
 refine ⟨by cases es <;> rfl,?_⟩
 (try dsimp only at g1)
 cases es with
 | nil =>
  simp only [lst5]
  have hZ:=j5_ hX w1 w2 lb0 ls0
  repeat (first
   | refine vk_ ?_
   | (refine dk_ ?_;refine W.loop ?_)
   | refine W.loop ?_
   | (refine mk_ 68 c68 (s_ ?_))
   | (refine mk_ 113 c113 (s_ ?_))
   | (refine rk_ ?_;refine ⟨rfl,?_⟩))
  refine rk_ ?_
  refine hk _ ?_;exact om_
 | cons x xs =>
  simp only [lst5]
  generalize x::xs=es at *
  obtain ⟨L,hlr⟩:∃ L,es.length=L:=⟨_,rfl⟩
  have hZ:=j6_ hX w1 w2 lb0 ls0 hlr
  repeat ((fail_if_success (show W TF rxL _ _));first
   | refine vk_ ?_
   | (refine mk_ 68 c68 (s_ ?_))
   | (refine mk_ 113 c113 (s_ ?_)))
  refine zdb (n:=n) hE hl9 hd9 hlow HO hlr om_ (hh:=⟨_,_,_⟩) ?_ ?_ ?_ L 0 _ _ _ _ om_ (Nat.le_refl _)
  . exact ft_
  . simp (disch:=omega) [zA1]
  intro v1 v3 v5 v6 n' hn'
  dsimp only at hn'
  repeat (first
   | refine vk_ ?_
   | (refine rk_ ?_;refine ⟨rfl,?_⟩))
  refine rk_ ?_
  refine hk _ ?_;exact om_
theorem zW7 {n m:Int} (h1:IntKind.u64.wrap (IntKind.i64.wrap (IntKind.i32.wrap (IntKind.u32.wrap n)))=m):Pe 141 [.int .u64 n] (.int .u64 m):=by
 intro h hf K hk
 obtain ⟨hu,hut,hX⟩:=fx4 hf
 refine mk_ 141 c141 (s_ ?_)
 have hZ:=j2_ hX h1
 repeat (first
  | refine vk_ ?_)
 refine rk_ ?_
 refine hk _ ?_;exact om_
theorem zNp {k:Nat} (hk:k=3\/k=7\/k=11\/k=17) {n:Int} (h1:IntKind.u64.wrap (IntKind.i64.wrap (IntKind.i32.wrap (IntKind.u32.wrap n)))=n):Pe 116 [.int .i64 (k:Nat),.int .u64 n] (.bool true):=by
 have D:=zW7 h1
 have hn:(n == n)=true:=by simp
 rcases hk with rfl | rfl | rfl | rfl
 all_goals
  intro h hf K hk
  obtain ⟨hu,hut,hX⟩:=fx4 hf
  refine mk_ 116 c116 (s_ ?_)
  have hZ:=j2_ hX hn
  repeat (first
   | refine vk_ ?_
   | (refine pe_ (D) fun n1 hn1=>⟨rfl,?_⟩))
  refine rk_ ?_
  refine hk _ ?_;exact om_
theorem zX7 {n:Int} (h1:n<=1):Pe 116 [.int .i64 13,.int .u64 n] (.bool true):=by
 intro h hf K hk
 obtain ⟨hu,hut,hX⟩:=fx4 hf
 refine mk_ 116 c116 (s_ ?_)
 have hZ:=j2_ hX h1
 repeat (first
  | refine vk_ ?_)
 refine rk_ ?_
 refine hk _ ?_;exact om_
theorem zZ4 {k:Nat} (hk:k=4\/k=8\/k=12\/k=6\/k=10\/k=1) {n:Int}:Pe 116 [.int .i64 (k:Nat),.int .u64 n] (.bool true):=by
 rcases hk with rfl | rfl | rfl | rfl | rfl | rfl
 all_goals
  intro h hf K hk
  obtain ⟨hu,hut,hX⟩:=fx4 hf
  refine mk_ 116 c116 (s_ ?_)
  repeat (first
   | refine vx_ ?_)
  refine rx_ ?_
  refine hk _ ?_;exact om_
theorem zYg {k:Nat} (hk:k=5\/k=9\/k=2) {n:Int} (h1:0<=n/\n<4294967296):Pe 116 [.int .i64 (k:Nat),.int .u64 n] (.bool true):=by
 rcases hk with rfl | rfl | rfl
 all_goals
  intro h hf K hk
  obtain ⟨hu,hut,hX⟩:=fx4 hf
  have e0:n.fdiv (2 ^ min 32 IntKind.u64.bits)=0:=by
   show n.fdiv 4294967296=0
   rw [Int.fdiv_eq_ediv_of_nonneg _ (by omega)]
   exact Int.ediv_eq_zero_of_lt h1.1 h1.2
  refine mk_ 116 c116 (s_ ?_)
  have hZ:=j2_ hX e0
  repeat (first
   | refine vk_ ?_)
  refine rk_ ?_
  refine hk _ ?_;exact om_
theorem zZi {k:Nat} (hk:KN k) {x:Int} (hx:x ∈ N16):Pe 116 [.int .i64 (k:Nat),.int .u64 (zFg k x)] (.bool true):=by
 obtain ⟨h1,h2⟩:=hk
 have e3:∀ x ∈ N16,IntKind.u64.wrap (IntKind.i64.wrap (IntKind.i32.wrap (IntKind.u32.wrap (zFg 3 x))))=zFg 3 x:=by decide
 have e7:∀ x ∈ N16,IntKind.u64.wrap (IntKind.i64.wrap (IntKind.i32.wrap (IntKind.u32.wrap (zFg 7 x))))=zFg 7 x:=by decide
 have e13:∀ x ∈ N16,zFg 13 x<=1:=by decide
 have e5:∀ x ∈ N16,0<=zFg 5 x/\zFg 5 x<4294967296:=by decide
 by_cases a1:k=3
 . subst a1;exact zNp (.inl rfl) (e3 x hx)
 by_cases a2:k=7
 . subst a2;exact zNp (.inr (.inl rfl)) (e7 x hx)
 by_cases a3:k=11
 . subst a3;exact zNp (.inr (.inr (.inl rfl))) (e3 x hx)
 by_cases a4:k=13
 . subst a4;exact zX7 (e13 x hx)
 by_cases a5:k=5\/k=9\/k=2
 . refine zYg a5 ?_
   rcases a5 with rfl | rfl | rfl <;> exact e5 x hx
 . exact zZ4 om_
theorem zWi {x:Int} (hx:x ∈ ENM4):Pe 116 [.int .i64 17,.int .u64 x] (.bool true) :=
 zNp (k:=17) (.inr (.inr (.inr rfl))) ((by decide:∀ x ∈ ENM4,IntKind.u64.wrap (IntKind.i64.wrap (IntKind.i32.wrap (IntKind.u32.wrap x)))=x) x hx)
theorem zZu:Pe 160 [.int .u32 228] (.str [195,164]):=by
 intro h hf K hk
 obtain ⟨hu,hut,hX⟩:=fx4 hf
 refine mk_ 160 c160 (s_ ?_)
 repeat (first
  | refine vx_ ?_
  | (refine mk_ 173 c173 (s_ ?_))
  | (refine rx_ ?_;refine ⟨rfl,?_⟩))
 show W TF .ret ⟨[.int .u32 228,.bool false,.bool true,.undef,.undef,.str [195,164]],_,[]⟩ _
 refine rx_ ?_
 refine hk _ ?_;exact om_
theorem zWq {s:B8} (hs:s ∈ STR5):Pe 115 [.str s] (.bool true):=by
 simp only [STR5,List.mem_cons,List.not_mem_nil,or_false] at hs
 rcases hs with rfl | rfl | rfl | rfl | rfl
 all_goals
  intro h hf K hk
  obtain ⟨hu,hut,hX⟩:=fx4 hf
  refine mk_ 115 c115 (s_ ?_)
  repeat (first
   | refine vx_ ?_
   | (refine dx_ ?_;refine W.loop ?_)
   | refine W.loop ?_
   | ((show Wc TF 160 [.int .u32 228] _ _);refine pe_ (zZu) fun n1 hn1=>⟨rfl,?_⟩)
   | (refine mk_ 140 c140 (s_ ?_))
   | (refine rx_ ?_;refine ⟨rfl,?_⟩))
  refine rx_ ?_
  refine hk _ ?_;exact om_
def NoF (F:CVal):Prop:=F=.nils\/∃ t,zGg t/\F=.imm t 2 []
theorem NoF.of {Z n:Nat} {F:CVal} {r:B8} (h:RM Z n (mv0 BV n) F r):NoF F/\r=[]:=by
 cases n with
 | zero =>
  obtain ⟨⟨_,es,he,hv⟩,hr⟩:=h
  obtain rfl:=he.nil_inv
  rcases hv with ⟨rfl,_⟩ | ⟨t,ht,rfl⟩
  . exact ⟨.inl rfl,hr⟩
  . exact ⟨.inr ⟨t,ht,rfl⟩,hr⟩
 | succ n =>
  obtain ⟨⟨_,es,he,hv⟩,hr,_⟩:=h
  obtain rfl:=he.nil_inv
  rcases hv with ⟨rfl,_⟩ | ⟨t,ht,rfl⟩
  . exact ⟨.inl rfl,hr⟩
  . exact ⟨.inr ⟨t,ht,rfl⟩,hr⟩
theorem zQo {F:CVal} (h:NoF F):Pe 48 [.agg [F,.str []]] (.bool true):=by
 rcases h with rfl | ⟨t,rfl | rfl,rfl⟩
 all_goals
  intro h hf K hk
  obtain ⟨hu,hut,hX⟩:=fx4 hf
  refine mk_ 48 c48 (s_ ?_)
  repeat (first
   | refine vx_ ?_)
  refine rx_ ?_
  refine hk _ ?_;exact om_
theorem NoF.p {F:CVal} (h:NoF F):PV1 F:=by
 rcases h with rfl | ⟨t,rfl | rfl,rfl⟩ <;> exact ⟨rfl,rfl,rfl,rfl,rfl⟩
theorem zVa {S1 S2:CVal} (pS1:PV1 S1) (pS2:PV1 S2) {ty r:B8} {F:CVal} (pF:PV1 F) (H:Pe 11 [.agg [S1,S2],.str ty,.agg [F,.str r]] (.bool true)):Pe 76 [.agg [S1,S2],.int .i64 16,.str ty,.agg [.int .u64 0,.str [],F,.str r]] (.bool true):=by
 intro h hf K hk
 obtain ⟨hu,hut,hX⟩:=fx4 hf
 refine pq_ pS1 fun w1=>?_
 refine pq_ pS2 fun w2=>?_
 refine pq_ pF fun w3=>?_
 obtain ⟨lb0,ls0⟩:=lbs_
 refine mk_ 76 c76 (s_ ?_)
 have hZ:=j6_ hX w1 w2 w3 lb0 ls0
 repeat (first
  | refine vk_ ?_
  | (refine pe_ (H) fun n1 hn1=>⟨rfl,?_⟩))
 refine rk_ ?_
 refine hk _ ?_;exact om_
theorem zV9 {S1 S2:CVal} (pS1:PV1 S1) (pS2:PV1 S2) {ty s:B8} {F:CVal} (hF:NoF F) (hs:s ∈ STR5):Pe 76 [.agg [S1,S2],.int .i64 14,.str ty,.agg [.int .u64 0,.str s,F,.str []]] (.bool true):=by
 have H:=zQo hF
 have V:=zWq hs
 have pF:=hF.p
 intro h hf K hk
 obtain ⟨hu,hut,hX⟩:=fx4 hf
 refine pq_ pS1 fun w1=>?_
 refine pq_ pS2 fun w2=>?_
 refine pq_ pF fun w3=>?_
 obtain ⟨lb0,ls0⟩:=lbs_
 refine mk_ 76 c76 (s_ ?_)
 have hZ:=j6_ hX w1 w2 w3 lb0 ls0
 repeat (first
  | refine vk_ ?_
  | ((first | refine pe_ (H) ?_ | refine pe_ (V) ?_);intro n1 hn1;refine ⟨rfl,?_⟩;(try dsimp only at hn1)))
 refine rk_ ?_
 refine hk _ ?_;exact om_
theorem zUy {S1 S2:CVal} (pS1:PV1 S1) (pS2:PV1 S2) {ty s:B8} {F:CVal} (hF:NoF F):Pe 76 [.agg [S1,S2],.int .i64 15,.str ty,.agg [.int .u64 0,.str s,F,.str []]] (.bool true):=by
 have H:=zQo hF
 have pF:=hF.p
 intro h hf K hk
 obtain ⟨hu,hut,hX⟩:=fx4 hf
 refine pq_ pS1 fun w1=>?_
 refine pq_ pS2 fun w2=>?_
 refine pq_ pF fun w3=>?_
 obtain ⟨lb0,ls0⟩:=lbs_
 refine mk_ 76 c76 (s_ ?_)
 have hZ:=j6_ hX w1 w2 w3 lb0 ls0
 repeat (first
  | refine vk_ ?_
  | (refine pe_ (H) fun n1 hn1=>⟨rfl,?_⟩))
 refine rk_ ?_
 refine hk _ ?_;exact om_
theorem zR0 {S1 S2:CVal} (pS1:PV1 S1) (pS2:PV1 S2) {ty:B8} {k:Nat} (hk:k≠14/\k≠15/\k≠16) {x:Int} {F:CVal} (hF:NoF F) (C:Pe 116 [.int .i64 (k:Nat),.int .u64 x] (.bool true)):Pe 76 [.agg [S1,S2],.int .i64 (k:Nat),.str ty,.agg [.int .u64 x,.str [],F,.str []]] (.bool true):=by
 obtain ⟨k1,k2,k3⟩:=hk
 have H:=zQo hF
 have pF:=hF.p
 have n14:((k:Int) == 14)=false:=bn_ om_
 have m14:((k:Int)=14)=False:=eq_false om_
 have n15:((k:Int) == 15)=false:=bn_ om_
 have m15:((k:Int)=15)=False:=eq_false om_
 have n16:((k:Int) == 16)=false:=bn_ om_
 have m16:((k:Int)=16)=False:=eq_false om_
 intro h hf K hk
 obtain ⟨hu,hut,hX⟩:=fx4 hf
 refine pq_ pS1 fun w1=>?_
 refine pq_ pS2 fun w2=>?_
 refine pq_ pF fun w3=>?_
 obtain ⟨lb0,ls0⟩:=lbs_
 refine mk_ 76 c76 (s_ ?_)
 have hZ:=j12_ hX w1 w2 w3 lb0 ls0 n14 m14 n15 m15 n16 m16
 repeat (first
  | refine vk_ ?_
  | ((first | refine pe_ (H) ?_ | refine pe_ (C) ?_);intro n1 hn1;refine ⟨rfl,?_⟩;(try dsimp only at hn1)))
 refine rk_ ?_
 refine hk _ ?_;exact om_
theorem zQ8 {S1 S2:CVal} (pS1:PV1 S1) (pS2:PV1 S2) {ty:B8} {k:Nat} (hk:1<=k/\k<=17) (h16:k≠16) {b:BV} (hb:VOK k b) {F:CVal} (hF:NoF F):Pe 76 [.agg [S1,S2],.int .i64 (k:Nat),.str ty,.agg [.int .u64 b.1,.str b.2,F,.str []]] (.bool true):=by
 obtain ⟨h1,h2,h3,h4⟩:=hb
 by_cases a1:k=14
 . obtain ⟨e1,e2⟩:=h1 a1
   subst a1
   rw [e1]
   exact zV9 pS1 pS2 hF e2
 by_cases a2:k=15
 . obtain ⟨e1,e2⟩:=h2 a2
   subst a2
   rw [e1]
   exact zUy pS1 pS2 hF
 by_cases a3:k=17
 . obtain ⟨e1,e2⟩:=h3 a3
   subst a3
   rw [e1]
   exact zR0 pS1 pS2 (k:=17) om_ hF (zWi e2)
 . have hn:KN k:=⟨hk.1,by omega⟩
   obtain ⟨e1,x,hx,e2⟩:=h4 hn
   rw [e1,e2]
   exact zR0 pS1 pS2 ⟨a1,a2,h16⟩ hF (zZi hn hx)
def One1 (S1 S2:CVal) (k:Nat) (ty:B8) (c:CVal):Prop:=∃ n s F u,c=.agg [.int .u64 n,.str s,F,.str u]/\PV1 F/\Pe 76 [.agg [S1,S2],.int .i64 (k:Nat),.str ty,c] (.bool true)
theorem zYe {S1 S2:CVal} (pS1:PV1 S1) (pS2:PV1 S2) {r:RW} {es:List CVal} (hE:∀ c ∈ es,One1 S1 S2 r.kind r.ty c) {L:Nat} (hlr:es.length=L) (hL:L<=1000000) {q1 d1 q2 d2:Nat} {t:Tag} {hh:CHeap} (hf:Fit hh) (g1:zA1 hh.ents q1=some (.cells [S1,S2])) (g2:zA1 hh.ents q2=some (.cells [.int .i64 (r.num:Nat),.str r.nm,.int .i64 (r.lab:Nat),.int .i64 (r.kind:Nat),.str r.ty,.int .i64 (zAi r.key:Nat),.bool r.pkd,.int .i64 (r.oo:Nat)])) {Q:QT}
    (hno:∀ (v1 v3 v5 v6:CVal) n',hh.next<=n'->Q (.exit 0) ⟨[.imm t 4 es,v1,.int .i64 (L:Nat),v3,.fn (.func 75) [] [.ptr q1 d1 0,.ptr q2 d2 0],v5,v6,.int .i64 0],⟨hh.ents,n',hh.tys⟩,[]⟩) :
    ∀ (m k nx:Nat) (v3 v5 v6:CVal),k+m=L->hh.next<=nx->W TF fvL ⟨[.imm t 4 es,.int .i64 (k:Nat),.int .i64 (L:Nat),v3,.fn (.func 75) [] [.ptr q1 d1 0,.ptr q2 d2 0],v5,v6,.int .i64 0],⟨hh.ents,nx,hh.tys⟩,[]⟩ Q:=by
 refine pq_ pS1 fun w1=>?_
 refine pq_ pS2 fun w2=>?_
 obtain ⟨lb0,ls0⟩:=lbs_
 intro m
 induction m with
 | zero =>
  intro k nx v3 v5 v6 h1 h3
  obtain rfl:k=L:=by omega
  refine W.loop ?_
  try refine w0_ ?_
  refine hno _ _ _ _ _ ?_;exact om_
 | succ m ih =>
  intro k nx v3 v5 v6 h1 h3
  obtain ⟨hu,hut,hX⟩:=fx4 (show Fit ⟨hh.ents,nx,hh.tys⟩ from ⟨hf.1.le h3,hf.2.le h3⟩)
  dsimp only at hX hu hut
  have hlt:(k:Int)<(L:Int):=by omega
  have lq1:=zA3 hu g1
  have lq2:=zA3 hu g2
  obtain ⟨c,e1⟩:∃ c,es[k]? = some c:=⟨_,gE_ om_⟩
  obtain ⟨n,s,F,u,rfl,pF,H⟩:=hE c (List.mem_of_getElem? e1)
  have m1:=zAk e1
  refine pq_ pF fun w3=>?_
  refine W.loop ?_
  have hZ:=j12_ hX g1 g2 hlt e1 m1 hlr w1 w2 w3 lb0 ls0
  repeat (first
   | refine vk_ ?_
   | (refine pe_ (H) fun n1 hn1=>⟨rfl,?_⟩)
   | (refine mk_ 75 c75 (s_ ?_))
   | (refine rk_ ?_;refine ⟨rfl,?_⟩))
  have ih1:=fun nx v3 v5 v6 (h:_<=nx)=>ih (k+1) nx v3 v5 v6 om_ h
  push_cast at ih1
  refine dk_ ?_
  refine ih1 _ _ _ _ ?_;exact om_
theorem zRp {S1 S2:CVal} (pS1:PV1 S1) (pS2:PV1 S2) {r:RW} (hlab:r.lab=2) {es:List CVal} {t:Tag} (ht:zGg t) (hE:∀ c ∈ es,One1 S1 S2 r.kind r.ty c) (h0:1<=es.length) (h1:es.length<=1000000):Pe 32 [.agg [S1,S2],.agg [.int .i64 (r.num:Nat),.str r.nm,.int .i64 (r.lab:Nat),.int .i64 (r.kind:Nat),.str r.ty,.int .i64 (zAi r.key:Nat),.bool r.pkd,.int .i64 (r.oo:Nat)],.imm t 4 es] (.bool true):=by
 have hst:(CVal.imm t 4 es).strip=.imm t 4 es:=by rcases ht with rfl | rfl <;> rfl
 simp only [CVal.strip] at hst
 obtain ⟨L,hlr⟩:∃ L,es.length=L:=⟨_,rfl⟩
 have d:r.lab=2:=hlab
 have x:r.lab≠3:=by omega
 have y:r.lab≠0:=by omega
 have z:(L:Int)≠0:=by omega
 have z2:L≠0:=by omega
 have da:((r.lab:Int) == 2)=true:=by simp [d]
 have db:((r.lab:Int)=2)=True:=by simp [d]
 have dc:((r.lab:Int) != 2)=false:=by simp [d]
 have xa:((r.lab:Int) == 3)=false:=bn_ (by omega)
 have xb:((r.lab:Int)=3)=False:=eq_false (by omega)
 have xc:((r.lab:Int) != 3)=true:=bne_iff_ne.2 (by omega)
 have ya:((r.lab:Int) == 0)=false:=bn_ (by omega)
 have yb:((r.lab:Int)=0)=False:=eq_false (by omega)
 have yc:((r.lab:Int) != 0)=true:=bne_iff_ne.2 (by omega)
 have za:((L:Int) == 0)=false:=bn_ (by omega)
 have zb:((L:Int)=0)=False:=eq_false (by omega)
 have zc:((L:Int) != 0)=true:=bne_iff_ne.2 (by omega)
 intro h hf K hk
 obtain ⟨hu,hut,hX⟩:=fx4 hf
 refine pq_ pS1 fun w1=>?_
 refine pq_ pS2 fun w2=>?_
 obtain ⟨lb0,ls0⟩:=lbs_
 refine mk_ 32 c32 (s_ ?_)
 have hZ:=j17_ hX w1 w2 lb0 ls0 hst hlr da db dc xa xb ya yb za zb z2
 repeat ((fail_if_success (show W TF fvL _ _));first
  | refine vk_ ?_
  | (refine mk_ 73 c73 (s_ ?_))
  | (refine mk_ 74 c74 (s_ ?_))
  | (refine mk_ 114 c114 (s_ ?_))
  | (refine rk_ ?_;refine ⟨rfl,?_⟩))
 refine zYe (r:=r) pS1 pS2 hE (L:=L) hlr (by omega) (hh:=⟨_,_,_⟩) ?_ ?_ ?_ ?_ L 0 _ _ _ _ (by omega) (Nat.le_refl _)
 . exact ft_
 . simp (disch:=omega) [zA1]
 . simp (disch:=omega) [zA1]
 intro v1 v3 v5 v6 n' hn'
 dsimp only at hn'
 repeat (first
  | refine vk_ ?_
  | (refine rk_ ?_;refine ⟨rfl,?_⟩))
 refine rk_ ?_
 refine hk _ ?_;exact om_
theorem zQu {S1 S2:CVal} (pS1:PV1 S1) (pS2:PV1 S2) {r:RW} (h2:r.lab≠2) (h3:r.lab≠3) {t:Tag} (ht:zGg t) {n:Int} {s:B8} {F:CVal} {u:B8} (pF:PV1 F) (H:Pe 76 [.agg [S1,S2],.int .i64 (r.kind:Nat),.str r.ty,.agg [.int .u64 n,.str s,F,.str u]] (.bool true)) (hz:r.lab=0->r.oo=0->r.kind≠16->¬ (n=0/\s=[])):Pe 32 [.agg [S1,S2],.agg [.int .i64 (r.num:Nat),.str r.nm,.int .i64 (r.lab:Nat),.int .i64 (r.kind:Nat),.str r.ty,.int .i64 (zAi r.key:Nat),.bool r.pkd,.int .i64 (r.oo:Nat)],.imm t 4 [.agg [.int .u64 n,.str s,F,.str u]]] (.bool true):=by
 have hE:∀ c ∈ [CVal.agg [.int .u64 n,.str s,F,.str u]],One1 S1 S2 r.kind r.ty c:=fun c hc=>by
  simp at hc;rw [hc];exact ⟨_,_,_,_,rfl,pF,H⟩
 have hlr:[CVal.agg [.int .u64 n,.str s,F,.str u]].length=1:=rfl
 have x:=h3
 have d:=h2
 have da:((r.lab:Int) == 2)=false:=bn_ (by omega)
 have db:((r.lab:Int)=2)=False:=eq_false (by omega)
 have dc:((r.lab:Int) != 2)=true:=bne_iff_ne.2 (by omega)
 have xa:((r.lab:Int) == 3)=false:=bn_ (by omega)
 have xb:((r.lab:Int)=3)=False:=eq_false (by omega)
 have xc:((r.lab:Int) != 3)=true:=bne_iff_ne.2 (by omega)
 intro h hf K hk
 obtain ⟨hu,hut,hX⟩:=fx4 hf
 refine pq_ pS1 fun w1=>?_
 refine pq_ pS2 fun w2=>?_
 refine pq_ pF fun w3=>?_
 obtain ⟨lb0,ls0⟩:=lbs_
 have D:((((r.lab:Int) == 0)=false)/\(((r.lab:Int)=0)=False))\/((((r.lab:Int) == 0)=true)/\(((r.lab:Int)=0)=True)/\(((((r.oo:Int) == 0)=false)/\(((r.oo:Int)=0)=False))\/((((r.oo:Int) == 0)=true)/\(((r.oo:Int)=0)=True)/\(((((r.kind:Int) == 16)=true)/\(((r.kind:Int)=16)=True)/\(((r.kind:Int) != 16)=false))\/((((r.kind:Int) == 16)=false)/\(((r.kind:Int)=16)=False)/\(((r.kind:Int) != 16)=true)/\((((n == 0)=false)/\((n=0)=False))\/(n=0/\((s == [])=false)/\((s=[])=False)))))))):=by
  by_cases y:r.lab=0
  . refine .inr ⟨by simp [y],by simp [y],?_⟩
    by_cases v:r.oo=0
    . refine .inr ⟨by simp [v],by simp [v],?_⟩
      by_cases g:r.kind=16
      . exact .inl ⟨by simp [g],by simp [g],by simp [g]⟩
      . refine .inr ⟨bn_ (by omega),eq_false (by omega),bne_iff_ne.2 (by omega),?_⟩
        by_cases i:n=0
        . have j:s≠[]:=fun e=>hz y v g ⟨i,e⟩
          exact .inr ⟨i,bn_ j,eq_false j⟩
        . exact .inl ⟨bn_ i,eq_false i⟩
    . exact .inl ⟨bn_ (by omega),eq_false (by omega)⟩
  . exact .inl ⟨bn_ (by omega),eq_false (by omega)⟩
 rcases D with D | ⟨y1,y2,D | ⟨v1,v2,D | ⟨g1,g2,g3,D | ⟨rfl,D⟩⟩⟩⟩ <;> rcases ht with rfl | rfl <;> (
  have hC:=j11_ hX w1 w2 w3 lb0 ls0 da db dc xa (And.intro xb D)
  first | have hC:=And.intro hC (j7_ y1 y2 v1 v2 g1 g2 g3) | have hC:=And.intro hC (j4_ y1 y2 v1 v2) | have hC:=And.intro hC (And.intro y1 y2) | skip
  have hZ:=hC
  refine mk_ 32 c32 (s_ ?_)
  have hZ:=hC
  repeat ((fail_if_success (show W TF fvL _ _));first
   | refine vk_ ?_
   | (refine mk_ 73 c73 (s_ ?_))
   | (refine mk_ 74 c74 (s_ ?_))
   | (refine mk_ 114 c114 (s_ ?_))
   | (refine rk_ ?_;refine ⟨rfl,?_⟩))
  refine zYe (r:=r) pS1 pS2 hE (L:=1) hlr (by omega) (hh:=⟨_,_,_⟩) ?_ ?_ ?_ ?_ 1 0 _ _ _ _ (by omega) (Nat.le_refl _)
  . exact ft_
  . simp (disch:=omega) [zA1]
  . simp (disch:=omega) [zA1]
  intro v1 v3 v5 v6 n' hn'
  dsimp only at hn'
  repeat (first
   | refine vk_ ?_
   | (refine rk_ ?_;refine ⟨rfl,?_⟩))
  refine rk_ ?_
  refine hk _ ?_;exact om_)
def Key1 (S1 S2:CVal) (k:Nat) (b:BV) (c:CVal):Prop:=∃ F u,c=.agg [.int .u64 b.1,.str b.2,F,.str u]/\PV1 F/\Pe 76 [.agg [S1,S2],.int .i64 (k:Nat),.str [],c] (.bool true)
theorem zbx {S1 S2:CVal} (pS1:PV1 S1) (pS2:PV1 S2) {r:RW} (hK:KK (zAi r.key)) {es:List CVal} {N:Nat} {ks:Nat->BV} (hk1:∀ i<N,kokK (zAi r.key) (ks i)) (hlt1:∀ i,i+1<N->ltV (sgK (zAi r.key)) (ks i) (ks (i+1))=true) (hE:∀ i<N,(∃ c,es[2 * i]? = some c/\Key1 S1 S2 (zAi r.key) (ks i) c)/\∃ c,es[2 * i+1]? = some c/\One1 S1 S2 r.kind r.ty c) {L:Nat} (hLN:L=2 * N) (hlr:es.length=L) (hL:L<=1000000) {b9 b10:Nat} {t:Tag} (hst:(CVal.imm t 4 es).strip=.imm t 4 es) {hh:CHeap} (hf:Fit hh) (g1:zA1 hh.ents b9=some (.cells [S1,S2])) (g2:zA1 hh.ents b10=some (.cells [.int .i64 (r.num:Nat),.str r.nm,.int .i64 (r.lab:Nat),.int .i64 (r.kind:Nat),.str r.ty,.int .i64 (zAi r.key:Nat),.bool r.pkd,.int .i64 (r.oo:Nat)])) {a0 a1:CVal} {Q:QT}
    (hno:∀ (v5 v7 v8 v11 v12 v13:CVal) n',hh.next<=n'->Q (.exit 0) ⟨[a0,a1,.imm t 4 es,.int .i64 (L:Nat),.int .i64 (L:Nat),v5,.imm t 4 es,v7,v8,.ptr b9 30408706 0,.ptr b10 63963144 0,v11,v12,v13,.bool false],⟨hh.ents,n',hh.tys⟩,[]⟩) :
    ∀ (m i nx:Nat) (v5 v7 v8 v11 v12 v13:CVal),i+m=N->hh.next<=nx->W TF paL ⟨[a0,a1,.imm t 4 es,.int .i64 (2 * (i:Int)),.int .i64 (L:Nat),v5,.imm t 4 es,v7,v8,.ptr b9 30408706 0,.ptr b10 63963144 0,v11,v12,v13,.bool false],⟨hh.ents,nx,hh.tys⟩,[]⟩ Q:=by
 refine pq_ pS1 fun w1=>?_
 refine pq_ pS2 fun w2=>?_
 obtain ⟨lb0,ls0⟩:=lbs_
 simp only [CVal.strip] at hst
 intro m
 induction m with
 | zero =>
  intro i nx v5 v7 v8 v11 v12 v13 h1 h3
  have hge:¬ 2 * (i:Int)<(L:Int):=by omega
  have e:2 * (i:Int)=((L:Nat):Int):=by omega
  rw [e] at *
  refine W.loop ?_
  have hZ:=hge
  repeat (first
   | refine vk_ ?_)
  refine hno _ _ _ _ _ _ _ ?_;exact om_
 | succ m ih =>
  intro i nx v5 v7 v8 v11 v12 v13 h1 h3
  obtain ⟨hu,hut,hX⟩:=fx4 (show Fit ⟨hh.ents,nx,hh.tys⟩ from ⟨hf.1.le h3,hf.2.le h3⟩)
  dsimp only at hX hu hut
  have hlt:2 * (i:Int)<(L:Int):=by omega
  have hlt2:2 * (i:Int)+1<(L:Int):=by omega
  have lq1:=zA3 hu g1
  have lq2:=zA3 hu g2
  obtain ⟨⟨c,e1,F,u,rfl,pF,H1⟩,c2,e2,n2,s2,F2,u2,rfl,pF2,H2⟩:=hE i om_
  have m1:=zAk e1
  have m2:=zAk e2
  have t0:(2 * (i:Int)).tmod 2=0:=by rw [Int.tmod_eq_emod_of_nonneg (by omega)];omega
  have t1:(2 * (i:Int)+1).tmod 2=1:=by rw [Int.tmod_eq_emod_of_nonneg (by omega)];omega
  have n0:(2 * (i:Int)).toNat=2 * i:=by omega
  have nn1:(2 * (i:Int)+1).toNat=2 * i+1:=by omega
  refine pq_ pF fun w3=>?_
  refine pq_ pF2 fun w4=>?_
  have ih1:=fun nx v5 v7 v8 v11 v12 v13 (h:_<=nx)=>ih (i+1) nx v5 v7 v8 v11 v12 v13 om_ h
  have ei:2 * (((i+1:Nat)):Int)=2 * (i:Int)+1+1:=by omega
  rw [ei] at ih1
  refine W.loop ?_
  by_cases hi:i=0
  . have hgt:¬ (0:Int)<2 * (i:Int):=by omega
    have hZ:=j16_ hX g1 g2 hlt e1 m1 hlr hst w1 w2 w3 lb0 ls0 t0 n0 hgt
    repeat (first
     | refine vk_ ?_
     | (refine pe_ (H1) fun n1 hn1=>⟨rfl,?_⟩))
    refine dk_ ?_
    refine W.loop ?_
    have hZ:=j15_ hX g1 g2 hlt2 e2 m2 hlr hst w1 w2 w4 lb0 ls0 t1 nn1
    repeat (first
     | refine vk_ ?_
     | (refine pe_ (H2) fun n1 hn1=>⟨rfl,?_⟩))
    refine dk_ ?_
    refine ih1 _ _ _ _ _ _ _ ?_;exact om_
  . have hgt:(0:Int)<2 * (i:Int):=by omega
    obtain ⟨j,rfl⟩:∃ j,i=j+1:=⟨i - 1,by omega⟩
    obtain ⟨⟨c0,e0,F0,u0,rfl,pF0,_⟩,_⟩:=hE j om_
    have m0:=zAk e0
    have n3:(2 * ((j+1:Nat):Int) - 2).toNat=2 * j:=by omega
    have hge0:(0:Int)<=2 * ((j+1:Nat):Int) - 2:=by omega
    have hlt0:2 * ((j+1:Nat):Int) - 2<(L:Int):=by omega
    have C:=zOs hK (hk1 j om_) (hk1 (j+1) om_) (r:=u0) (s:=u) pF0 pF
    have hc:=zNa (hlt1 j om_)
    generalize cmpV (sgK (zAi r.key)) (ks j) (ks (j+1))=cv at *
    have hc2:¬ (0:Int)<=cv:=by omega
    refine pq_ pF0 fun w5=>?_
    generalize ((j+1:Nat):Int)=J at *
    have hZ:=j23_ hX g1 g2 hlt e1 m1 hlr hst w1 w2 w3 lb0 ls0 t0 n0 hgt e0 m0 n3 hge0 hlt0 hc2 w5
    repeat (first
     | refine vk_ ?_
     | ((first | refine pe_ (H1) ?_ | refine pe_ (C) ?_);intro n1 hn1;refine ⟨rfl,?_⟩;(try dsimp only at hn1)))
    refine dk_ ?_
    refine W.loop ?_
    have hZ:=j15_ hX g1 g2 hlt2 e2 m2 hlr hst w1 w2 w4 lb0 ls0 t1 nn1
    repeat (first
     | refine vk_ ?_
     | (refine pe_ (H2) fun n1 hn1=>⟨rfl,?_⟩))
    refine dk_ ?_
    refine ih1 _ _ _ _ _ _ _ ?_;exact om_
theorem zT0 {S1 S2:CVal} (pS1:PV1 S1) (pS2:PV1 S2) {r:RW} (hK:KK (zAi r.key)) {es:List CVal} {N:Nat} {ks:Nat->BV} (hk1:∀ i<N,kokK (zAi r.key) (ks i)) (hlt1:∀ i,i+1<N->ltV (sgK (zAi r.key)) (ks i) (ks (i+1))=true) (hE:∀ i<N,(∃ c,es[2 * i]? = some c/\Key1 S1 S2 (zAi r.key) (ks i) c)/\∃ c,es[2 * i+1]? = some c/\One1 S1 S2 r.kind r.ty c) (hlr':es.length=2 * N) (hL':es.length<=1000000) {t:Tag} (ht:zGg t):Pe 72 [.agg [S1,S2],.agg [.int .i64 (r.num:Nat),.str r.nm,.int .i64 (r.lab:Nat),.int .i64 (r.kind:Nat),.str r.ty,.int .i64 (zAi r.key:Nat),.bool r.pkd,.int .i64 (r.oo:Nat)],.imm t 4 es] (.bool true):=by
 have hst0:(CVal.imm t 4 es).strip=.imm t 4 es:=by rcases ht with rfl | rfl <;> rfl
 have hst:=hst0
 simp only [CVal.strip] at hst
 obtain ⟨L,hlr⟩:∃ L,es.length=L:=⟨_,rfl⟩
 have t0:((L:Nat):Int).tmod 2=0:=by rw [Int.tmod_eq_emod_of_nonneg (by omega)];omega
 intro h hf K hk
 obtain ⟨hu,hut,hX⟩:=fx4 hf
 refine pq_ pS1 fun w1=>?_
 refine pq_ pS2 fun w2=>?_
 obtain ⟨lb0,ls0⟩:=lbs_
 refine mk_ 72 c72 (s_ ?_)
 have hZ:=j8_ hX w1 w2 lb0 ls0 hst hlr t0
 repeat ((fail_if_success (show W TF paL _ _));refine vk_ ?_)
 refine zbx pS1 pS2 (r:=r) hK hk1 hlt1 hE (L:=L) om_ hlr om_ hst0 (hh:=⟨_,_,_⟩) ?_ ?_ ?_ ?_ N 0 _ _ _ _ _ _ _ om_ (Nat.le_refl _)
 . exact ft_
 . simp (disch:=omega) [zA1]
 . simp (disch:=omega) [zA1]
 intro v5 v7 v8 v11 v12 v13 n' hn'
 dsimp only at hn'
 repeat (refine vk_ ?_)
 refine rk_ ?_
 refine hk _ ?_;exact om_
theorem zPo {S1 S2:CVal} (pS1:PV1 S1) (pS2:PV1 S2) {r:RW} (hK:KK (zAi r.key)) {es:List CVal} {N:Nat} {ks:Nat->BV} (hk1:∀ i<N,kokK (zAi r.key) (ks i)) (hlt1:∀ i,i+1<N->ltV (sgK (zAi r.key)) (ks i) (ks (i+1))=true) (hE:∀ i<N,(∃ c,es[2 * i]? = some c/\Key1 S1 S2 (zAi r.key) (ks i) c)/\∃ c,es[2 * i+1]? = some c/\One1 S1 S2 r.kind r.ty c) (hlr':es.length=2 * N) (hL':es.length<=1000000) {t:Tag} (ht:zGg t) (hlab:r.lab=3) (h0:1<=es.length):Pe 32 [.agg [S1,S2],.agg [.int .i64 (r.num:Nat),.str r.nm,.int .i64 (r.lab:Nat),.int .i64 (r.kind:Nat),.str r.ty,.int .i64 (zAi r.key:Nat),.bool r.pkd,.int .i64 (r.oo:Nat)],.imm t 4 es] (.bool true):=by
 have P:=zT0 pS1 pS2 hK hk1 hlt1 hE hlr' hL' ht
 have hst:(CVal.imm t 4 es).strip=.imm t 4 es:=by rcases ht with rfl | rfl <;> rfl
 simp only [CVal.strip] at hst
 obtain ⟨L,hlr⟩:∃ L,es.length=L:=⟨_,rfl⟩
 have x:r.lab=3:=hlab
 have z:(L:Int)≠0:=by omega
 have z2:L≠0:=by omega
 have xa:((r.lab:Int) == 3)=true:=by simp [x]
 have xb:((r.lab:Int)=3)=True:=by simp [x]
 have xc:((r.lab:Int) != 3)=false:=by simp [x]
 have za:((L:Int) == 0)=false:=bn_ om_
 have zb:((L:Int)=0)=False:=eq_false om_
 have zc:((L:Int) != 0)=true:=bne_iff_ne.2 om_
 intro h hf K hk
 obtain ⟨hu,hut,hX⟩:=fx4 hf
 refine pq_ pS1 fun w1=>?_
 refine pq_ pS2 fun w2=>?_
 obtain ⟨lb0,ls0⟩:=lbs_
 refine mk_ 32 c32 (s_ ?_)
 have hZ:=j12_ hX w1 w2 lb0 ls0 hst hlr xa xb za zb z2
 repeat (first
  | refine vk_ ?_
  | (refine pe_ (P) fun n1 hn1=>⟨rfl,?_⟩))
 refine rk_ ?_
 refine hk _ ?_;exact om_
def FitC (a b:BD) (n:Nat):Prop:=∀ (t:Nmt),t=tyI\/t=tyM->∀ (Z:Nat),Z<=5000->∀ (m:MVB n) (F:CVal) (r:B8),OkMs a b n t m->RM Z n m F r->Pe 11 [schV a b,.str t,.agg [F,.str r]] (.bool true)
theorem RW.kd {r:RW} (h:r.ok):1<=r.kind/\r.kind<=17:=by
 obtain ⟨h1,h2,_⟩:=zF4 _ h.t
 unfold RW.kind
 split
 . split <;> omega
 . omega
theorem zRv {a b:BD} {n:Nat} (FC:FitC a b n) {S1 S2:CVal} (hS:schV a b=.agg [S1,S2]) (pS1:PV1 S1) (pS2:PV1 S2) {fr:RW} (hfr:fr.ok) {x:BV × MVB n} (hx:VV b0V (OkMs a b n) fr.fld x) {Z:Nat} (hz:Z<=5000) {c:CVal} (hc:RV (RM Z n) x c):One1 S1 S2 fr.kind fr.ty c:=by
 obtain ⟨F,u,rfl,_,_,pF,hF⟩:=hc
 refine ⟨_,_,F,u,rfl,pF,?_⟩
 by_cases hk:fr.kind=16
 . obtain ⟨e1,e2⟩:=hx.1 (by simp [RW.fld,hk])
   have H:=FC fr.ty (zOp hfr hk) Z hz x.2 F u e2 hF
   rw [hS] at H
   rw [hk,e1]
   exact zVa pS1 pS2 pF H
 . obtain ⟨e1,e2⟩:=hx.2 (by simp [RW.fld,hk])
   rw [e2] at hF
   obtain ⟨h1,rfl⟩:=NoF.of hF
   exact zQ8 pS1 pS2 (RW.kd hfr) hk e1.1 h1
theorem zO3 {K V:Type} {lt:K->K->Bool}:∀ {l:List (K × V)},SL.Srt lt l->∀ {i:Nat} {x y:K × V},l[i]? = some x->l[i+1]? = some y->lt x.1 y.1=true
 | (a,v)::l,h,0,x,y,hx,hy=>by
  cases hx
  exact h.1 y (List.mem_of_getElem? (show l[0]? = some y from hy))
 | (a,v)::l,h,i+1,x,y,hx,hy=>zO3 h.2 (show l[i]? = some x from hx) (show l[i+1]? = some y from hy)
theorem zT6 {a b:BD} {n:Nat} (FC:FitC a b n) {fr:RW} (hfr:fr.ok) (hk3:fr.lab=3->KK (zAi fr.key)) {l:List (BV × MVB n)} (hl:OkF b0V (OkMs a b n) fr.fld l) {Z:Nat} (hz:Z<=5000) {Y:CVal} (hy:LRep Z (RV (RM Z n)) 4 l Y):Pe 32 [schV a b,fr.pf,Y] (.bool true):=by
 obtain ⟨S1,S2,hS,pS1,pS2⟩:=schS a b
 rw [hS]
 unfold RW.pf
 obtain ⟨hlz,es,he,hv⟩:=hy
 have hlen:=he.len
 have hpos:=List.length_pos_iff.2 hl.1
 rcases hv with ⟨rfl,rfl⟩ | ⟨t,ht,rfl⟩
 . simp at hlen;omega
 by_cases l2:fr.lab=2
 . refine zRp pS1 pS2 l2 ht (fun c hc=>?_) om_ om_
   obtain ⟨i,hi⟩:=List.getElem?_of_mem hc
   obtain ⟨x,hx⟩:∃ x,l[i]? = some x:=⟨_,gE_ (by have:=(gs_ hi).1;omega)⟩
   obtain ⟨c',e1,e2⟩:=he.at hx
   rw [hi] at e1;cases e1
   exact zRv FC hS pS1 pS2 hfr (hl.2.2.2 (by simp [RW.fld,l2]) x (List.mem_of_getElem? hx)) hz e2
 by_cases l3:fr.lab=3
 . obtain ⟨q,hq1,hq2,rfl⟩:=hl.2.1 (by simp [RW.fld,l3])
   have hK:=hk3 l3
   rw [zB0] at hlen hlz
   have hkr:1<=zAi fr.key/\zAi fr.key<=17/\zAi fr.key≠16:=by unfold KK at hK;omega
   refine zPo pS1 pS2 hK (N:=q.length) (ks:=fun i=>((q[i]?).map (·.1)).getD b0V) (fun i hi=>?_) (fun i hi=>?_) (fun i hi=>?_) hlen (by omega) ht l3 (by rw [zB0] at hpos;omega)
   . have e:q[i]? = some q[i]:=gE_ hi
     rw [e]
     exact (hq2 _ (List.getElem_mem hi)).1.1
   . have e:q[i]? = some (q[i]'om_):=gE_ _
     have e':q[i+1]? = some q[i+1]:=gE_ hi
     rw [e,e']
     exact zO3 hq1 e e'
   . have e:q[i]? = some q[i]:=gE_ hi
     have hm:=hq2 _ (List.getElem_mem hi)
     obtain ⟨c1,a1,a2⟩:=he.at (zC6 (e:=mv0 BV n) (show q[i]? = some (q[i].1,q[i].2) from e)).1
     obtain ⟨c2,b1,b2⟩:=he.at (zC6 (e:=mv0 BV n) (show q[i]? = some (q[i].1,q[i].2) from e)).2
     refine ⟨⟨c1,a1,?_⟩,c2,b1,zRv FC hS pS1 pS2 hfr hm.2 hz b2⟩
     obtain ⟨F,u,rfl,_,_,pF,hF⟩:=a2
     obtain ⟨h1,rfl⟩:=NoF.of hF
     rw [e]
     exact ⟨F,[],rfl,pF,zQ8 pS1 pS2 ⟨hkr.1,hkr.2.1⟩ hkr.2.2 hm.1.2 h1⟩
 obtain ⟨v,rfl,hv⟩:=hl.2.2.1 (by simp [RW.fld,l2,l3]) (by simp [RW.fld,l2,l3])
 obtain ⟨c,cs,rfl,hc,hcs⟩:=he.cons_inv
 obtain rfl:=hcs.nil_inv
 obtain ⟨n0,s0,F0,u0,e0,pF0,H0⟩:=zRv FC hS pS1 pS2 hfr hv hz hc
 obtain ⟨F,u,rfl,_,_,pF,hF⟩:=hc
 cases e0
 refine zQu pS1 pS2 l2 l3 ht pF H0 fun h1 h2 h3 h4=>?_
 exact (hv.2 (by simp [RW.fld,h3])).1.2 h1 h2 (Prod.ext h4.1 h4.2)
def mpB:Bool->CObj
 | false=>.map 0 []
 | true=>.map 1 [(0,.int .i64 1,.bool true)]
theorem zQj {K V:Type} {lt:K->K->Bool}:∀ {l:List (K × V)},SL.Srt lt l->∀ {i j:Nat} {x y:K × V},l[i]? = some x->l[j]? = some y->i<j->lt x.1 y.1=true
 | (a,v)::l,h,0,j+1,x,y,hx,hy,_=>by
  cases hx
  exact h.1 y (List.mem_of_getElem? (show l[j]? = some y from hy))
 | (a,v)::l,h,i+1,j+1,x,y,hx,hy,hij=>zQj h.2 (show l[i]? = some x from hx) (show l[j]? = some y from hy) (by omega)
theorem zdk {a b c:BD} {n:Nat} (FC:FitC a b n) {t:Nmt} (hc:bdOf a b t=some c) (hs:SOk (zAd c.rs)) (hlow:∀ r ∈ zAd c.rs,r.num<900/\r.oo<=1) {O:CVal} (HO:PV1 O) {S1 S2:CVal} (hS:schV a b=.agg [S1,S2]) (pS1:PV1 S1) (pS2:PV1 S2) {Z:Nat} (hz:Z<=5000) {l:List (Nat × List (BV × MVB n))} {es:List CVal} {L:Nat} (hl:l.length=L) (hlZ:L<=Z) (hE:All2 (RF Z (RM Z n)) l es) (hsl:SL.Srt nltB l) (hal:SL.All (fun k l=>∃ f,fldS a b t k=some f/\OkF b0V (OkMs a b n) f l) l) (hone:∀ p ∈ l,∀ q ∈ l,∀ f g,fldS a b t p.1=some f->fldS a b t q.1=some g->0<f.one->f.one=g.one->p.1=q.1) {tb:Tag} (hst:(CVal.imm tb 2 es).strip=.imm tb 2 es) {r:B8} {b2 b5 b6 b15:Nat} {hb:CHeap} (hf:Fit hb) (g2:zA1 hb.ents b2=some (.cells [S1,S2])) (g5:zA1 hb.ents b5=some (.cells [.str t,lV8 (zAd c.rs),O])) (g6:zA1 hb.ents b6=some (.cells [.imm tb 2 es,.str r])) {x0:CObj} (g15:zA1 hb.ents b15=some x0) (n2:b2≠b15) (n5:b5≠b15) (n6:b6≠b15) {a0 a1:CVal} {Q:QT}
    (hk:∀ (s:Bool) (v7 v10 v12 v13 v14 v16 v17 v18:CVal) (nx:Nat),hb.next<=nx->Q (.exit 0) ⟨[a0,a1,.ptr b2 30408706 0,.str t,.bool true,.ptr b5 49283075 0,.ptr b6 37748738 0,v7,.int .i64 (L:Nat),.int .i64 (L:Nat),v10,.imm tb 2 es,v12,v13,v14,.map b15,v16,v17,v18,.bool false],⟨zA2 hb.ents b15 (mpB s),nx,hb.tys⟩,[]⟩) :
    ∀ (m i:Nat) (s:Bool) (nx:Nat) (v7 v10 v12 v13 v14 v16 v17 v18:CVal),i+m=L->(s=true->∃ j p f,j<i/\l[j]? = some p/\fldS a b t p.1=some f/\f.one=1)->hb.next<=nx->W TF ftL ⟨[a0,a1,.ptr b2 30408706 0,.str t,.bool true,.ptr b5 49283075 0,.ptr b6 37748738 0,v7,.int .i64 (i:Nat),.int .i64 (L:Nat),v10,.imm tb 2 es,v12,v13,v14,.map b15,v16,v17,v18,.bool false],⟨zA2 hb.ents b15 (mpB s),nx,hb.tys⟩,[]⟩ Q:=by
 refine pq_ pS1 fun w1=>?_
 refine pq_ pS2 fun w2=>?_
 refine pq_ HO fun w3=>?_
 obtain ⟨lb0,ls0⟩:=lbs_
 have pL:=lV8P (zAd c.rs)
 refine pq_ pL fun w4=>?_
 simp only [CVal.strip] at hst
 have hlen:=hE.len
 have hlr:es.length=L:=by omega
 intro m
 induction m with
 | zero =>
  intro i s nx v7 v10 v12 v13 v14 v16 v17 v18 h1 hold h8
  obtain rfl:i=L:=by omega
  refine W.loop ?_
  try refine w0_ ?_
  refine hk _ _ _ _ _ _ _ _ _ _ ?_;exact om_
 | succ m ih =>
  intro i s nx v7 v10 v12 v13 v14 v16 v17 v18 h1 hold h8
  obtain ⟨p,hp⟩:∃ p,l[i]? = some p:=⟨_,gE_ om_⟩
  obtain ⟨f,hff,hfl⟩:=hal p (List.mem_of_getElem? hp)
  have hff':=hff
  rw [zHq hc] at hff'
  obtain ⟨fr,hfr,rfl⟩:=Option.map_eq_some_iff.1 hff'
  obtain ⟨hfm,hfn⟩:=zGo hfr
  obtain ⟨hfok,hfk⟩:=hs.ok fr hfm
  have hoo:=(hlow fr hfm).2
  obtain ⟨ce,q1,r1⟩:=hE.at hp
  obtain ⟨A,rfl,pA,hA⟩:=r1
  have m1:=zAk q1
  have hlt:(i:Int)<(L:Int):=by omega
  obtain ⟨hu,hut,hX⟩:=fx4 (show Fit ⟨hb.ents,nx,hb.tys⟩ from ⟨hf.1.le h8,hf.2.le h8⟩)
  have hY:=fx5 (show Fit ⟨hb.ents,nx,hb.tys⟩ from ⟨hf.1.le h8,hf.2.le h8⟩) g15
  dsimp only at hX hu hut hY
  have lq2:=zA3 hf.1 g2
  have lq5:=zA3 hf.1 g5
  have lq6:=zA3 hf.1 g6
  have lq15:=zA3 hf.1 g15
  have gs2:∀ x,zA1 (zA2 hb.ents b15 x) b2=some (.cells [S1,S2]):=fun x=>by rw [zA0 n2,g2]
  have gs5:∀ x,zA1 (zA2 hb.ents b15 x) b5=some (.cells [.str t,lV8 (zAd c.rs),O]):=fun x=>by rw [zA0 n5,g5]
  have gs6:∀ x,zA1 (zA2 hb.ents b15 x) b6=some (.cells [.imm tb 2 es,.str r]):=fun x=>by rw [zA0 n6,g6]
  have F1:=zOr hs.len hs.nd p.1 (n:=t) HO
  rw [hfr] at F1
  simp only [FldR] at F1
  have FF:=zT6 FC hfok hfk hfl hz hA
  rw [hS] at FF
  unfold RW.pf at F1 FF
  have hd1:∀ m,nx<=m->zA5 hb.ents m=hb.ents:=hX.2.1
  refine pq_ pA fun w5=>?_
  have ih1:=fun s nx v7 v10 v12 v13 v14 v16 v17 v18 h (h9:_<=nx)=>ih (i+1) s nx v7 v10 v12 v13 v14 v16 v17 v18 om_ h h9
  push_cast at ih1
  have hold2:s=true->∃ j p f,j<i+1/\l[j]? = some p/\fldS a b t p.1=some f/\f.one=1:=fun e=>by
   obtain ⟨j,p',f',h1,h2⟩:=hold e
   exact ⟨j,p',f',by omega,h2⟩
  refine W.loop ?_
  have D0:(¬ (0:Int)<(i:Int))\/((0:Int)<(i:Int)/\∃ n0 A0,es[i - 1]? = some (.agg [.int .i64 (n0:Nat),A0])/\nth es (i - 1)=.agg [.int .i64 (n0:Nat),A0]/\((i:Int) - 1).toNat=i - 1/\(0:Int)<=(i:Int) - 1/\(i:Int) - 1<(L:Int)/\(¬ (p.1:Int)<=(n0:Int))/\PV1 A0):=by
   by_cases hi:i=0
   . exact .inl om_
   . obtain ⟨p0,hp0⟩:∃ p,l[i - 1]? = some p:=⟨_,gE_ om_⟩
     obtain ⟨c0,e0,A0,rfl,pA0,_⟩:=hE.at hp0
     have hnum:=zQj hsl hp0 hp om_
     simp [nltB] at hnum
     exact .inr ⟨by omega,p0.1,A0,e0,zAk e0,by omega,by omega,by omega,by omega,pA0⟩
  have DS:∃ s':Bool,(s'=true->∃ j p f,j<i+1/\l[j]? = some p/\fldS a b t p.1=some f/\f.one=1)/\(((fr.oo:Int)=0/\(¬ (0:Int)<(fr.oo:Int))/\s'=s)\/((fr.oo:Int)=1/\True/\s=false/\s'=true)):=by
   by_cases o0:fr.oo=0
   . exact ⟨s,hold2,.inl ⟨by omega,by omega,rfl⟩⟩
   . have o0:fr.fld.one=1:=by show fr.oo=1;omega
     refine ⟨true,fun _=>⟨i,p,fr.fld,by omega,hp,hff,o0⟩,.inr ⟨by show ((fr.fld.one:Nat):Int)=1;omega,trivial,?_,rfl⟩⟩
     cases s with
     | false=>rfl
     | true =>
      exfalso
      obtain ⟨j,p',f',h1,h2,h3,h4⟩:=hold rfl
      have:=hone p' (List.mem_of_getElem? h2) p (List.mem_of_getElem? hp) f' fr.fld h3 hff om_ om_
      have:=zQj hsl h2 hp h1
      simp [nltB] at this;omega
  obtain ⟨s',hs',DS⟩:=DS
  have ih2:=fun nx v7 v10 v12 v13 v14 v16 v17 v18=>ih1 s' nx v7 v10 v12 v13 v14 v16 v17 v18 hs'
  rcases DS with ⟨o1,o2,rfl⟩ | ⟨o1,o2,rfl,rfl⟩ <;> rw [o1] at FF <;> rcases D0 with D0 | ⟨D0,n0,A0,e0,m0,D1,D2,D3,D4,pA0⟩ <;> (try cases s') <;> (
   simp only [mpB] at *
   have hC:=j18_ hX hY gs2 gs5 gs6 hlt hlr q1 m1 w1 w2 w3 w4 w5 hst lb0 ls0 hd1
   have hC:=And.intro hC (j3_ o1 o2 D0)
   first
    | refine pq_ pA0 fun w6=>?_;have hZ:=And.intro hC (j7_ e0 m0 D1 D2 D3 D4 w6);(repeat (first
     | refine vk_ ?_
     | (refine pe_ (F1) fun n1 hn1=>⟨rfl,?_⟩)
     | (refine pe_ (FF) fun n1 hn1=>⟨rfl,?_⟩)));refine dk_ ?_;refine ih2 _ _ _ _ _ _ _ _ _ ?_;exact om_
    | have hZ:=hC;(repeat (first
     | refine vk_ ?_
     | (refine pe_ (F1) fun n1 hn1=>⟨rfl,?_⟩)
     | (refine pe_ (FF) fun n1 hn1=>⟨rfl,?_⟩)));refine dk_ ?_;refine ih2 _ _ _ _ _ _ _ _ _ ?_;exact om_)
theorem zXs {v7 v10 v12 v13 v14 v16 v17 v18:CVal} {a b c:BD} {n:Nat} (FC:FitC a b n) {t:Nmt} (hc:bdOf a b t=some c) (hs:SOk (zAd c.rs)) (hlow:∀ r ∈ zAd c.rs,r.num<900/\r.oo<=1) {O:CVal} (HO:PV1 O) {S1 S2:CVal} (hS:schV a b=.agg [S1,S2]) (pS1:PV1 S1) (pS2:PV1 S2) {Z:Nat} (hz:Z<=5000) {l:List (Nat × List (BV × MVB n))} {es:List CVal} {L:Nat} (hl:l.length=L) (hlZ:L<=Z) (hE:All2 (RF Z (RM Z n)) l es) (hsl:SL.Srt nltB l) (hal:SL.All (fun k l=>∃ f,fldS a b t k=some f/\OkF b0V (OkMs a b n) f l) l) (hone:∀ p ∈ l,∀ q ∈ l,∀ f g,fldS a b t p.1=some f->fldS a b t q.1=some g->0<f.one->f.one=g.one->p.1=q.1) {tb:Tag} (hst:(CVal.imm tb 2 es).strip=.imm tb 2 es) {r:B8} {b2 b5 b6 b15:Nat} {hb:CHeap} (hf:Fit hb) (g2:zA1 hb.ents b2=some (.cells [S1,S2])) (g5:zA1 hb.ents b5=some (.cells [.str t,lV8 (zAd c.rs),O])) (g6:zA1 hb.ents b6=some (.cells [.imm tb 2 es,.str r])) (g15:zA1 hb.ents b15=some (.map 0 [])) (n2:b2≠b15) (n5:b5≠b15) (n6:b6≠b15) {a0 a1:CVal} {Q:QT}
    (hk:∀ (s:Bool) (v7 v10 v12 v13 v14 v16 v17 v18:CVal) (nx:Nat),hb.next<=nx->Q (.exit 0) ⟨[a0,a1,.ptr b2 30408706 0,.str t,.bool true,.ptr b5 49283075 0,.ptr b6 37748738 0,v7,.int .i64 (L:Nat),.int .i64 (L:Nat),v10,.imm tb 2 es,v12,v13,v14,.map b15,v16,v17,v18,.bool false],⟨zA2 hb.ents b15 (mpB s),nx,hb.tys⟩,[]⟩):W TF ftL ⟨[a0,a1,.ptr b2 30408706 0,.str t,.bool true,.ptr b5 49283075 0,.ptr b6 37748738 0,v7,.int .i64 0,.int .i64 (L:Nat),v10,.imm tb 2 es,v12,v13,v14,.map b15,v16,v17,v18,.bool false],⟨hb.ents,hb.next,hb.tys⟩,[]⟩ Q:=by
 have:=zdk FC hc hs hlow HO hS pS1 pS2 hz hl hlZ hE hsl hal hone hst hf g2 g5 g6 g15 n2 n5 n6 hk L 0 false hb.next v7 v10 v12 v13 v14 v16 v17 v18 om_ (fun h=>by cases h) (Nat.le_refl _)
 rw [show mpB false=CObj.map 0 [] from rfl,zB1 g15] at this
 exact this
theorem zR5 {a b:BD} (ha:a.ok 4) (hb:b.ok 7) {n:Nat} (FC:FitC a b n):FitC a b (n+1):=by
 intro t ht Z hz m F r hm hF
 obtain ⟨S1,S2,hS,pS1,pS2⟩:=schS a b
 have sa:=BD.sok ha om_
 have sb:=BD.sok hb om_
 have PI:=@vm_I a b (by have:=sa.len;rwa [zBh] at this)
 have PM:=@vm_M a b (by have:=sb.len;rwa [zBh] at this)
 rw [hS] at PI PM ⊢
 obtain ⟨c,hc,hs,hlow,O,HO,PC⟩:∃ c,bdOf a b t=some c/\SOk (zAd c.rs)/\(∀ r ∈ zAd c.rs,r.num<900/\r.oo<=1)/\∃ O,PV1 O/\Pe 29 [.agg [S1,S2],.str t] (.tup [.agg [.str t,lV8 (zAd c.rs),O],.bool true]):=by
  rcases ht with rfl | rfl
  . exact ⟨a,rfl,sa,BD.low ha om_,_,oV1P _,PI⟩
  . exact ⟨b,rfl,sb,BD.low hb om_,_,oV1P _,PM⟩
 have pL:=lV8P (zAd c.rs)
 have pF:=RM.p hF
 obtain ⟨hF1,hF2,hF3⟩:=hF
 have R:=zUf (r:=r) (by rw [hF2];exact hm.2.2.2) (by omega) hs.len hs.nd (fun r hr=>(hlow r hr).1) (n:=t) HO
 obtain ⟨hlz,es,he,hv⟩:=hF1
 have hlen:=he.len
 intro h hf K hk
 obtain ⟨hu,hut,hX⟩:=fx4 hf
 refine pq_ pS1 fun w1=>?_
 refine pq_ pS2 fun w2=>?_
 refine pq_ pF fun w3=>?_
 refine pq_ pL fun w4=>?_
 refine pq_ HO fun w5=>?_
 obtain ⟨lb0,ls0⟩:=lbs_
 rcases hv with ⟨rfl,rfl⟩ | ⟨tb,htb,rfl⟩
 . skip
   refine mk_ 11 c11 (s_ ?_)
   have hZ:=j8_ hX w1 w2 w3 w4 w5 lb0 ls0
   repeat (first
    | refine vk_ ?_
    | ((first | refine pe_ (PC) ?_ | refine pe_ (R) ?_);intro n1 hn1;refine ⟨rfl,?_⟩;(try dsimp only at hn1))
    | (refine dk_ ?_;refine W.loop ?_)
    | refine W.loop ?_)
   refine rk_ ?_
   refine hk _ ?_;exact om_
 . have hst0:(CVal.imm tb 2 es).strip=.imm tb 2 es:=by rcases htb with rfl | rfl <;> rfl
   have hst:=hst0
   simp only [CVal.strip] at hst
   obtain ⟨L,hLL⟩:∃ L,m.1.length=L:=⟨_,rfl⟩
   have l3:=hlen.trans hLL
   refine mk_ 11 c11 (s_ ?_)
   have hZ:=j10_ hX w1 w2 w3 w4 w5 lb0 ls0 hst l3
   repeat ((fail_if_success (show W TF ftL _ _));first
    | refine vk_ ?_
    | ((first | refine pe_ (PC) ?_ | refine pe_ (R) ?_);intro n1 hn1;refine ⟨rfl,?_⟩;(try dsimp only at hn1)))
   refine zXs FC hc hs hlow HO hS pS1 pS2 hz hLL om_ he hm.1 hm.2.1 hm.2.2.1 hst0 (r:=r) (hb:=⟨_,_,_⟩) ?_ ?_ ?_ ?_ ?_ ?_ ?_ ?_ ?_
   . exact ft_
   . simp (disch:=omega) [zA1]
   . simp (disch:=omega) [zA1]
   . simp (disch:=omega) [zA1]
   . simp (disch:=omega) [zA1]
   . (try dsimp only);omega
   . (try dsimp only);omega
   . (try dsimp only);omega
   intro s v7 v10 v12 v13 v14 v16 v17 v18 nx hnx
   dsimp only at hnx
   cases s
   all_goals
    simp only [mpB]
    repeat (refine vk_ ?_)
    refine rk_ ?_
    refine hk _ ?_;exact om_
theorem zRo {a b:BD} (ha:a.ok 4) (hb:b.ok 7):FitC a b 0:=by
 intro t ht Z hz m F r hm hF
 obtain ⟨S1,S2,hS,pS1,pS2⟩:=schS a b
 have sa:=BD.sok ha om_
 have sb:=BD.sok hb om_
 have PI:=@vm_I a b (by have:=sa.len;rwa [zBh] at this)
 have PM:=@vm_M a b (by have:=sb.len;rwa [zBh] at this)
 rw [hS] at PI PM ⊢
 obtain ⟨c,hc,hs,hlow,O,HO,PC⟩:∃ c,bdOf a b t=some c/\SOk (zAd c.rs)/\(∀ r ∈ zAd c.rs,r.num<900/\r.oo<=1)/\∃ O,PV1 O/\Pe 29 [.agg [S1,S2],.str t] (.tup [.agg [.str t,lV8 (zAd c.rs),O],.bool true]):=by
  rcases ht with rfl | rfl
  . exact ⟨a,rfl,sa,BD.low ha om_,_,oV1P _,PI⟩
  . exact ⟨b,rfl,sb,BD.low hb om_,_,oV1P _,PM⟩
 have pL:=lV8P (zAd c.rs)
 have pF:=RM.p hF
 obtain ⟨hF1,rfl⟩:=hF
 have R:=zUf (r:=[]) (zE5 a b).2.1 (by simp) hs.len hs.nd (fun r hr=>(hlow r hr).1) (n:=t) HO
 obtain ⟨hlz,es,he,hv⟩:=hF1
 obtain rfl:=he.nil_inv
 intro h hf K hk
 obtain ⟨hu,hut,hX⟩:=fx4 hf
 refine pq_ pS1 fun w1=>?_
 refine pq_ pS2 fun w2=>?_
 refine pq_ pF fun w3=>?_
 refine pq_ pL fun w4=>?_
 refine pq_ HO fun w5=>?_
 obtain ⟨lb0,ls0⟩:=lbs_
 rcases hv with ⟨rfl,_⟩ | ⟨tb,rfl | rfl,rfl⟩
 all_goals
  refine mk_ 11 c11 (s_ ?_)
  have hZ:=j8_ hX w1 w2 w3 w4 w5 lb0 ls0
  repeat (first
   | refine vk_ ?_
   | ((first | refine pe_ (PC) ?_ | refine pe_ (R) ?_);intro n1 hn1;refine ⟨rfl,?_⟩;(try dsimp only at hn1))
   | (refine dk_ ?_;refine W.loop ?_)
   | refine W.loop ?_)
  refine rk_ ?_
  refine hk _ ?_;exact om_
theorem zYo {a b:BD} (ha:a.ok 4) (hb:b.ok 7):∀ n,FitC a b n
 | 0=>zRo ha hb
 | n+1=>zR5 ha hb (zYo ha hb n)
end Go.Proofs.YtafeofghkhhhkaaGreat.IrM
namespace Go.Proofs.YtafeofghkhhhkaaGreat.IrM
open Go Go.CI
set_option maxRecDepth 100000
set_option maxHeartbeats 4000000
set_option linter.unusedVariables false
set_option linter.unusedSimpArgs false
attribute [local irreducible] W Wo Wc WoR
attribute [local simp] c4
theorem zWa {p d nx:Nat} {ty:NN} {L:CVal} (hp:p<nx) (hut:zA7 ty nx) (hL:Nums L) {K:KT} (hk:∀ h' a b,a.ok 4->b.ok 7->Fit h'->nx<=h'.next->(∀ q,q<nx->q≠p->zA1 h'.ents q=none)->K (.tup [schV a b,.bool true]) h'):Wc TF 8 [.ptr p d 0] ⟨[(p,.cells [L,.int .i64 0])],nx,ty⟩ K:=by
 have e0:[(p,CObj.cells [L,.int .i64 0])]=zA2 [(p,pk L 0)] p (pk L 0):=by simp [zA2]
 rw [e0]
 refine zWr (Under.cons hp Under.nil) hut (o:=pk L 0) (by simp [zA1]) hL (by omega) (by omega) fun h' a b j2 ha hb P=>hk h' a b ha hb P.fit P.nx fun q q1 q2=>(P.fr q q1).trans ?_
 dsimp only
 rw [zA0 q2]
 simp [zA1,Ne.symm q2]
theorem bgPV {K:KT} (hk:∀ n' ty,3<=n'->zA7 ty n'->K (.bool true) ⟨[],n',ty⟩):Wc TF 6 [] ⟨[],3,[]⟩ K:=zS7 (m:=1000000) (by kernel_rfl) hk
structure LLn (v:CVal) (n:Nat):Prop where
 u:PV1 v
 len:v.lenOf=some n
 s:v.isStr=false
theorem zKq {c:CVal} {xs:List Int} (hc:c=.nils/\xs=[]\/c=.imm .none 1 (xs.map (CVal.int .u8))):LLn c xs.length:=by
 rcases hc with ⟨rfl,rfl⟩ | rfl
 . exact ⟨⟨rfl,rfl,rfl,rfl,rfl⟩,rfl,rfl⟩
 . exact ⟨⟨rfl,rfl,rfl,rfl,rfl⟩,by simp [CVal.lenOf],rfl⟩
theorem pm_t {L0 L1 L2:CVal} {m0 m1 m2:Nat} (H0:LLn L0 m0) (H1:LLn L1 m1) (H2:LLn L2 m2) (D:120<m0\/60<m1\/60<m2):Wc TF 4 [L0,L1,L2] zDc fun v _=>v=.bool true:=by
 have D:(120:Int)<(m0:Int)\/(¬ (120:Int)<(m0:Int)/\(60:Int)<(m1:Int))\/(¬ (120:Int)<(m0:Int)/\¬ (60:Int)<(m1:Int)/\(60:Int)<(m2:Int)):=by omega
 rcases D with q0 | ⟨q0,q1⟩ | ⟨q0,q1,q2⟩ <;> (
  obtain ⟨⟨a1,a2,a3,a4,a5⟩,a6,a7⟩:=H0
  obtain ⟨⟨b1,b2,b3,b4,b5⟩,b6,b7⟩:=H1
  obtain ⟨⟨d1,d2,d3,d4,d5⟩,d6,d7⟩:=H2
  simp only [CVal.isUndef,CVal.whole,CVal.cells,CVal.strip,CVal.bare,CVal.isStr] at a1 a2 a3 a4 a5 a7 b1 b2 b3 b4 b5 b7 d1 d2 d3 d4 d5 d7
  have hN0:zDc=⟨[],0,[]⟩:=rfl
  have hA:=j21_ a1 a2 a3 a4 a5 a6 a7 b1 b2 b3 b4 b5 b6 b7 d1 d2 d3 d4 d5 d6 d7
  first | have hA:=And.intro hA (j3_ q0 q1 q2) | have hA:=And.intro hA (And.intro q0 q1) | have hA:=And.intro hA q0
  refine mk_ 4 c4 ?_
  generalize e:zEm .. = r
  simp (disch:=omega) [hN0,hA] at e
  subst e
  repeat (first
   | refine st_ rfl ?_
   | ((first | refine W.regG ?_ | refine WoR.go ?_);generalize e:goR .. = r;simp (disch:=omega) [hA,-CVal.lenOf] at e;replace e:some _=_:=e;subst e;(try dsimp only [goW]))
   | refine xs_ ?_)
  refine bgPV fun n1 ty1 hn1 hut1=>⟨rfl,?_⟩
  obtain ⟨hu,hut,hX⟩:=fx4 (h:=⟨[],n1,ty1⟩) ⟨Under.nil,hut1⟩
  repeat (first
   | refine st_ rfl ?_
   | ((first | refine W.regG ?_ | refine WoR.go ?_);generalize e:goR .. = r;simp (disch:=omega) [hX,hA,-CVal.lenOf] at e;replace e:some _=_:=e;subst e;(try dsimp only [goW]))
   | refine xs_ ?_
   | (refine mk_ 7 c7 (s_ ?_))
   | (refine rx_ ?_;refine ⟨rfl,?_⟩))
  refine rx_ ?_
  rfl)
theorem pm_m {L0 L1 L2:CVal} {m0 m1 m2:Nat} (H0:LLn L0 m0) (H1:LLn L1 m1) (H2:LLn L2 m2) (h0:m0<=120) (h1:m1<=60) (h2:m2<=60) (hN0':Nums L0) (hN1':Nums L1) (hN2':Nums L2):Wc TF 4 [L0,L1,L2] zDc fun v _=>v=.bool true:=by
 have q0:¬ (120:Int)<(m0:Int):=by omega
 have q1:¬ (60:Int)<(m1:Int):=by omega
 have q2:¬ (60:Int)<(m2:Int):=by omega
 obtain ⟨⟨a1,a2,a3,a4,a5⟩,a6,a7⟩:=H0
 obtain ⟨⟨b1,b2,b3,b4,b5⟩,b6,b7⟩:=H1
 obtain ⟨⟨d1,d2,d3,d4,d5⟩,d6,d7⟩:=H2
 simp only [CVal.isUndef,CVal.whole,CVal.cells,CVal.strip,CVal.bare,CVal.isStr] at a1 a2 a3 a4 a5 a7 b1 b2 b3 b4 b5 b7 d1 d2 d3 d4 d5 d7
 have hN0:zDc=⟨[],0,[]⟩:=rfl
 have hA:=j21_ a1 a2 a3 a4 a5 a6 a7 b1 b2 b3 b4 b5 b6 b7 d1 d2 d3 d4 d5 d6 d7
 have hA:=And.intro hA (j3_ q0 q1 q2)
 refine mk_ 4 c4 ?_
 generalize e:zEm .. = r
 simp (disch:=omega) [hN0,hA] at e
 subst e
 repeat (first
  | refine st_ rfl ?_
  | ((first | refine W.regG ?_ | refine WoR.go ?_);generalize e:goR .. = r;simp (disch:=omega) [hA,-CVal.lenOf] at e;replace e:some _=_:=e;subst e;(try dsimp only [goW]))
  | refine xs_ ?_)
 refine bgPV fun n1 ty1 hn1 hut1=>⟨rfl,?_⟩
 obtain ⟨hu,hut,hX⟩:=fx4 (h:=⟨[],n1,ty1⟩) ⟨Under.nil,hut1⟩
 repeat (first
  | refine st_ rfl ?_
  | ((first | refine W.regG ?_ | refine WoR.go ?_);generalize e:goR .. = r;simp (disch:=omega) [hX,hA,-CVal.lenOf] at e;replace e:some _=_:=e;subst e;(try dsimp only [goW]))
  | refine xs_ ?_
  | (refine mk_ 7 c7 (s_ ?_))
  | (refine rx_ ?_;refine ⟨rfl,?_⟩))
 refine zWa om_ (hut1.le om_) hN0' fun h2 a b ha hb g2 n2 Z2=>⟨rfl,?_⟩
 obtain ⟨S1,S2,hS,pS1,pS2⟩:=schS a b
 have MS:=zZ2 ha hb 5 0 rfl tyM (.inr rfl)
 have MC:=zQ2 ha hb 6 tyM (.inr rfl)
 have RC:=zNu ha hb 6 tyM (.inr rfl)
 have FT:=zYo ha hb 6 tyM (.inr rfl) 200 om_
 rw [hS] at MS MC RC FT ⊢
 refine pq_ pS1 fun w1=>?_
 refine pq_ pS2 fun w2=>?_
 clear hu hut hX
 obtain ⟨hu,hut,hX⟩:=fx4 g2
 obtain ⟨lb0,ls0⟩:=lbs_
 have hZ:=j7_ hX Z2 w1 w2 hA lb0 ls0
 repeat (first
  | refine vk_ ?_
  | (refine mk_ 7 c7 (s_ ?_))
  | (refine rk_ ?_;refine ⟨rfl,?_⟩))
 refine pkc_ (j:=0) MS ft_ (by simp (disch:=omega) [zA1,pk]) hN1' (by omega) (by omega) fun x1 j1 v1 g1x ga1 gb1 gv1=>?_
 dsimp only at g1x
 obtain ⟨F1,r1,t1,rfl,rm1,ok1⟩:=gv1
 refine ⟨rfl,?_⟩
 refine pq_ (RM.p rm1) fun f1=>?_
 have hZ:=And.intro hZ f1
 repeat (first
  | refine vk_ ?_
  | (refine mk_ 7 c7 (s_ ?_))
  | (refine rk_ ?_;refine ⟨rfl,?_⟩))
 refine pkc_ (j:=0) MS ft_ (by simp (disch:=omega) [zA1,pk]) hN2' (by omega) (by omega) fun x2 j2 v2 g2x ga2 gb2 gv2=>?_
 dsimp only at g2x
 obtain ⟨F2,r2,t2,rfl,rm2,ok2⟩:=gv2
 refine ⟨rfl,?_⟩
 refine pq_ (RM.p rm2) fun f2=>?_
 have hZ:=And.intro hZ f2
 repeat (first
  | refine vk_ ?_
  | (refine mk_ 7 c7 (s_ ?_))
  | (refine rk_ ?_;refine ⟨rfl,?_⟩))
 clear hA
 have okG:=zE2 b0V (zE5 a b) 6 tyM t1 t2 ok1 ok2
 refine pr_ (MC 100 100 om_ om_ t1 t2 F1 F2 r1 r2 ok1 ok2 rm1 rm2) fun v4 n4 R4 g4=>?_
 obtain ⟨X4,u4,rfl,R4⟩:=R4
 refine ⟨rfl,?_⟩
 refine pq_ (RM.p R4) fun x4=>?_
 have hZ:=And.intro hZ x4
 repeat (refine vk_ ?_)
 refine pr_ (RC 100 100 om_ om_ t1 t2 F1 F2 r1 r2 ok1 ok2 rm1 rm2) fun v5 n5 R5 g5=>?_
 obtain ⟨X5,u5,rfl,R5⟩:=R5
 refine ⟨rfl,?_⟩
 refine pq_ (RM.p R5) fun x5=>?_
 have hZ:=And.intro hZ x5
 repeat (refine vk_ ?_)
 refine pe_ (zUg (Z:=200) om_ 6 _ X4 X5 u4 u5 R4 R5) fun n6 g6=>⟨rfl,?_⟩
 repeat (refine vk_ ?_)
 refine pe_ (FT _ X4 u4 okG R4) fun n7 g7=>⟨rfl,?_⟩
 repeat (refine vk_ ?_)
 refine rk_ ?_
 rfl
theorem law (c0:CVal) (z0:List Int) (hc0:c0=.nils/\z0=[]\/c0=.imm .none 1 (z0.map (CVal.int .u8))) (hw0:∀ x ∈ z0,0<=x/\x<256) (c1:CVal) (z1:List Int) (hc1:c1=.nils/\z1=[]\/c1=.imm .none 1 (z1.map (CVal.int .u8))) (hw1:∀ x ∈ z1,0<=x/\x<256) (c2:CVal) (z2:List Int) (hc2:c2=.nils/\z2=[]\/c2=.imm .none 1 (z2.map (CVal.int .u8))) (hw2:∀ x ∈ z2,0<=x/\x<256):Wc TF 4 [c0,c1,c2] zDc fun v _=>v=.bool true:=by
 have nm:∀ (c:CVal) (z:List Int),(c=.nils/\z=[]\/c=.imm .none 1 (z.map (CVal.int .u8)))->(∀ x ∈ z,0<=x/\x<256)->z.length<=120->Nums c:=by
  rintro c z (⟨rfl,_⟩ | rfl) hw hl
  . exact .inl rfl
  . exact .inr ⟨z,rfl,by omega,hw⟩
 have H0:=zKq hc0
 have H1:=zKq hc1
 have H2:=zKq hc2
 by_cases D:120<z0.length\/60<z1.length\/60<z2.length
 . exact pm_t H0 H1 H2 D
 have h0:z0.length<=120:=by omega
 have h1:z1.length<=60:=by omega
 have h2:z2.length<=60:=by omega
 exact pm_m H0 H1 H2 h0 h1 h2 (nm c0 z0 hc0 hw0 om_) (nm c1 z1 hc1 hw1 om_) (nm c2 z2 hc2 hw2 om_)
end Go.Proofs.YtafeofghkhhhkaaGreat.IrM
