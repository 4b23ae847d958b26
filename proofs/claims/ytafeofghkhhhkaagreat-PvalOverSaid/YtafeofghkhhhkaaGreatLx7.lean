/- What the functions of the law 'PvalOver' do: part 7 of 9. -/
import Derived.Test.YtafeofghkhhhkaaGreatLx6
namespace Go.Proofs.YtafeofghkhhhkaaGreat.IrV
open Go Go.CI
set_option maxRecDepth 100000
set_option maxHeartbeats 4000000
set_option linter.unusedVariables false
set_option linter.unusedSimpArgs false
attribute [local irreducible] W Wo Wc WoR
def cmpV (s:Bool) (a b:BV):Int:=if ltV s a b then -1 else if ltV s b a then 1 else 0
theorem cmpV_num (s:Bool) {n m:Int} (hn:0≤n) (hn':n<18446744073709551616) (hm:0≤m) (hm':m<18446744073709551616):cmpV s (n,[]) (m,[])=cmpZ (if s then sgn n else n) (if s then sgn m else m):=by
 unfold cmpV cmpZ
 rw [ltV_num s hn hn' hm hm',ltV_num s hm hm' hn hn']
 cases s <;> simp
theorem cB_rng:∀ a b:B8,Go.Lib.compareBytes a b=-1∨Go.Lib.compareBytes a b=0∨Go.Lib.compareBytes a b=1
 | [],[]=>by simp [Go.Lib.compareBytes]
 | [],_::_=>by simp [Go.Lib.compareBytes]
 | _::_,[]=>by simp [Go.Lib.compareBytes]
 | x::a,y::b=>by
  unfold Go.Lib.compareBytes
  by_cases h1:x<y
  · simp [h1]
  by_cases h2:y<x
  · simp [h1,h2]
  · simp only [if_neg h1,if_neg h2];exact cB_rng a b
theorem cmpV_str (s:Bool) (n:Int) (a b:B8):cmpV s (n,a) (n,b)=Go.Lib.compareBytes a b:=by
 unfold cmpV
 rw [zDa,zDa,zG5,zG5]
 have h1:=cB_swap a b
 rcases cB_rng a b with h | h | h <;> simp [h,h1]
def KK (k:Nat):Prop:=k=14∨k=3∨k=13∨k=6∨k=7∨k=9
def sgK (k:Nat):Bool:=k == 3 || k == 7
def kokK (k:Nat) (b:BV):Prop:=0≤b.1∧b.1<18446744073709551616∧(if k=14 then b.1=0 else b.2=[])
theorem zIj {n:Int} (h0:0≤n) (h1:n<18446744073709551616):IntKind.i64.wrap n=sgn n:=by
 unfold sgn
 simp only [IntKind.wrap,IntKind.bits,IntKind.signed]
 have e:n % 2 ^ 64=n:=Int.emod_eq_of_lt h0 (by omega)
 simp only [e,Bool.true_and,decide_eq_true_eq]
 by_cases g:n<9223372036854775808
 · rw [if_neg (by omega),if_pos g]
 · rw [if_pos (by omega),if_neg g];omega
theorem cmpI_G (a b:Int):Pe 53 [.int .i64 a,.int .i64 b] (.int .i64 (cmpZ a b)):=by
 intro h hf K hk
 obtain ⟨hu,hut,hX⟩:=fx4 hf
 unfold cmpZ at hk
 rcases Int.lt_trichotomy a b with g | g | g
 · rw [if_pos g] at hk
   refine mk_ 53 c53 (s_ ?_)
   have hZ:=j2_ hX g
   repeat (first
    | refine vk_ ?_
    | (refine mk_ 104 c104 (s_ ?_))
    | (refine rk_ ?_;refine ⟨rfl,?_⟩))
   refine rk_ ?_
   refine hk _ ?_;exact om_
 · subst g
   rw [if_neg (Int.lt_irrefl a),if_neg (Int.lt_irrefl a)] at hk
   have g:=Int.lt_irrefl a
   refine mk_ 53 c53 (s_ ?_)
   have hZ:=j2_ hX g
   repeat (first
    | refine vk_ ?_
    | (refine mk_ 104 c104 (s_ ?_))
    | (refine rk_ ?_;refine ⟨rfl,?_⟩))
   refine rk_ ?_
   refine hk _ ?_;exact om_
 · have g2:¬ a<b:=by omega
   rw [if_neg g2,if_pos g] at hk
   refine mk_ 53 c53 (s_ ?_)
   have hZ:=j3_ hX g g2
   repeat (first
    | refine vk_ ?_
    | (refine mk_ 104 c104 (s_ ?_))
    | (refine rk_ ?_;refine ⟨rfl,?_⟩))
   refine rk_ ?_
   refine hk _ ?_;exact om_
theorem cmpU_G (a b:Int):Pe 54 [.int .u64 a,.int .u64 b] (.int .i64 (cmpZ a b)):=by
 intro h hf K hk
 obtain ⟨hu,hut,hX⟩:=fx4 hf
 unfold cmpZ at hk
 rcases Int.lt_trichotomy a b with g | g | g
 · rw [if_pos g] at hk
   refine mk_ 54 c54 (s_ ?_)
   have hZ:=j2_ hX g
   repeat (first
    | refine vk_ ?_
    | (refine mk_ 105 c105 (s_ ?_))
    | (refine rk_ ?_;refine ⟨rfl,?_⟩))
   refine rk_ ?_
   refine hk _ ?_;exact om_
 · subst g
   rw [if_neg (Int.lt_irrefl a),if_neg (Int.lt_irrefl a)] at hk
   have g:=Int.lt_irrefl a
   refine mk_ 54 c54 (s_ ?_)
   have hZ:=j2_ hX g
   repeat (first
    | refine vk_ ?_
    | (refine mk_ 105 c105 (s_ ?_))
    | (refine rk_ ?_;refine ⟨rfl,?_⟩))
   refine rk_ ?_
   refine hk _ ?_;exact om_
 · have g2:¬ a<b:=by omega
   rw [if_neg g2,if_pos g] at hk
   refine mk_ 54 c54 (s_ ?_)
   have hZ:=j3_ hX g g2
   repeat (first
    | refine vk_ ?_
    | (refine mk_ 105 c105 (s_ ?_))
    | (refine rk_ ?_;refine ⟨rfl,?_⟩))
   refine rk_ ?_
   refine hk _ ?_;exact om_
theorem pcmp_F (a b:B8):Pe 132 [.str a,.str b] (.int .i64 (Go.Lib.compareBytes a b)):=by
 intro h hf K hk
 refine Wc.primM (f:=132) (p:=zH4) (by kernel_rfl) ?_
 exact hk _ (by (try dsimp only);omega)
theorem vCmp_F {k:Nat} (hK:KK k) {a b:BV} (ha:kokK k a) (hb:kokK k b) {F G:CVal} {r s:B8} (pF:PV1 F) (pG:PV1 G):Pe 20 [.int .i64 (k:Nat),(.agg [.int .u64 a.1,.str a.2,F,.str r]),(.agg [.int .u64 b.1,.str b.2,G,.str s])] (.int .i64 (cmpV (sgK k) a b)):=by
 obtain ⟨n,u⟩:=a
 obtain ⟨m,v⟩:=b
 obtain ⟨a1,a2,a3⟩:=ha
 obtain ⟨b1,b2,b3⟩:=hb
 dsimp only at *
 refine pq_ pF fun p1=>?_
 refine pq_ pG fun p2=>?_
 intro h hf K hk
 obtain ⟨hu,hut,hX⟩:=fx4 hf
 have w1:=zIj a1 a2
 have w2:=zIj b1 b2
 rcases hK with rfl | rfl | rfl | rfl | rfl | rfl
 · simp only [if_true] at a3 b3
   subst a3;subst b3
   rw [cmpV_str] at hk
   have C:=pcmp_F u v
   generalize Go.Lib.compareBytes u v=z at *
   refine mk_ 20 c20 (s_ ?_)
   have hZ:=j3_ hX p1 p2
   repeat (first
    | refine vk_ ?_
    | (refine pe_ (C) fun n1 hn1=>⟨rfl,?_⟩)
    | (refine mk_ 51 c51 (s_ ?_))
    | (refine mk_ 102 c102 (s_ ?_))
    | (refine rk_ ?_;refine ⟨rfl,?_⟩))
   refine rk_ ?_
   refine hk _ ?_;exact om_
 all_goals
  simp only [Nat.reduceEqDiff,if_false] at a3 b3
  subst a3;subst b3
  rw [cmpV_num _ a1 a2 b1 b2] at hk
  have C1:=cmpI_G (sgn n) (sgn m)
  have C2:=cmpU_G n m
  simp only [sgK,Nat.reduceBEq,Bool.or_false,Bool.or_true,Bool.false_or,if_true,if_false,Bool.false_eq_true] at hk
  generalize cmpZ (sgn n) (sgn m)=z at *
  generalize cmpZ n m=y at *
  refine mk_ 20 c20 (s_ ?_)
  have hZ:=j5_ hX p1 p2 w1 w2
  repeat (first
   | refine vk_ ?_
   | (refine dk_ ?_;refine W.loop ?_)
   | refine W.loop ?_
   | (refine pe_ (C1) fun n1 hn1=>⟨rfl,?_⟩)
   | (refine pe_ (C2) fun n1 hn1=>⟨rfl,?_⟩)
   | (refine mk_ 52 c52 (s_ ?_))
   | (refine mk_ 103 c103 (s_ ?_))
   | (refine mk_ 133 c133 (s_ ?_))
   | (refine rk_ ?_;refine ⟨rfl,?_⟩))
  refine rk_ ?_
  refine hk _ ?_;exact om_
theorem sgn_inj {n m:Int} (h0:0≤n) (h1:n<18446744073709551616) (h2:0≤m) (h3:m<18446744073709551616) (h:¬ n=m) (g:¬ sgn n<sgn m):sgn m<sgn n:=by
 unfold sgn at *
 split at g <;> split at g <;> (try split) <;> (try split) <;> omega
theorem rCmp_F {k:Nat} (hK:KK k) {a b:BV} (ha:kokK k a) (hb:kokK k b) {F G:CVal} {r s:B8} (pF:PV1 F) (pG:PV1 G):Pe 56 [.int .i64 (k:Nat),(.agg [.int .u64 a.1,.str a.2,F,.str r]),(.agg [.int .u64 b.1,.str b.2,G,.str s])] (.int .i64 (cmpV (sgK k) a b)):=by
 obtain ⟨n,u⟩:=a
 obtain ⟨m,v⟩:=b
 obtain ⟨a1,a2,a3⟩:=ha
 obtain ⟨b1,b2,b3⟩:=hb
 dsimp only at *
 refine pq_ pF fun p1=>?_
 refine pq_ pG fun p2=>?_
 intro h hf K hk
 obtain ⟨hu,hut,hX⟩:=fx4 hf
 have w1:=zIj a1 a2
 have w2:=zIj b1 b2
 rcases hK with rfl | rfl | rfl | rfl | rfl | rfl
 · simp only [if_true] at a3 b3
   subst a3;subst b3
   rw [cmpV,zDa,zDa] at hk
   cases e1:zCq u v with
   | true =>
    rw [e1] at hk
    simp only [if_true] at hk
    refine mk_ 56 c56 (s_ ?_)
    have hZ:=j4_ hX p1 p2 e1
    repeat (first
     | refine vk_ ?_)
    refine rk_ ?_
    refine hk _ ?_;exact om_
   | false =>
    rw [e1] at hk
    cases e2:zCq v u with
    | true =>
     rw [e2] at hk
     simp only [if_true,if_false,Bool.false_eq_true] at hk
     have e3:(u == v)=false:=beq_eq_false_iff_ne.2 fun e=>by rw [e] at e1 e2;rw [e1] at e2;cases e2
     refine mk_ 56 c56 (s_ ?_)
     have hZ:=j6_ hX p1 p2 e1 e2 e3
     repeat (first
      | refine vk_ ?_)
     refine rk_ ?_
     refine hk _ ?_;exact om_
    | false =>
     rw [e2] at hk
     simp only [if_false,Bool.false_eq_true] at hk
     have e3:(u == v)=true:=by
      have:=(ordV false).tri (0,u) (0,v) (by rw [zDa];exact e1) (by rw [zDa];exact e2)
      cases this;simp
     refine mk_ 56 c56 (s_ ?_)
     have hZ:=j6_ hX p1 p2 e1 e2 e3
     repeat (first
      | refine vk_ ?_)
     refine rk_ ?_
     refine hk _ ?_;exact om_
 all_goals
  simp only [Nat.reduceEqDiff,if_false] at a3 b3
  subst a3;subst b3
  rw [cmpV_num _ a1 a2 b1 b2] at hk
  simp only [sgK,Nat.reduceBEq,Bool.or_false,Bool.or_true,Bool.false_or,if_true,if_false,Bool.false_eq_true] at hk
  unfold cmpZ at hk
  by_cases e0:n=m
  · subst e0
    rw [if_neg (Int.lt_irrefl _),if_neg (Int.lt_irrefl _)] at hk
    refine mk_ 56 c56 (s_ ?_)
    have hZ:=j4_ hX p1 p2 w1
    repeat (first
     | refine vk_ ?_
     | (refine mk_ 110 c110 (s_ ?_))
     | (refine rk_ ?_;refine ⟨rfl,?_⟩))
    refine rk_ ?_
    refine hk _ ?_;exact om_
  · have g0:(n == m)=false:=beq_eq_false_iff_ne.2 e0
    have gs:=sgn_inj a1 a2 b1 b2 e0
    by_cases g1:sgn n<sgn m <;> by_cases g2:n<m
    all_goals
     have g3:¬ sgn n<sgn m→sgn m<sgn n:=gs
     have g4:¬ n<m→m<n:=fun h=>by omega
     simp only [g1,g2,not_true_eq_false,not_false_eq_true,true_implies,false_implies,forall_const] at g3 g4
     simp only [g1,g2,g3,g4,if_true,if_false] at hk
     refine mk_ 56 c56 (s_ ?_)
     have hZ:=j8_ hX p1 p2 w1 w2 g0 g1 g2
     repeat (first
      | refine vk_ ?_
      | (refine mk_ 110 c110 (s_ ?_))
      | (refine rk_ ?_;refine ⟨rfl,?_⟩))
     refine rk_ ?_
     refine hk _ ?_;exact om_
section
variable {K V M:Type}
theorem zEk (e:M):∀ a b:List (BV × (BV × M)),zB2 e (a++b)=zB2 e a++zB2 e b
 | [],_=>rfl
 | (k,v)::a,b=>by show (k,e)::v::zB2 e (a++b)=_;rw [zEk e a b];rfl
theorem zB3 (e:M):∀ a:List (BV × (BV × M)),(zB2 e a).length=2 * a.length
 | []=>rfl
 | (k,v)::a=>by show (zB2 e a).length+1+1=_;rw [zB3 e a];simp;omega
theorem zCo {e:M}:∀ {a:List (BV × (BV × M))} {j:Nat} {k:BV} {v:BV × M},a[j]? = some (k,v)→(zB2 e a)[2 * j]? = some (k,e)∧(zB2 e a)[2 * j+1]? = some v
 | (x,y)::a,0,k,v,h=>by cases h;exact ⟨rfl,rfl⟩
 | (x,y)::a,j+1,k,v,h=>zCo (a:=a) (show a[j]? = some (k,v) from h)
theorem zG1 (e:M):∀ (a:List (BV × (BV × M))) (i:Nat),(zB2 e a).take (2 * i)=zB2 e (a.take i)
 | [],i=>by simp [zB2]
 | (k,v)::a,0=>rfl
 | (k,v)::a,i+1=>by
  show ((k,e)::v::zB2 e a).take (2 * i+1+1)=(k,e)::v::zB2 e (a.take i)
  rw [List.take_succ_cons,List.take_succ_cons,zG1 e a i]
theorem zEq (e:M):∀ (a:List (BV × (BV × M))) (i:Nat),(zB2 e a).drop (2 * i)=zB2 e (a.drop i)
 | [],i=>by simp [zB2]
 | (k,v)::a,0=>rfl
 | (k,v)::a,i+1=>zEq e a i
theorem unprs_set {e:M}:∀ {a:List (BV × (BV × M))} {j:Nat} {k:BV} {v w:BV × M},a[j]? = some (k,v)→(zB2 e a).set (2 * j+1) w=zB2 e (a.set j (k,w))
 | (x,y)::a,0,k,v,w,h=>by cases h;rfl
 | (x,y)::a,j+1,k,v,w,h=>by
  show (x,e)::y::(zB2 e a).set (2 * j+1) w=(x,e)::y::zB2 e (a.set j (k,w))
  rw [unprs_set (a:=a) (show a[j]? = some (k,v) from h)]
def posK (lt:K→K→Bool) (k:K) (l:List (K × V)):Nat:=(l.takeWhile fun p=>lt p.1 k).length
theorem zI3 (lt:K→K→Bool) (k:K) (l:List (K × V)):posK lt k l≤l.length:=(List.takeWhile_prefix _).length_le
theorem zFi {lt:K→K→Bool} (O:SL.Ord lt) {k:K}:∀ {l:List (K × V)},SL.Srt lt l→∀ {j:Nat} {x:K × V},l[j]? = some x→(lt x.1 k=true ↔ j<posK lt k l)
 | (a,y)::l,h,j,x,e=>by
  have ih:=fun j x=>zFi O (k:=k) (l:=l) h.2 (j:=j) (x:=x)
  unfold posK at *
  by_cases g:lt a k=true
  · rw [List.takeWhile_cons_of_pos (p:=fun p=>lt p.1 k) (a:=(a,y)) g]
    cases j with
    | zero=>cases e;simp [g]
    | succ j=>rw [ih j x e];simp
  · rw [List.takeWhile_cons_of_neg (p:=fun p=>lt p.1 k) (a:=(a,y)) g]
    have:¬ lt x.1 k=true:=by
     cases j with
     | zero=>cases e;exact g
     | succ j=>exact fun h2=>g (O.trans _ _ _ (h.1 x (List.mem_of_getElem? (show l[j]? = some x from e))) h2)
    simp [this]
theorem put_K0 {lt:K→K→Bool} {k:K} {v:V}:∀ {l:List (K × V)},(∀ x,l[posK lt k l]? = some x→lt k x.1=true)→SL.put lt k v l=l.take (posK lt k l)++(k,v)::l.drop (posK lt k l)
 | [],_=>rfl
 | (a,y)::l,h=>by
  unfold posK at *
  by_cases g:lt a k=true
  · rw [List.takeWhile_cons_of_pos (p:=fun p=>lt p.1 k) (a:=(a,y)) g] at h ⊢
    have ih:=put_K0 (lt:=lt) (k:=k) (v:=v) (l:=l) fun x hx=>h x (by unfold posK at hx;simpa using hx)
    unfold posK at ih
    simp only [SL.put,g,if_true,ih,List.length_cons,List.take_succ_cons,List.drop_succ_cons,List.cons_append]
  · rw [List.takeWhile_cons_of_neg (p:=fun p=>lt p.1 k) (a:=(a,y)) g] at h ⊢
    have g2:=h (a,y) rfl
    simp [SL.put,g,g2]
theorem put_K1 {lt:K→K→Bool} {k:K} {v:V}:∀ {l:List (K × V)} {x:K × V},l[posK lt k l]? = some x→¬ lt k x.1=true→SL.put lt k v l=l.set (posK lt k l) (x.1,v)
 | [],x,e,_=>by cases e
 | (a,y)::l,x,e,h=>by
  unfold posK at *
  by_cases g:lt a k=true
  · rw [List.takeWhile_cons_of_pos (p:=fun p=>lt p.1 k) (a:=(a,y)) g] at e ⊢
    have ih:=put_K1 (lt:=lt) (k:=k) (v:=v) (l:=l) (x:=x) (by unfold posK;simpa using e) h
    unfold posK at ih
    simp only [SL.put,g,if_true,ih,List.length_cons,List.set_cons_succ]
  · rw [List.takeWhile_cons_of_neg (p:=fun p=>lt p.1 k) (a:=(a,y)) g] at e ⊢
    cases e
    simp [SL.put,g,h]
end
theorem cmpV_lt {s:Bool} {a b:BV} (h:ltV s a b=true):cmpV s a b<0:=by unfold cmpV;rw [if_pos h];omega
theorem cmpV_nlt {s:Bool} {a b:BV} (h:¬ ltV s a b=true):¬ cmpV s a b<0:=by unfold cmpV;rw [if_neg h];split <;> omega
theorem cmpV_eq {s:Bool} {a b:BV} (h:¬ ltV s a b=true) (g:¬ ltV s b a=true):(cmpV s a b == 0)=true:=by unfold cmpV;rw [if_neg h,if_neg g];rfl
theorem cmpV_ne {s:Bool} {a b:BV} (h:¬ ltV s a b=true) (g:ltV s b a=true):(cmpV s a b == 0)=false:=by unfold cmpV;rw [if_neg h,if_pos g];rfl
theorem pin_go {M:Type} {R:M→CVal→B8→Prop} {e:M} {kd:Nat} (hK:KK kd) {qo:List (BV × (BV × M))} (hs:SL.Srt (ltV (sgK kd)) qo) (hko:∀ x ∈ qo,kokK kd x.1) {rs fs:List CVal} {L i:Nat} (hL:2 * qo.length=L) (hL6:L≤1000000) (hE:All2 (RV R) (zB2 e qo) rs) {kb:BV} (hkb:kokK kd kb) {Fb:CVal} {rb:B8} (pFb:PV1 Fb) (hfs:fs[i]? = some (.agg [.int .u64 kb.1,.str kb.2,Fb,.str rb])) (hi6:i≤1000000) {t:Tag} {q va n0:Nat} {E:EE} {ty:NN} (hu:Under E n0) (hut:zAb ty n0) (hq:n0≤q) {v0 v3 v8:CVal} {Q:QT}
    (hk:∀ (v7:CVal) n',q<n'→Q (.exit 2) ⟨[v0,.int .i64 (i:Nat),.imm t 4 fs,v3,.int .i64 (2 * posK (ltV (sgK kd)) kb qo:Nat),.ref q va 4 0 L,.int .i64 (kd:Nat),v7,v8,.nils],⟨(q,.row va rs)::E,n',ty⟩,[]⟩) :
    ∀ (m j nx:Nat) (v7:CVal),j+m=posK (ltV (sgK kd)) kb qo→q<nx→W tree.getF pinL ⟨[v0,.int .i64 (i:Nat),.imm t 4 fs,v3,.int .i64 (2 * j:Nat),.ref q va 4 0 L,.int .i64 (kd:Nat),v7,v8,.nils],⟨(q,.row va rs)::E,nx,ty⟩,[]⟩ Q:=by
 have O:=ordV (sgK kd)
 have hlen:=hE.len
 rw [zB3] at hlen
 have hlr:rs.length=L:=by omega
 have mb:=zAq hfs
 have hfl:=(List.getElem?_eq_some_iff.1 hfs).1
 have hfl2:(i:Int)<(fs.length:Int):=by omega
 refine pq_ pFb fun pb=>?_
 have hEn:∀ b,n0≤b→zA1 E b=none:=fun b hb=>zAe hu hb
 intro m
 induction m with
 | zero =>
  intro j nx v7 h1 h2
  obtain rfl:j=posK (ltV (sgK kd)) kb qo:=by omega
  have hD:∀ x m,nx≤m→zA7 ((q,CObj.row va x)::E) m=(q,CObj.row va x)::E:=fun x m hm=>zAc (Under.cons (by omega) (hu.le (by omega)))
  have hpl:=zI3 (ltV (sgK kd)) kb qo
  by_cases hj:posK (ltV (sgK kd)) kb qo<qo.length
  · obtain ⟨x,hx⟩:∃ x,qo[posK (ltV (sgK kd)) kb qo]? = some x:=⟨_,List.getElem?_eq_getElem hj⟩
    have hnl:¬ ltV (sgK kd) x.1 kb=true:=fun g=>Nat.lt_irrefl _ ((zFi O hs hx).1 g)
    have hc:=cmpV_nlt hnl
    obtain ⟨c,q1,r1⟩:=hE.at (zCo (e:=e) (show qo[_]? = some (x.1,x.2) from hx)).1
    obtain ⟨F,r,rfl,_,_,pF,_⟩:=r1
    have m1:=zAq q1
    have C:=vCmp_F hK (hko x (List.mem_of_getElem? hx)) hkb (r:=r) (s:=rb) pF pFb
    dsimp only at m1 C hc q1
    generalize cmpV (sgK kd) x.1 kb=z at *
    refine pq_ pF fun pF=>?_
    generalize posK (ltV (sgK kd)) kb qo=p at *
    obtain ⟨w,hw⟩:∃ w,2 * p=w:=⟨_,rfl⟩
    rw [hw] at hk m1 q1 ⊢
    have hlt:(w:Int)<(L:Int):=by omega
    refine W.loop ?_
    have hZ:=j12_ hEn hD hlt hlr q1 m1 pF pb hfs mb hfl2 hc
    repeat (first
     | refine vk_ ?_
     | (refine pe_ (C) fun n1 hn1=>⟨rfl,?_⟩))
    refine hk _ _ ?_;exact om_
  · have hge:¬ ((2 * posK (ltV (sgK kd)) kb qo:Nat):Int)<(L:Int):=by omega
    generalize 2 * posK (ltV (sgK kd)) kb qo=p at *
    refine W.loop ?_
    have hZ:=j4_ hEn hD hge hlr
    repeat (first
     | refine vk_ ?_)
    refine hk _ _ ?_;exact om_
 | succ m ih =>
  intro j nx v7 h1 h2
  have hD:∀ x m,nx≤m→zA7 ((q,CObj.row va x)::E) m=(q,CObj.row va x)::E:=fun x m hm=>zAc (Under.cons (by omega) (hu.le (by omega)))
  have hpl:=zI3 (ltV (sgK kd)) kb qo
  have hj:j<qo.length:=by omega
  obtain ⟨x,hx⟩:∃ x,qo[j]? = some x:=⟨_,List.getElem?_eq_getElem hj⟩
  have hc:=cmpV_lt ((zFi O (k:=kb) hs hx).2 (by omega))
  obtain ⟨c,q1,r1⟩:=hE.at (zCo (e:=e) (show qo[_]? = some (x.1,x.2) from hx)).1
  obtain ⟨F,r,rfl,_,_,pF,_⟩:=r1
  have m1:=zAq q1
  have C:=vCmp_F hK (hko x (List.mem_of_getElem? hx)) hkb (r:=r) (s:=rb) pF pFb
  dsimp only at m1 C hc q1
  generalize cmpV (sgK kd) x.1 kb=z at *
  refine pq_ pF fun pF=>?_
  obtain ⟨w,hw⟩:∃ w,2 * j=w:=⟨_,rfl⟩
  have hlt:(w:Int)<(L:Int):=by omega
  have ih1:=fun nx v7=>ih (j+1) nx v7 (by omega)
  have e2:((2 * (j+1):Nat):Int)=(w:Int)+2:=by omega
  rw [e2] at ih1
  rw [hw] at m1 q1 ⊢
  refine W.loop ?_
  have hZ:=j12_ hEn hD hlt hlr q1 m1 pF pb hfs mb hfl2 hc
  repeat (first
   | refine vk_ ?_
   | (refine pe_ (C) fun n1 hn1=>⟨rfl,?_⟩))
  refine dk_ ?_
  refine ih1 _ _ ?_;exact om_
def OutS {M:Type} (R:M→CVal→B8→Prop) (e:M) (n0:Nat) (E:EE) (qo:List (BV × (BV × M))) (out:CVal) (ents:EE) (nx:Nat):Prop :=
 (out=.nils∧qo=[]∧ents=E)∨(out=.imm .full 4 []∧qo=[]∧ents=E)∨∃ q va rs L,out=.ref q va 4 0 L∧2 * qo.length=L∧ents=(q,.row va rs)::E∧n0≤q∧q<nx∧All2 (RV R) (zB2 e qo) rs
theorem po_step {M:Type} {R:M→CVal→B8→Prop} {e:M} {kd:Nat} (hK:KK kd) {qo:List (BV × (BV × M))} (hs:SL.Srt (ltV (sgK kd)) qo) (hko:∀ x ∈ qo,kokK kd x.1) (hL6:2 * qo.length≤900000) {fs:List CVal} {i:Nat} {kb:BV} (hkb:kokK kd kb) {vb:BV × M} {cb:CVal} {c:CVal} (hcb:RV R (kb,e) cb) (hcv:RV R vb c) (hfs:fs[i]? = some cb) (hfs2:fs[i+1]? = some c) (hi6:fs.length≤1000000) {t:Tag} {n0:Nat} {E:EE} {ty:NN} (hu:Under E n0) (hut:zAb ty n0) {v0 v3 v4 v7 v8 out:CVal} {ents:EE} {nx:Nat} (hn0:n0≤nx) (HO:OutS R e n0 E qo out ents nx) {Q:QT}
    (hk:∀ (v3 v4 v7 v8 out':CVal) (ents':EE) (n':Nat),OutS R e n0 E (SL.put (ltV (sgK kd)) kb vb qo) out' ents' n'→n0≤n'→W tree.getF zIf ⟨[v0,.int .i64 ((i:Int)+2),.imm t 4 fs,v3,v4,out',.int .i64 (kd:Nat),v7,v8,.nils],⟨ents',n',ty⟩,[]⟩ Q):W tree.getF zIf ⟨[v0,.int .i64 (i:Nat),.imm t 4 fs,v3,v4,out,.int .i64 (kd:Nat),v7,v8,.nils],⟨ents,nx,ty⟩,[]⟩ Q:=by
 have O:=ordV (sgK kd)
 have hbx:=hcb.bare
 have hby:=hcv.bare
 obtain ⟨Fb,rb,rfl,_,_,pFb,hR0⟩:=id hcb
 obtain ⟨Fv,rv,rfl,_,_,pFv,_⟩:=id hcv
 dsimp only at *
 have mb:=zAq hfs
 have mv:=zAq hfs2
 have hfl:=(List.getElem?_eq_some_iff.1 hfs2).1
 have hfl1:(i:Int)<(fs.length:Int):=by omega
 have hfl2:(i:Int)+1<(fs.length:Int):=by omega
 have hti:((i:Int)+1).toNat=i+1:=by omega
 refine pq_ pFb fun pb=>?_
 refine pq_ pFv fun pv=>?_
 have hEn:∀ b,n0≤b→zA1 E b=none:=fun b hb=>zAe hu hb
 have hDE:∀ m,n0≤m→zA7 E m=E:=fun m hm=>zAc (hu.le hm)
 have hnl:∀ b,n0≤b→zCz ty b=none:=fun b hb=>zBx hut hb
 rcases HO with ⟨rfl,rfl,rfl⟩ | ⟨rfl,rfl,rfl⟩ | ⟨q,va,rs,L,rfl,hLq,rfl,hq,hqn,hE⟩
 · refine W.loop ?_
   have hZ:=j11_ hEn hDE hti hfs hfs2 mb mv hfl1 hfl2 pb pv
   repeat ((fail_if_success (show W tree.getF zIf _ _));first
    | refine vk_ ?_
    | (refine dk_ ?_;refine W.loop ?_)
    | refine W.loop ?_
    | (refine in4_nil _ _ _ hbx hby ft_ fun n1 g1=>⟨rfl,?_⟩;(try dsimp only at g1)))
   refine dk_ ?_
   refine hk _ _ _ _ _ _ _ (.inr (.inr ⟨_,_,_,_,rfl,rfl,rfl,by omega,by omega,.cons hcb (.cons hcv .nil)⟩)) ?_;exact om_
 · refine W.loop ?_
   have hZ:=j11_ hEn hDE hti hfs hfs2 mb mv hfl1 hfl2 pb pv
   repeat ((fail_if_success (show W tree.getF zIf _ _));first
    | refine vk_ ?_
    | (refine dk_ ?_;refine W.loop ?_)
    | refine W.loop ?_
    | (refine in4_full _ _ _ hbx hby ft_ fun n1 g1=>⟨rfl,?_⟩;(try dsimp only at g1)))
   refine dk_ ?_
   refine hk _ _ _ _ _ _ _ (.inr (.inr ⟨_,_,_,_,rfl,rfl,rfl,by omega,by omega,.cons hcb (.cons hcv .nil)⟩)) ?_;exact om_
 · have hD:∀ v x m,nx≤m→zA7 ((q,CObj.row v x)::E) m=(q,CObj.row v x)::E:=fun v x m hm=>zAc (Under.cons (by omega) (hu.le (by omega)))
   have hlen:=hE.len
   rw [zB3] at hlen
   have hlr:rs.length=L:=by omega
   have hpl:=zI3 (ltV (sgK kd)) kb qo
   have P0:=@put_K0 _ _ (ltV (sgK kd)) kb vb qo
   have P1:=@put_K1 _ _ (ltV (sgK kd)) kb vb qo
   have hnl2:=@zFi _ _ (ltV (sgK kd)) O kb qo hs
   have PG:=@pin_go M R e kd hK qo hs hko rs fs L i hLq (by omega) hE kb hkb Fb rb pFb hfs (by omega) t q va n0 E ty hu hut hq
   refine W.loop ?_
   have hZ:=j13_ hEn hDE hti hfs hfs2 mb mv hfl1 hfl2 pb pv hD hlr
   repeat ((fail_if_success (show W tree.getF pinL _ _));refine vk_ ?_)
   refine PG ?_ (posK (ltV (sgK kd)) kb qo) 0 _ _ (by omega) (by omega)
   intro w7 n1 hn1
   generalize posK (ltV (sgK kd)) kb qo=p at *
   obtain ⟨w,hw⟩:∃ w,2 * p=w:=⟨_,rfl⟩
   by_cases hp:p<qo.length
   · obtain ⟨x,hx⟩:∃ x,qo[p]? = some x:=⟨_,List.getElem?_eq_getElem hp⟩
     have hnlt:¬ ltV (sgK kd) x.1 kb=true:=fun g=>Nat.lt_irrefl _ ((hnl2 hx).1 g)
     obtain ⟨ck,q1,r1⟩:=hE.at (zCo (e:=e) (show qo[_]? = some (x.1,x.2) from hx)).1
     obtain ⟨cv,q2,r2⟩:=hE.at (zCo (e:=e) (show qo[_]? = some (x.1,x.2) from hx)).2
     obtain ⟨F,r,rfl,_,_,pF,_⟩:=r1
     obtain ⟨F2,r2',rfl,_,_,pF2,_⟩:=r2
     have m1:=zAq q1
     have m2:=zAq q2
     have C:=vCmp_F hK (hko x (List.mem_of_getElem? hx)) hkb (r:=r) (s:=rb) pF pFb
     rw [hw] at m1 m2 q1 q2 ⊢
     dsimp only at m1 m2 C q1 q2
     refine pq_ pF fun pF=>?_
     refine pq_ pF2 fun pF2=>?_
     have hwl:(w:Int)<(L:Int):=by omega
     have hwl1:(w:Int)+1<(L:Int):=by omega
     have htw:((w:Int)+1).toNat=w+1:=by omega
     by_cases hg:ltV (sgK kd) kb x.1=true
     · have hc:=cmpV_ne hnlt hg
       have hc2:(cmpV (sgK kd) x.1 kb=0)=False:=by simpa using hc
       rw [P0 fun y hy=>by rw [hx] at hy;cases hy;exact hg] at hk
       have hwle:(w:Int)≤(L:Int):=by omega
       generalize cmpV (sgK kd) x.1 kb=z at *
       have hZ:=j20_ hEn hDE hti hfs hfs2 mb mv hfl1 hfl2 pb pv hD hlr q1 m1 pF hwl hc hc2 hwle
       repeat ((fail_if_success (show W tree.getF zIf _ _));first
        | refine vk_ ?_
        | (refine dk_ ?_;refine W.loop ?_)
        | refine W.loop ?_
        | (refine pe_ (C) fun n1 hn1=>⟨rfl,?_⟩)
        | (refine in4_ref w hlr (by omega) (by omega) _ _ _ hbx hby ft_ (by simp (disch:=omega) [zA1]) (by dsimp only;exact hnl _ (by omega)) fun n1 g1=>⟨rfl,?_⟩;simp (disch:=omega) only [zA2,zCg,beq_self_eq_true,reduceIte];(try dsimp only at g1)))
       refine dk_ ?_
       refine hk _ _ _ _ _ _ _ (.inr (.inr ⟨_,_,_,_,rfl,?_,rfl,hq,by omega,?_⟩)) ?_
       · rw [List.length_append,List.length_cons,List.length_take,List.length_drop];omega
       · rw [zEk]
         have h1:=hE.take (2 * p)
         have h2:=hE.drop (2 * p)
         rw [zG1,hw] at h1
         rw [zEq,hw] at h2
         exact h1.app (.cons hcb (.cons hcv h2))
       · exact om_
     · have hc:=cmpV_eq hnlt hg
       have hc2:(cmpV (sgK kd) x.1 kb=0)=True:=by simpa using hc
       rw [P1 hx hg] at hk
       have hlw:w+1<L:=by omega
       have hsn:∀ y,zBv rs (w+1) y=rs.set (w+1) y:=fun y=>zEm _ _ _
       generalize cmpV (sgK kd) x.1 kb=z at *
       have hZ:=j26_ hEn hDE hti hfs hfs2 mb mv hfl1 hfl2 pb pv hD hlr q1 m1 q2 m2 pF pF2 hwl hwl1 htw hc hc2 hlw hsn
       repeat ((fail_if_success (show W tree.getF zIf _ _));first
        | refine vk_ ?_
        | (refine dk_ ?_;refine W.loop ?_)
        | refine W.loop ?_
        | (refine pe_ (C) fun n1 hn1=>⟨rfl,?_⟩))
       refine dk_ ?_
       refine hk _ _ _ _ _ _ _ (.inr (.inr ⟨_,_,_,_,rfl,by rw [List.length_set];exact hLq,rfl,hq,by omega,?_⟩)) ?_
       · have:=hE.set (2 * p+1) hcv
         rw [unprs_set (show qo[p]? = some (x.1,x.2) from hx),hw] at this
         exact this
       · exact om_
   · have hnw:¬ (w:Int)<(L:Int):=by omega
     have hwle:(w:Int)≤(L:Int):=by omega
     rw [P0 fun y hy=>by have:=(List.getElem?_eq_some_iff.1 hy).1;omega] at hk
     rw [hw]
     have hZ:=j15_ hEn hDE hti hfs hfs2 mb mv hfl1 hfl2 pb pv hD hlr hnw hwle
     repeat ((fail_if_success (show W tree.getF zIf _ _));first
      | refine vk_ ?_
      | (refine dk_ ?_;refine W.loop ?_)
      | refine W.loop ?_
      | (refine in4_ref w hlr (by omega) (by omega) _ _ _ hbx hby ft_ (by simp (disch:=omega) [zA1]) (by dsimp only;exact hnl _ (by omega)) fun n1 g1=>⟨rfl,?_⟩;simp (disch:=omega) only [zA2,zCg,beq_self_eq_true,reduceIte];(try dsimp only at g1)))
     refine dk_ ?_
     refine hk _ _ _ _ _ _ _ (.inr (.inr ⟨_,_,_,_,rfl,?_,rfl,hq,by omega,?_⟩)) ?_
     · rw [List.length_append,List.length_cons,List.length_take,List.length_drop];omega
     · rw [zEk]
       have h1:=hE.take (2 * p)
       have h2:=hE.drop (2 * p)
       rw [zG1,hw] at h1
       rw [zEq,hw] at h2
       exact h1.app (.cons hcb (.cons hcv h2))
     · exact om_
theorem zKs {K V:Type} {lt:K→K→Bool} {k:K} {v:V}:∀ {l:List (K × V)},(SL.put lt k v l).length≤l.length+1
 | []=>by simp [SL.put]
 | (a,x)::l=>by
  have:=zKs (lt:=lt) (k:=k) (v:=v) (l:=l)
  unfold SL.put
  split
  · simp;omega
  split <;> simp
theorem mrg_len {K V:Type} {lt:K→K→Bool} {op:K→Option V→V→V}:∀ {b a:List (K × V)},(SL.mrg lt op a b).length≤a.length+b.length
 | [],a=>by simp [SL.mrg]
 | p::b,a=>by
  have h1:=mrg_len (lt:=lt) (op:=op) (b:=b) (a:=SL.put lt p.1 (op p.1 (SL.get lt p.1 a) p.2) a)
  have h2:=zKs (lt:=lt) (k:=p.1) (v:=op p.1 (SL.get lt p.1 a) p.2) (l:=a)
  have h3:SL.mrg lt op a (p::b)=SL.mrg lt op (SL.put lt p.1 (op p.1 (SL.get lt p.1 a) p.2) a) b:=rfl
  rw [h3,List.length_cons];omega
abbrev mrgP {M:Type} (kd:Nat) (a b:List (BV × (BV × M))):List (BV × (BV × M)):=SL.mrg (ltV (sgK kd)) (fun _ _ z=>z) a b
theorem pout_go {M:Type} {R:M→CVal→B8→Prop} {e:M} {kd:Nat} (hK:KK kd) {qb:List (BV × (BV × M))} {fs:List CVal} (hfs:All2 (RV R) (zB2 e qb) fs) (hi6:2 * qb.length≤400000) (hkb:∀ x ∈ qb,kokK kd x.1) {t:Tag} {n0:Nat} {E:EE} {ty:NN} (hu:Under E n0) (hut:zAb ty n0) {v0:CVal} {Q:QT} {fin:List (BV × (BV × M))}
    (hk:∀ (v3 v4 v7 v8 out:CVal) (ents:EE) (nx:Nat),OutS R e n0 E fin out ents nx→n0≤nx→Q (.exit 0) ⟨[v0,.int .i64 (2 * qb.length:Nat),.imm t 4 fs,v3,v4,out,.int .i64 (kd:Nat),v7,v8,.nils],⟨ents,nx,ty⟩,[]⟩) :
    ∀ (rest:List (BV × (BV × M))) (j:Nat) (qo:List (BV × (BV × M))),qb.drop j=rest→mrgP kd qo rest=fin→SL.Srt (ltV (sgK kd)) qo→(∀ x ∈ qo,kokK kd x.1)→2 * (qo.length+rest.length)≤900000→j+rest.length=qb.length→∀ (v3 v4 v7 v8 out:CVal) (ents:EE) (nx:Nat),n0≤nx→OutS R e n0 E qo out ents nx→W tree.getF zIf ⟨[v0,.int .i64 (2 * j:Nat),.imm t 4 fs,v3,v4,out,.int .i64 (kd:Nat),v7,v8,.nils],⟨ents,nx,ty⟩,[]⟩ Q:=by
 have hlen:=hfs.len
 rw [zB3] at hlen
 intro rest
 induction rest with
 | nil =>
  intro j qo h1 h2 h3 h4 h5 h6 v3 v4 v7 v8 out ents nx h7 h8
  obtain rfl:qo=fin:=h2
  obtain rfl:j=qb.length:=by simpa using h6
  refine W.loop ?_
  have hge:¬ ((2 * qb.length:Nat):Int)+1<(fs.length:Int):=by omega
  generalize 2 * qb.length=w at *
  have hw:(w:Int)+1<1000000:=by omega
  have hZ:=j2_ hge hw
  try refine wk_ ?_
  refine hk _ _ _ _ _ _ _ ?_ ?_
  · rcases h8 with h | h | ⟨q,va,rs,L,a1,a2,a3,a4,a5,a6⟩
    · exact .inl h
    · exact .inr (.inl h)
    · exact .inr (.inr ⟨q,va,rs,L,a1,a2,a3,a4,by omega,a6⟩)
  · omega
 | cons p rest ih =>
  intro j qo h1 h2 h3 h4 h5 h6 v3 v4 v7 v8 out ents nx h7 h8
  obtain ⟨kb,vb⟩:=p
  have hj:qb[j]? = some (kb,vb):=by
   have:(qb.drop j)[0]? = some (kb,vb):=by rw [h1];rfl
   rw [List.getElem?_drop] at this;exact this
  have hd:qb.drop (j+1)=rest:=by
   have:=congrArg (List.drop 1) h1
   rw [List.drop_drop] at this;exact this
  obtain ⟨cb,q1,r1⟩:=hfs.at (zCo (e:=e) hj).1
  obtain ⟨cv,q2,r2⟩:=hfs.at (zCo (e:=e) hj).2
  rw [List.length_cons] at h5 h6
  refine po_step hK h3 h4 (by omega) (hkb _ (List.mem_of_getElem? hj)) r1 r2 q1 q2 (by omega) hu hut h7 h8 fun v3 v4 v7 v8 out' ents' n' h9 h10=>?_
  have e2:((2 * j:Nat):Int)+2=((2 * (j+1):Nat):Int):=by omega
  rw [e2]
  have pl:=zKs (lt:=ltV (sgK kd)) (k:=kb) (v:=vb) (l:=qo)
  exact ih (j+1) (SL.put (ltV (sgK kd)) kb vb qo) hd h2 (SL.srt_put (ordV _) h3) (fun x hx=>by
   rcases SL.mem_put hx with e | hx | ⟨y,hy,e⟩
   · rw [e];exact hkb _ (List.mem_of_getElem? hj)
   · exact h4 x hx
   · rw [← e];exact h4 y hy) (by omega) (by omega) v3 v4 v7 v8 out' ents' n' h10 h9
theorem pairs_F {M:Type} {R:M→CVal→B8→Prop} {e:M} {kd:Nat} (hK:KK kd) {qa qb:List (BV × (BV × M))} (hsa:SL.Srt (ltV (sgK kd)) qa) (hka:∀ x ∈ qa,kokK kd x.1) (hkb:∀ x ∈ qb,kokK kd x.1) (hne:qb≠[]) {Za Zb:Nat} (hza:Za≤400000) (hzb:Zb≤400000) {X Y:CVal} (hx:LRep Za (RV R) 4 (zB2 e qa) X) (hy:LRep Zb (RV R) 4 (zB2 e qb) Y):PuR 92 [.int .i64 (kd:Nat),X,Y] (LRep (Za+Zb) (RV R) 4 (zB2 e (mrgP kd qa qb))):=by
 intro h hf K hk
 obtain ⟨hu,hut,hX⟩:=fx4 hf
 have hdA:∀ m,h.next≤m→zB6 h.ents m=h.ents:=fun m hm=>zBa (hu.le hm)
 have pY:=hy.p
 refine pq_ pY fun pY=>?_
 obtain ⟨hla,es,hea,hx⟩:=hx
 obtain ⟨hlb,fs,heb,hy⟩:=hy
 have l1:=hea.len
 have l2:=heb.len
 rw [zB3] at hla hlb l1 l2
 have hfl:(zB2 e (mrgP kd qa qb)).length≤Za+Zb:=by
  rw [zB3]
  have:(mrgP kd qa qb).length≤qa.length+qb.length:=mrg_len
  omega
 have hB:∀ x ∈ zB2 e qa,∀ c,RV R x c→c.bare=c:=fun x _ c h=>h.bare
 rcases hy with ⟨rfl,rfl⟩ | ⟨t1,ht1,rfl⟩
 · exfalso
   cases qb with
   | nil=>exact hne rfl
   | cons p q=>simp at l2
 rcases hx with ⟨rfl,rfl⟩ | ⟨t,ht,rfl⟩
 · have e1:qa=[]:=List.eq_nil_of_length_eq_zero (by rw [List.length_nil] at l1;omega)
   refine mk_ 92 c92 (s_ ?_)
   have hZ:=j3_ hX hdA pY
   repeat ((fail_if_success (show W tree.getF zIf _ _));first
    | refine vk_ ?_
    | (refine mk_ 101 c101 (s_ ?_))
    | (refine rk_ ?_;refine ⟨rfl,?_⟩))
   refine pout_go hK heb (by omega) hkb hu hut (fin:=mrgP kd qa qb) ?_ qb 0 qa rfl rfl hsa hka (by omega) (by omega) _ _ _ _ _ _ _ (by omega) (.inl ⟨rfl,e1,rfl⟩)
   intro v3 v4 v7 v8 out ents nx HO hn
   rcases HO with ⟨rfl,hq0,rfl⟩ | ⟨rfl,hq0,rfl⟩ | ⟨q,va,rs,L,rfl,hLq,rfl,hq,hqn,hE⟩
   · rw [hq0] at hk
     have hZ:=j2_ hX hdA
     repeat (first
      | refine vk_ ?_)
     refine rk_ ?_
     refine hk _ _ LRep.nil ?_;exact om_
   · rw [hq0] at hk
     have hZ:=j2_ hX hdA
     repeat (first
      | refine vk_ ?_)
     refine rk_ ?_
     refine hk _ _ (LRep.imm .nil (.inr rfl) (Nat.zero_le _)) ?_;exact om_
   · have l3:=hE.len
     rw [zB3] at l3
     have l4:rs.length=L:=by omega
     have ht2:List.take L rs=rs:=List.take_of_length_le (by omega)
     have hZ:=j4_ hX hdA l4 ht2
     repeat (first
      | refine vk_ ?_)
     refine rk_ ?_
     refine hk _ _ (LRep.imm hE (.inl rfl) hfl) ?_;exact om_
 cases es with
 | nil =>
  have e1:qa=[]:=List.eq_nil_of_length_eq_zero (by rw [List.length_nil] at l1;omega)
  rcases ht with rfl | rfl
  all_goals
   refine mk_ 92 c92 (s_ ?_)
   have hZ:=j3_ hX hdA pY
   repeat ((fail_if_success (show W tree.getF zIf _ _));first
    | refine vk_ ?_
    | (refine mk_ 101 c101 (s_ ?_))
    | (refine rk_ ?_;refine ⟨rfl,?_⟩))
   refine pout_go hK heb (by omega) hkb hu hut (fin:=mrgP kd qa qb) ?_ qb 0 qa rfl rfl hsa hka (by omega) (by omega) _ _ _ _ _ _ _ (by omega) (.inr (.inl ⟨rfl,e1,rfl⟩))
   intro v3 v4 v7 v8 out ents nx HO hn
   rcases HO with ⟨rfl,hq0,rfl⟩ | ⟨rfl,hq0,rfl⟩ | ⟨q,va,rs,L,rfl,hLq,rfl,hq,hqn,hE⟩
   · rw [hq0] at hk
     have hZ:=j2_ hX hdA
     repeat (first
      | refine vk_ ?_)
     refine rk_ ?_
     refine hk _ _ LRep.nil ?_;exact om_
   · rw [hq0] at hk
     have hZ:=j2_ hX hdA
     repeat (first
      | refine vk_ ?_)
     refine rk_ ?_
     refine hk _ _ (LRep.imm .nil (.inr rfl) (Nat.zero_le _)) ?_;exact om_
   · have l3:=hE.len
     rw [zB3] at l3
     have l4:rs.length=L:=by omega
     have ht2:List.take L rs=rs:=List.take_of_length_le (by omega)
     have hZ:=j4_ hX hdA l4 ht2
     repeat (first
      | refine vk_ ?_)
     refine rk_ ?_
     refine hk _ _ (LRep.imm hE (.inl rfl) hfl) ?_;exact om_
 | cons e1 e2 =>
  obtain ⟨L,hLL⟩:∃ L,2 * qa.length=L:=⟨_,rfl⟩
  have hne2:e2.length+1=L:=by rw [← hLL,← l1];simp
  have hneI:(e2.length:Int)+1=(L:Int):=by omega
  have hsm:e2.length+1≤1073741824:=by omega
  have h1:1≤L:=by omega
  have hst:(CVal.imm t 4 (e1::e2)).strip=.imm t 4 (e1::e2):=by rcases ht with rfl | rfl <;> rfl
  simp only [CVal.strip] at hst
  have hB2:=zCp hea hB
  have hb2:e2.map CVal.bare=e2:=(List.cons.inj hB2).2
  have hE1:∃ (x:BV × M) (F:CVal) (r:B8),e1=.agg [.int .u64 x.1.1,.str x.1.2,F,.str r]∧PV1 F:=by
   obtain ⟨x,hx⟩:∃ x,(zB2 e qa)[0]? = some x:=⟨_,List.getElem?_eq_getElem (by rw [zB3];omega)⟩
   obtain ⟨c,q1,F,r,r1,_,_,p,_⟩:=hea.at hx
   cases q1
   exact ⟨x,F,r,r1,p⟩
  obtain ⟨x1,F1,r1,rfl,pF1⟩:=hE1
  refine pq_ pF1 fun p1=>?_
  refine mk_ 92 c92 (s_ ?_)
  have hZ:=j9_ hX hdA pY hneI hne2 hsm hst hb2 p1
  repeat ((fail_if_success (show W tree.getF zIf _ _));first
   | refine vk_ ?_
   | (refine mk_ 101 c101 (s_ ?_))
   | (refine rk_ ?_;refine ⟨rfl,?_⟩))
  refine pout_go hK heb (by omega) hkb hu hut (fin:=mrgP kd qa qb) ?_ qb 0 qa rfl rfl hsa hka (by omega) (by omega) _ _ _ _ _ _ _ (by omega) (.inr (.inr ⟨_,_,_,L,rfl,hLL,rfl,by omega,by omega,hea⟩))
  intro v3 v4 v7 v8 out ents nx HO hn
  rcases HO with ⟨rfl,hq0,rfl⟩ | ⟨rfl,hq0,rfl⟩ | ⟨q,va,rs,L,rfl,hLq,rfl,hq,hqn,hE⟩
  · rw [hq0] at hk
    have hZ:=j2_ hX hdA
    repeat (first
     | refine vk_ ?_)
    refine rk_ ?_
    refine hk _ _ LRep.nil ?_;exact om_
  · rw [hq0] at hk
    have hZ:=j2_ hX hdA
    repeat (first
     | refine vk_ ?_)
    refine rk_ ?_
    refine hk _ _ (LRep.imm .nil (.inr rfl) (Nat.zero_le _)) ?_;exact om_
  · have l3:=hE.len
    rw [zB3] at l3
    have l4:rs.length=L:=by omega
    have ht2:List.take L rs=rs:=List.take_of_length_le (by omega)
    have hZ:=j4_ hX hdA l4 ht2
    repeat (first
     | refine vk_ ?_)
    refine rk_ ?_
    refine hk _ _ (LRep.imm hE (.inl rfl) hfl) ?_;exact om_
theorem zH7 {r x:RW}:∀ {l:List RW},x ∈ insR r l ↔ x=r∨x ∈ l
 | []=>by simp [insR]
 | y::l=>by
  have:=zH7 (r:=r) (x:=x) (l:=l)
  unfold insR
  split
  · simp only [List.mem_cons,this]
    constructor
    · rintro (h | h | h) <;> simp [h]
    · rintro (h | h | h) <;> simp [h]
  · simp
def Rise (l:List RW):Prop:=SL.Srt nltB (l.map fun r=>(r.num,r))
theorem zJ1 {r:RW}:∀ {l:List RW},Rise l→(∀ x ∈ l,x.num≠r.num)→Rise (insR r l)
 | [],_,_=>⟨fun p hp=>(by cases hp),trivial⟩
 | y::l,h,hn=>by
  have ih:=zJ1 (r:=r) (l:=l) h.2 fun x hx=>hn x (by simp [hx])
  unfold insR
  split
  · rename_i h1
    refine ⟨fun p hp=>?_,ih⟩
    obtain ⟨x,hx,rfl⟩:=List.mem_map.1 hp
    rcases zH7.1 hx with rfl | hx
    · simp [nltB,h1]
    · exact h.1 _ (List.mem_map_of_mem hx)
  · rename_i h1
    have h2:r.num<y.num:=by have:=hn y (by simp);omega
    refine ⟨fun p hp=>?_,h⟩
    obtain ⟨x,hx,rfl⟩:=List.mem_map.1 hp
    rcases List.mem_cons.1 hx with rfl | hx
    · simp [nltB,h2]
    · have:=h.1 _ (List.mem_map_of_mem hx)
      simp [nltB] at this ⊢;omega
theorem sort_go:∀ {l acc:List RW},Rise acc→((acc++l).map RW.num).Nodup→Rise (l.foldl (fun acc r=>insR r acc) acc)∧∀ x,x ∈ l.foldl (fun acc r=>insR r acc) acc ↔ x ∈ acc∨x ∈ l
 | [],acc,h,_=>⟨h,fun x=>by simp⟩
 | r::l,acc,h,hn=>by
  have h1:∀ x ∈ acc,x.num≠r.num:=fun x hx e=>by
   rw [List.map_append,List.nodup_append] at hn
   exact hn.2.2 x.num (List.mem_map_of_mem hx) r.num (by simp) e
  have hp:((insR r acc++l).map RW.num).Nodup:=by
   rw [List.map_append,List.nodup_append] at hn ⊢
   obtain ⟨n1,n2,n3⟩:=hn
   rw [List.map_cons,List.nodup_cons] at n2
   refine ⟨?_,n2.2,fun a ha b hb=>?_⟩
   · have:=(zJ1 h h1)
     exact nodup_rise this
   · obtain ⟨x,hx,rfl⟩:=List.mem_map.1 ha
     rcases zH7.1 hx with rfl | hx
     · rintro rfl;exact n2.1 hb
     · exact n3 _ (List.mem_map_of_mem hx) b (by simp [hb])
  obtain ⟨a1,a2⟩:=sort_go (l:=l) (zJ1 h h1) hp
  refine ⟨a1,fun x=>?_⟩
  rw [List.foldl_cons,a2,zH7,List.mem_cons]
  constructor
  · rintro ((h | h) | h) <;> simp [h]
  · rintro (h | h | h) <;> simp [h]
where
 nodup_rise:∀ {l:List RW},Rise l→(l.map RW.num).Nodup
 | [],_=>by simp
 | y::l,h=>by
  rw [List.map_cons,List.nodup_cons]
  refine ⟨fun hm=>?_,nodup_rise h.2⟩
  obtain ⟨x,hx,e⟩:=List.mem_map.1 hm
  have:=h.1 _ (List.mem_map_of_mem hx)
  simp [nltB] at this;omega
structure SOk (Ls:List RW):Prop where
 len:Ls.length≤100
 nd:(Ls.map RW.num).Nodup
 rise:Rise Ls
 ok:∀ r ∈ Ls,r.ok∧(r.lab=3→KK (zAz r.key))
theorem K6_KK:∀ k ∈ K6,KK (zAz k):=by
 intro k hk
 simp only [K6,List.mem_cons,List.not_mem_nil,or_false] at hk
 unfold KK
 rcases hk with rfl | rfl | rfl | rfl | rfl | rfl <;> decide
theorem BD.sok {c:BD} {m:Nat} (h:c.ok m) (hm:m≤7):SOk (zAi c.rs):=by
 have hn:=BD.rs_num h hm
 obtain ⟨s1,s2⟩:=sort_go (l:=c.rs) (acc:=[]) trivial hn
 refine ⟨?_,sort_go.nodup_rise s1,s1,fun r hr=>?_⟩
 · rw [zC8]
   obtain ⟨i,hi,B⟩:=h.b
   have:=B.l
   simp only [BD.rs,List.length_append,List.length_map]
   omega
 · have hr2:r ∈ c.rs:=by rcases (s2 r).1 hr with h | h;cases h;exact h
   refine ⟨BD.rs_ok h r hr2,fun e=>?_⟩
   obtain ⟨i,hi,B⟩:=h.b
   rcases List.mem_append.1 hr2 with h3 | h3
   · obtain ⟨d,hd,rfl⟩:=List.mem_map.1 h3
     have hok:=(B.f d hd).1
     obtain ⟨sh,t,num⟩:=d
     cases sh with
     | map key=>exact K6_KK _ hok.2.2.2
     | _=>simp [FD.rw] at e
   · obtain ⟨d,hd,rfl⟩:=List.mem_map.1 h3
     simp [OD.rw] at e
abbrev Nmt:=B8
abbrev tyI:Nmt:=[97,46,73]
abbrev tyM:Nmt:=[97,46,77]
def bdOf (a b:BD) (t:Nmt):Option BD:=if t=tyI then some a else if t=tyM then some b else none
def RW.fld (r:RW):Fld BV Nmt:=⟨if r.lab=2 then 1 else if r.lab=3 then 2 else 0,decide (r.kind=16),r.ty,ltV (sgK (zAz r.key)),kokK (zAz r.key),r.oo⟩
def fldS (a b:BD) (t:Nmt) (k:Nat):Option (Fld BV Nmt):=match bdOf a b t with
 | some c=>(fRW (zAi c.rs) k).map RW.fld
 | none=>none
theorem zHe (a b:BD):zKa (fldS a b):=by
 intro t k f h
 unfold fldS at h
 split at h
 · obtain ⟨r,_,rfl⟩:=Option.map_eq_some_iff.1 h
   exact ordV _
 · cases h
theorem kind16 {r:RW} (hr:r.ok) (h:r.kind=16):r.ty=tyI∨r.ty=tyM:=by
 obtain ⟨h1,h2,_⟩:=zFu _ hr.t
 unfold RW.kind at h
 by_cases h0:zAz r.t=0
 · rw [if_pos h0] at h
   unfold RW.ty
   rw [if_pos h0]
   rcases h2 h0 with e | e | e
   · rw [e] at h;simp at h
   · rw [e];exact .inl rfl
   · rw [e];exact .inr rfl
 · rw [if_neg h0] at h;omega
abbrev b0V:BV:=(0,[])
abbrev OkMs (a b:BD):=OkM b0V (fldS a b)
abbrev mgM (a b:BD):=zD5 b0V (fldS a b)
theorem over_rep {fr:RW} (hl:fr.lab=2) {M:Type} {R:M→CVal→B8→Prop} {Za Zb:Nat} (hza:Za≤400000) (hzb:Zb≤400000) {la lb:List (BV × M)} (hne:lb≠[]) {X Y S:CVal} (pS:∃ s1 s2,S=.agg [s1,s2]∧PV1 s1∧PV1 s2) (hx:LRep Za (RV R) 4 la X) (hy:LRep Zb (RV R) 4 lb Y):PuR 40 [S,fr.pf,X,Y] (LRep (Za+Zb) (RV R) 4 (la++lb)):=by
 intro h hf K hk
 obtain ⟨hu,hut,hX⟩:=fx4 hf
 have hdA:∀ m,h.next≤m→zB6 h.ents m=h.ents:=fun m hm=>zBa (hu.le hm)
 obtain ⟨s1,s2,rfl,pS1,pS2⟩:=pS
 refine pq_ pS1 fun q1=>?_
 refine pq_ pS2 fun q2=>?_
 have pX:=hx.p
 have pY:=hy.p
 refine pq_ pX fun pX=>?_
 refine pq_ pY fun pY=>?_
 obtain ⟨hla,es,hea,hx⟩:=hx
 obtain ⟨hlb,fs,heb,hy⟩:=hy
 have l1:=hea.len
 have l2:=heb.len
 have hbx:=zCp hea fun x _ c h=>h.bare
 have hby:=zCp heb fun x _ c h=>h.bare
 have hll:(la++lb).length≤Za+Zb:=by rw [List.length_append];omega
 unfold RW.pf
 rw [hl]
 rcases hy with ⟨rfl,rfl⟩ | ⟨t1,ht1,rfl⟩
 · exact absurd (List.eq_nil_of_length_eq_zero l2.symm) hne
 cases fs with
 | nil=>exact absurd (List.eq_nil_of_length_eq_zero l2.symm) hne
 | cons f1 f2 =>
 obtain ⟨nb,hnb⟩:∃ nb,(f1::f2).length=nb:=⟨_,rfl⟩
 have hnb2:f2.length+1=nb:=by simpa using hnb
 have hnb1:1≤nb:=by omega
 have hnb3:nb≤400000:=by omega
 have hb2:f2.map CVal.bare=f2:=(List.cons.inj hby).2
 have hF1:∃ (x:BV × M) (F:CVal) (r:B8),f1=.agg [.int .u64 x.1.1,.str x.1.2,F,.str r]∧PV1 F:=by
  obtain ⟨x,hx⟩:∃ x,lb[0]? = some x:=⟨_,List.getElem?_eq_getElem (by simp at l2;omega)⟩
  obtain ⟨c,q1,F,r,r1,_,_,p,_⟩:=heb.at hx
  cases q1
  exact ⟨x,F,r,r1,p⟩
 obtain ⟨y1,G1,s1',rfl,pG1⟩:=hF1
 refine pq_ pG1 fun p1=>?_
 have htb:List.take nb (CVal.agg [.int .u64 y1.1.1,.str y1.1.2,G1,.str s1']::f2)=.agg [.int .u64 y1.1.1,.str y1.1.2,G1,.str s1']::f2:=List.take_of_length_le (by omega)
 rcases hx with ⟨rfl,rfl⟩ | ⟨t,ht,rfl⟩
 · have e1:la=[]:=List.eq_nil_of_length_eq_zero l1.symm
   subst e1
   rw [List.nil_append] at hk hll
   refine mk_ 40 c40 (s_ ?_)
   have hZ:=j13_ hX hdA q1 q2 pX pY hnb hnb1 hnb2 hnb3 hb2 p1 htb
   repeat (first
    | refine vk_ ?_
    | (refine dk_ ?_;refine W.loop ?_)
    | refine W.loop ?_
    | (refine mk_ 91 c91 (s_ ?_))
    | (refine mk_ 122 c122 (s_ ?_))
    | (refine rk_ ?_;refine ⟨rfl,?_⟩))
   refine rk_ ?_
   refine hk _ _ (LRep.imm heb (.inl rfl) hll) ?_;exact om_
 cases es with
 | nil =>
  have e1:la=[]:=List.eq_nil_of_length_eq_zero l1.symm
  subst e1
  rw [List.nil_append] at hk hll
  rcases ht with rfl | rfl
  all_goals
   refine mk_ 40 c40 (s_ ?_)
   have hZ:=j13_ hX hdA q1 q2 pX pY hnb hnb1 hnb2 hnb3 hb2 p1 htb
   repeat (first
    | refine vk_ ?_
    | (refine dk_ ?_;refine W.loop ?_)
    | refine W.loop ?_
    | (refine mk_ 91 c91 (s_ ?_))
    | (refine mk_ 122 c122 (s_ ?_))
    | (refine rk_ ?_;refine ⟨rfl,?_⟩))
   refine rk_ ?_
   refine hk _ _ (LRep.imm heb (.inl rfl) hll) ?_;exact om_
 | cons e1 e2 =>
 obtain ⟨na,hna⟩:∃ na,(e1::e2).length=na:=⟨_,rfl⟩
 have hna2:e2.length+1=na:=by simpa using hna
 have hna1:1≤na:=by omega
 have hna3:na≤400000:=by omega
 have ha2:e2.map CVal.bare=e2:=(List.cons.inj hbx).2
 have hE1:∃ (x:BV × M) (F:CVal) (r:B8),e1=.agg [.int .u64 x.1.1,.str x.1.2,F,.str r]∧PV1 F:=by
  obtain ⟨x,hx⟩:∃ x,la[0]? = some x:=⟨_,List.getElem?_eq_getElem (by simp at l1;omega)⟩
  obtain ⟨c,q1,F,r,r1,_,_,p,_⟩:=hea.at hx
  cases q1
  exact ⟨x,F,r,r1,p⟩
 obtain ⟨x1,F1,r1',rfl,pF1⟩:=hE1
 refine pq_ pF1 fun p2=>?_
 have hab:=hea.app heb
 obtain ⟨a1,ha1⟩:∃ a1,a1=CVal.agg [.int .u64 x1.1.1,.str x1.1.2,F1,.str r1']:=⟨_,rfl⟩
 have htn:((na:Int)+(nb:Int)).toNat - na=nb:=by omega
 have hT:∀ z:CVal,List.take na (CVal.agg [.int .u64 x1.1.1,.str x1.1.2,F1,.str r1']::(e2++List.replicate nb z))=.agg [.int .u64 x1.1.1,.str x1.1.2,F1,.str r1']::e2:=fun z=>by
  rw [← List.cons_append];exact List.take_left' hna
 have hDr:∀ z:CVal,List.drop (na+nb) (CVal.agg [.int .u64 x1.1.1,.str x1.1.2,F1,.str r1']::(e2++List.replicate nb z))=[]:=fun z=>by
  rw [← List.cons_append];exact List.drop_of_length_le (by rw [List.length_append,List.length_replicate];omega)
 have hTT:List.take (na+nb) (CVal.agg [.int .u64 x1.1.1,.str x1.1.2,F1,.str r1']::(e2++CVal.agg [.int .u64 y1.1.1,.str y1.1.2,G1,.str s1']::f2))=.agg [.int .u64 x1.1.1,.str x1.1.2,F1,.str r1']::(e2++CVal.agg [.int .u64 y1.1.1,.str y1.1.2,G1,.str s1']::f2):=List.take_of_length_le (by rw [← List.cons_append,List.length_append];omega)
 refine mk_ 40 c40 (s_ ?_)
 have hZ:=j22_ hX hdA q1 q2 pX pY hnb hnb1 hnb2 hnb3 hb2 p1 hna hna1 hna2 hna3 ha2 p2 htn hT hDr hTT
 repeat (first
  | refine vk_ ?_
  | (refine dk_ ?_;refine W.loop ?_)
  | refine W.loop ?_
  | (refine mk_ 91 c91 (s_ ?_))
  | (refine mk_ 122 c122 (s_ ?_))
  | (refine rk_ ?_;refine ⟨rfl,?_⟩))
 refine rk_ ?_
 refine hk _ _ (LRep.imm hab (.inl rfl) hll) ?_;exact om_
def LF (v:CVal):Prop:=v=.nils∨(∃ es,v=.imm .none 4 es)∨∃ es,v=.imm .full 4 es
theorem LF.p {v:CVal} (h:LF v):PV1 v:=by
 rcases h with rfl | ⟨es,rfl⟩ | ⟨es,rfl⟩ <;> exact ⟨rfl,rfl,rfl,rfl,rfl⟩
theorem LRep.lf {α:Type} {Z:Nat} {R:α→CVal→Prop} {l:List α} {v:CVal} (h:LRep Z R 4 l v):LF v:=by
 obtain ⟨_,es,_,⟨rfl,_⟩ | ⟨t,rfl | rfl,rfl⟩⟩:=h
 · exact .inl rfl
 · exact .inr (.inl ⟨_,rfl⟩)
 · exact .inr (.inr ⟨_,rfl⟩)
theorem over_map {fr:RW} (hl:fr.lab=3) {S:CVal} (pS:∃ s1 s2,S=.agg [s1,s2]∧PV1 s1∧PV1 s2) {X Y:CVal} (pX:PV1 X) (pY:PV1 Y) {R:CVal→Prop} (hR:∀ v,R v→LF v) (H:PuR 92 [.int .i64 (zAz fr.key:Nat),X,Y] R):PuR 40 [S,fr.pf,X,Y] R:=by
 intro h hf K hk
 obtain ⟨hu,hut,hX⟩:=fx4 hf
 have hdA:∀ m,h.next≤m→zB6 h.ents m=h.ents:=fun m hm=>zBa (hu.le hm)
 obtain ⟨s1,s2,rfl,pS1,pS2⟩:=pS
 refine pq_ pS1 fun q1=>?_
 refine pq_ pS2 fun q2=>?_
 refine pq_ pX fun pX=>?_
 refine pq_ pY fun pY=>?_
 unfold RW.pf
 rw [hl]
 refine mk_ 40 c40 (s_ ?_)
 have hZ:=j6_ hX hdA q1 q2 pX pY
 repeat (first
  | refine vk_ ?_
  | (refine pr_ H fun v1 n1 R1 g1=>?_;skip;refine pq_ (hR _ R1).p fun hP=>?_;have hZ:=And.intro hZ hP;refine ⟨hP.1,?_⟩))
 rcases hR _ R1 with rfl | ⟨es,rfl⟩ | ⟨es,rfl⟩
 all_goals
  refine rk_ ?_
  refine hk _ _ R1 ?_;exact om_
theorem over_one {fr:RW} (hl2:fr.lab≠2) (hl3:fr.lab≠3) {S:CVal} (pS:∃ s1 s2,S=.agg [s1,s2]∧PV1 s1∧PV1 s2) {X Y:CVal} (pX:PV1 X) (fY:LF Y) (hc:fr.kind≠16∨X=.nils):PuR 40 [S,fr.pf,X,Y] (fun v=>v=Y):=by
 intro h hf K hk
 obtain ⟨hu,hut,hX⟩:=fx4 hf
 have hdA:∀ m,h.next≤m→zB6 h.ents m=h.ents:=fun m hm=>zBa (hu.le hm)
 obtain ⟨s1,s2,rfl,pS1,pS2⟩:=pS
 refine pq_ pS1 fun q1=>?_
 refine pq_ pS2 fun q2=>?_
 have pY:=fY.p
 refine pq_ pX fun pX=>?_
 refine pq_ pY fun pY=>?_
 unfold RW.pf
 have e2:((fr.lab:Int) == 2)=false:=beq_eq_false_iff_ne.2 (by omega)
 have e3:((fr.lab:Int) == 3)=false:=beq_eq_false_iff_ne.2 (by omega)
 have e2':((fr.lab:Int)=2)=False:=eq_false (by omega)
 have e3':((fr.lab:Int)=3)=False:=eq_false (by omega)
 by_cases hk16:fr.kind=16
 · rcases hc with hc | rfl
   · exact absurd hk16 hc
   · rw [hk16]
     refine mk_ 40 c40 (s_ ?_)
     have hZ:=j10_ hX hdA q1 q2 pX pY e2 e3 e2' e3'
     repeat (first
      | refine vk_ ?_)
     rcases fY with rfl | ⟨es,rfl⟩ | ⟨es,rfl⟩
     all_goals
      refine rk_ ?_
      refine hk _ _ rfl ?_;exact om_
 · have e4:((fr.kind:Int) == 16)=false:=beq_eq_false_iff_ne.2 (by omega)
   have e4':((fr.kind:Int)=16)=False:=eq_false (by omega)
   refine mk_ 40 c40 (s_ ?_)
   have hZ:=j12_ hX hdA q1 q2 pX pY e2 e3 e4 e2' e3' e4'
   repeat (first
    | refine vk_ ?_)
   rcases fY with rfl | ⟨es,rfl⟩ | ⟨es,rfl⟩
   all_goals
    refine rk_ ?_
    refine hk _ _ rfl ?_;exact om_
theorem over_msg {fr:RW} (hl2:fr.lab≠2) (hl3:fr.lab≠3) (hk16:fr.kind=16) {S:CVal} (pS:∃ s1 s2,S=.agg [s1,s2]∧PV1 s1∧PV1 s2) {t t1:Tag} (ht:zJr t) (ht1:zJr t1) {n1 n2:Int} {x1 x2 r1 r2:B8} {F1 F2:CVal} (pF1:PV1 F1) (pF2:PV1 F2) {R:CVal→B8→Prop} (hR:∀ v r,R v r→PV1 v) (H:PuR 13 [S,.str fr.ty,.agg [F1,.str r1],.agg [F2,.str r2]] fun v=>∃ G u,v=.agg [G,.str u]∧R G u):PuR 40 [S,fr.pf,.imm t 4 [.agg [.int .u64 n1,.str x1,F1,.str r1]],.imm t1 4 [.agg [.int .u64 n2,.str x2,F2,.str r2]]] fun v=>∃ G u,v=.imm .full 4 [.agg [.int .u64 0,.str [],G,.str u]]∧R G u:=by
 intro h hf K hk
 obtain ⟨hu,hut,hX⟩:=fx4 hf
 have hdA:∀ m,h.next≤m→zB6 h.ents m=h.ents:=fun m hm=>zBa (hu.le hm)
 obtain ⟨s1,s2,rfl,pS1,pS2⟩:=pS
 refine pq_ pS1 fun q1=>?_
 refine pq_ pS2 fun q2=>?_
 refine pq_ pF1 fun pX=>?_
 refine pq_ pF2 fun pY=>?_
 unfold RW.pf at *
 have hst:(CVal.imm t 4 [.agg [.int .u64 n1,.str x1,F1,.str r1]]).strip=.imm t 4 [.agg [.int .u64 n1,.str x1,F1,.str r1]]:=by rcases ht with rfl | rfl <;> rfl
 have hst1:(CVal.imm t1 4 [.agg [.int .u64 n2,.str x2,F2,.str r2]]).strip=.imm t1 4 [.agg [.int .u64 n2,.str x2,F2,.str r2]]:=by rcases ht1 with rfl | rfl <;> rfl
 simp only [CVal.strip] at hst hst1
 have e2:((fr.lab:Int) == 2)=false:=beq_eq_false_iff_ne.2 (by omega)
 have e3:((fr.lab:Int) == 3)=false:=beq_eq_false_iff_ne.2 (by omega)
 have e2':((fr.lab:Int)=2)=False:=eq_false (by omega)
 have e3':((fr.lab:Int)=3)=False:=eq_false (by omega)
 rw [hk16]
 refine mk_ 40 c40 (s_ ?_)
 have hZ:=j12_ hX hdA q1 q2 pX pY e2 e3 e2' e3' hst hst1
 repeat (first
  | refine vk_ ?_
  | (refine pr_ H fun v1 n1 R1 g1=>?_;obtain ⟨G,u,rfl,R1⟩:=R1;refine pq_ (hR _ _ R1) fun hP=>?_;have hZ:=And.intro hZ hP;refine ⟨rfl,?_⟩))
 refine rk_ ?_
 refine hk _ _ ⟨_,_,rfl,R1⟩ ?_;exact om_
theorem PuR.mono {f:Nat} {ar:List CVal} {R S:CVal→Prop} (h:PuR f ar R) (hs:∀ v,R v→S v):PuR f ar S:=fun h0 hf K hk=>h h0 hf K fun v n' hv=>hk v n' (hs v hv)
theorem RV1 {M:Type} {R:M→CVal→B8→Prop} {Z:Nat} {v:BV × M} {X:CVal} (h:LRep Z (RV R) 4 [v] X):∃ t F r,zJr t∧X=.imm t 4 [.agg [.int .u64 v.1.1,.str v.1.2,F,.str r]]∧PV1 F∧R v.2 F r:=by
 obtain ⟨_,es,he,⟨rfl,rfl⟩ | ⟨t,ht,rfl⟩⟩:=h
 · have:=he.len;simp at this
 · obtain ⟨c,r,rfl,hc,hr⟩:=he.cons_inv
   obtain rfl:=hr.nil_inv
   obtain ⟨F,r,rfl,_,_,p,q⟩:=hc
   exact ⟨t,F,r,ht,rfl,p,q⟩
theorem schS (a b:BD):∃ s1 s2,schV a b=.agg [s1,s2]∧PV1 s1∧PV1 s2:=⟨_,_,rfl,⟨rfl,rfl,rfl,rfl,rfl⟩,⟨rfl,rfl,rfl,rfl,rfl⟩⟩
def MgC (a b:BD) (n:Nat):Prop:=∀ (t:Nmt),t=tyI∨t=tyM→∀ (Za Zb:Nat),Za≤300000→Zb≤300000→∀ (m1 m2:MVB n) (F G:CVal) (r s:B8),OkMs a b n t m1→OkMs a b n t m2→RM Za n m1 F r→RM Zb n m2 G s→PuR 13 [schV a b,.str t,.agg [F,.str r],.agg [G,.str s]] fun v=>∃ H u,v=.agg [H,.str u]∧RM (Za+Zb) n (mgM a b n t m1 m2) H u
theorem over_F {a b:BD} {n Za Zb:Nat} (hza:Za≤300000) (hzb:Zb≤300000) {fr:RW} (hfr:fr.ok) (hk3:fr.lab=3→KK (zAz fr.key)) (MC:MgC a b n) {old:Option (List (BV × MVB n))} {l:List (BV × MVB n)} (hold:∀ x,old=some x→OkF b0V (OkMs a b n) fr.fld x) (hl:OkF b0V (OkMs a b n) fr.fld l) {X Y:CVal} (hx:LRep Za (RV (RM Za n)) 4 (old.getD []) X) (hXn:old=none→X=.nils) (hy:LRep Zb (RV (RM Zb n)) 4 l Y):PuR 40 [schV a b,fr.pf,X,Y] (LRep (Za+Zb) (RV (RM (Za+Zb) n)) 4 (opM b0V (mgM a b n) fr.fld old l)):=by
 have hx2:LRep Za (RV (RM (Za+Zb) n)) 4 (old.getD []) X:=hx.mono (Nat.le_refl _) fun _ _=>RV.mono (RM.mono (by omega) n)
 have hy2:LRep Zb (RV (RM (Za+Zb) n)) 4 l Y:=hy.mono (Nat.le_refl _) fun _ _=>RV.mono (RM.mono (by omega) n)
 have hy3:LRep (Za+Zb) (RV (RM (Za+Zb) n)) 4 l Y:=hy2.mono (by omega) fun _ _ h=>h
 unfold opM
 by_cases l2:fr.lab=2
 · have e1:fr.fld.lab=1:=by simp [RW.fld,l2]
   rw [if_pos e1]
   exact over_rep l2 (by omega) (by omega) hl.1 (schS a b) hx2 hy2
 by_cases l3:fr.lab=3
 · have e1:fr.fld.lab=2:=by simp [RW.fld,l3]
   rw [if_neg (by omega),if_pos e1]
   obtain ⟨qb,hsb,hkb,rfl⟩:=hl.2.1 e1
   have hqa:∃ qa,SL.Srt fr.fld.lt qa∧SL.All (fun k _=>fr.fld.kok k) qa∧old.getD []=zB2 (mv0 BV n) qa:=by
    cases old with
    | none=>exact ⟨[],trivial,fun p hp=>(by cases hp),rfl⟩
    | some x=>exact (hold x rfl).2.1 e1
   obtain ⟨qa,hsa,hka,hqe⟩:=hqa
   rw [hqe] at hx2 ⊢
   rw [zC9,zC9]
   refine over_map l3 (schS a b) hx2.p hy2.p (fun v hv=>hv.lf) ?_
   exact pairs_F (hk3 l3) hsa hka hkb (zKr hl.1) (by omega) (by omega) hx2 hy2
 have e0:fr.fld.lab=0:=by simp [RW.fld,l2,l3]
 rw [if_neg (by omega),if_neg (by omega)]
 by_cases hk:fr.kind=16
 · have e1:fr.fld.msg=true:=by simp [RW.fld,hk]
   rw [if_pos e1]
   obtain ⟨v,rfl,hv⟩:=hl.2.2 (by omega) (by omega)
   cases old with
   | none =>
    exact (over_one l2 l3 (schS a b) hx2.p hy2.lf (.inr (hXn rfl))).mono fun w hw=>by rw [hw];exact hy3
   | some x =>
    obtain ⟨w,rfl,hw⟩:=(hold x rfl).2.2 (by omega) (by omega)
    obtain ⟨t,F,r,ht,rfl,pF,hF⟩:=RV1 hx
    obtain ⟨t1,G,s,ht1,rfl,pG,hG⟩:=RV1 hy
    refine (over_msg l2 l3 hk (schS a b) ht ht1 pF pG (fun v r h=>RM.p h) (MC fr.ty (kind16 hfr hk) Za Zb hza hzb w.2 v.2 F G r s (hw e1).2 (hv e1).2 hF hG)).mono ?_
    rintro _ ⟨H,u,rfl,hH⟩
    by_cases hz:Za+Zb=0
    · have:=hx.1
      simp at this;omega
    exact LRep.imm (.cons ⟨H,u,rfl,by simp,by simp,hH.p,hH⟩ .nil) (.inr rfl) (by simp;omega)
 · have e1:¬ fr.fld.msg=true:=by simp [RW.fld,hk]
   rw [if_neg e1]
   exact (over_one l2 l3 (schS a b) hx2.p hy2.lf (.inl hk)).mono fun w hw=>by rw [hw];exact hy3
theorem zLb {a b c:BD} {t:Nmt} (hc:bdOf a b t=some c) (k:Nat):fldS a b t k=(fRW (zAi c.rs) k).map RW.fld:=by
 unfold fldS;rw [hc]
theorem wout_wo {a b c:BD} {t:Nmt} (hc:bdOf a b t=some c) {k:Nat} {fr:RW} (hfr:fRW (zAi c.rs) k=some fr) {W:Type} (o:List (Nat × W)):wout (fldS a b t) k fr.fld o=o.filter fun x=>!woP (zAi c.rs) fr x.1:=by
 unfold wout
 refine List.filter_congr fun x _=>?_
 rw [zLb hc]
 unfold woP
 cases e:fRW (zAi c.rs) x.1 with
 | none=>rfl
 | some g =>
  have h1:=(zHp e).2
  have h2:=(zHp hfr).2
  have h3:decide (x.1=k)=decide (g.num=fr.num):=by rw [h1,h2]
  dsimp only [Option.map_some,RW.fld]
  rw [h3,Bool.and_assoc]
  rfl
def RX (Za Zb n:Nat) (ks:List Nat) (x:Nat × List (BV × MVB n)) (c:CVal):Prop:=RF (Za+Zb) (RM (Za+Zb) n) x c∧(x.1 ∈ ks→RF Za (RM Za n) x c)
theorem RX.sh {Za Zb n:Nat} {ks:List Nat}:ShF (RX Za Zb n ks):=fun x c h=>ShF.rf x c h.1
theorem mg_go {a b c:BD} {n:Nat} {t:Nmt} (hc:bdOf a b t=some c) (hs:SOk (zAi c.rs)) {O:CVal} (HO:PV1 O) (MC:MgC a b n) {S1 S2:CVal} (hS:schV a b=.agg [S1,S2]) (pS1:PV1 S1) (pS2:PV1 S2) {Za Zb:Nat} (hza:Za≤300000) (hzb:Zb≤300000) {l:List (Nat × List (BV × MVB n))} {es:List CVal} {L:Nat} (hl:l.length=L) (hlZ:L≤Zb) (hE:All2 (RF Zb (RM Zb n)) l es) {tb:Tag} {b3 b11 b13:Nat} {hb:CHeap} (hf:Fit hb) (g3:zA1 hb.ents b3=some (.cells [S1,S2])) (g11:zA1 hb.ents b11=some (.cells [.str t,lV8 (zAi c.rs),O])) {x0:CObj} (g13:zA1 hb.ents b13=some x0) (n3:b3≠b13) (n11:b11≠b13) {a0 a1 a2 v5 v6 v16:CVal} {ro:B8} {r0:B8} {Q:QT} {fin:List (Nat × List (BV × MVB n))}
    (hk:∀ (Fo v9 v12 v14 v15:CVal) (nx:Nat),LRep (Za+L) (RF (Za+Zb) (RM (Za+Zb) n)) 2 fin Fo→hb.next≤nx→Q (.exit 0) ⟨[a0,a1,a2,.ptr b3 30408706 0,.str t,v5,v6,.int .i64 (L:Nat),.int .i64 (L:Nat),v9,.imm tb 2 es,.ptr b11 49283075 0,v12,.ptr b13 37748738 0,v14,v15,v16],⟨zA2 hb.ents b13 (.cells [Fo,.str ro]),nx,hb.tys⟩,[]⟩) :
    ∀ (rest:List (Nat × List (BV × MVB n))) (i:Nat) (o:List (Nat × List (BV × MVB n))) (Fo v9 v12 v14 v15:CVal) (nx:Nat),l.drop i=rest→i+rest.length=L→SL.Srt nltB rest→SL.All (fun k l=>∃ f,fldS a b t k=some f∧OkF b0V (OkMs a b n) f l) rest→rest.foldl (fun o p=>(match fldS a b t p.1 with | some f=>SL.put nltB p.1 (opM b0V (mgM a b n) f (SL.get nltB p.1 (wout (fldS a b t) p.1 f o)) p.2) (wout (fldS a b t) p.1 f o) | none=>o)) o=fin→OkM b0V (fldS a b) (n+1) t ((o,r0):MVB (n+1))→LRep (Za+i) (RX Za Zb n (rest.map (·.1))) 2 o Fo→hb.next≤nx→W tree.getF mgL ⟨[a0,a1,a2,.ptr b3 30408706 0,.str t,v5,v6,.int .i64 (i:Nat),.int .i64 (L:Nat),v9,.imm tb 2 es,.ptr b11 49283075 0,v12,.ptr b13 37748738 0,v14,v15,v16],⟨zA2 hb.ents b13 (.cells [Fo,.str ro]),nx,hb.tys⟩,[]⟩ Q:=by
 intro rest
 induction rest with
 | nil =>
  intro i o Fo v9 v12 v14 v15 nx h1 h2 h3 h4 h5 h6 h7 h8
  obtain rfl:i=L:=by simpa using h2
  have hok:=h5
  simp only [List.foldl_nil] at hok
  subst hok
  refine W.loop ?_
  try refine w0_ ?_
  refine hk _ _ _ _ _ _ (h7.mono (Nat.le_refl _) fun _ _ h=>h.1) ?_;exact om_
 | cons p rest ih =>
  intro i o Fo v9 v12 v14 v15 nx h1 h2 h3 h4 h5 h6 h7 h8
  rw [List.length_cons] at h2
  have hp:l[i]? = some p:=by
   have:(l.drop i)[0]? = some p:=by rw [h1];rfl
   rw [List.getElem?_drop] at this;exact this
  have hd:l.drop (i+1)=rest:=by
   have:=congrArg (List.drop 1) h1
   rw [List.drop_drop] at this;exact this
  obtain ⟨f,hff,hfl⟩:=h4 p (by simp)
  have hff':=hff
  rw [zLb hc] at hff'
  obtain ⟨fr,hfr,rfl⟩:=Option.map_eq_some_iff.1 hff'
  obtain ⟨hfm,hfn⟩:=zHp hfr
  obtain ⟨hfok,hfk⟩:=hs.ok fr hfm
  obtain ⟨ce,q1,r1⟩:=hE.at hp
  obtain ⟨A,rfl,pA,hA⟩:=r1
  have m1:=zAq q1
  have hlen:=hE.len
  have hlt:(i:Int)<(L:Int):=by omega
  have hlr:es.length=L:=by omega
  obtain ⟨hu,hut,hX⟩:=fx4 (show Fit ⟨hb.ents,nx,hb.tys⟩ from ⟨hf.1.le h8,hf.2.le h8⟩)
  have hY:=fx5 (show Fit ⟨hb.ents,nx,hb.tys⟩ from ⟨hf.1.le h8,hf.2.le h8⟩) g13
  dsimp only at hX hu hut hY
  have lq3:=zA3 hf.1 g3
  have lq11:=zA3 hf.1 g11
  have lq13:=zA3 hf.1 g13
  have gs3:∀ x,zA1 (zA2 hb.ents b13 x) b3=some (.cells [S1,S2]):=fun x=>by rw [zA0 n3,g3]
  have gs11:∀ x,zA1 (zA2 hb.ents b13 x) b11=some (.cells [.str t,lV8 (zAi c.rs),O]):=fun x=>by rw [zA0 n11,g11]
  have F1:=pFld_F hs.len hs.nd p.1 (n:=t) HO
  rw [hfr] at F1
  simp only [FldR] at F1
  have W1:=wo_F hs.len hs.nd (n:=t) HO (fr:=fr) RX.sh (Z:=Za+i) (by omega) h7
  rw [← wout_wo hc hfr] at W1
  have hso:SL.Srt nltB (wout (fldS a b t) p.1 fr.fld o):=zDx h6.1
  have hres:=step_ok b0V (zHe a b) (zEn b0V (zHe a b) n) (r':=r0) h6 hff hfl
  have hold:∀ x,SL.get nltB p.1 (wout (fldS a b t) p.1 fr.fld o)=some x→OkF b0V (OkMs a b n) fr.fld x:=fun x hx=>by
   obtain ⟨g,hg',hx⟩:=zL9 (fld:=fldS a b t) (k:=p.1) (f:=fr.fld) h6.2.1 (p.1,x) (SL.get_mem ordN hx)
   rw [hff] at hg';cases hg';exact hx
  have G1:∀ F',LRep (Za+i) (RX Za Zb n ((p::rest).map (·.1))) 2 (wout (fldS a b t) p.1 fr.fld o) F'→PuR 17 [.agg [F',.str ro],.int .i64 (p.1:Nat)] fun v=>∃ X bl,v=.tup [X,.bool bl]∧LRep Za (RV (RM Za n)) 4 ((SL.get nltB p.1 (wout (fldS a b t) p.1 fr.fld o)).getD []) X∧(SL.get nltB p.1 (wout (fldS a b t) p.1 fr.fld o)=none→X=.nils):=fun F' hF'=>by
   refine (get_F (R:=RM Za n) (Z:=Za) RX.sh (Z2:=Za+i) (by omega) hso hF' (w:=p.1) fun x _ hx A hA=>?_).mono fun v hv=>?_
   · obtain ⟨A',e,_,hA'⟩:=hA.2 (by rw [hx];simp)
     cases e
     exact vals_F (by omega) hA' (fun m F r h=>h.p) fun y _ F r h=>zJw (by omega) n y.2 F r h
   · cases e:SL.get nltB p.1 (wout (fldS a b t) p.1 fr.fld o) with
     | none=>rw [e] at hv;exact ⟨.nils,false,hv,LRep.nil,fun _=>rfl⟩
     | some y =>
      rw [e] at hv
      obtain ⟨G,rfl,hG⟩:=hv
      exact ⟨G,true,rfl,hG,fun h=>by cases h⟩
  generalize hget:SL.get nltB p.1 (wout (fldS a b t) p.1 fr.fld o)=old at *
  have OV1:=fun X hx hn=>over_F hza hzb hfok hfk MC (old:=old) hold hfl (X:=X) hx hn hA
  have PT:∀ F' V,LRep (Za+i) (RX Za Zb n ((p::rest).map (·.1))) 2 (wout (fldS a b t) p.1 fr.fld o) F'→LRep (Za+Zb) (RV (RM (Za+Zb) n)) 4 (opM b0V (mgM a b n) fr.fld old p.2) V→PuR 39 [F',.int .i64 (p.1:Nat),V] (LRep (Za+i+1) (RX Za Zb n (rest.map (·.1))) 2 (SL.put nltB p.1 (opM b0V (mgM a b n) fr.fld old p.2) (wout (fldS a b t) p.1 fr.fld o))):=fun F' V hF' hV=>by
   have hne:opM b0V (mgM a b n) fr.fld old p.2≠[]:=by
    cases old with
    | none=>rw [zEt b0V (ordV _) hfl];exact hfl.1
    | some x=>exact (opM_ok b0V (zEn b0V (zHe a b) n) (ordV _) (hold x rfl) hfl).1
   have hpV:=hV.p
   obtain ⟨hvl,vs,hvs,hv⟩:=id hV
   rcases hv with ⟨rfl,rfl⟩ | ⟨tv,htv,rfl⟩
   · exact absurd (List.eq_nil_of_length_eq_zero hvs.len.symm) hne
   · refine put_F RX.sh (by omega) hso (hF'.mono (Nat.le_refl _) fun x c h=>⟨h.1,fun hm=>h.2 (by simp at hm ⊢;exact .inr hm)⟩) rfl htv ⟨?_,?_⟩ ⟨⟨_,rfl,hpV,hV⟩,fun hm=>?_⟩
     · rw [hvs.len];exact List.length_pos_iff.2 hne
     · rw [hvs.len];omega
     · exfalso
       obtain ⟨q,hq,e⟩:=List.mem_map.1 hm
       have:=h3.1 q hq
       rw [e] at this
       simp [nltB] at this
  have e5:rest.foldl (fun o p=>(match fldS a b t p.1 with | some f=>SL.put nltB p.1 (opM b0V (mgM a b n) f (SL.get nltB p.1 (wout (fldS a b t) p.1 f o)) p.2) (wout (fldS a b t) p.1 f o) | none=>o)) (SL.put nltB p.1 (opM b0V (mgM a b n) fr.fld old p.2) (wout (fldS a b t) p.1 fr.fld o))=fin:=by
   rw [← h5,List.foldl_cons,hff]
   simp only [hget]
  rw [hS] at OV1
  generalize SL.put nltB p.1 (opM b0V (mgM a b n) fr.fld old p.2) (wout (fldS a b t) p.1 fr.fld o)=o2 at *
  generalize opM b0V (mgM a b n) fr.fld old p.2=vl at *
  generalize wout (fldS a b t) p.1 fr.fld o=o1 at *
  have pFo:=h7.p
  have pL:=lV8P (zAi c.rs)
  unfold RW.pf at F1 W1 OV1
  refine pq_ pFo fun w1=>?_
  refine pq_ pL fun w2=>?_
  refine pq_ HO fun w3=>?_
  refine pq_ pS1 fun w4=>?_
  refine pq_ pS2 fun w5=>?_
  refine pq_ pA fun w6=>?_
  have hd1:∀ m,nx≤m→zA7 hb.ents m=hb.ents:=hX.2.1
  refine W.loop ?_
  have lb0:∀ x:CVal,x.beq x=true:=fun x=>zAf x
  have ls0:∀ l:List CVal,beqs l l=true:=fun l=>by have:=zAf (CVal.agg l);simpa using this
  have hZ:=j17_ hX hY gs3 gs11 hlt hlr q1 m1 w1 w2 w3 w4 w5 w6 hd1 lb0 ls0
  repeat (first
   | refine vk_ ?_
   | (refine pe_ (F1) fun n1 hn1=>⟨rfl,?_⟩)
   | (refine pr_ (W1) fun v1 n1 RA g1=>?_;skip;refine pq_ (RA.p) fun hP=>?_;have hZ:=And.intro hZ hP;refine ⟨hP.1,?_⟩)
   | (refine pr_ (G1 _ RA) fun v1 n1 RB g1=>?_;obtain ⟨X,bl,rfl,RB,RN⟩:=RB;refine pq_ (RB.p) fun hP=>?_;have hZ:=And.intro hZ hP;refine ⟨rfl,?_⟩)
   | (refine pr_ (OV1 _ RB RN) fun v1 n1 RC g1=>?_;skip;refine pq_ (RC.p) fun hP=>?_;have hZ:=And.intro hZ hP;refine ⟨hP.1,?_⟩)
   | (refine pr_ (PT _ _ RA RC) fun v1 n1 RD g1=>?_;skip;refine pq_ (RD.p) fun hP=>?_;have hZ:=And.intro hZ hP;refine ⟨hP.1,?_⟩))
  have ih1:=fun Fo v9 v12 v14 v15 nx=>ih (i+1) o2 Fo v9 v12 v14 v15 nx hd (by omega) h3.2 (fun q hq=>h4 q (List.mem_cons_of_mem _ hq)) e5 hres
  push_cast at ih1
  refine dk_ ?_
  refine ih1 _ _ _ _ _ _ RD ?_;exact om_
theorem mg_all  {a b c:BD} {n:Nat} {t:Nmt} (hc:bdOf a b t=some c) (hs:SOk (zAi c.rs)) {O:CVal} (HO:PV1 O) (MC:MgC a b n) {S1 S2:CVal} (hS:schV a b=.agg [S1,S2]) (pS1:PV1 S1) (pS2:PV1 S2) {Za Zb:Nat} (hza:Za≤300000) (hzb:Zb≤300000) {l:List (Nat × List (BV × MVB n))} {es:List CVal} {L:Nat} (hl:l.length=L) (hlZ:L≤Zb) (hE:All2 (RF Zb (RM Zb n)) l es) {tb:Tag} {b3 b11 b13:Nat} {hb:CHeap} (hf:Fit hb) (g3:zA1 hb.ents b3=some (.cells [S1,S2])) (g11:zA1 hb.ents b11=some (.cells [.str t,lV8 (zAi c.rs),O])) {Fo0:CVal} {ro:B8} (g13:zA1 hb.ents b13=some (.cells [Fo0,.str ro])) (n3:b3≠b13) (n11:b11≠b13) {a0 a1 a2 v5 v6 v16:CVal} {r0:B8} {Q:QT} 
 {m1:List (Nat × List (BV × MVB n))} (hsl:SL.Srt nltB l) (hal:SL.All (fun k l=>∃ f,fldS a b t k=some f∧OkF b0V (OkMs a b n) f l) l) (hm1:OkM b0V (fldS a b) (n+1) t ((m1,r0):MVB (n+1))) (hF0:LRep Za (RF Za (RM Za n)) 2 m1 Fo0) {v9 v12 v14 v15:CVal}
    (hk:∀ (Fo v9 v12 v14 v15:CVal) (nx:Nat),LRep (Za+Zb) (RF (Za+Zb) (RM (Za+Zb) n)) 2 (l.foldl (fun o p=>(match fldS a b t p.1 with | some f=>SL.put nltB p.1 (opM b0V (mgM a b n) f (SL.get nltB p.1 (wout (fldS a b t) p.1 f o)) p.2) (wout (fldS a b t) p.1 f o) | none=>o)) m1) Fo→hb.next≤nx→Q (.exit 0) ⟨[a0,a1,a2,.ptr b3 30408706 0,.str t,v5,v6,.int .i64 (L:Nat),.int .i64 (L:Nat),v9,.imm tb 2 es,.ptr b11 49283075 0,v12,.ptr b13 37748738 0,v14,v15,v16],⟨zA2 hb.ents b13 (.cells [Fo,.str ro]),nx,hb.tys⟩,[]⟩):W tree.getF mgL ⟨[a0,a1,a2,.ptr b3 30408706 0,.str t,v5,v6,.int .i64 0,.int .i64 (L:Nat),v9,.imm tb 2 es,.ptr b11 49283075 0,v12,.ptr b13 37748738 0,v14,v15,v16],⟨hb.ents,hb.next,hb.tys⟩,[]⟩ Q:=by
  have:=mg_go hc hs HO MC hS pS1 pS2 hza hzb hl hlZ hE (tb:=tb) hf g3 g11 g13 n3 n11 (a0:=a0) (a1:=a1) (a2:=a2) (v5:=v5) (v6:=v6) (v16:=v16) (ro:=ro) (r0:=r0) (Q:=Q) (fin:=l.foldl (fun o p=>(match fldS a b t p.1 with | some f=>SL.put nltB p.1 (opM b0V (mgM a b n) f (SL.get nltB p.1 (wout (fldS a b t) p.1 f o)) p.2) (wout (fldS a b t) p.1 f o) | none=>o)) m1) (fun Fo v9 v12 v14 v15 nx h1 h2=>hk Fo v9 v12 v14 v15 nx (h1.mono (by omega) fun _ _ h=>h) h2) l 0 m1 Fo0 v9 v12 v14 v15 hb.next rfl (by omega) hsl hal rfl hm1 (hF0.mono (by omega) fun x c h=>⟨RF.mono (by omega) (RM.mono (by omega) n) h,fun _=>h⟩) (Nat.le_refl _)
  rw [zB4 g13] at this
  exact this
theorem mgM_fst {a b:BD} {n:Nat} {t:Nmt} {m1 m2:MVB (n+1)}:(mgM a b (n+1) t m1 m2).1=m2.1.foldl (fun o p=>(match fldS a b t p.1 with | some f=>SL.put nltB p.1 (opM b0V (mgM a b n) f (SL.get nltB p.1 (wout (fldS a b t) p.1 f o)) p.2) (wout (fldS a b t) p.1 f o) | none=>o)) m1.1:=by
 show List.foldl _ m1.1 m2.1=_
 congr 1
 funext o p
 cases fldS a b t p.1 <;> rfl
theorem mgC_succ {a b:BD} (ha:a.ok 4) (hb:b.ok 7) {n:Nat} (MC:MgC a b n):MgC a b (n+1):=by
 intro t ht Za Zb hza hzb m1 m2 F G r s hm1 hm2 hF hG
 intro h hf K hk
 obtain ⟨hu,hut,hX⟩:=fx4 hf
 obtain ⟨S1,S2,hS,pS1,pS2⟩:=schS a b
 have hr1:=hF.2.2
 have hr2:=hG.2.2
 have hrs:r.length+s.length<4611686018427387904:=by omega
 have TA:=zJw (Z:=Za) (by omega) (n+1) m1 F r hF
 have TB:=zJw (Z:=Zb) (by omega) (n+1) m2 G s hG
 have pF:=RM.p hF
 have pG:=RM.p hG
 have sa:=BD.sok ha (by omega)
 have sb:=BD.sok hb (by omega)
 have PI:=@vm_I a b (by have:=sa.len;rwa [zC8] at this)
 have PM:=@vm_M a b (by have:=sb.len;rwa [zC8] at this)
 rw [hS] at PI PM ⊢
 refine pq_ pF fun w1=>?_
 refine pq_ pG fun w2=>?_
 refine pq_ pS1 fun w4=>?_
 refine pq_ pS2 fun w5=>?_
 have lb0:∀ x:CVal,x.beq x=true:=fun x=>zAf x
 have ls0:∀ l:List CVal,beqs l l=true:=fun l=>by have:=zAf (CVal.agg l);simpa using this
 obtain ⟨c,hc,hs,O,HO,PC⟩:∃ c,bdOf a b t=some c∧SOk (zAi c.rs)∧∃ O,PV1 O∧Pe 29 [.agg [S1,S2],.str t] (.tup [.agg [.str t,lV8 (zAi c.rs),O],.bool true]):=by
  rcases ht with rfl | rfl
  · exact ⟨a,rfl,sa,_,oV1P _,PI⟩
  · exact ⟨b,rfl,sb,_,oV1P _,PM⟩
 have pL:=lV8P (zAi c.rs)
 refine pq_ HO fun w3=>?_
 refine pq_ pL fun w6=>?_
 refine mk_ 13 c13 (s_ ?_)
 have hZ:=j10_ hX w1 w2 w3 w4 w5 w6 lb0 ls0 hrs
 repeat ((fail_if_success (show W tree.getF mgL _ _));first
  | refine vk_ ?_
  | (refine pe_ (PC) fun n1 hn1=>⟨rfl,?_⟩)
  | (refine pr_ (TA) fun v1 n1 RA g1=>?_;obtain ⟨F',rfl,RA⟩:=RA;refine pq_ (RM.p RA) fun hP=>?_;have hZ:=And.intro hZ hP;refine ⟨rfl,?_⟩)
  | (refine pr_ (TB) fun v1 n1 RB g1=>?_;obtain ⟨G',rfl,RB⟩:=RB;refine pq_ (RM.p RB) fun hP=>?_;have hZ:=And.intro hZ hP;refine ⟨rfl,?_⟩))
 have pF1:=(RM.p RA).five
 simp only [CVal.isUndef,CVal.whole,CVal.cells,CVal.strip,CVal.bare,List.map,CVal.tup.injEq,List.cons.injEq,and_true] at pF1
 obtain ⟨hlb,es,heb,hGf⟩:=RB.1
 have l2:=heb.len
 rcases hGf with ⟨rfl,rfl⟩ | ⟨tb,htb,rfl⟩
 · have e2:m2.1=[]:=List.eq_nil_of_length_eq_zero l2.symm
   have hZ:=j11_ hX w1 w2 w3 w4 w5 w6 lb0 ls0 hrs pF1
   repeat (first
    | refine vk_ ?_
    | (refine dk_ ?_;refine W.loop ?_)
    | refine W.loop ?_)
   refine rk_ ?_
   refine hk _ _ ⟨_,_,rfl,?_,?_,?_⟩ ?_
   · have:(mgM a b (n+1) t m1 m2).1=m1.1:=by
      show List.foldl _ m1.1 m2.1=m1.1
      rw [e2];rfl
     rw [this]
     exact RA.1.mono (by omega) fun _ _=>RF.mono (by omega) (RM.mono (by omega) n)
   · rw [RA.2.1,RB.2.1];rfl
   · rw [List.length_append];omega
   · exact om_
 · have hst:(CVal.imm tb 2 es).strip=.imm tb 2 es:=by rcases htb with rfl | rfl <;> rfl
   simp only [CVal.strip] at hst
   obtain ⟨L,hLL⟩:∃ L,m2.1.length=L:=⟨_,rfl⟩
   have l3:=l2.trans hLL
   have hZ:=j12_ hX w1 w2 w3 w4 w5 w6 lb0 ls0 hrs pF1 (And.intro hst l3)
   repeat ((fail_if_success (show W tree.getF mgL _ _));refine vk_ ?_)
   refine mg_all hc hs HO MC hS pS1 pS2 hza hzb hLL (by omega) heb (hb:=⟨_,_,_⟩) (Fo0:=F') (ro:=r++s) (r0:=m1.2) ft_ (by simp (disch:=omega) [zA1]) (by simp (disch:=omega) [zA1]) (by simp (disch:=omega) [zA1]) (by omega) (by omega) hm2.1 hm2.2.1 hm1 RA.1 ?_
   intro Fo v9 v12 v14 v15 nx hFo hnx
   dsimp only at hnx
   have pFo:=hFo.p
   refine pq_ pFo fun w7=>?_
   have hZ:=j10_ hX w1 w2 w3 w4 w5 w6 w7 lb0 ls0
   repeat (first
    | refine vk_ ?_)
   refine rk_ ?_
   refine hk _ _ ⟨_,_,rfl,?_,?_,?_⟩ ?_
   · rw [mgM_fst];exact hFo
   · rw [RA.2.1,RB.2.1];rfl
   · rw [List.length_append];omega
   · exact om_
theorem mgC_zero {a b:BD} (ha:a.ok 4) (hb:b.ok 7):MgC a b 0:=by
 intro t ht Za Zb hza hzb m1 m2 F G r s hm1 hm2 hF hG
 intro h hf K hk
 obtain ⟨hu,hut,hX⟩:=fx4 hf
 obtain ⟨S1,S2,hS,pS1,pS2⟩:=schS a b
 obtain rfl:=hF.2
 obtain rfl:=hG.2
 have hrs:=True.intro
 have TA:=zJw (Z:=Za) (by omega) 0 m1 F [] hF
 have TB:=zJw (Z:=Zb) (by omega) 0 m2 G [] hG
 have pF:=RM.p hF
 have pG:=RM.p hG
 have sa:=BD.sok ha (by omega)
 have sb:=BD.sok hb (by omega)
 have PI:=@vm_I a b (by have:=sa.len;rwa [zC8] at this)
 have PM:=@vm_M a b (by have:=sb.len;rwa [zC8] at this)
 rw [hS] at PI PM ⊢
 refine pq_ pF fun w1=>?_
 refine pq_ pG fun w2=>?_
 refine pq_ pS1 fun w4=>?_
 refine pq_ pS2 fun w5=>?_
 have lb0:∀ x:CVal,x.beq x=true:=fun x=>zAf x
 have ls0:∀ l:List CVal,beqs l l=true:=fun l=>by have:=zAf (CVal.agg l);simpa using this
 obtain ⟨c,hc,hs,O,HO,PC⟩:∃ c,bdOf a b t=some c∧SOk (zAi c.rs)∧∃ O,PV1 O∧Pe 29 [.agg [S1,S2],.str t] (.tup [.agg [.str t,lV8 (zAi c.rs),O],.bool true]):=by
  rcases ht with rfl | rfl
  · exact ⟨a,rfl,sa,_,oV1P _,PI⟩
  · exact ⟨b,rfl,sb,_,oV1P _,PM⟩
 have pL:=lV8P (zAi c.rs)
 refine pq_ HO fun w3=>?_
 refine pq_ pL fun w6=>?_
 refine mk_ 13 c13 (s_ ?_)
 have hZ:=j10_ hX w1 w2 w3 w4 w5 w6 lb0 ls0 hrs
 repeat ((fail_if_success (show W tree.getF mgL _ _));first
  | refine vk_ ?_
  | (refine pe_ (PC) fun n1 hn1=>⟨rfl,?_⟩)
  | (refine pr_ (TA) fun v1 n1 RA g1=>?_;obtain ⟨F',rfl,RA⟩:=RA;refine pq_ (RM.p RA) fun hP=>?_;have hZ:=And.intro hZ hP;refine ⟨rfl,?_⟩)
  | (refine pr_ (TB) fun v1 n1 RB g1=>?_;obtain ⟨G',rfl,RB⟩:=RB;refine pq_ (RM.p RB) fun hP=>?_;have hZ:=And.intro hZ hP;refine ⟨rfl,?_⟩))
 have pF1:=(RM.p RA).five
 simp only [CVal.isUndef,CVal.whole,CVal.cells,CVal.strip,CVal.bare,List.map,CVal.tup.injEq,List.cons.injEq,and_true] at pF1
 obtain ⟨hlb,es,heb,hGf⟩:=RB.1
 obtain rfl:=heb.nil_inv
 have fin:RM (Za+Zb) 0 (mgM a b 0 t m1 m2) F' []:=⟨RA.1.mono (by omega) fun _ _ h=>h,rfl⟩
 rcases hGf with ⟨rfl,_⟩ | ⟨tb,rfl | rfl,rfl⟩
 all_goals
  have hZ:=j11_ hX w1 w2 w3 w4 w5 w6 lb0 ls0 hrs pF1
  repeat (first
   | refine vk_ ?_
   | (refine dk_ ?_;refine W.loop ?_)
   | refine W.loop ?_)
  refine rk_ ?_
  refine hk _ _ ⟨_,_,rfl,fin⟩ ?_
  exact om_
theorem merge_C {a b:BD} (ha:a.ok 4) (hb:b.ok 7):∀ n,MgC a b n
 | 0=>mgC_zero ha hb
 | n+1=>mgC_succ ha hb (merge_C ha hb n)
theorem rg_go {β:Type} {R:Nat × β→CVal→Prop} (hS:ShF R) {l:List (Nat × β)} {es:List CVal} {L:Nat} (hl:l.length=L) (hL:L≤1000000) (hE:All2 R l es) {bq w:Nat} {t:Tag} {r:B8} {hh:CHeap} (hf:Fit hh) (hg:zA1 hh.ents bq=some (.cells [.imm t 2 es,.str r])) {v0:CVal} {Q:QT}
    (hyes:∀ (v1 v3 v5 A:CVal) n' (k:Nat) x,l[k]? = some x→x.1=w→PV1 A→R x (.agg [.int .i64 (x.1:Nat),A])→hh.next≤n'→Q .ret ⟨[v0,v1,.ptr bq 37748738 0,v3,.int .i64 (w:Nat),v5,A,.bool true],⟨hh.ents,n',hh.tys⟩,[]⟩)
    (hno:(∀ j y,j<L→l[j]? = some y→¬ y.1=w)→∀ (v1 v3 v5:CVal) n',hh.next≤n'→Q (.exit 0) ⟨[v0,v1,.ptr bq 37748738 0,v3,.int .i64 (w:Nat),v5,.nils,.bool false],⟨hh.ents,n',hh.tys⟩,[]⟩) :
    ∀ (m k nx:Nat) (v3 v5:CVal),k+m=L→(∀ j y,j<k→l[j]? = some y→¬ y.1=w)→hh.next≤nx→W tree.getF rgL ⟨[v0,.int .i64 (k:Nat),.ptr bq 37748738 0,v3,.int .i64 (w:Nat),v5,.nils,.bool false],⟨hh.ents,nx,hh.tys⟩,[]⟩ Q:=by
 have hlen:=hE.len
 have hlr:es.length=L:=by omega
 intro m
 induction m with
 | zero =>
  intro k nx v3 v5 h1 h2 h3
  obtain rfl:k=L:=by omega
  refine W.loop ?_
  have hZ:=j2_ hg hlr
  try refine wk_ ?_
  refine hno h2 _ _ _ _ ?_;exact om_
 | succ m ih =>
  intro k nx v3 v5 h1 h2 h3
  obtain ⟨hu,hut,hX⟩:=fx4 (show Fit ⟨hh.ents,nx,hh.tys⟩ from ⟨hf.1.le h3,hf.2.le h3⟩)
  dsimp only at hX hu hut
  have hlt:(k:Int)<(L:Int):=by omega
  have lq:=zA3 hu hg
  obtain ⟨x,hx⟩:∃ x,l[k]? = some x:=⟨_,List.getElem?_eq_getElem (by omega)⟩
  obtain ⟨c,q1,r1⟩:=hE.at hx
  obtain ⟨A,rfl,pA⟩:=hS x c r1
  have m1:=zAq q1
  refine pq_ pA fun pF=>?_
  refine W.loop ?_
  by_cases he:x.1=w
  · subst he
    have e1:((x.1:Int) == (x.1:Int))=true:=by simp
    have hZ:=j8_ hX hg hlt q1 m1 hlr pF e1
    repeat (first
     | refine vk_ ?_)
    refine W.ret ?_
    simp only [zAn,zA5,zA8,zAg,reduceIte]
    refine hyes _ _ _ _ _ k x hx rfl pA r1 ?_;exact om_
  · have e1:((x.1:Int) == (w:Int))=false:=beq_eq_false_iff_ne.2 (by omega)
    have e2:((x.1:Int)=(w:Int))=False:=eq_false (by omega)
    have hZ:=j9_ hX hg hlt q1 m1 hlr pF e1 e2
    repeat (first
     | refine vk_ ?_)
    have ih1:=fun nx v3 v5 (h:_≤nx)=>ih (k+1) nx v3 v5 (by omega) (fun j y a b=>by
     rcases Nat.lt_succ_iff_lt_or_eq.1 a with c | rfl
     · exact h2 j y c b
     · rw [hx] at b;cases b;exact he) h
    push_cast at ih1
    refine dk_ ?_
    refine ih1 _ _ _ ?_;exact om_
theorem rget_F {β:Type} {R:Nat × β→CVal→Prop} (hS:ShF R) {Z:Nat} (hz:Z≤1000000) {l:List (Nat × β)} (hs:SL.Srt nltB l) {F:CVal} {r:B8} (hx:LRep Z R 2 l F) (w:Nat):PuR 59 [.agg [F,.str r],.int .i64 (w:Nat)] fun v=>∃ A bl,v=.tup [A,.bool bl]∧PV1 A∧(SL.get nltB w l=none→A=.nils∧bl=false)∧∀ y,SL.get nltB w l=some y→bl=true∧R (w,y) (.agg [.int .i64 (w:Nat),A]):=by
 intro h hf K hk
 obtain ⟨hu,hut,hX⟩:=fx4 hf
 have pF:=hx.p
 obtain ⟨hl,es,he,hx⟩:=hx
 have l1:=he.len
 refine pq_ pF fun pX=>?_
 rcases hx with ⟨rfl,rfl⟩ | ⟨t,ht,rfl⟩
 · obtain rfl:l=[]:=List.eq_nil_of_length_eq_zero l1.symm
   refine mk_ 59 c59 (s_ ?_)
   repeat (first
    | refine vx_ ?_
    | (refine dx_ ?_;refine W.loop ?_)
    | refine W.loop ?_)
   refine rx_ ?_
   refine hk _ _ ⟨_,_,rfl,LRep.nil (Z:=0) (R:=R) (k:=2).p,fun _=>⟨rfl,rfl⟩,fun y hy=>by cases hy⟩ ?_;exact om_
 have hZ:=j3_ hX l1 pX
 refine mk_ 59 c59 (s_ ?_)
 repeat ((fail_if_success (show W tree.getF rgL _ _));refine vk_ ?_)
 refine rg_go hS (L:=l.length) rfl (by omega) he (hh:=⟨_,_,_⟩) (w:=w) (r:=r) (t:=t) ?_ ?_ ?_ ?_ l.length 0 _ _ _ (by omega) (fun j y a _=>by omega) (Nat.le_refl _)
 · exact ft_
 · dsimp only;simp (disch:=omega) [zA1]
 · intro v1 v3 v5 A n' k x hx hw pA hR hn'
   dsimp only at hn'
   subst hw
   refine pq_ pA fun p9=>?_
   have hZ:=j4_ hX l1 pX p9
   repeat (first
    | refine vk_ ?_)
   refine rk_ ?_
   refine hk _ _ ⟨_,_,rfl,pA,fun e=>?_,fun y hy=>⟨rfl,?_⟩⟩ ?_
   · rw [get_at hs hx] at e;cases e
   · rw [get_at hs hx] at hy;cases hy;exact hR
   · exact om_
 · intro hno v1 v3 v5 n' hn'
   dsimp only at hn'
   have hn0:SL.get nltB w l=none:=get_no fun x hx=>by
    obtain ⟨j,hj,e⟩:=List.getElem_of_mem hx
    exact hno j x hj (by rw [← e];exact List.getElem?_eq_getElem hj)
   have hZ:=j3_ hX l1 pX
   repeat (first
    | refine vk_ ?_)
   refine rk_ ?_
   refine hk _ _ ⟨_,_,rfl,LRep.nil (Z:=0) (R:=R) (k:=2).p,fun _=>⟨rfl,rfl⟩,fun y hy=>by rw [hn0] at hy;cases hy⟩ ?_;exact om_
theorem rs_go {β:Type} {R:Nat × β→CVal→Prop} (hS:ShF R) {l:List (Nat × β)} (hs:SL.Srt nltB l) {es:List CVal} {L:Nat} (hl:l.length=L) (hL:L≤1000000) (hE:All2 R l es) {bq w:Nat} {t:Tag} {r:B8} {hh:CHeap} (hf:Fit hh) (hg:zA1 hh.ents bq=some (.cells [.imm t 2 es,.str r])) {v0 v5 v6 v7 v8 v9 v10:CVal} {Q:QT}
    (hk:∀ (v4:CVal) n',hh.next≤n'→Q (.exit 0) ⟨[v0,.int .i64 (posN w l:Nat),.ptr bq 37748738 0,.int .i64 (w:Nat),v4,v5,v6,v7,v8,v9,v10],⟨hh.ents,n',hh.tys⟩,[]⟩) :
    ∀ (m k nx:Nat) (v4:CVal),k+m=posN w l→hh.next≤nx→W tree.getF rsL ⟨[v0,.int .i64 (k:Nat),.ptr bq 37748738 0,.int .i64 (w:Nat),v4,v5,v6,v7,v8,v9,v10],⟨hh.ents,nx,hh.tys⟩,[]⟩ Q:=by
 have hlen:=hE.len
 have hlr:es.length=L:=by omega
 have hpl:=zIs w l
 intro m
 induction m with
 | zero =>
  intro k nx v4 h1 h3
  obtain rfl:k=posN w l:=by omega
  obtain ⟨hu,hut,hX⟩:=fx4 (show Fit ⟨hh.ents,nx,hh.tys⟩ from ⟨hf.1.le h3,hf.2.le h3⟩)
  dsimp only at hX hu hut
  refine W.loop ?_
  by_cases hj:posN w l<L
  · obtain ⟨x,hx⟩:∃ x,l[posN w l]? = some x:=⟨_,List.getElem?_eq_getElem (by omega)⟩
    have hge:¬ x.1<w:=fun a=>Nat.lt_irrefl _ ((zJ7 (w:=w) hs hx).1 a)
    obtain ⟨c,q1,r1⟩:=hE.at hx
    obtain ⟨A,rfl,pA⟩:=hS x c r1
    have m1:=zAq q1
    have hlt:((posN w l:Nat):Int)<(L:Int):=by omega
    have hg2:¬ (x.1:Int)<(w:Int):=by omega
    refine pq_ pA fun pF=>?_
    generalize posN w l=p at *
    have hZ:=j8_ hX hg hlt q1 m1 hlr pF hg2
    repeat (first
     | refine vk_ ?_)
    refine hk _ _ ?_;exact om_
  · have hlt:¬ ((posN w l:Nat):Int)<(L:Int):=by omega
    generalize posN w l=p at *
    have hZ:=j4_ hX hg hlt hlr
    repeat (first
     | refine vk_ ?_)
    refine hk _ _ ?_;exact om_
 | succ m ih =>
  intro k nx v4 h1 h3
  obtain ⟨hu,hut,hX⟩:=fx4 (show Fit ⟨hh.ents,nx,hh.tys⟩ from ⟨hf.1.le h3,hf.2.le h3⟩)
  dsimp only at hX hu hut
  have hlt:(k:Int)<(L:Int):=by omega
  obtain ⟨x,hx⟩:∃ x,l[k]? = some x:=⟨_,List.getElem?_eq_getElem (by omega)⟩
  have hlw:=(zJ7 (w:=w) hs hx).2 (by omega)
  obtain ⟨c,q1,r1⟩:=hE.at hx
  obtain ⟨A,rfl,pA⟩:=hS x c r1
  have m1:=zAq q1
  have hg2:(x.1:Int)<(w:Int):=by omega
  refine pq_ pA fun pF=>?_
  refine W.loop ?_
  have hZ:=j8_ hX hg hlt q1 m1 hlr pF hg2
  repeat (first
   | refine vk_ ?_)
  have ih1:=fun nx v4 (h:_≤nx)=>ih (k+1) nx v4 (by omega) h
  push_cast at ih1
  refine dk_ ?_
  refine ih1 _ _ ?_;exact om_
def delN {β:Type} (w:Nat) (l:List (Nat × β)):List (Nat × β):=l.filter fun x=>!decide (x.1=w)
def zE5 {β:Type} (w:Nat) (l:List (Nat × β)):List (Nat × β):=match l[posN w l]? with
 | some x=>if x.1=w then l.drop (posN w l+1) else l.drop (posN w l)
 | none=>[]
theorem put_dn {β:Type} {w:Nat} {y:β} {l:List (Nat × β)} (hs:SL.Srt nltB l):SL.put nltB w y l=l.take (posN w l)++(w,y)::zE5 w l:=by
 unfold zE5
 cases e:l[posN w l]? with
 | none =>
  rw [put_pos hs fun x hx=>by rw [e] at hx;cases hx]
  rw [List.drop_of_length_le (List.getElem?_eq_none_iff.1 e)]
 | some x =>
  dsimp only
  by_cases g:x.1=w
  · rw [if_pos g,put_set hs e g,List.set_eq_take_append_cons_drop,if_pos (List.getElem?_eq_some_iff.1 e).1]
  · rw [if_neg g,put_pos hs fun y hy=>by rw [e] at hy;cases hy;exact g]
theorem del_dn {β:Type} {w:Nat}:∀ {l:List (Nat × β)},SL.Srt nltB l→delN w l=l.take (posN w l)++zE5 w l
 | [],_=>rfl
 | (a,y)::l,h=>by
  have ih:=del_dn (w:=w) h.2
  unfold delN zE5 posN at *
  by_cases g:a<w
  · rw [List.takeWhile_cons_of_pos (p:=fun x:Nat × β=>decide (x.1<w)) (a:=(a,y)) (by simpa using g)]
    simp only [List.length_cons,List.getElem?_cons_succ,List.take_succ_cons,List.drop_succ_cons,List.cons_append]
    rw [List.filter_cons_of_pos (by simp;omega),ih]
  · rw [List.takeWhile_cons_of_neg (p:=fun x:Nat × β=>decide (x.1<w)) (a:=(a,y)) (by simpa using g)]
    have hall:l.filter (fun x=>!decide (x.1=w))=l:=List.filter_eq_self.2 fun x hx=>by
     have:=h.1 x hx
     simp [nltB] at this
     simp;omega
    by_cases e:a=w
    · subst e;simp [hall]
    · simp [e,hall]
theorem shpL {β:Type} {R:Nat × β→CVal→Prop} (hS:ShF R) {l':List (Nat × β)} {T:List CVal} (ha:All2 R l' T):(T=[]∧Nonempty Nat∧True)∨∃ k A T2,T=.agg [.int .i64 k,A]::T2∧(A.isUndef=false∧A.whole=true∧A.cells=[A]∧A.strip=A∧A.bare=A)∧T2.map CVal.bare=T2:=by
 have hb:=zCp ha fun x _ c hc=>by obtain ⟨A,rfl,p⟩:=hS x c hc;exact zGw p
 cases ha with
 | nil=>exact .inl ⟨rfl,⟨0⟩,trivial⟩
 | cons h1 h2 =>
  obtain ⟨A,rfl,p⟩:=hS _ _ h1
  exact .inr ⟨_,A,_,rfl,⟨p.u,p.w,p.c,p.s,p.b⟩,(List.cons.inj hb).2⟩
theorem rset_put {β:Type} {R:Nat × β→CVal→Prop} (hS:ShF R) {Z:Nat} (hz:Z≤900000) {l:List (Nat × β)} (hs:SL.Srt nltB l) {F:CVal} {r:B8} (hx:LRep Z R 2 l F) {w:Nat} {y:β} {t1:Tag} {vs:List CVal} (ht1:zJr t1) (hvs:0<vs.length∧vs.length≤2000000) (hy:R (w,y) (.agg [.int .i64 (w:Nat),.imm t1 4 vs])):PuR 60 [.agg [F,.str r],.int .i64 (w:Nat),.imm t1 4 vs] fun v=>∃ G,v=.agg [G,.str r]∧LRep (Z+1) R 2 (SL.put nltB w y l) G:=by
 intro h hf K hk
 obtain ⟨hu,hut,hX⟩:=fx4 hf
 have hst1:(CVal.imm t1 4 vs).strip=.imm t1 4 vs:=by rcases ht1 with rfl | rfl <;> rfl
 simp only [CVal.strip] at hst1
 have hv3:(0:Int)<(vs.length:Int):=by omega
 have pF:=hx.p
 refine pq_ pF fun pX=>?_
 obtain ⟨hl,es,he,hx⟩:=hx
 have l1:=he.len
 rcases hx with ⟨rfl,rfl⟩ | ⟨t,ht,rfl⟩
 · obtain rfl:l=[]:=List.eq_nil_of_length_eq_zero l1.symm
   refine mk_ 60 c60 (s_ ?_)
   have hZ:=j3_ hX hst1 hv3
   repeat (first
    | refine vk_ ?_
    | (refine dk_ ?_;refine W.loop ?_)
    | refine W.loop ?_)
   refine rk_ ?_
   refine hk _ _ ⟨_,rfl,LRep.imm (.cons hy .nil) (.inl rfl) (by simp [SL.put])⟩ ?_;exact om_
 have hst:(CVal.imm t 2 es).strip=.imm t 2 es:=by rcases ht with rfl | rfl <;> rfl
 simp only [CVal.strip] at hst
 obtain ⟨L,hLL⟩:∃ L,l.length=L:=⟨_,rfl⟩
 have l2:=l1.trans hLL
 have hpl:=zIs w l
 refine mk_ 60 c60 (s_ ?_)
 have hZ:=j3_ hX hst pX
 repeat ((fail_if_success (show W tree.getF rsL _ _));refine vk_ ?_)
 refine rs_go hS hs (L:=L) hLL (by omega) he (hh:=⟨_,_,_⟩) (w:=w) (r:=r) (t:=t) ?_ ?_ ?_ (posN w l) 0 _ _ (by omega) (Nat.le_refl _)
 · exact ft_
 · dsimp only;simp (disch:=omega) [zA1]
 intro v4 n' hn'
 dsimp only at hn'
 have htt:List.take L es=es:=List.take_of_length_le (by omega)
 have hpL:(posN w l:Int)≤(L:Int):=by omega
 have hsz:L≤900000:=by omega
 have hsm:∀ n:Nat,n≤3000000→(n≤1073741824)=True:=fun n h=>eq_true (by omega)
 obtain ⟨T,hTT⟩:∃ T,List.take (posN w l) es=T:=⟨_,rfl⟩
 have hT:=he.take (posN w l)
 rw [hTT] at hT
 have hTl:T.length≤L:=by rw [← hTT,List.length_take];omega
 have sT:=shpL hS hT
 have hln:(l.take (posN w l)).length+(zE5 w l).length≤L:=by
  rw [List.length_take]
  unfold zE5
  split
  · split <;> (rw [List.length_drop];omega)
  · simp;omega
 by_cases hj:posN w l<L
 · obtain ⟨x,hx⟩:∃ x,l[posN w l]? = some x:=⟨_,List.getElem?_eq_getElem (by omega)⟩
   obtain ⟨c,q1,r1⟩:=he.at hx
   obtain ⟨A,rfl,pA⟩:=hS x c r1
   have m1:=zAq q1
   refine pq_ pA fun pA=>?_
   have hlt:((posN w l:Nat):Int)<(L:Int):=by omega
   by_cases hg:x.1=w
   · have hg2:((x.1:Int) == (w:Int))=true:=by simp [hg]
     have hg3:((x.1:Int)=(w:Int))=True:=by simp [hg]
     have hdN:zE5 w l=l.drop (posN w l+1):=by unfold zE5;rw [hx];exact if_pos hg
     obtain ⟨D,hDD⟩:∃ D,List.drop (posN w l+1) es=D:=⟨_,rfl⟩
     have hD:=he.drop (posN w l+1)
     rw [hDD,← hdN] at hD
     have hDl:D.length≤L:=by rw [← hDD,List.length_drop];omega
     have sD:=shpL hS hD
     have hrep:∀ G,(G=.imm .none 2 (T++(.agg [.int .i64 (w:Nat),.imm t1 4 vs])::D)∨G=.imm .full 2 (T++(.agg [.int .i64 (w:Nat),.imm t1 4 vs])::D))→LRep (Z+1) R 2 (SL.put nltB w y l) G:=fun G hG=>by
      rw [put_dn hs]
      rcases hG with rfl | rfl
      · exact LRep.imm (hT.app (.cons hy hD)) (.inl rfl) (by rw [List.length_append,List.length_cons];omega)
      · exact LRep.imm (hT.app (.cons hy hD)) (.inr rfl) (by rw [List.length_append,List.length_cons];omega)
     have htp:((posN w l:Nat):Int)+1≤(L:Int):=by omega
     have htn:(((posN w l:Nat):Int)+1).toNat=posN w l+1:=by omega
     generalize posN w l=p at *
     rcases sT with ⟨rfl,pc,hbT⟩ | ⟨kc,Ac,T2,rfl,pc,hbT⟩ <;> rcases sD with ⟨rfl,pd,hbD⟩ | ⟨kd,Ad,D2,rfl,pd,hbD⟩ <;> (
      have hT3:=hTl
      have hD3:=hDl
      simp only [List.length_cons,List.length_nil] at hT3 hD3
      try simp only [CVal.isUndef,CVal.whole,CVal.cells,CVal.strip,CVal.bare] at pc pd
      have hZ:=And.intro (j18_ hX l2 hTT hDD htt hpL hsz hsm hst1 hv3 q1 m1 pA hlt hg2 hg3 htp htn) (j6_ pc hbT pd hbD hTl hDl)
      repeat (refine vk_ ?_)
      refine rk_ ?_
      refine hk _ _ ⟨_,rfl,hrep _ ?_⟩ ?_ <;> first | exact .inl rfl | exact .inr rfl | exact .inl (by simp) | exact om_)
   · have hg2:((x.1:Int) == (w:Int))=false:=beq_eq_false_iff_ne.2 (by omega)
     have hg3:((x.1:Int)=(w:Int))=False:=eq_false (by omega)
     have hdN:zE5 w l=l.drop (posN w l):=by unfold zE5;rw [hx];exact if_neg hg
     obtain ⟨D,hDD⟩:∃ D,List.drop (posN w l) es=D:=⟨_,rfl⟩
     have hD:=he.drop (posN w l)
     rw [hDD,← hdN] at hD
     have hDl:D.length≤L:=by rw [← hDD,List.length_drop];omega
     have sD:=shpL hS hD
     have hrep:∀ G,(G=.imm .none 2 (T++(.agg [.int .i64 (w:Nat),.imm t1 4 vs])::D)∨G=.imm .full 2 (T++(.agg [.int .i64 (w:Nat),.imm t1 4 vs])::D))→LRep (Z+1) R 2 (SL.put nltB w y l) G:=fun G hG=>by
      rw [put_dn hs]
      rcases hG with rfl | rfl
      · exact LRep.imm (hT.app (.cons hy hD)) (.inl rfl) (by rw [List.length_append,List.length_cons];omega)
      · exact LRep.imm (hT.app (.cons hy hD)) (.inr rfl) (by rw [List.length_append,List.length_cons];omega)
     generalize posN w l=p at *
     rcases sT with ⟨rfl,pc,hbT⟩ | ⟨kc,Ac,T2,rfl,pc,hbT⟩ <;> rcases sD with ⟨rfl,pd,hbD⟩ | ⟨kd,Ad,D2,rfl,pd,hbD⟩ <;> (
      have hT3:=hTl
      have hD3:=hDl
      simp only [List.length_cons,List.length_nil] at hT3 hD3
      try simp only [CVal.isUndef,CVal.whole,CVal.cells,CVal.strip,CVal.bare] at pc pd
      have hZ:=And.intro (j16_ hX l2 hTT hDD htt hpL hsz hsm hst1 hv3 q1 m1 pA hlt hg2 hg3) (j6_ pc hbT pd hbD hTl hDl)
      repeat (refine vk_ ?_)
      refine rk_ ?_
      refine hk _ _ ⟨_,rfl,hrep _ ?_⟩ ?_ <;> first | exact .inl rfl | exact .inr rfl | exact .inl (by simp) | exact om_)
 · have hlt:¬ ((posN w l:Nat):Int)<(L:Int):=by omega
   have hdN:zE5 w l=[]:=by
    unfold zE5
    rw [List.getElem?_eq_none_iff.2 (by omega)]
   obtain ⟨D,hDD⟩:∃ D,List.drop (posN w l) es=D:=⟨_,rfl⟩
   have hD0:D=[]:=by rw [← hDD];exact List.drop_of_length_le (by omega)
   have hD:All2 R (zE5 w l) D:=by rw [hdN,hD0];exact .nil
   have hDl:D.length≤L:=by rw [hD0];simp
   have sD:=shpL hS hD
   have hrep:∀ G,(G=.imm .none 2 (T++(.agg [.int .i64 (w:Nat),.imm t1 4 vs])::D)∨G=.imm .full 2 (T++(.agg [.int .i64 (w:Nat),.imm t1 4 vs])::D))→LRep (Z+1) R 2 (SL.put nltB w y l) G:=fun G hG=>by
    rw [put_dn hs]
    rcases hG with rfl | rfl
    · exact LRep.imm (hT.app (.cons hy hD)) (.inl rfl) (by rw [List.length_append,List.length_cons];omega)
    · exact LRep.imm (hT.app (.cons hy hD)) (.inr rfl) (by rw [List.length_append,List.length_cons];omega)
   generalize posN w l=p at *
   rcases sT with ⟨rfl,pc,hbT⟩ | ⟨kc,Ac,T2,rfl,pc,hbT⟩ <;> rcases sD with ⟨rfl,pd,hbD⟩ | ⟨kd,Ad,D2,rfl,pd,hbD⟩ <;> (
    have hT3:=hTl
    have hD3:=hDl
    simp only [List.length_cons,List.length_nil] at hT3 hD3
    try simp only [CVal.isUndef,CVal.whole,CVal.cells,CVal.strip,CVal.bare] at pc pd
    have hZ:=And.intro (j11_ hX l2 hTT hDD htt hpL hsz hsm hst1 hv3 hlt) (j6_ pc hbT pd hbD hTl hDl)
    repeat (refine vk_ ?_)
    refine rk_ ?_
    refine hk _ _ ⟨_,rfl,hrep _ ?_⟩ ?_ <;> first | exact .inl rfl | exact .inr rfl | exact .inl (by simp) | exact om_)
theorem rset_del {β:Type} {R:Nat × β→CVal→Prop} (hS:ShF R) {Z:Nat} (hz:Z≤900000) {l:List (Nat × β)} (hs:SL.Srt nltB l) {F:CVal} {r:B8} (hx:LRep Z R 2 l F) {w:Nat}  : PuR 60 [.agg [F,.str r],.int .i64 (w:Nat),.nils] fun v=>∃ G,v=.agg [G,.str r]∧LRep Z R 2 (delN w l) G:=by
 intro h hf K hk
 obtain ⟨hu,hut,hX⟩:=fx4 hf
 have pF:=hx.p
 refine pq_ pF fun pX=>?_
 obtain ⟨hl,es,he,hx⟩:=hx
 have l1:=he.len
 rcases hx with ⟨rfl,rfl⟩ | ⟨t,ht,rfl⟩
 · obtain rfl:l=[]:=List.eq_nil_of_length_eq_zero l1.symm
   refine mk_ 60 c60 (s_ ?_)
   repeat (first
    | refine vx_ ?_
    | (refine dx_ ?_;refine W.loop ?_)
    | refine W.loop ?_)
   refine rx_ ?_
   refine hk _ _ ⟨_,rfl,LRep.imm .nil (.inr rfl) (by simp [delN])⟩ ?_;exact om_
 have hst:(CVal.imm t 2 es).strip=.imm t 2 es:=by rcases ht with rfl | rfl <;> rfl
 simp only [CVal.strip] at hst
 obtain ⟨L,hLL⟩:∃ L,l.length=L:=⟨_,rfl⟩
 have l2:=l1.trans hLL
 have hpl:=zIs w l
 refine mk_ 60 c60 (s_ ?_)
 have hZ:=j3_ hX hst pX
 repeat ((fail_if_success (show W tree.getF rsL _ _));refine vk_ ?_)
 refine rs_go hS hs (L:=L) hLL (by omega) he (hh:=⟨_,_,_⟩) (w:=w) (r:=r) (t:=t) ?_ ?_ ?_ (posN w l) 0 _ _ (by omega) (Nat.le_refl _)
 · exact ft_
 · dsimp only;simp (disch:=omega) [zA1]
 intro v4 n' hn'
 dsimp only at hn'
 have htt:List.take L es=es:=List.take_of_length_le (by omega)
 have hpL:(posN w l:Int)≤(L:Int):=by omega
 have hsz:L≤900000:=by omega
 have hsm:∀ n:Nat,n≤3000000→(n≤1073741824)=True:=fun n h=>eq_true (by omega)
 obtain ⟨T,hTT⟩:∃ T,List.take (posN w l) es=T:=⟨_,rfl⟩
 have hT:=he.take (posN w l)
 rw [hTT] at hT
 have hTl:T.length≤L:=by rw [← hTT,List.length_take];omega
 have sT:=shpL hS hT
 have hln:(l.take (posN w l)).length+(zE5 w l).length≤L:=by
  rw [List.length_take]
  unfold zE5
  split
  · split <;> (rw [List.length_drop];omega)
  · simp;omega
 by_cases hj:posN w l<L
 · obtain ⟨x,hx⟩:∃ x,l[posN w l]? = some x:=⟨_,List.getElem?_eq_getElem (by omega)⟩
   obtain ⟨c,q1,r1⟩:=he.at hx
   obtain ⟨A,rfl,pA⟩:=hS x c r1
   have m1:=zAq q1
   refine pq_ pA fun pA=>?_
   have hlt:((posN w l:Nat):Int)<(L:Int):=by omega
   by_cases hg:x.1=w
   · have hg2:((x.1:Int) == (w:Int))=true:=by simp [hg]
     have hg3:((x.1:Int)=(w:Int))=True:=by simp [hg]
     have hdN:zE5 w l=l.drop (posN w l+1):=by unfold zE5;rw [hx];exact if_pos hg
     obtain ⟨D,hDD⟩:∃ D,List.drop (posN w l+1) es=D:=⟨_,rfl⟩
     have hD:=he.drop (posN w l+1)
     rw [hDD,← hdN] at hD
     have hDl:D.length≤L:=by rw [← hDD,List.length_drop];omega
     have sD:=shpL hS hD
     have hrep:∀ G,(G=.imm .none 2 (T++D)∨G=.imm .full 2 (T++D))→LRep Z R 2 (delN w l) G:=fun G hG=>by
      rw [del_dn hs]
      rcases hG with rfl | rfl
      · exact LRep.imm (hT.app hD) (.inl rfl) (by rw [List.length_append];omega)
      · exact LRep.imm (hT.app hD) (.inr rfl) (by rw [List.length_append];omega)
     have htp:((posN w l:Nat):Int)+1≤(L:Int):=by omega
     have htn:(((posN w l:Nat):Int)+1).toNat=posN w l+1:=by omega
     generalize posN w l=p at *
     rcases sT with ⟨rfl,pc,hbT⟩ | ⟨kc,Ac,T2,rfl,pc,hbT⟩ <;> rcases sD with ⟨rfl,pd,hbD⟩ | ⟨kd,Ad,D2,rfl,pd,hbD⟩ <;> (
      have hT3:=hTl
      have hD3:=hDl
      simp only [List.length_cons,List.length_nil] at hT3 hD3
      try simp only [CVal.isUndef,CVal.whole,CVal.cells,CVal.strip,CVal.bare] at pc pd
      have hZ:=And.intro (j16_ hX l2 hTT hDD htt hpL hsz hsm q1 m1 pA hlt hg2 hg3 htp htn) (j6_ pc hbT pd hbD hTl hDl)
      repeat (refine vk_ ?_)
      refine rk_ ?_
      refine hk _ _ ⟨_,rfl,hrep _ ?_⟩ ?_ <;> first | exact .inl rfl | exact .inr rfl | exact .inl (by simp) | exact om_)
   · have hg2:((x.1:Int) == (w:Int))=false:=beq_eq_false_iff_ne.2 (by omega)
     have hg3:((x.1:Int)=(w:Int))=False:=eq_false (by omega)
     have hdN:zE5 w l=l.drop (posN w l):=by unfold zE5;rw [hx];exact if_neg hg
     obtain ⟨D,hDD⟩:∃ D,List.drop (posN w l) es=D:=⟨_,rfl⟩
     have hD:=he.drop (posN w l)
     rw [hDD,← hdN] at hD
     have hDl:D.length≤L:=by rw [← hDD,List.length_drop];omega
     have sD:=shpL hS hD
     have hrep:∀ G,(G=.imm .none 2 (T++D)∨G=.imm .full 2 (T++D))→LRep Z R 2 (delN w l) G:=fun G hG=>by
      rw [del_dn hs]
      rcases hG with rfl | rfl
      · exact LRep.imm (hT.app hD) (.inl rfl) (by rw [List.length_append];omega)
      · exact LRep.imm (hT.app hD) (.inr rfl) (by rw [List.length_append];omega)
     generalize posN w l=p at *
     rcases sT with ⟨rfl,pc,hbT⟩ | ⟨kc,Ac,T2,rfl,pc,hbT⟩ <;> rcases sD with ⟨rfl,pd,hbD⟩ | ⟨kd,Ad,D2,rfl,pd,hbD⟩ <;> (
      have hT3:=hTl
      have hD3:=hDl
      simp only [List.length_cons,List.length_nil] at hT3 hD3
      try simp only [CVal.isUndef,CVal.whole,CVal.cells,CVal.strip,CVal.bare] at pc pd
      have hZ:=And.intro (j14_ hX l2 hTT hDD htt hpL hsz hsm q1 m1 pA hlt hg2 hg3) (j6_ pc hbT pd hbD hTl hDl)
      repeat (refine vk_ ?_)
      refine rk_ ?_
      refine hk _ _ ⟨_,rfl,hrep _ ?_⟩ ?_ <;> first | exact .inl rfl | exact .inr rfl | exact .inl (by simp) | exact om_)
 · have hlt:¬ ((posN w l:Nat):Int)<(L:Int):=by omega
   have hdN:zE5 w l=[]:=by
    unfold zE5
    rw [List.getElem?_eq_none_iff.2 (by omega)]
   obtain ⟨D,hDD⟩:∃ D,List.drop (posN w l) es=D:=⟨_,rfl⟩
   have hD0:D=[]:=by rw [← hDD];exact List.drop_of_length_le (by omega)
   have hD:All2 R (zE5 w l) D:=by rw [hdN,hD0];exact .nil
   have hDl:D.length≤L:=by rw [hD0];simp
   have sD:=shpL hS hD
   have hrep:∀ G,(G=.imm .none 2 (T++D)∨G=.imm .full 2 (T++D))→LRep Z R 2 (delN w l) G:=fun G hG=>by
    rw [del_dn hs]
    rcases hG with rfl | rfl
    · exact LRep.imm (hT.app hD) (.inl rfl) (by rw [List.length_append];omega)
    · exact LRep.imm (hT.app hD) (.inr rfl) (by rw [List.length_append];omega)
   generalize posN w l=p at *
   rcases sT with ⟨rfl,pc,hbT⟩ | ⟨kc,Ac,T2,rfl,pc,hbT⟩ <;> rcases sD with ⟨rfl,pd,hbD⟩ | ⟨kd,Ad,D2,rfl,pd,hbD⟩ <;> (
    have hT3:=hTl
    have hD3:=hDl
    simp only [List.length_cons,List.length_nil] at hT3 hD3
    try simp only [CVal.isUndef,CVal.whole,CVal.cells,CVal.strip,CVal.bare] at pc pd
    have hZ:=And.intro (j9_ hX l2 hTT hDD htt hpL hsz hsm hlt) (j6_ pc hbT pd hbD hTl hDl)
    repeat (refine vk_ ?_)
    refine rk_ ?_
    refine hk _ _ ⟨_,rfl,hrep _ ?_⟩ ?_ <;> first | exact .inl rfl | exact .inr rfl | exact .inl (by simp) | exact om_)
end Go.Proofs.YtafeofghkhhhkaaGreat.IrV
