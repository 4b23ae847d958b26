/- What the functions of the law 'PvalOver' do: part 6 of 9. -/
import Derived.Test.YtafeofghkhhhkaaGreatLx5
/- Values' order: numbers, with a sign or without one, and texts. Plain. -/
namespace Go.Proofs.YtafeofghkhhhkaaGreat.IrV
set_option linter.unusedVariables false
set_option linter.unusedSimpArgs false
open SL
open Go.Lib (compareBytes)
theorem zLd:∀ a:B8,compareBytes a a=0
 | []=>rfl
 | x::a=>by
  unfold compareBytes
  rw [if_neg (UInt8.lt_irrefl x),if_neg (UInt8.lt_irrefl x)]
  exact zLd a
theorem cB_eq:∀ {a b:B8},compareBytes a b=0→a=b
 | [],[],_=>rfl
 | [],_::_,h=>by simp [compareBytes] at h
 | _::_,[],h=>by simp [compareBytes] at h
 | x::a,y::b,h=>by
  unfold compareBytes at h
  by_cases h1:x<y
  · simp [h1] at h
  by_cases h2:y<x
  · simp [h1,h2] at h
  rw [if_neg h1,if_neg h2] at h
  rw [UInt8.le_antisymm (UInt8.not_lt.1 h2) (UInt8.not_lt.1 h1),cB_eq h]
theorem cB_swap:∀ a b:B8,compareBytes b a=- compareBytes a b
 | [],[]=>rfl
 | [],_::_=>by simp [compareBytes]
 | _::_,[]=>by simp [compareBytes]
 | x::a,y::b=>by
  unfold compareBytes
  by_cases h1:x<y
  · have h2:¬ y<x:=fun h=>UInt8.lt_irrefl x (UInt8.lt_trans h1 h)
    simp [h1,h2]
  by_cases h2:y<x
  · simp [h1,h2]
  simp only [if_neg h1,if_neg h2]
  exact cB_swap a b
theorem cB_trans:∀ {a b c:B8},compareBytes a b<0→compareBytes b c<0→compareBytes a c<0
 | [],[],_,h,_=>by simp [compareBytes] at h
 | [],_::_,[],_,h=>by simp [compareBytes] at h
 | [],_::_,_::_,_,_=>by simp [compareBytes]
 | _::_,[],_,h,_=>by simp [compareBytes] at h
 | _::_,_::_,[],_,h=>by simp [compareBytes] at h
 | x::a,y::b,z::c,h1,h2=>by
  unfold compareBytes at h1 h2 ⊢
  by_cases hxy:x<y
  · by_cases hyz:y<z
    · simp [UInt8.lt_trans hxy hyz]
    · by_cases hzy:z<y
      · simp [hyz,hzy] at h2
      · have e:y=z:=UInt8.le_antisymm (UInt8.not_lt.1 hzy) (UInt8.not_lt.1 hyz)
        subst e
        simp [hxy]
  · by_cases hyx:y<x
    · simp [hxy,hyx] at h1
    · have e:x=y:=UInt8.le_antisymm (UInt8.not_lt.1 hyx) (UInt8.not_lt.1 hxy)
      subst e
      rw [if_neg hxy,if_neg hxy] at h1
      by_cases hyz:x<z
      · simp [hyz]
      · by_cases hzy:z<x
        · simp [hyz,hzy] at h2
        · rw [if_neg hyz,if_neg hzy] at h2 ⊢
          exact cB_trans h1 h2
def sgn (n:Int):Int:=if n<9223372036854775808 then n else n - 18446744073709551616
def ltV (s:Bool) (a b:Int × B8):Bool :=
 let x:=if s then sgn a.1 else a.1
 let y:=if s then sgn b.1 else b.1
 if x<y then true else if y<x then false else if a.1<b.1 then true else if b.1<a.1 then false else decide (compareBytes a.2 b.2<0)
theorem ordV (s:Bool):Ord (ltV s) where
 irr a:=by simp [ltV,zLd]
 trans a b c h1 h2:=by
  simp only [ltV] at *
  generalize (if s=true then sgn a.1 else a.1)=x at *
  generalize (if s=true then sgn b.1 else b.1)=y at *
  generalize (if s=true then sgn c.1 else c.1)=z at *
  by_cases hxz:x<z
  · simp [hxz]
  by_cases hzx:z<x
  · exfalso
    split at h1
    · split at h2
      · omega
      · split at h2
        · cases h2
        · omega
    · split at h1
      · cases h1
      · split at h2
        · omega
        · split at h2
          · cases h2
          · omega
  rw [if_neg hxz,if_neg hzx]
  have hxy:x=y∧y=z:=by
   split at h1
   · split at h2
     · omega
     · split at h2
       · cases h2
       · omega
   · split at h1
     · cases h1
     · split at h2
       · omega
       · split at h2
         · cases h2
         · omega
  obtain ⟨rfl,rfl⟩:=hxy
  simp only [Int.lt_irrefl,if_false] at h1 h2
  by_cases h3:a.1<c.1
  · simp [h3]
  by_cases h4:c.1<a.1
  · exfalso
    split at h1
    · split at h2
      · omega
      · split at h2
        · cases h2
        · omega
    · split at h1
      · cases h1
      · split at h2
        · omega
        · split at h2
          · cases h2
          · omega
  rw [if_neg h3,if_neg h4]
  have h5:a.1=b.1∧b.1=c.1:=by
   split at h1
   · split at h2
     · omega
     · split at h2
       · cases h2
       · omega
   · split at h1
     · cases h1
     · split at h2
       · omega
       · split at h2
         · cases h2
         · omega
  rw [h5.1,h5.2] at h1
  rw [h5.2] at h2
  simp only [Int.lt_irrefl,if_false,decide_eq_true_eq] at h1 h2 ⊢
  exact cB_trans h1 h2
 tri a b h1 h2:=by
  simp only [ltV] at *
  generalize (if s=true then sgn a.1 else a.1)=x at *
  generalize (if s=true then sgn b.1 else b.1)=y at *
  by_cases hxy:x<y
  · simp [hxy] at h1
  by_cases hyx:y<x
  · simp [hyx] at h2
  rw [if_neg hxy,if_neg hyx] at h1
  rw [if_neg hyx,if_neg hxy] at h2
  by_cases h3:a.1<b.1
  · simp [h3] at h1
  by_cases h4:b.1<a.1
  · simp [h4] at h2
  rw [if_neg h3,if_neg h4] at h1
  rw [if_neg h4,if_neg h3] at h2
  simp only [decide_eq_false_iff_not] at h1 h2
  have e:=cB_swap a.2 b.2
  exact Prod.ext (by omega) (cB_eq (by omega))
end Go.Proofs.YtafeofghkhhhkaaGreat.IrV
/- Two texts' order, as the interpreter has it and as strings.Compare has it. -/
namespace Go.Proofs.YtafeofghkhhhkaaGreat.IrV
set_option linter.unusedVariables false
set_option linter.unusedSimpArgs false
open Go.CI
open Go.Lib (compareBytes)
theorem zG5:∀ a b:B8,zCq a b=decide (compareBytes a b<0)
 | [],[]=>by simp [zCq,compareBytes]
 | [],_::_=>by simp [zCq,compareBytes]
 | _::_,[]=>by simp [zCq,compareBytes]
 | x::a,y::b=>by
  unfold zCq compareBytes
  by_cases h1:x<y
  · simp [h1]
  by_cases h2:y<x
  · have h3:x≠y:=fun e=>h1 (e ▸ (e ▸ h2))
    simp [h1,h2,h3]
  · have e:x=y:=UInt8.le_antisymm (UInt8.not_lt.1 h2) (UInt8.not_lt.1 h1)
    subst e
    simp [h1,zG5 a b]
theorem zDa (s:Bool) (n:Int) (a b:B8):ltV s (n,a) (n,b)=zCq a b:=by
 rw [zG5]
 simp [ltV]
theorem ltV_num (s:Bool) {n m:Int} (hn:0≤n) (hn':n<18446744073709551616) (hm:0≤m) (hm':m<18446744073709551616):ltV s (n,[]) (m,[])=if s then decide (sgn n<sgn m) else decide (n<m):=by
 unfold ltV
 cases s
 · simp only [Bool.false_eq_true,if_false]
   by_cases h1:n<m
   · simp [h1]
   by_cases h2:m<n
   · simp [h1,h2]
   · simp [h1,h2,zLd]
 · simp only [if_true]
   by_cases h1:sgn n<sgn m
   · simp [h1]
   by_cases h2:sgn m<sgn n
   · simp [h1,h2]
   · have e:n=m:=by
      unfold sgn at h1 h2
      by_cases h3:n<9223372036854775808 <;> by_cases h4:m<9223372036854775808 <;> simp only [if_pos,if_neg,h3,h4,not_false_eq_true,if_true,if_false] at h1 h2 <;> omega
     subst e
     simp [zLd]
end Go.Proofs.YtafeofghkhhhkaaGreat.IrV
namespace Go.Proofs.YtafeofghkhhhkaaGreat.IrV
open Go Go.CI
set_option maxRecDepth 100000
set_option maxHeartbeats 4000000
set_option linter.unusedVariables false
set_option linter.unusedSimpArgs false
attribute [local irreducible] W Wo Wc WoR
def zJr (t:Tag):Prop:=t=.none∨t=.full
inductive All2 {α β:Type} (R:α→β→Prop):List α→List β→Prop
 | nil:All2 R [] []
 | cons {a:α} {b:β} {l:List α} {m:List β}:R a b→All2 R l m→All2 R (a::l) (b::m)
section
variable {α β:Type} {R:α→β→Prop}
theorem All2.len {l:List α} {m:List β} (h:All2 R l m):m.length=l.length:=by
 induction h with
 | nil=>rfl
 | cons _ _ ih=>simp [ih]
theorem All2.app {l l':List α} {m m':List β} (h:All2 R l m) (h':All2 R l' m'):All2 R (l++l') (m++m'):=by
 induction h with
 | nil=>exact h'
 | cons a _ ih=>exact .cons a ih
theorem All2.mono {S:α→β→Prop} (hs:∀ a b,R a b→S a b) {l:List α} {m:List β} (h:All2 R l m):All2 S l m:=by
 induction h with
 | nil=>exact .nil
 | cons a _ ih=>exact .cons (hs _ _ a) ih
theorem All2.at {l:List α} {m:List β} (h:All2 R l m) {i:Nat} {x:α} (hi:l[i]? = some x):∃ y,m[i]? = some y∧R x y:=by
 induction h generalizing i with
 | nil=>cases hi
 | cons a _ ih=>cases i with
  | zero=>cases hi;exact ⟨_,rfl,a⟩
  | succ i=>exact ih hi
theorem All2.take {l:List α} {m:List β} (h:All2 R l m) (i:Nat):All2 R (l.take i) (m.take i):=by
 induction h generalizing i with
 | nil=>simpa using All2.nil
 | cons a _ ih=>cases i with
  | zero=>exact .nil
  | succ i=>exact .cons a (ih i)
theorem All2.drop {l:List α} {m:List β} (h:All2 R l m) (i:Nat):All2 R (l.drop i) (m.drop i):=by
 induction h generalizing i with
 | nil=>simpa using All2.nil
 | cons a h ih=>cases i with
  | zero=>exact .cons a h
  | succ i=>exact ih i
theorem All2.set {l:List α} {m:List β} (h:All2 R l m) (i:Nat) {x:α} {y:β} (hx:R x y):All2 R (l.set i x) (m.set i y):=by
 induction h generalizing i with
 | nil=>exact .nil
 | cons a h ih=>cases i with
  | zero=>exact .cons hx h
  | succ i=>exact .cons a (ih i)
theorem All2.nil_inv {m:List β} (h:All2 R ([]:List α) m):m=[]:=by cases h;rfl
theorem All2.cons_inv {a:α} {l:List α} {m:List β} (h:All2 R (a::l) m):∃ b r,m=b::r∧R a b∧All2 R l r:=by cases h with | cons x y=>exact ⟨_,_,rfl,x,y⟩
end
def LRep {α:Type} (Z:Nat) (R:α→CVal→Prop) (k:Nat) (l:List α) (v:CVal):Prop:=l.length≤Z∧∃ es,All2 R l es∧((v=.nils∧es=[])∨∃ t,zJr t∧v=.imm t k es)
theorem LRep.mono {α:Type} {Z Z':Nat} {R S:α→CVal→Prop} {k:Nat} {l:List α} {v:CVal} (h:LRep Z R k l v) (hz:Z≤Z') (hs:∀ a b,R a b→S a b):LRep Z' S k l v:=by
 obtain ⟨h1,es,h2,h3⟩:=h
 exact ⟨Nat.le_trans h1 hz,es,h2.mono hs,h3⟩
theorem LRep.p {α:Type} {Z:Nat} {R:α→CVal→Prop} {k:Nat} {l:List α} {v:CVal} (h:LRep Z R k l v):PV1 v:=by
 obtain ⟨_,es,_,⟨rfl,_⟩ | ⟨t,rfl | rfl,rfl⟩⟩:=h <;> exact ⟨rfl,rfl,rfl,rfl,rfl⟩
theorem LRep.nil {α:Type} {Z:Nat} {R:α→CVal→Prop} {k:Nat}:LRep Z R k ([]:List α) .nils:=⟨Nat.zero_le _,[],.nil,.inl ⟨rfl,rfl⟩⟩
theorem LRep.imm {α:Type} {Z:Nat} {R:α→CVal→Prop} {k:Nat} {l:List α} {es:List CVal} {t:Tag} (h:All2 R l es) (ht:zJr t) (hl:l.length≤Z):LRep Z R k l (.imm t k es):=⟨hl,es,h,.inr ⟨t,ht,rfl⟩⟩
abbrev BV:=Int × B8
abbrev MVB:=MV BV
def RV {M:Type} (R:M→CVal→B8→Prop) (x:BV × M) (c:CVal):Prop:=∃ F r,c=.agg [.int .u64 x.1.1,.str x.1.2,F,.str r]∧0≤x.1.1∧x.1.1<18446744073709551616∧PV1 F∧R x.2 F r
def RF {M:Type} (Z:Nat) (R:M→CVal→B8→Prop) (x:Nat × List (BV × M)) (c:CVal):Prop:=∃ L,c=.agg [.int .i64 (x.1:Nat),L]∧PV1 L∧LRep Z (RV R) 4 x.2 L
def RM (Z:Nat):∀ n,MVB n→CVal→B8→Prop
 | 0,_,F,r=>LRep Z (fun (_:Unit) _=>False) 2 [] F∧r=[]
 | n+1,m,F,r=>LRep Z (RF Z (RM Z n)) 2 m.1 F∧r=m.2∧r.length≤Z
theorem RV.mono {M:Type} {R S:M→CVal→B8→Prop} (h:∀ m F r,R m F r→S m F r) {x:BV × M} {c:CVal} (hx:RV R x c):RV S x c:=by
 obtain ⟨F,r,e,h1,h2,h3,h4⟩:=hx
 exact ⟨F,r,e,h1,h2,h3,h _ _ _ h4⟩
theorem RF.mono {M:Type} {Z Z':Nat} (hz:Z≤Z') {R S:M→CVal→B8→Prop} (h:∀ m F r,R m F r→S m F r) {x:Nat × List (BV × M)} {c:CVal} (hx:RF Z R x c):RF Z' S x c:=by
 obtain ⟨L,e,h1,h2⟩:=hx
 exact ⟨L,e,h1,h2.mono hz fun _ _=>RV.mono h⟩
theorem RM.mono {Z Z':Nat} (hz:Z≤Z'):∀ n m F r,RM Z n m F r→RM Z' n m F r
 | 0,_,_,_,h=>⟨h.1.mono hz fun _ _ h=>h,h.2⟩
 | n+1,_,_,_,h=>⟨h.1.mono hz fun _ _=>RF.mono hz (RM.mono hz n),h.2.1,Nat.le_trans h.2.2 hz⟩
theorem RM.p {Z n:Nat} {m:MVB n} {F:CVal} {r:B8} (h:RM Z n m F r):PV1 F:=by
 cases n with
 | zero=>exact h.1.p
 | succ n=>exact h.1.p
theorem RM.zero {Z n:Nat}:RM Z n (mv0 BV n) .nils []:=by
 cases n with
 | zero=>exact ⟨LRep.nil,rfl⟩
 | succ n=>exact ⟨LRep.nil,rfl,Nat.zero_le _⟩
theorem zAq:∀ {es:List CVal} {i:Nat} {c:CVal},es[i]? = some c→nth es i=c
 | [],_,_,h=>by cases h
 | _::_,0,_,h=>by cases h;rfl
 | _::r,i+1,_,h=>zAq (es:=r) h
def PuR (f:Nat) (ar:List CVal) (R:CVal→Prop):Prop:=∀ h:CHeap,Fit h→∀ K:KT,(∀ v n',R v→h.next≤n'→K v ⟨h.ents,n',h.tys⟩)→Wc tree.getF f ar h K
theorem pr_ {f:Nat} {ar:List CVal} {R:CVal→Prop} (H:PuR f ar R) {E:EE} {nx:Nat} {ty:NN} {K:KT} (hk:∀ v n2,R v→nx≤n2→K v ⟨E,n2,ty⟩) (hf:Fit ⟨E,nx,ty⟩:=by exact ft_):Wc tree.getF f ar ⟨E,nx,ty⟩ K:=H _ hf K hk
theorem PV1.five {v:CVal} (h:PV1 v):v.isUndef=false∧v.whole=true∧v.cells=[v]∧v.strip=v∧v.bare=v∧(CVal.tup [v]).bare=.tup [v]:=⟨h.u,h.w,h.c,h.s,h.b,by
 have hc:=h.c
 have hs:=h.s
 cases v with
 | agg cs=>simp only [CVal.cells] at hc;have h2:SizeOf.sizeOf cs=SizeOf.sizeOf [CVal.agg cs]:=congrArg SizeOf.sizeOf hc;simp at h2;omega
 | imm t k es=>cases t <;> simp_all [CVal.bare,CVal.strip]
 | _=>rfl⟩
theorem pq_ {v:CVal} {P R:Prop} (h:PV1 v) (r:R→P) (g:(v.isUndef=false∧v.whole=true∧v.cells=[v]∧v.strip=v∧v.bare=v∧(CVal.tup [v]).bare=.tup [v])→R:=by (intro q_;first | (simp only [CVal.isUndef,CVal.whole,CVal.cells,CVal.strip,CVal.bare,List.map,CVal.tup.injEq,List.cons.injEq,and_true] at q_;exact q_) | exact q_)):P:=r (g h.five)
theorem ef2_go {es fs:List CVal} {L:Nat} (h1:es.length=L) (h2:fs.length=L) (hL:L≤1000000) {t t1:Tag} (hS:∀ i,i<L→∃ k A k1 A1,es[i]? = some (.agg [.int .i64 k,A])∧fs[i]? = some (.agg [.int .i64 k1,A1])∧PV1 A∧PV1 A1∧Pe 42 [.agg [.int .i64 k,A],.agg [.int .i64 k1,A1]] (.bool true)) {hh:CHeap} (hf:Fit hh) {v2:CVal} {Q:QT}
    (hk:∀ (v5 v7 v9 v10 v11:CVal) n',hh.next≤n'→Q (.exit 0) ⟨[.imm t 2 es,.imm t1 2 fs,v2,.int .i64 (L:Nat),.int .i64 (L:Nat),v5,.imm t 2 es,v7,.fn (.func 42) [] [],v9,v10,v11,.bool false],⟨hh.ents,n',hh.tys⟩,[]⟩) :
    ∀ (m i nx:Nat) (v5 v7 v9 v10 v11:CVal),i+m=L→hh.next≤nx→W tree.getF ef2L ⟨[.imm t 2 es,.imm t1 2 fs,v2,.int .i64 (i:Nat),.int .i64 (L:Nat),v5,.imm t 2 es,v7,.fn (.func 42) [] [],v9,v10,v11,.bool false],⟨hh.ents,nx,hh.tys⟩,[]⟩ Q:=by
 intro m
 induction m with
 | zero =>
  intro i nx v5 v7 v9 v10 v11 e1 e2
  obtain rfl:i=L:=by omega
  refine W.loop ?_
  try refine w0_ ?_
  refine hk _ _ _ _ _ _ ?_;exact om_
 | succ m ih =>
  intro i nx v5 v7 v9 v10 v11 e1 e2
  obtain ⟨hu,hut,hX⟩:=fx4 (show Fit ⟨hh.ents,nx,hh.tys⟩ from ⟨hf.1.le e2,hf.2.le e2⟩)
  dsimp only at hX hu hut
  have hlt:(i:Int)<(L:Int):=by omega
  obtain ⟨k,A,k1,A1,q1,q2,p1,p2,H⟩:=hS i (by omega)
  have m1:=zAq q1
  have m2:=zAq q2
  refine pq_ p1 fun p1=>?_
  refine pq_ p2 fun p2=>?_
  refine W.loop ?_
  have hZ:=j10_ hX hlt q1 q2 p1 p2 m1 m2 h1 h2
  repeat (first
   | refine vk_ ?_
   | (refine pe_ (H) fun n1 hn1=>⟨rfl,?_⟩))
  have ih1:=fun nx v5 v7 v9 v10 v11 (h:_≤nx)=>ih (i+1) nx v5 v7 v9 v10 v11 (by omega) h
  push_cast at ih1
  refine dx_ ?_
  refine ih1 _ _ _ _ _ _ ?_;exact om_
theorem ef4_go {es fs:List CVal} {L:Nat} (h1:es.length=L) (h2:fs.length=L) (hL:L≤1000000) {t t1:Tag} (hS:∀ i,i<L→∃ b s A r b1 s1 A1 r1,es[i]? = some (.agg [.int .u64 b,.str s,A,.str r])∧fs[i]? = some (.agg [.int .u64 b1,.str s1,A1,.str r1])∧PV1 A∧PV1 A1∧Pe 94 [.agg [.int .u64 b,.str s,A,.str r],.agg [.int .u64 b1,.str s1,A1,.str r1]] (.bool true)) {hh:CHeap} (hf:Fit hh) {v2:CVal} {Q:QT}
    (hk:∀ (v5 v7 v9 v10 v11:CVal) n',hh.next≤n'→Q (.exit 0) ⟨[.imm t 4 es,.imm t1 4 fs,v2,.int .i64 (L:Nat),.int .i64 (L:Nat),v5,.imm t 4 es,v7,.fn (.func 94) [] [],v9,v10,v11,.bool false],⟨hh.ents,n',hh.tys⟩,[]⟩) :
    ∀ (m i nx:Nat) (v5 v7 v9 v10 v11:CVal),i+m=L→hh.next≤nx→W tree.getF ef4L ⟨[.imm t 4 es,.imm t1 4 fs,v2,.int .i64 (i:Nat),.int .i64 (L:Nat),v5,.imm t 4 es,v7,.fn (.func 94) [] [],v9,v10,v11,.bool false],⟨hh.ents,nx,hh.tys⟩,[]⟩ Q:=by
 intro m
 induction m with
 | zero =>
  intro i nx v5 v7 v9 v10 v11 e1 e2
  obtain rfl:i=L:=by omega
  refine W.loop ?_
  try refine w0_ ?_
  refine hk _ _ _ _ _ _ ?_;exact om_
 | succ m ih =>
  intro i nx v5 v7 v9 v10 v11 e1 e2
  obtain ⟨hu,hut,hX⟩:=fx4 (show Fit ⟨hh.ents,nx,hh.tys⟩ from ⟨hf.1.le e2,hf.2.le e2⟩)
  dsimp only at hX hu hut
  have hlt:(i:Int)<(L:Int):=by omega
  obtain ⟨b,s,A,r,b1,s1,A1,r1,q1,q2,p1,p2,H⟩:=hS i (by omega)
  have m1:=zAq q1
  have m2:=zAq q2
  refine pq_ p1 fun p1=>?_
  refine pq_ p2 fun p2=>?_
  refine W.loop ?_
  have hZ:=j10_ hX hlt q1 q2 p1 p2 m1 m2 h1 h2
  repeat (first
   | refine vk_ ?_
   | (refine pe_ (H) fun n1 hn1=>⟨rfl,?_⟩))
  have ih1:=fun nx v5 v7 v9 v10 v11 (h:_≤nx)=>ih (i+1) nx v5 v7 v9 v10 v11 (by omega) h
  push_cast at ih1
  refine dx_ ?_
  refine ih1 _ _ _ _ _ _ ?_;exact om_
theorem ef2_F {α:Type} {R:α→CVal→Prop} {Z:Nat} (hz:Z≤1000000) {l:List α} {X Y:CVal} (hx:LRep Z R 2 l X) (hy:LRep Z R 2 l Y) (hR:∀ x ∈ l,∀ c d,R x c→R x d→∃ k A k1 A1,c=.agg [.int .i64 k,A]∧d=.agg [.int .i64 k1,A1]∧PV1 A∧PV1 A1∧Pe 42 [.agg [.int .i64 k,A],.agg [.int .i64 k1,A1]] (.bool true)):Pe 41 [X,Y,.fn (.func 42) [] []] (.bool true):=by
 intro h hf K hk
 obtain ⟨hu,hut,hX⟩:=fx4 hf
 obtain ⟨hl,es,he,hx⟩:=hx
 obtain ⟨_,fs,hfs,hy⟩:=hy
 have l1:=he.len
 have l2:=hfs.len
 rcases hx with ⟨rfl,rfl⟩ | ⟨t,ht,rfl⟩
 · obtain rfl:l=[]:=List.eq_nil_of_length_eq_zero l1.symm
   obtain rfl:=hfs.nil_inv
   rcases hy with ⟨rfl,_⟩ | ⟨t1,ht1,rfl⟩
   all_goals
    refine mk_ 41 c41 (s_ ?_)
    repeat (first
     | refine vx_ ?_
     | (refine dx_ ?_;refine W.loop ?_)
     | refine W.loop ?_)
    refine rx_ ?_
    refine hk _ ?_;exact om_
 rcases hy with ⟨rfl,rfl⟩ | ⟨t1,ht1,rfl⟩
 · obtain rfl:l=[]:=List.eq_nil_of_length_eq_zero l2.symm
   obtain rfl:=he.nil_inv
   refine mk_ 41 c41 (s_ ?_)
   repeat (first
    | refine vx_ ?_
    | (refine dx_ ?_;refine W.loop ?_)
    | refine W.loop ?_)
   refine rx_ ?_
   refine hk _ ?_;exact om_
 have st1:(CVal.imm t 2 es).strip=.imm t 2 es:=by rcases ht with rfl | rfl <;> rfl
 have st2:(CVal.imm t1 2 fs).strip=.imm t1 2 fs:=by rcases ht1 with rfl | rfl <;> rfl
 refine mk_ 41 c41 (s_ ?_)
 have hZ:=j3_ hX l1 l2
 repeat ((fail_if_success (show W tree.getF ef2L _ _));refine vk_ ?_)
 refine ef2_go (L:=l.length) (hh:=⟨_,_,_⟩) l1 l2 (by omega) (fun i hi=>?_) ?_ ?_ l.length 0 _ _ _ _ _ _ (by omega) (by (try dsimp only);omega)
 · obtain ⟨c,q1,y1⟩:=he.at (List.getElem?_eq_getElem hi)
   obtain ⟨d,q2,y2⟩:=hfs.at (List.getElem?_eq_getElem hi)
   obtain ⟨k,A,k1,A1,rfl,rfl,p1,p2,H⟩:=hR _ (List.getElem_mem hi) c d y1 y2
   exact ⟨k,A,k1,A1,q1,q2,p1,p2,H⟩
 · exact ft_
 · intro v5 v7 v9 v10 v11 n' g
   dsimp only at g
   repeat (first
    | refine vx_ ?_)
   refine rx_ ?_
   refine hk _ ?_;exact om_
theorem ef4_F {α:Type} {R:α→CVal→Prop} {Z:Nat} (hz:Z≤1000000) {l:List α} {X Y:CVal} (hx:LRep Z R 4 l X) (hy:LRep Z R 4 l Y) (hR:∀ x ∈ l,∀ c d,R x c→R x d→∃ b s A r b1 s1 A1 r1,c=.agg [.int .u64 b,.str s,A,.str r]∧d=.agg [.int .u64 b1,.str s1,A1,.str r1]∧PV1 A∧PV1 A1∧Pe 94 [.agg [.int .u64 b,.str s,A,.str r],.agg [.int .u64 b1,.str s1,A1,.str r1]] (.bool true)):Pe 93 [X,Y,.fn (.func 94) [] []] (.bool true):=by
 intro h hf K hk
 obtain ⟨hu,hut,hX⟩:=fx4 hf
 obtain ⟨hl,es,he,hx⟩:=hx
 obtain ⟨_,fs,hfs,hy⟩:=hy
 have l1:=he.len
 have l2:=hfs.len
 rcases hx with ⟨rfl,rfl⟩ | ⟨t,ht,rfl⟩
 · obtain rfl:l=[]:=List.eq_nil_of_length_eq_zero l1.symm
   obtain rfl:=hfs.nil_inv
   rcases hy with ⟨rfl,_⟩ | ⟨t1,ht1,rfl⟩
   all_goals
    refine mk_ 93 c93 (s_ ?_)
    repeat (first
     | refine vx_ ?_
     | (refine dx_ ?_;refine W.loop ?_)
     | refine W.loop ?_)
    refine rx_ ?_
    refine hk _ ?_;exact om_
 rcases hy with ⟨rfl,rfl⟩ | ⟨t1,ht1,rfl⟩
 · obtain rfl:l=[]:=List.eq_nil_of_length_eq_zero l2.symm
   obtain rfl:=he.nil_inv
   refine mk_ 93 c93 (s_ ?_)
   repeat (first
    | refine vx_ ?_
    | (refine dx_ ?_;refine W.loop ?_)
    | refine W.loop ?_)
   refine rx_ ?_
   refine hk _ ?_;exact om_
 have st1:(CVal.imm t 4 es).strip=.imm t 4 es:=by rcases ht with rfl | rfl <;> rfl
 have st2:(CVal.imm t1 4 fs).strip=.imm t1 4 fs:=by rcases ht1 with rfl | rfl <;> rfl
 refine mk_ 93 c93 (s_ ?_)
 have hZ:=j3_ hX l1 l2
 repeat ((fail_if_success (show W tree.getF ef4L _ _));refine vk_ ?_)
 refine ef4_go (L:=l.length) (hh:=⟨_,_,_⟩) l1 l2 (by omega) (fun i hi=>?_) ?_ ?_ l.length 0 _ _ _ _ _ _ (by omega) (by (try dsimp only);omega)
 · obtain ⟨c,q1,y1⟩:=he.at (List.getElem?_eq_getElem hi)
   obtain ⟨d,q2,y2⟩:=hfs.at (List.getElem?_eq_getElem hi)
   obtain ⟨b,s,A,r,b1,s1,A1,r1,rfl,rfl,p1,p2,H⟩:=hR _ (List.getElem_mem hi) c d y1 y2
   exact ⟨b,s,A,r,b1,s1,A1,r1,q1,q2,p1,p2,H⟩
 · exact ft_
 · intro v5 v7 v9 v10 v11 n' g
   dsimp only at g
   repeat (first
    | refine vx_ ?_)
   refine rx_ ?_
   refine hk _ ?_;exact om_
theorem same_C {Z:Nat} (hz:Z≤1000000):∀ (n:Nat) (m:MVB n) (F G:CVal) (r s:B8),RM Z n m F r→RM Z n m G s→Pe 14 [.agg [F,.str r],.agg [G,.str s]] (.bool true)
 | n,m,F,G,r,s,h1,h2=>by
  have hP1:=h1.p
  have hP2:=h2.p
  have main:r=s∧Pe 41 [F,G,.fn (.func 42) [] []] (.bool true):=by
   cases n with
   | zero=>exact ⟨h1.2.trans h2.2.symm,ef2_F hz h1.1 h2.1 fun x hx=>by cases hx⟩
   | succ n =>
    refine ⟨h1.2.1.trans h2.2.1.symm,ef2_F hz h1.1 h2.1 fun x _ c d hc hd=>?_⟩
    obtain ⟨A,rfl,pa,ha⟩:=hc
    obtain ⟨B,rfl,pb,hb⟩:=hd
    refine ⟨_,_,_,_,rfl,rfl,pa,pb,?_⟩
    have E:=ef4_F hz ha hb fun y _ c d hc hd=>by
     obtain ⟨F1,r1,rfl,a1,a2,p1,q1⟩:=hc
     obtain ⟨G1,s1,rfl,b1,b2,p2,q2⟩:=hd
     refine ⟨_,_,_,_,_,_,_,_,rfl,rfl,p1,p2,?_⟩
     have S:=same_C hz n y.2 F1 G1 r1 s1 q1 q2
     intro h hf K hk
     obtain ⟨hu,hut,hX⟩:=fx4 hf
     refine pq_ p1 fun p1=>?_
     refine pq_ p2 fun p2=>?_
     have z1:(y.1.1 == y.1.1)=true:=by simp
     have z2:(y.1.2 == y.1.2)=true:=by simp
     refine mk_ 94 c94 (s_ ?_)
     have hZ:=j5_ hX p1 p2 z1 z2
     repeat (first
      | refine vk_ ?_
      | (refine pe_ (S) fun n1 hn1=>⟨rfl,?_⟩))
     refine rk_ ?_
     refine hk _ ?_;exact om_
    intro h hf K hk
    obtain ⟨hu,hut,hX⟩:=fx4 hf
    refine pq_ pa fun p1=>?_
    refine pq_ pb fun p2=>?_
    have z1:((x.1:Int) == (x.1:Int))=true:=by simp
    refine mk_ 42 c42 (s_ ?_)
    have hZ:=j4_ hX p1 p2 z1
    repeat (first
     | refine vk_ ?_
     | (refine pe_ (E) fun n1 hn1=>⟨rfl,?_⟩))
    refine rk_ ?_
    refine hk _ ?_;exact om_
  obtain ⟨rfl,E⟩:=main
  intro h hf K hk
  obtain ⟨hu,hut,hX⟩:=fx4 hf
  refine pq_ hP1 fun p1=>?_
  refine pq_ hP2 fun p2=>?_
  have z1:(r == r)=true:=by simp
  refine mk_ 14 c14 (s_ ?_)
  have hZ:=j4_ hX p1 p2 z1
  repeat (first
   | refine vk_ ?_
   | (refine pe_ (E) fun n1 hn1=>⟨rfl,?_⟩))
  refine rk_ ?_
  refine hk _ ?_;exact om_
theorem zBa:∀ {l:EE} {n:Nat},Under l n→zB6 l n=l
 | [],_,_=>rfl
 | (i,o)::r,n,h=>by
  have h1:¬ n≤i:=by have:=h (i,o) (by simp);simp at this;omega
  have h2:=zBa (l:=r) (n:=n) fun x hx=>h x (by simp [hx])
  simp only [zB6,if_neg h1,h2]
theorem zEm:∀ (l:List CVal) (i:Nat) (x:CVal),zBv l i x=l.set i x
 | [],_,_=>rfl
 | _::_,0,_=>rfl
 | _::r,i+1,x=>congrArg _ (zEm r i x)
theorem set_self {α:Type}:∀ {l:List α} {i:Nat} {x:α},l[i]? = some x→l.set i x=l
 | _::_,0,_,h=>by cases h;rfl
 | _::l,i+1,_,h=>congrArg _ (set_self (l:=l) h)
theorem zCp {α:Type} {R:α→CVal→Prop} {l:List α} {es:List CVal} (h:All2 R l es) (hb:∀ x ∈ l,∀ c,R x c→c.bare=c):es.map CVal.bare=es:=by
 induction h with
 | nil=>rfl
 | cons a h ih=>simp only [List.map_cons];rw [hb _ (by simp) _ a,ih fun x hx=>hb x (by simp [hx])]
theorem RV.bare {M:Type} {R:M→CVal→B8→Prop} {x:BV × M} {c:CVal} (h:RV R x c):c.bare=c:=by
 obtain ⟨F,r,rfl,_,_,p,_⟩:=h
 have:=p.s
 simp only [CVal.bare,List.map,this];rfl
theorem zGw {k:Int} {A:CVal} (p:PV1 A):(CVal.agg [.int .i64 k,A]).bare=.agg [.int .i64 k,A]:=by
 have:=p.s
 simp only [CVal.bare,List.map,this];rfl
theorem vl_go {M:Type} {R:M→CVal→B8→Prop} {l:List (BV × M)} {L:Nat} (hl:l.length=L) (hL:L≤1000000) (hp:∀ m F r,R m F r→PV1 F) (hT:∀ x ∈ l,∀ F r,R x.2 F r→PuR 37 [.agg [F,.str r]] fun v=>∃ G,v=.agg [G,.str r]∧R x.2 G r) {q:Nat} {hh:CHeap} (hf:Fit hh) (hq:hh.next≤q) {Q:QT}
    (hk:∀ (v3 v4:CVal) rs n',All2 (RV R) l rs→q<n'→Q (.exit 0) ⟨[.ref q 0 4 0 L,.int .i64 (L:Nat),.int .i64 (L:Nat),v3,v4,.nils],⟨(q,.row 0 rs)::hh.ents,n',hh.tys⟩,[]⟩) :
    ∀ (m i nx:Nat) (rs:List CVal) (v3 v4:CVal),i+m=L→All2 (RV R) l rs→q<nx→W tree.getF vlL ⟨[.ref q 0 4 0 L,.int .i64 (i:Nat),.int .i64 (L:Nat),v3,v4,.nils],⟨(q,.row 0 rs)::hh.ents,nx,hh.tys⟩,[]⟩ Q:=by
 intro m
 induction m with
 | zero =>
  intro i nx rs v3 v4 e1 e2 e3
  obtain rfl:i=L:=by omega
  refine W.loop ?_
  try refine w0_ ?_
  exact hk _ _ _ _ e2 (by omega)
 | succ m ih =>
  intro i nx rs v3 v4 e1 e2 e3
  obtain ⟨hu,hut,hX⟩:=fx4 (show Fit ⟨hh.ents,nx,hh.tys⟩ from ⟨hf.1.le (by dsimp only;omega),hf.2.le (by dsimp only;omega)⟩)
  have hu0:=hf.1
  have hut0:=hf.2
  dsimp only at hX hu hut
  have hlt:(i:Int)<(L:Int):=by omega
  have hil:i<L:=by omega
  have hls:=e2.len
  have hlr:rs.length=L:=by omega
  obtain ⟨x,hx⟩:∃ x,l[i]? = some x:=⟨_,List.getElem?_eq_getElem (by omega)⟩
  obtain ⟨c,q1,r1⟩:=e2.at hx
  have hm:=List.mem_of_getElem? hx
  obtain ⟨F,r,rfl,b1,b2,pF,rF⟩:=r1
  have T1:=hT x hm F r rF
  have m1:=zAq q1
  have lb0:∀ x:CVal,x.beq x=true:=fun x=>zAf x
  have ls0:∀ l:List CVal,beqs l l=true:=fun l=>by have:=zAf (CVal.agg l);simpa using this
  have hD:∀ x m,nx≤m→zA7 ((q,CObj.row 0 x)::hh.ents) m=(q,CObj.row 0 x)::hh.ents:=fun x m hm=>zAc (Under.cons (by omega) (hf.1.le (by omega)))
  refine pq_ pF fun pF=>?_
  refine W.loop ?_
  have hZ:=j10_ hX hlt hil hlr q1 m1 pF lb0 ls0 hD
  repeat (first
   | refine vk_ ?_
   | (refine pr_ T1 (fun v1 n1 R1 g1=>?_) ⟨Under.cons (by (try dsimp only);omega) (hf.1.le (by (try dsimp only);omega)),hf.2.le (by (try dsimp only);omega)⟩
      obtain ⟨G,rfl,R1⟩:=R1
      have pG:=hp _ _ _ R1
      have hP:=pG.five
      simp only [CVal.isUndef,CVal.whole,CVal.cells,CVal.strip,CVal.bare,List.map,CVal.tup.injEq,List.cons.injEq,and_true] at hP
      have hZ:=And.intro hZ hP
      refine ⟨rfl,?_⟩
      (try dsimp only at g1)))
  have ih1:=fun nx rs v3 v4=>ih (i+1) nx rs v3 v4 (by omega)
  push_cast at ih1
  refine dk_ ?_
  refine ih1 _ _ _ _ ?_ ?_
  · have:=e2.set i (x:=x) (y:=.agg [.int .u64 x.1.1,.str x.1.2,G,.str r]) ⟨_,_,rfl,b1,b2,pG,R1⟩
    rw [zEm]
    rw [set_self hx] at this
    exact this
  · omega
theorem vals_F {M:Type} {R:M→CVal→B8→Prop} {Z:Nat} (hz:Z≤1000000) {l:List (BV × M)} {X:CVal} (hx:LRep Z (RV R) 4 l X) (hp:∀ m F r,R m F r→PV1 F) (hT:∀ x ∈ l,∀ F r,R x.2 F r→PuR 37 [.agg [F,.str r]] fun v=>∃ G,v=.agg [G,.str r]∧R x.2 G r):PuR 47 [X] (LRep Z (RV R) 4 l):=by
 intro h hf K hk
 obtain ⟨hu,hut,hX⟩:=fx4 hf
 obtain ⟨hl,es,he,hx⟩:=hx
 have l1:=he.len
 have hdA:∀ m,h.next≤m→zB6 h.ents m=h.ents:=fun m hm=>zBa (hu.le hm)
 rcases hx with ⟨rfl,rfl⟩ | ⟨t,ht,rfl⟩
 · obtain rfl:l=[]:=List.eq_nil_of_length_eq_zero l1.symm
   refine mk_ 47 c47 (s_ ?_)
   have hZ:=j2_ hX hdA
   repeat (first
    | refine vk_ ?_
    | (refine dk_ ?_;refine W.loop ?_)
    | refine W.loop ?_
    | (refine mk_ 101 c101 (s_ ?_))
    | (refine rk_ ?_;refine ⟨rfl,?_⟩))
   refine rk_ ?_
   refine hk _ _ LRep.nil ?_;exact om_
 cases es with
 | nil =>
  obtain rfl:l=[]:=List.eq_nil_of_length_eq_zero l1.symm
  rcases ht with rfl | rfl
  all_goals
   refine mk_ 47 c47 (s_ ?_)
   have hZ:=j2_ hX hdA
   repeat (first
    | refine vk_ ?_
    | (refine dk_ ?_;refine W.loop ?_)
    | refine W.loop ?_
    | (refine mk_ 101 c101 (s_ ?_))
    | (refine rk_ ?_;refine ⟨rfl,?_⟩))
   refine rk_ ?_
   refine hk _ _ (LRep.imm .nil (.inr rfl) (by simp)) ?_;exact om_
 | cons e1 e2 =>
  obtain ⟨L,hLL⟩:∃ L,l.length=L:=⟨_,rfl⟩
  have l2:=l1.trans hLL
  have hL6:L≤1000000:=by omega
  have hne2:e2.length+1=L:=by simpa using l2
  have h1:1≤L:=by rw [← hLL,← l1];simp
  have hB:=zCp he fun x _ c h=>h.bare
  have he0:=he
  cases he with
  | cons r0 he' =>
  rename_i x0 l0
  obtain ⟨F0,r0',rfl,_,_,p0,_⟩:=r0
  have hB2:=zCp he' fun x _ c h=>h.bare
  have hst:(CVal.imm t 4 (.agg [.int .u64 x0.1.1,.str x0.1.2,F0,.str r0']::e2)).strip=.imm t 4 (.agg [.int .u64 x0.1.1,.str x0.1.2,F0,.str r0']::e2):=by rcases ht with rfl | rfl <;> rfl
  simp only [CVal.strip] at hst
  refine pq_ p0 fun p0=>?_
  have hl2:e2.length+1≤1000000:=by omega
  have hne:(e2.length:Int)+1=(L:Int):=by omega
  have hsm:e2.length+1≤1073741824:=by omega
  refine mk_ 47 c47 (s_ ?_)
  have hZ:=j7_ hX hne hne2 hsm hst hB2 p0
  repeat ((fail_if_success (show W tree.getF vlL _ _));first
   | refine vk_ ?_
   | (refine mk_ 101 c101 (s_ ?_))
   | (refine rk_ ?_;refine ⟨rfl,?_⟩))
  refine vl_go (L:=L) hLL (by omega) hp hT hf ?_ ?_ L 0 _ _ _ _ (by omega) he0 ?_
  · omega
  · intro v3 v4 rs n' hrs hn
    have l3:=hrs.len.trans hLL
    have ht2:List.take L rs=rs:=List.take_of_length_le (by omega)
    have hZ:=j5_ hX l3 ht2 hdA h1
    repeat (first
     | refine vk_ ?_)
    refine rk_ ?_
    refine hk _ _ (LRep.imm hrs (.inl rfl) hl) ?_;exact om_
  · omega
theorem tw_go {α:Type} {R:α→CVal→Prop} {l:List α} {L:Nat} (hl:l.length=L) (hL:L≤1000000) (hV:∀ x ∈ l,∀ c,R x c→∃ k A,c=.agg [.int .i64 k,A]∧PV1 A∧PuR 47 [A] fun v=>PV1 v∧R x (.agg [.int .i64 k,v])) {q b1 b6:Nat} {r:B8} {hh:CHeap} (hf:Fit hh) (h1:hh.next≤b1) (h2:b1<b6) (h3:b6<q) {a0:CVal} {Q:QT}
    (hk:∀ (v4 v5:CVal) rs n',All2 R l rs→q<n'→Q (.exit 0) ⟨[a0,.ptr b1 37748738 0,.int .i64 (L:Nat),.int .i64 (L:Nat),v4,v5,.ptr b6 37748738 0],⟨(q,.row 0 rs)::(b6,.cells [.nils,.str []])::(b1,.cells [.ref q 0 2 0 L,.str r])::hh.ents,n',hh.tys⟩,[]⟩) :
    ∀ (m i nx:Nat) (rs:List CVal) (v4 v5:CVal),i+m=L→All2 R l rs→q<nx→W tree.getF twL ⟨[a0,.ptr b1 37748738 0,.int .i64 (i:Nat),.int .i64 (L:Nat),v4,v5,.ptr b6 37748738 0],⟨(q,.row 0 rs)::(b6,.cells [.nils,.str []])::(b1,.cells [.ref q 0 2 0 L,.str r])::hh.ents,nx,hh.tys⟩,[]⟩ Q:=by
 intro m
 induction m with
 | zero =>
  intro i nx rs v4 v5 e1 e2 e3
  obtain rfl:i=L:=by omega
  refine W.loop ?_
  try refine w0_ ?_
  exact hk _ _ _ _ e2 (by omega)
 | succ m ih =>
  intro i nx rs v4 v5 e1 e2 e3
  obtain ⟨hu,hut,hX⟩:=fx4 (show Fit ⟨hh.ents,nx,hh.tys⟩ from ⟨hf.1.le (by dsimp only;omega),hf.2.le (by dsimp only;omega)⟩)
  dsimp only at hX hu hut
  have hlt:(i:Int)<(L:Int):=by omega
  have hls:=e2.len
  have hlr:rs.length=L:=by omega
  obtain ⟨x,hx⟩:∃ x,l[i]? = some x:=⟨_,List.getElem?_eq_getElem (by omega)⟩
  obtain ⟨c,q1,r1⟩:=e2.at hx
  have hm:=List.mem_of_getElem? hx
  obtain ⟨k,A,rfl,pA,T1⟩:=hV x hm c r1
  have m1:=zAq q1
  have lb0:∀ x:CVal,x.beq x=true:=fun x=>zAf x
  have ls0:∀ l:List CVal,beqs l l=true:=fun l=>by have:=zAf (CVal.agg l);simpa using this
  have hD:∀ x m,nx≤m→zA7 ((q,CObj.row 0 x)::(b6,CObj.cells [.nils,.str []])::(b1,.cells [.ref q 0 2 0 L,.str r])::hh.ents) m=(q,CObj.row 0 x)::(b6,CObj.cells [.nils,.str []])::(b1,.cells [.ref q 0 2 0 L,.str r])::hh.ents:=fun x m hm=>zAc (Under.cons (by omega) (Under.cons (by omega) (Under.cons (by omega) (hf.1.le (by omega)))))
  refine pq_ pA fun pF=>?_
  refine W.loop ?_
  have hZ:=j9_ hX hlt hlr q1 m1 pF lb0 ls0 hD
  repeat (first
   | refine vk_ ?_
   | (refine pr_ T1 (fun v1 n1 R1 g1=>?_) ⟨Under.cons (by (try dsimp only);omega) (Under.cons (by (try dsimp only);omega) (Under.cons (by (try dsimp only);omega) (hf.1.le (by (try dsimp only);omega)))),hf.2.le (by (try dsimp only);omega)⟩
      obtain ⟨pG,R1⟩:=R1
      have hP:=pG.five
      simp only [CVal.isUndef,CVal.whole,CVal.cells,CVal.strip,CVal.bare,List.map,CVal.tup.injEq,List.cons.injEq,and_true] at hP
      have hZ:=And.intro hZ hP
      refine ⟨hP.1,?_⟩
      (try dsimp only at g1)))
  have ih1:=fun nx rs v4 v5=>ih (i+1) nx rs v4 v5 (by omega)
  push_cast at ih1
  refine dk_ ?_
  refine ih1 _ _ _ _ ?_ ?_
  · have:=e2.set i (x:=x) R1
    rw [zEm]
    rw [set_self hx] at this
    exact this
  · omega
theorem twin_L {α:Type} {R:α→CVal→Prop} {Z:Nat} (hz:Z≤1000000) {l:List α} {F:CVal} {r:B8} (hx:LRep Z R 2 l F) (hV:∀ x ∈ l,∀ c,R x c→∃ k A,c=.agg [.int .i64 k,A]∧PV1 A∧PuR 47 [A] fun v=>PV1 v∧R x (.agg [.int .i64 k,v])):PuR 37 [.agg [F,.str r]] fun v=>∃ G,v=.agg [G,.str r]∧LRep Z R 2 l G:=by
 intro h hf K hk
 obtain ⟨hu,hut,hX⟩:=fx4 hf
 obtain ⟨hl,es,he,hx⟩:=hx
 have l1:=he.len
 have hdA:∀ m,h.next≤m→zB6 h.ents m=h.ents:=fun m hm=>zBa (hu.le hm)
 rcases hx with ⟨rfl,rfl⟩ | ⟨t,ht,rfl⟩
 · obtain rfl:l=[]:=List.eq_nil_of_length_eq_zero l1.symm
   refine mk_ 37 c37 (s_ ?_)
   have hZ:=j2_ hX hdA
   repeat (first
    | refine vk_ ?_
    | (refine dk_ ?_;refine W.loop ?_)
    | refine W.loop ?_
    | (refine mk_ 83 c83 (s_ ?_))
    | (refine rk_ ?_;refine ⟨rfl,?_⟩))
   refine rk_ ?_
   refine hk _ _ ⟨_,rfl,LRep.nil⟩ ?_;exact om_
 cases es with
 | nil =>
  obtain rfl:l=[]:=List.eq_nil_of_length_eq_zero l1.symm
  rcases ht with rfl | rfl
  all_goals
   refine mk_ 37 c37 (s_ ?_)
   have hZ:=j2_ hX hdA
   repeat (first
    | refine vk_ ?_
    | (refine dk_ ?_;refine W.loop ?_)
    | refine W.loop ?_
    | (refine mk_ 83 c83 (s_ ?_))
    | (refine rk_ ?_;refine ⟨rfl,?_⟩))
   refine rk_ ?_
   refine hk _ _ ⟨_,rfl,LRep.imm .nil (.inr rfl) (by simp)⟩ ?_;exact om_
 | cons e1 e2 =>
  obtain ⟨L,hLL⟩:∃ L,l.length=L:=⟨_,rfl⟩
  have l2:=l1.trans hLL
  have hL6:L≤1000000:=by omega
  have hne2:e2.length+1=L:=by simpa using l2
  have h1:1≤L:=by rw [← hLL,← l1];simp
  have hl2:e2.length+1≤1000000:=by omega
  have hne:(e2.length:Int)+1=(L:Int):=by omega
  have hsm:e2.length+1≤1073741824:=by omega
  have hB:∀ x ∈ l,∀ c,R x c→c.bare=c:=fun x hx c hc=>by
   obtain ⟨k,A,rfl,p,_⟩:=hV x hx c hc
   exact zGw p
  have he0:=he
  cases he with
  | cons r0 he' =>
  rename_i x0 l0
  obtain ⟨k0,A0,rfl,p0,_⟩:=hV x0 (by simp) _ r0
  have hB2:=zCp he' fun x hx c h=>hB x (by simp [hx]) c h
  have hst:(CVal.imm t 2 (.agg [.int .i64 k0,A0]::e2)).strip=.imm t 2 (.agg [.int .i64 k0,A0]::e2):=by rcases ht with rfl | rfl <;> rfl
  refine pq_ p0 fun p0=>?_
  simp only [CVal.strip] at hst
  refine mk_ 37 c37 (s_ ?_)
  have hZ:=j7_ hX hne hne2 hsm hst hB2 p0
  repeat ((fail_if_success (show W tree.getF twL _ _));first
   | refine vk_ ?_
   | (refine mk_ 83 c83 (s_ ?_))
   | (refine rk_ ?_;refine ⟨rfl,?_⟩))
  refine tw_go (L:=L) hLL (by omega) hV hf ?_ ?_ ?_ ?_ L 0 _ _ _ _ (by omega) he0 ?_
  · omega
  · omega
  · omega
  · intro v4 v5 rs n' hrs hn
    have l3:=hrs.len.trans hLL
    have ht2:List.take L rs=rs:=List.take_of_length_le (by omega)
    have hZ:=j5_ hX l3 ht2 hdA h1
    repeat (first
     | refine vk_ ?_)
    refine rk_ ?_
    refine hk _ _ ⟨_,rfl,LRep.imm hrs (.inl rfl) hl⟩ ?_;exact om_
  · omega
theorem zJw {Z:Nat} (hz:Z≤1000000):∀ (n:Nat) (m:MVB n) (F:CVal) (r:B8),RM Z n m F r→PuR 37 [.agg [F,.str r]] fun v=>∃ G,v=.agg [G,.str r]∧RM Z n m G r
 | 0,m,F,r,h=>by
  intro h0 hf K hk
  refine twin_L hz h.1 (fun x hx=>by cases hx) h0 hf K fun v n' hv=>hk v n' ?_
  obtain ⟨G,e,hG⟩:=hv
  exact ⟨G,e,hG,h.2⟩
 | n+1,m,F,r,h=>by
  intro h0 hf K hk
  refine twin_L hz h.1 (fun x hx c hc=>?_) h0 hf K fun v n' hv=>hk v n' ?_
  · obtain ⟨A,rfl,pA,hA⟩:=hc
    refine ⟨_,A,rfl,pA,fun h1 hf1 K1 hk1=>?_⟩
    exact vals_F hz hA (fun m F r h=>h.p) (fun y _ F r h=>zJw hz n y.2 F r h) h1 hf1 K1 fun v n' hv=>hk1 v n' ⟨hv.p,v,rfl,hv.p,hv⟩
  · obtain ⟨G,e,hG⟩:=hv
    exact ⟨G,e,hG,h.2⟩
def ShF {β:Type} (R:Nat × β→CVal→Prop):Prop:=∀ x c,R x c→∃ A,c=.agg [.int .i64 (x.1:Nat),A]∧PV1 A
theorem ShF.rf {M:Type} {Z:Nat} {R:M→CVal→B8→Prop}:ShF (RF Z R):=fun x c ⟨A,e,p,_⟩=>⟨A,e,p⟩
theorem ixf_go {β:Type} {R:Nat × β→CVal→Prop} (hS:ShF R) {l:List (Nat × β)} {es:List CVal} {L:Nat} (hl:l.length=L) (hL:L≤1000000) (hE:All2 R l es) {q d w:Nat} {t:Tag} {hh:CHeap} (hf:Fit hh) (hg:zA1 hh.ents q=some (.cells [.int .i64 (w:Nat)])) {Q:QT}
    (hyes:∀ (v1 v3 v5 v6:CVal) n' (k:Nat) x,l[k]? = some x→x.1=w→(∀ j y,j<k→l[j]? = some y→¬ y.1=w)→hh.next≤n'→Q .ret ⟨[.imm t 2 es,v1,.int .i64 (L:Nat),v3,.fn (.func 46) [] [.ptr q d 0],v5,v6,.int .i64 (k:Nat)],⟨hh.ents,n',hh.tys⟩,[]⟩)
    (hno:(∀ j y,j<L→l[j]? = some y→¬ y.1=w)→∀ (v1 v3 v5 v6:CVal) n',hh.next≤n'→Q (.exit 0) ⟨[.imm t 2 es,v1,.int .i64 (L:Nat),v3,.fn (.func 46) [] [.ptr q d 0],v5,v6,.int .i64 0],⟨hh.ents,n',hh.tys⟩,[]⟩) :
    ∀ (m k nx:Nat) (v3 v5 v6:CVal),k+m=L→(∀ j y,j<k→l[j]? = some y→¬ y.1=w)→hh.next≤nx→W tree.getF ixfL ⟨[.imm t 2 es,.int .i64 (k:Nat),.int .i64 (L:Nat),v3,.fn (.func 46) [] [.ptr q d 0],v5,v6,.int .i64 0],⟨hh.ents,nx,hh.tys⟩,[]⟩ Q:=by
 intro m
 induction m with
 | zero =>
  intro k nx v3 v5 v6 h1 h2 h3
  obtain rfl:k=L:=by omega
  refine W.loop ?_
  try refine w0_ ?_
  refine hno h2 _ _ _ _ _ ?_;exact om_
 | succ m ih =>
  intro k nx v3 v5 v6 h1 h2 h3
  obtain ⟨hu,hut,hX⟩:=fx4 (show Fit ⟨hh.ents,nx,hh.tys⟩ from ⟨hf.1.le h3,hf.2.le h3⟩)
  dsimp only at hX hu hut
  have hlt:(k:Int)<(L:Int):=by omega
  have lq:=zA3 hu hg
  have hlen:=hE.len
  have hlr:es.length=L:=by omega
  obtain ⟨x,hx⟩:∃ x,l[k]? = some x:=⟨_,List.getElem?_eq_getElem (by omega)⟩
  obtain ⟨c,q1,r1⟩:=hE.at hx
  obtain ⟨A,rfl,pA⟩:=hS x c r1
  have m1:=zAq q1
  refine pq_ pA fun pF=>?_
  refine W.loop ?_
  by_cases he:x.1=w
  · subst he
    have hZ:=j7_ hX hg hlt q1 m1 hlr pF
    repeat (first
     | refine vk_ ?_
     | (refine mk_ 46 c46 (s_ ?_))
     | (refine rk_ ?_;refine ⟨rfl,?_⟩))
    refine W.ret ?_
    simp only [zAn,zA5,zA8,zAg,reduceIte]
    refine hyes _ _ _ _ _ k x hx rfl h2 ?_;exact om_
  · have e1:((x.1:Int) == (w:Int))=false:=by simp;omega
    have e2:((x.1:Int)=(w:Int))=False:=by simp;omega
    have hZ:=j9_ hX hg hlt q1 m1 hlr pF e1 e2
    repeat (first
     | refine vk_ ?_
     | (refine mk_ 46 c46 (s_ ?_))
     | (refine rk_ ?_;refine ⟨rfl,?_⟩))
    have ih1:=fun nx v3 v5 v6 (h:_≤nx)=>ih (k+1) nx v3 v5 v6 (by omega) (fun j y a b=>by
     rcases Nat.lt_succ_iff_lt_or_eq.1 a with c | rfl
     · exact h2 j y c b
     · rw [hx] at b;cases b;exact he) h
    push_cast at ih1
    refine dk_ ?_
    refine ih1 _ _ _ _ ?_;exact om_
theorem get_at {V:Type}:∀ {l:List (Nat × V)},SL.Srt nltB l→∀ {k:Nat} {x:Nat × V},l[k]? = some x→SL.get nltB x.1 l=some x.2
 | (a,y)::l,h,0,x,e=>by
  cases e
  simp [SL.get,nltB]
 | (a,y)::l,h,k+1,x,e=>by
  have h1:nltB a x.1=true:=h.1 x (List.mem_of_getElem? (show l[k]? = some x from e))
  unfold SL.get
  rw [if_pos h1]
  exact get_at h.2 (show l[k]? = some x from e)
theorem get_no {V:Type}:∀ {l:List (Nat × V)} {w:Nat},(∀ x ∈ l,¬ x.1=w)→SL.get nltB w l=none
 | [],_,_=>rfl
 | (a,y)::l,w,h=>by
  have h1:¬ a=w:=h (a,y) (by simp)
  unfold SL.get
  split
  · exact get_no fun x hx=>h x (by simp [hx])
  · rename_i h2
    rw [if_pos]
    simp [nltB] at *;omega
def GetR {V:Type} (Z:Nat) (R:V→CVal→Prop):Option (List V)→CVal→Prop
 | none,v=>v=.tup [.nils,.bool false]
 | some y,v=>∃ G,v=.tup [G,.bool true]∧LRep Z R 4 y G
theorem get_F {M:Type} {R:M→CVal→B8→Prop} {Rr:Nat × List (BV × M)→CVal→Prop} (hS:ShF Rr) {Z Z2:Nat} (hz:Z2≤1000000) {l:List (Nat × List (BV × M))} (hs:SL.Srt nltB l) {F:CVal} {r:B8} (hx:LRep Z2 Rr 2 l F) {w:Nat} (hV:∀ x ∈ l,x.1=w→∀ A,Rr x (.agg [.int .i64 (x.1:Nat),A])→PuR 47 [A] (LRep Z (RV R) 4 x.2)):PuR 17 [.agg [F,.str r],.int .i64 (w:Nat)] (GetR Z (RV R) (SL.get nltB w l)):=by
 intro h hf K hk
 obtain ⟨hu,hut,hX⟩:=fx4 hf
 have pF:=hx.p
 obtain ⟨hl,es,he,hx⟩:=hx
 have l1:=he.len
 refine pq_ pF fun pX=>?_
 rcases hx with ⟨rfl,rfl⟩ | ⟨t,ht,rfl⟩
 · obtain rfl:l=[]:=List.eq_nil_of_length_eq_zero l1.symm
   refine mk_ 17 c17 (s_ ?_)
   repeat (first
    | refine vx_ ?_
    | (refine dx_ ?_;refine W.loop ?_)
    | refine W.loop ?_
    | (refine mk_ 45 c45 (s_ ?_))
    | (refine rx_ ?_;refine ⟨rfl,?_⟩))
   refine rx_ ?_
   refine hk _ _ rfl ?_;exact om_
 have hZ:=j3_ hX l1 pX
 refine mk_ 17 c17 (s_ ?_)
 repeat ((fail_if_success (show W tree.getF ixfL _ _));first
  | refine vk_ ?_
  | (refine mk_ 45 c45 (s_ ?_)))
 refine ixf_go hS (L:=l.length) rfl (by omega) he (hh:=⟨_,_,_⟩) (w:=w) ?_ ?_ ?_ ?_ l.length 0 _ _ _ _ (by omega) (fun j y a _=>by omega) (Nat.le_refl _)
 · exact ft_
 · dsimp only;simp (disch:=omega) [zA1]
 · intro v1 v3 v5 v6 n' k x hx hw _ hn'
   dsimp only at hn'
   subst hw
   rw [get_at hs hx] at hk
   obtain ⟨c,q1,r1⟩:=he.at hx
   have hA:=r1
   obtain ⟨A,rfl,pA⟩:=hS _ _ r1
   have m1:=zAq q1
   have hkl:(k:Int)<(l.length:Int):=by have:=(List.getElem?_eq_some_iff.1 hx).1;omega
   have hk0:¬ (k:Int)<0:=by omega
   have T1:=hV x (List.mem_of_getElem? hx) rfl A hA
   refine pq_ pA fun pB=>?_
   have hZ:=j8_ hX l1 pX q1 m1 hkl hk0 pB
   repeat (first
    | refine vk_ ?_
    | (refine rk_ ?_;refine ⟨rfl,?_⟩)
    | (refine pr_ T1 fun v1 n1 R1 g1=>?_;have pG:=R1.p;refine pq_ pG fun hP=>?_;have hZ:=And.intro hZ hP;refine ⟨hP.1,?_⟩))
   refine rk_ ?_
   refine hk _ _ ⟨_,rfl,R1⟩ ?_;exact om_
 · intro hh v1 v3 v5 v6 n' hn'
   dsimp only at hn'
   rw [get_no fun x hx=>by
    obtain ⟨j,hj,e⟩:=List.getElem_of_mem hx
    exact hh j x hj (by rw [← e];exact List.getElem?_eq_getElem hj)] at hk
   repeat (first
    | refine vk_ ?_
    | (refine rk_ ?_;refine ⟨rfl,?_⟩))
   refine rk_ ?_
   refine hk _ _ rfl ?_;exact om_
def cmpZ (a b:Int):Int:=if a<b then -1 else if b<a then 1 else 0
theorem cmpI_F (a b:Int):Pe 88 [.int .i64 a,.int .i64 b] (.int .i64 (cmpZ a b)):=by
 intro h hf K hk
 obtain ⟨hu,hut,hX⟩:=fx4 hf
 unfold cmpZ at hk
 rcases Int.lt_trichotomy a b with g | g | g
 · rw [if_pos g] at hk
   refine mk_ 88 c88 (s_ ?_)
   have hZ:=j2_ hX g
   repeat (first
    | refine vk_ ?_
    | (refine mk_ 119 c119 (s_ ?_))
    | (refine rk_ ?_;refine ⟨rfl,?_⟩))
   refine rk_ ?_
   refine hk _ ?_;exact om_
 · subst g
   rw [if_neg (Int.lt_irrefl a),if_neg (Int.lt_irrefl a)] at hk
   have g:=Int.lt_irrefl a
   refine mk_ 88 c88 (s_ ?_)
   have hZ:=j2_ hX g
   repeat (first
    | refine vk_ ?_
    | (refine mk_ 119 c119 (s_ ?_))
    | (refine rk_ ?_;refine ⟨rfl,?_⟩))
   refine rk_ ?_
   refine hk _ ?_;exact om_
 · have g2:¬ a<b:=by omega
   rw [if_neg g2,if_pos g] at hk
   refine mk_ 88 c88 (s_ ?_)
   have hZ:=j3_ hX g g2
   repeat (first
    | refine vk_ ?_
    | (refine mk_ 119 c119 (s_ ?_))
    | (refine rk_ ?_;refine ⟨rfl,?_⟩))
   refine rk_ ?_
   refine hk _ ?_;exact om_
theorem put1_F (k w:Int) {A:CVal} (pA:PV1 A):Pe 87 [.agg [.int .i64 k,A],.int .i64 w] (.int .i64 (cmpZ k w)):=by
 intro h hf K hk
 obtain ⟨hu,hut,hX⟩:=fx4 hf
 refine pq_ pA fun pF=>?_
 have C:=cmpI_F k w
 generalize cmpZ k w=z at *
 refine mk_ 87 c87 (s_ ?_)
 have hZ:=j2_ hX pF
 repeat (first
  | refine vk_ ?_
  | (refine pe_ (C) fun n1 hn1=>⟨rfl,?_⟩))
 refine rk_ ?_
 refine hk _ ?_;exact om_
def posN {β:Type} (w:Nat) (l:List (Nat × β)):Nat:=(l.takeWhile fun x=>decide (x.1<w)).length
theorem zIs {β:Type} (w:Nat) (l:List (Nat × β)):posN w l≤l.length:=by
 unfold posN
 exact (List.takeWhile_prefix _).length_le
theorem zJ7 {β:Type} {w:Nat}:∀ {l:List (Nat × β)},SL.Srt nltB l→∀ {k:Nat} {x:Nat × β},l[k]? = some x→(x.1<w ↔ k<posN w l)
 | (a,y)::l,h,k,x,e=>by
  have ih:=fun k x=>zJ7 (w:=w) (l:=l) h.2 (k:=k) (x:=x)
  unfold posN at *
  by_cases g:a<w
  · rw [List.takeWhile_cons_of_pos (by simpa using g)]
    cases k with
    | zero=>cases e;simp [g]
    | succ k=>rw [ih k x e];simp
  · rw [List.takeWhile_cons_of_neg (by simpa using g)]
    have:¬ x.1<w:=by
     cases k with
     | zero=>cases e;exact g
     | succ k =>
      have h1:nltB a x.1=true:=h.1 x (List.mem_of_getElem? (show l[k]? = some x from e))
      simp [nltB] at h1
      omega
    simp [this]
theorem bsf_go {β:Type} {R:Nat × β→CVal→Prop} (hS:ShF R) {l:List (Nat × β)} (hs:SL.Srt nltB l) {es:List CVal} {L:Nat} (hl:l.length=L) (hL:L≤1000000) (hE:All2 R l es) {w:Nat} {t:Tag} {hh:CHeap} (hf:Fit hh) {Q:QT}
    (hk:∀ (v4 v6 v8:CVal) n',hh.next≤n'→Q (.exit 0) ⟨[.imm t 2 es,.int .i64 (L:Nat),.int .i64 (posN w l:Nat),.int .i64 (posN w l:Nat),v4,.fn (.func 87) [] [],v6,.int .i64 (w:Nat),v8,.int .i64 0,.bool false],⟨hh.ents,n',hh.tys⟩,[]⟩) :
    ∀ (m i j nx:Nat) (v4 v6 v8:CVal),j - i≤m→i≤posN w l→posN w l≤j→j≤L→hh.next≤nx→W tree.getF bsfL ⟨[.imm t 2 es,.int .i64 (L:Nat),.int .i64 (i:Nat),.int .i64 (j:Nat),v4,.fn (.func 87) [] [],v6,.int .i64 (w:Nat),v8,.int .i64 0,.bool false],⟨hh.ents,nx,hh.tys⟩,[]⟩ Q:=by
 have end_:∀ (nx:Nat) (v4 v6 v8:CVal),hh.next≤nx→W tree.getF bsfL ⟨[.imm t 2 es,.int .i64 (L:Nat),.int .i64 (posN w l:Nat),.int .i64 (posN w l:Nat),v4,.fn (.func 87) [] [],v6,.int .i64 (w:Nat),v8,.int .i64 0,.bool false],⟨hh.ents,nx,hh.tys⟩,[]⟩ Q:=by
  intro nx v4 v6 v8 e1
  refine W.loop ?_
  try refine w0_ ?_
  refine hk _ _ _ _ ?_;exact om_
 intro m
 induction m with
 | zero =>
  intro i j nx v4 v6 v8 h1 h2 h3 h4 h5
  obtain rfl:i=posN w l:=by omega
  obtain rfl:j=posN w l:=by omega
  exact end_ nx v4 v6 v8 h5
 | succ m ih =>
  intro i j nx v4 v6 v8 h1 h2 h3 h4 h5
  rcases Nat.lt_or_ge i j with g | g
  · obtain ⟨hu,hut,hX⟩:=fx4 (show Fit ⟨hh.ents,nx,hh.tys⟩ from ⟨hf.1.le h5,hf.2.le h5⟩)
    dsimp only at hX hu hut
    obtain ⟨p,hp⟩:∃ p,(i+j) / 2=p:=⟨_,rfl⟩
    have hpl:p<L:=by omega
    have hlen:=hE.len
    have hlr:es.length=L:=by omega
    obtain ⟨x,hx⟩:∃ x,l[p]? = some x:=⟨_,List.getElem?_eq_getElem (by omega)⟩
    obtain ⟨c,q1,r1⟩:=hE.at hx
    obtain ⟨A,rfl,pA⟩:=hS x c r1
    have m1:=zAq q1
    have C:=put1_F (x.1:Int) (w:Int) pA
    have hlt:=zJ7 (w:=w) hs hx
    refine pq_ pA fun pF=>?_
    have hdl:(i:Int)<(j:Int):=by omega
    have hs1:((i:Int)+(j:Int)) / 2=(p:Int):=by omega
    have hs2:((i:Int)+(j:Int)).fdiv (2 ^ min 1 IntKind.u64.bits)=(p:Int):=by rw [show (2:Int) ^ min 1 IntKind.u64.bits=2 from rfl,Int.fdiv_eq_ediv_of_nonneg _ (by omega)];exact hs1
    have hml:(p:Int)<(L:Int):=by omega
    have hij0:0≤(i:Int)+(j:Int)∧(i:Int)+(j:Int)<2000000:=by omega
    have hm2:(p:Int).toNat=p:=by omega
    have hwu:∀ n:Int,0≤n→n<18446744073709551616→IntKind.u64.wrap n=n:=fun n h1 h2=>zB8 h1 h2
    by_cases hb:p<posN w l
    · have hc:cmpZ (x.1:Int) (w:Int)<0:=by unfold cmpZ;rw [if_pos (by omega)];omega
      generalize cmpZ (x.1:Int) (w:Int)=z at *
      refine W.loop ?_
      have hZ:=j13_ hX hlr q1 m1 pF hdl hs1 hs2 hml hij0 hm2 hc hwu
      repeat (first
       | refine vk_ ?_
       | (refine pe_ (C) fun n1 hn1=>⟨rfl,?_⟩))
      have ih1:=fun nx v4 v6 v8 (h:_≤nx)=>ih (p+1) j nx v4 v6 v8 (by omega) (by omega) h3 h4 h
      push_cast at ih1
      refine dx_ ?_
      refine ih1 _ _ _ _ ?_;exact om_
    · have hc:¬ cmpZ (x.1:Int) (w:Int)<0:=by unfold cmpZ;rw [if_neg (by omega)];split <;> omega
      generalize cmpZ (x.1:Int) (w:Int)=z at *
      refine W.loop ?_
      have hZ:=j13_ hX hlr q1 m1 pF hdl hs1 hs2 hml hij0 hm2 hc hwu
      repeat (first
       | refine vk_ ?_
       | (refine pe_ (C) fun n1 hn1=>⟨rfl,?_⟩))
      refine dx_ ?_
      refine ih i p _ _ _ _ (by omega) h2 (by omega) (by omega) ?_;exact om_
  · obtain rfl:i=posN w l:=by omega
    obtain rfl:j=posN w l:=by omega
    exact end_ nx v4 v6 v8 h5
theorem bsf_F {β:Type} {R:Nat × β→CVal→Prop} (hS:ShF R) {Z:Nat} (hz:Z≤1000000) {l:List (Nat × β)} (hs:SL.Srt nltB l) {X:CVal} (hx:LRep Z R 2 l X) (w:Nat) {is:Bool} (his:is=true ↔ ∃ x,l[posN w l]? = some x∧x.1=w):Pe 86 [X,.int .i64 (w:Nat),.fn (.func 87) [] []] (.tup [.int .i64 (posN w l:Nat),.bool is]):=by
 intro h hf K hk
 obtain ⟨hu,hut,hX⟩:=fx4 hf
 obtain ⟨hl,es,he,hx⟩:=hx
 have l1:=he.len
 rcases hx with ⟨rfl,rfl⟩ | ⟨t,ht,rfl⟩
 · obtain rfl:l=[]:=List.eq_nil_of_length_eq_zero l1.symm
   obtain rfl:is=false:=by cases is;rfl;obtain ⟨x,e,_⟩:=his.1 rfl;cases e
   have hp0:posN w ([]:List (Nat × β))=0:=rfl
   rw [hp0] at hk
   refine mk_ 86 c86 (s_ ?_)
   repeat (first
    | refine vx_ ?_
    | (refine dx_ ?_;refine W.loop ?_)
    | refine W.loop ?_)
   refine rx_ ?_
   refine hk _ ?_;exact om_
 have st1:(CVal.imm t 2 es).strip=.imm t 2 es:=by rcases ht with rfl | rfl <;> rfl
 refine mk_ 86 c86 (s_ ?_)
 have hZ:=j2_ hX l1
 repeat ((fail_if_success (show W tree.getF bsfL _ _));refine vk_ ?_)
 refine bsf_go hS hs (L:=l.length) rfl (by omega) he (hh:=⟨_,_,_⟩) ?_ ?_ l.length 0 l.length _ _ _ _ (by omega) (by omega) (zIs w l) (by omega) (by (try dsimp only);omega)
 · exact ft_
 · intro v4 v6 v8 n' g
   dsimp only at g
   by_cases hpl:posN w l<l.length
   · obtain ⟨x,hx⟩:∃ x,l[posN w l]? = some x:=⟨_,List.getElem?_eq_getElem hpl⟩
     obtain ⟨c,q1,r1⟩:=he.at hx
     obtain ⟨A,rfl,pA⟩:=hS x c r1
     have m1:=zAq q1
     have C:=put1_F (x.1:Int) (w:Int) pA
     have hge:¬ x.1<w:=fun a=>Nat.lt_irrefl _ ((zJ7 (w:=w) hs hx).1 a)
     refine pq_ pA fun pF=>?_
     have hml:(posN w l:Int)<(l.length:Int):=by omega
     have hzq:(cmpZ (x.1:Int) (w:Int) == 0)=is:=by
      rw [Bool.eq_iff_iff,his]
      unfold cmpZ
      rw [if_neg (by omega)]
      by_cases e:x.1=w
      · simp [e,hx]
      · rw [if_pos (by omega)];simp [hx,e]
     generalize cmpZ (x.1:Int) (w:Int)=z at *
     generalize posN w l=pz at *
     have hZ:=j7_ hX l1 q1 m1 pF hml hzq
     repeat (first
      | refine vk_ ?_
      | (refine pe_ (C) fun n1 hn1=>⟨rfl,?_⟩))
     refine rk_ ?_
     refine hk _ ?_;exact om_
   · obtain rfl:is=false:=by
      cases is;rfl
      obtain ⟨x,e,_⟩:=his.1 rfl
      have:=(List.getElem?_eq_some_iff.1 e).1;omega
     have hml:¬ (posN w l:Int)<(l.length:Int):=by omega
     generalize posN w l=pz at *
     have hZ:=j3_ hX l1 hml
     repeat (first
      | refine vk_ ?_)
     refine rk_ ?_
     refine hk _ ?_;exact om_
variable {h:CHeap} {K:KT}
theorem in2_nil (x:CVal) (t:Tag) (hb:x.bare=x) (hf:Fit h) (hk:∀ n',h.next<n'→K (.ref h.next 0 2 0 1) ⟨(h.next,.row 0 [x])::h.ents,n',h.tys⟩):Wc tree.getF 90 [.nils,.int .i64 0,.imm t 2 [x]] h K:=by
 have hN:=zAe hf.1 (Nat.le_refl _)
 have hN2:=zBx hf.2 (Nat.le_refl _)
 refine Wc.primM (f:=90) (p:=zBd 2) (by kernel_rfl) ?_
 generalize e:zBd 2 _ _=r
 simp (disch:=omega) [zBd,hN,hN2,hb,-CVal.bare] at e
 subst e
 exact hk _ (by (try dsimp only);omega)
theorem in2_full (x:CVal) (t:Tag) (hb:x.bare=x) (hf:Fit h) (hk:∀ n',h.next<n'→K (.ref h.next 0 2 0 1) ⟨(h.next,.row 0 [x])::h.ents,n',h.tys⟩):Wc tree.getF 90 [.imm .full 2 [],.int .i64 0,.imm t 2 [x]] h K:=by
 have hN:=zAe hf.1 (Nat.le_refl _)
 have hN2:=zBx hf.2 (Nat.le_refl _)
 refine Wc.primM (f:=90) (p:=zBd 2) (by kernel_rfl) ?_
 generalize e:zBd 2 _ _=r
 simp (disch:=omega) [zBd,hN,hN2,hb,-CVal.bare] at e
 subst e
 exact hk _ (by (try dsimp only);omega)
theorem in2_ref {a va L:Nat} {es:List CVal} (i:Nat) (hL:es.length=L) (hi:i≤L) (hel:L≤1000000) (x:CVal) (t:Tag) (hb:x.bare=x) (hf:Fit h) (hg:zA1 h.ents a=some (.row va es)) (hty:zCz h.tys a=none) (hk:∀ n',h.next≤n'→K (.ref a (va+1) 2 0 (L+1)) ⟨zA2 h.ents a (.row (va+1) (es.take i++x::es.drop i)),n',h.tys⟩):Wc tree.getF 90 [.ref a va 2 0 L,.int .i64 (i:Int),.imm t 2 [x]] h K:=by
 subst hL
 have hi2:(i:Int).toNat=i:=by omega
 refine Wc.primM (f:=90) (p:=zBd 2) (by kernel_rfl) ?_
 generalize e:zBd 2 _ _=r
 rcases Nat.lt_or_ge i es.length with g | g
 · have g2:i≠es.length:=by omega
   have htk:List.take es.length es=es:=List.take_length
   simp (disch:=omega) [zBd,hg,hty,hi2,g,g2,htk,hb,-CVal.bare] at e
   subst e
   exact hk _ (by (try dsimp only);omega)
 · have g2:i=es.length:=by omega
   subst g2
   have htk:List.take es.length es=es:=List.take_length
   simp (disch:=omega) [zBd,hg,hty,hi2,htk,hb,-CVal.bare] at e
   subst e
   have:=hk (h.next+1) (by omega)
   rw [List.take_length,List.drop_length] at this
   exact this
theorem in4_nil (x y:CVal) (t:Tag) (hb:x.bare=x) (hb2:y.bare=y) (hf:Fit h) (hk:∀ n',h.next<n'→K (.ref h.next 0 4 0 2) ⟨(h.next,.row 0 [x,y])::h.ents,n',h.tys⟩):Wc tree.getF 123 [.nils,.int .i64 0,.imm t 4 [x,y]] h K:=by
 have hN:=zAe hf.1 (Nat.le_refl _)
 have hN2:=zBx hf.2 (Nat.le_refl _)
 refine Wc.primM (f:=123) (p:=zBd 4) (by kernel_rfl) ?_
 generalize e:zBd 4 _ _=r
 simp (disch:=omega) [zBd,hN,hN2,hb,hb2,-CVal.bare] at e
 subst e
 exact hk _ (by (try dsimp only);omega)
theorem in4_full (x y:CVal) (t:Tag) (hb:x.bare=x) (hb2:y.bare=y) (hf:Fit h) (hk:∀ n',h.next<n'→K (.ref h.next 0 4 0 2) ⟨(h.next,.row 0 [x,y])::h.ents,n',h.tys⟩):Wc tree.getF 123 [.imm .full 4 [],.int .i64 0,.imm t 4 [x,y]] h K:=by
 have hN:=zAe hf.1 (Nat.le_refl _)
 have hN2:=zBx hf.2 (Nat.le_refl _)
 refine Wc.primM (f:=123) (p:=zBd 4) (by kernel_rfl) ?_
 generalize e:zBd 4 _ _=r
 simp (disch:=omega) [zBd,hN,hN2,hb,hb2,-CVal.bare] at e
 subst e
 exact hk _ (by (try dsimp only);omega)
theorem in4_ref {a va L:Nat} {es:List CVal} (i:Nat) (hL:es.length=L) (hi:i≤L) (hel:L≤1000000) (x y:CVal) (t:Tag) (hb:x.bare=x) (hb2:y.bare=y) (hf:Fit h) (hg:zA1 h.ents a=some (.row va es)) (hty:zCz h.tys a=none) (hk:∀ n',h.next≤n'→K (.ref a (va+1) 4 0 (L+2)) ⟨zA2 h.ents a (.row (va+1) (es.take i++x::y::es.drop i)),n',h.tys⟩):Wc tree.getF 123 [.ref a va 4 0 L,.int .i64 (i:Int),.imm t 4 [x,y]] h K:=by
 subst hL
 have hi2:(i:Int).toNat=i:=by omega
 refine Wc.primM (f:=123) (p:=zBd 4) (by kernel_rfl) ?_
 generalize e:zBd 4 _ _=r
 rcases Nat.lt_or_ge i es.length with g | g
 · have g2:i≠es.length:=by omega
   have htk:List.take es.length es=es:=List.take_length
   simp (disch:=omega) [zBd,hg,hty,hi2,g,g2,htk,hb,hb2,-CVal.bare] at e
   subst e
   exact hk _ (by (try dsimp only);omega)
 · have g2:i=es.length:=by omega
   subst g2
   have htk:List.take es.length es=es:=List.take_length
   simp (disch:=omega) [zBd,hg,hty,hi2,htk,hb,hb2,-CVal.bare] at e
   subst e
   have:=hk (h.next+1) (by omega)
   rw [List.take_length,List.drop_length] at this
   exact this
theorem put_pos {V:Type} {w:Nat} {v:V}:∀ {l:List (Nat × V)},SL.Srt nltB l→(∀ x,l[posN w l]? = some x→x.1≠w)→SL.put nltB w v l=l.take (posN w l)++(w,v)::l.drop (posN w l)
 | [],_,_=>rfl
 | (a,y)::l,hs,hn=>by
  unfold posN at *
  by_cases g:a<w
  · rw [List.takeWhile_cons_of_pos (by simpa using g)] at hn ⊢
    have ih:=put_pos (w:=w) (v:=v) (l:=l) hs.2 fun x hx=>hn x (by unfold posN at hx;simpa using hx)
    unfold posN at ih
    simp only [SL.put,nltB,g,decide_true,if_true,ih,List.length_cons,List.take_succ_cons,List.drop_succ_cons,List.cons_append]
  · rw [List.takeWhile_cons_of_neg (by simpa using g)] at hn ⊢
    have g2:w<a:=by have:=hn (a,y) rfl;dsimp only at this;omega
    simp [SL.put,nltB,g,g2]
theorem put_set {V:Type} {w:Nat} {v:V}:∀ {l:List (Nat × V)},SL.Srt nltB l→∀ {x:Nat × V},l[posN w l]? = some x→x.1=w→SL.put nltB w v l=l.set (posN w l) (w,v)
 | [],_,x,e,_=>by cases e
 | (a,y)::l,hs,x,e,ex=>by
  unfold posN at *
  by_cases g:a<w
  · rw [List.takeWhile_cons_of_pos (by simpa using g)] at e ⊢
    have ih:=put_set (w:=w) (v:=v) (l:=l) hs.2 (x:=x) (by unfold posN;simpa using e) ex
    unfold posN at ih
    simp only [SL.put,nltB,g,decide_true,if_true,ih,List.length_cons,List.set_cons_succ]
  · rw [List.takeWhile_cons_of_neg (by simpa using g)] at e ⊢
    cases e
    dsimp only at ex
    subst ex
    simp [SL.put,nltB]
theorem put_F {β:Type} {R:Nat × β→CVal→Prop} (hS:ShF R) {Z:Nat} (hz:Z≤900000) {l:List (Nat × β)} (hs:SL.Srt nltB l) {X V:CVal} (hx:LRep Z R 2 l X) {w:Nat} {y:β} {t1:Tag} {vs:List CVal} (hV:V=.imm t1 4 vs) (ht1:zJr t1) (hvs:0<vs.length∧vs.length≤2000000) (hy:R (w,y) (.agg [.int .i64 (w:Nat),V])):PuR 39 [X,.int .i64 (w:Nat),V] (LRep (Z+1) R 2 (SL.put nltB w y l)):=by
 intro h hf K hk
 obtain ⟨hu,hut,hX⟩:=fx4 hf
 have hst1:(CVal.imm t1 4 vs).strip=.imm t1 4 vs:=by rcases ht1 with rfl | rfl <;> rfl
 simp only [CVal.strip] at hst1
 have hbV:(CVal.agg [.int .i64 (w:Nat),V]).bare=.agg [.int .i64 (w:Nat),V]:=by
  obtain ⟨A,e,p⟩:=hS _ _ hy
  rw [e];exact zGw p
 have hB:=fun is his=>bsf_F hS (show Z≤1000000 by omega) hs hx w (is:=is) his
 obtain ⟨hl,es,he,hx⟩:=hx
 have l1:=he.len
 have hdA:∀ m,h.next≤m→zB6 h.ents m=h.ents:=fun m hm=>zBa (hu.le hm)
 obtain ⟨hv1,hv2⟩:=hvs
 have hv3:(0:Int)<(vs.length:Int):=by omega
 have hv4:((vs.length:Int) == 0)=false:=beq_eq_false_iff_ne.2 (by omega)
 have hv5:((vs.length:Int)=0)=False:=eq_false (by omega)
 subst hV
 have nl:∀ {t:Tag} {x:CVal},l=[]→R (w,y) x→zJr t→LRep (Z+1) R 2 (SL.put nltB w y l) (.imm t 2 [x]):=fun e hy ht=>by subst e;exact LRep.imm (.cons hy .nil) ht (by simp [SL.put])
 rcases hx with ⟨rfl,rfl⟩ | ⟨t,ht,rfl⟩
 · have e0:l=[]:=List.eq_nil_of_length_eq_zero l1.symm
   have B1:=hB false (by subst e0;simp)
   have p0:posN w l=0:=by subst e0;rfl
   rw [p0] at B1
   have HB:=@in2_nil
   refine mk_ 39 c39 (s_ ?_)
   have hZ:=j6_ hX hdA hst1 hv3 hv4 hv5
   repeat (first
    | refine vk_ ?_
    | (refine pe_ (B1) fun n1 hn1=>⟨rfl,?_⟩)
    | (refine in2_nil _ _ hbV ft_ fun n1 g1=>⟨rfl,?_⟩;(try dsimp only at g1))
    | (refine mk_ 83 c83 (s_ ?_))
    | (refine rk_ ?_;refine ⟨rfl,?_⟩))
   refine rk_ ?_
   refine hk _ _ (nl e0 hy (.inl rfl)) ?_;exact om_
 cases es with
 | nil =>
  have e0:l=[]:=List.eq_nil_of_length_eq_zero l1.symm
  have B1:=hB false (by subst e0;simp)
  have p0:posN w l=0:=by subst e0;rfl
  rw [p0] at B1
  rcases ht with rfl | rfl
  all_goals
   refine mk_ 39 c39 (s_ ?_)
   have hZ:=j6_ hX hdA hst1 hv3 hv4 hv5
   repeat (first
    | refine vk_ ?_
    | (refine pe_ (B1) fun n1 hn1=>⟨rfl,?_⟩)
    | (refine in2_full _ _ hbV ft_ fun n1 g1=>⟨rfl,?_⟩;(try dsimp only at g1))
    | (refine mk_ 83 c83 (s_ ?_))
    | (refine rk_ ?_;refine ⟨rfl,?_⟩))
   refine rk_ ?_
   refine hk _ _ (nl e0 hy (.inl rfl)) ?_;exact om_
 | cons e1 e2 =>
  obtain ⟨L,hLL⟩:∃ L,l.length=L:=⟨_,rfl⟩
  have l2:=l1.trans hLL
  have hL6:L≤900000:=by omega
  have hne2:e2.length+1=L:=by simpa using l2
  have hne:(e2.length:Int)+1=(L:Int):=by omega
  have hsm:e2.length+1≤1073741824:=by omega
  have h1:1≤L:=by omega
  have hBare:∀ x ∈ l,∀ c,R x c→c.bare=c:=fun x hx c hc=>by
   obtain ⟨A,rfl,p⟩:=hS x c hc
   exact zGw p
  have he0:=he
  have hpl:=zIs w l
  rw [hLL] at hpl
  have hps:=@put_pos β w y l hs
  have hst0:=@put_set β w y l hs
  generalize SL.put nltB w y l=pl at *
  cases he with
  | cons r0 he' =>
  rename_i x0 l0
  obtain ⟨A0,rfl,p0⟩:=hS x0 _ r0
  have hB2:=zCp he' fun x hx c h=>hBare x (by simp [hx]) c h
  have hst:(CVal.imm t 2 (.agg [.int .i64 (x0.1:Nat),A0]::e2)).strip=.imm t 2 (.agg [.int .i64 (x0.1:Nat),A0]::e2):=by rcases ht with rfl | rfl <;> rfl
  simp only [CVal.strip] at hst
  refine pq_ p0 fun p0=>?_
  by_cases hin:∃ x,(x0::l0)[posN w (x0::l0)]? = some x∧x.1=w
  · have B1:=hB true (by simp [hin])
    obtain ⟨x,hx,hxw⟩:=hin
    have hpl2:posN w (x0::l0)<L:=by have:=(List.getElem?_eq_some_iff.1 hx).1;rw [hLL] at this;exact this
    obtain ⟨cc,q1,r1⟩:=he0.at hx
    obtain ⟨A1,rfl,p1⟩:=hS x _ r1
    have m1:=zAq q1
    have hres:LRep (Z+1) R 2 pl (.imm .none 2 ((CVal.agg [.int .i64 (x0.1:Nat),A0]::e2).set (posN w (x0::l0)) (.agg [.int .i64 (w:Nat),.imm t1 4 vs]))):=by
     rw [hst0 hx hxw]
     refine LRep.imm (he0.set _ hy) (.inl rfl) ?_
     rw [List.length_set];omega
    generalize posN w (x0::l0)=pz at *
    have hp3:(pz:Int)<(L:Int):=by omega
    have hp4:pz<e2.length+1:=by omega
    have hsn:∀ x,zBv (CVal.agg [.int .i64 (x0.1:Nat),A0]::e2) pz x=(CVal.agg [.int .i64 (x0.1:Nat),A0]::e2).set pz x:=fun x=>zEm _ _ _
    have hlS:∀ x,((CVal.agg [.int .i64 (x0.1:Nat),A0]::e2).set pz x).length=L:=fun x=>by rw [List.length_set];simpa using l2
    have htS:∀ x,List.take L ((CVal.agg [.int .i64 (x0.1:Nat),A0]::e2).set pz x)=(CVal.agg [.int .i64 (x0.1:Nat),A0]::e2).set pz x:=fun x=>List.take_of_length_le (by rw [hlS];omega)
    refine mk_ 39 c39 (s_ ?_)
    have hZ:=j19_ hX hdA hst1 hv3 hv4 hv5 hne hne2 hsm hst hB2 p0 hp3 hp4 q1 m1 hsn hlS htS
    repeat (first
     | refine vk_ ?_
     | (refine pe_ (B1) fun n1 hn1=>⟨rfl,?_⟩)
     | (refine mk_ 83 c83 (s_ ?_))
     | (refine rk_ ?_;refine ⟨rfl,?_⟩))
    refine rk_ ?_
    refine hk _ _ hres ?_;exact om_
  · have B1:=hB false (by simp [hin])
    have hpos:=hps fun x hx e=>hin ⟨x,hx,e⟩
    have hres:LRep (Z+1) R 2 pl (.imm .none 2 ((CVal.agg [.int .i64 (x0.1:Nat),A0]::e2).take (posN w (x0::l0))++.agg [.int .i64 (w:Nat),.imm t1 4 vs]::(CVal.agg [.int .i64 (x0.1:Nat),A0]::e2).drop (posN w (x0::l0)))):=by
     rw [hpos]
     refine LRep.imm ((he0.take _).app (.cons hy (he0.drop _))) (.inl rfl) ?_
     have:=congrArg List.length (List.take_append_drop (posN w (x0::l0)) (x0::l0))
     rw [List.length_append] at this
     rw [List.length_append,List.length_cons]
     omega
    have hlS:((CVal.agg [.int .i64 (x0.1:Nat),A0]::e2).take (posN w (x0::l0))++.agg [.int .i64 (w:Nat),.imm t1 4 vs]::(CVal.agg [.int .i64 (x0.1:Nat),A0]::e2).drop (posN w (x0::l0))).length=L+1:=by
     rw [List.length_append,List.length_cons,List.length_take,List.length_drop]
     simp only [List.length_cons]
     omega
    generalize posN w (x0::l0)=pz at *
    generalize hes:(CVal.agg [.int .i64 (x0.1:Nat),A0]::e2).take pz++.agg [.int .i64 (w:Nat),.imm t1 4 vs]::(CVal.agg [.int .i64 (x0.1:Nat),A0]::e2).drop pz=rs at *
    have htS:List.take (L+1) rs=rs:=List.take_of_length_le (by omega)
    have hnl:∀ q,h.next≤q→zCz h.tys q=none:=hX.2.2.2
    refine mk_ 39 c39 (s_ ?_)
    have hZ:=j14_ hX hdA hst1 hv3 hv4 hv5 hne hne2 hsm hst hB2 p0 htS hlS
    repeat (first
     | refine vk_ ?_
     | (refine pe_ (B1) fun n1 hn1=>⟨rfl,?_⟩)
     | (refine in2_ref (es:=.agg [.int .i64 (x0.1:Nat),A0]::e2) pz l2 hpl (by omega) _ _ hbV ft_ (by simp (disch:=omega) [zA1]) (by dsimp only;exact hnl _ (by omega)) fun n1 g1=>⟨rfl,?_⟩;rw [hes];simp (disch:=omega) only [zA2];(try dsimp only at g1))
     | (refine mk_ 83 c83 (s_ ?_))
     | (refine rk_ ?_;refine ⟨rfl,?_⟩))
    refine rk_ ?_
    refine hk _ _ hres ?_;exact om_
theorem vm_I {a b:BD} (hl:a.rs.length≤100):Pe 29 [schV a b,.str [97,46,73]] (.tup [mgV [97,46,73] a,.bool true]):=by
 intro h hf K hk
 obtain ⟨hu,hut,hX⟩:=fx4 hf
 have PsA:=lV8P (zAi a.rs)
 have PsB:=lV8P (zAi b.rs)
 have PoA:=oV1P (!a.os.isEmpty)
 have PoB:=oV1P (!b.os.isEmpty)
 have CU:=(PsA).u
 have C8:=cl8_F (zAi a.rs) (by rw [zC8];exact hl)
 have PoAo:=oV2 (!a.os.isEmpty)
 have PoBo:=oV2 (!b.os.isEmpty)
 unfold schV mgV
 unfold mgV at hk
 unfold oV1 at *
 generalize (if (!a.os.isEmpty)=true then CVal.imm .none 1 [.str [99]] else .nils)=oA at *
 generalize (if (!b.os.isEmpty)=true then CVal.imm .none 1 [.str [99]] else .nils)=oB at *
 generalize lV8 (zAi a.rs)=sA at *
 generalize lV8 (zAi b.rs)=sB at *
 have oA0:oA.beq oA=true:=zAf _
 obtain ⟨oA1,oA2,oA3,oA4,oA5⟩:=PoA
 have oB0:oB.beq oB=true:=zAf _
 obtain ⟨oB1,oB2,oB3,oB4,oB5⟩:=PoB
 have sA0:sA.beq sA=true:=zAf _
 obtain ⟨sA1,sA2,sA3,sA4,sA5⟩:=PsA
 have sB0:sB.beq sB=true:=zAf _
 obtain ⟨sB1,sB2,sB3,sB4,sB5⟩:=PsB
 simp only [CVal.isUndef,CVal.whole,CVal.cells,CVal.strip,CVal.bare] at oA1 oA2 oA3 oA4 oA5 oB1 oB2 oB3 oB4 oB5 sA1 sA2 sA3 sA4 sA5 sB1 sB2 sB3 sB4 sB5
 rcases PoAo with rfl | rfl
 all_goals (
  refine mk_ 29 c29 (s_ ?_)
  have hZ:=j25_ hX oA0 oA1 oA2 oA3 oA4 oA5 oB0 oB1 oB2 oB3 oB4 oB5 sA0 sA1 sA2 sA3 sA4 sA5 sB0 sB1 sB2 sB3 sB4 sB5
  repeat (first
   | refine vk_ ?_
   | (refine W.loop ?_)
   | (show W tree.getF _ (dropped true _ _) _;generalize e:dropped _ _ _=r;simp (disch:=omega) [hX,oA0,oA1,oA2,oA3,oA4,oA5,oB0,oB1,oB2,oB3,oB4,oB5,sA0,sA1,sA2,sA3,sA4,sA5,sB0,sB1,sB2,sB3,sB4,sB5] at e;subst e;refine W.loop ?_)
   | (refine pe_ C8 fun n8 g8=>⟨CU,?_⟩)
   | (refine mk_ 63 c63 (s_ ?_))
   | (refine mk_ 64 c64 (s_ ?_))
   | (refine mk_ 66 c66 (s_ ?_))
   | (refine rk_ ?_;refine ⟨rfl,?_⟩))
  have hZ:=j25_ hX oA0 oA1 oA2 oA3 oA4 oA5 oB0 oB1 oB2 oB3 oB4 oB5 sA0 sA1 sA2 sA3 sA4 sA5 sB0 sB1 sB2 sB3 sB4 sB5
  refine rk_ ?_
  refine hk _ ?_;exact om_)
theorem vm_M {a b:BD} (hl:b.rs.length≤100):Pe 29 [schV a b,.str [97,46,77]] (.tup [mgV [97,46,77] b,.bool true]):=by
 intro h hf K hk
 obtain ⟨hu,hut,hX⟩:=fx4 hf
 have PsA:=lV8P (zAi a.rs)
 have PsB:=lV8P (zAi b.rs)
 have PoA:=oV1P (!a.os.isEmpty)
 have PoB:=oV1P (!b.os.isEmpty)
 have CU:=(PsB).u
 have C8:=cl8_F (zAi b.rs) (by rw [zC8];exact hl)
 have PoAo:=oV2 (!a.os.isEmpty)
 have PoBo:=oV2 (!b.os.isEmpty)
 unfold schV mgV
 unfold mgV at hk
 unfold oV1 at *
 generalize (if (!a.os.isEmpty)=true then CVal.imm .none 1 [.str [99]] else .nils)=oA at *
 generalize (if (!b.os.isEmpty)=true then CVal.imm .none 1 [.str [99]] else .nils)=oB at *
 generalize lV8 (zAi a.rs)=sA at *
 generalize lV8 (zAi b.rs)=sB at *
 have oA0:oA.beq oA=true:=zAf _
 obtain ⟨oA1,oA2,oA3,oA4,oA5⟩:=PoA
 have oB0:oB.beq oB=true:=zAf _
 obtain ⟨oB1,oB2,oB3,oB4,oB5⟩:=PoB
 have sA0:sA.beq sA=true:=zAf _
 obtain ⟨sA1,sA2,sA3,sA4,sA5⟩:=PsA
 have sB0:sB.beq sB=true:=zAf _
 obtain ⟨sB1,sB2,sB3,sB4,sB5⟩:=PsB
 simp only [CVal.isUndef,CVal.whole,CVal.cells,CVal.strip,CVal.bare] at oA1 oA2 oA3 oA4 oA5 oB1 oB2 oB3 oB4 oB5 sA1 sA2 sA3 sA4 sA5 sB1 sB2 sB3 sB4 sB5
 rcases PoBo with rfl | rfl
 all_goals (
  refine mk_ 29 c29 (s_ ?_)
  have hZ:=j25_ hX oA0 oA1 oA2 oA3 oA4 oA5 oB0 oB1 oB2 oB3 oB4 oB5 sA0 sA1 sA2 sA3 sA4 sA5 sB0 sB1 sB2 sB3 sB4 sB5
  repeat (first
   | refine vk_ ?_
   | (refine W.loop ?_)
   | (show W tree.getF _ (dropped true _ _) _;generalize e:dropped _ _ _=r;simp (disch:=omega) [hX,oA0,oA1,oA2,oA3,oA4,oA5,oB0,oB1,oB2,oB3,oB4,oB5,sA0,sA1,sA2,sA3,sA4,sA5,sB0,sB1,sB2,sB3,sB4,sB5] at e;subst e;refine W.loop ?_)
   | (refine pe_ C8 fun n8 g8=>⟨CU,?_⟩)
   | (refine mk_ 63 c63 (s_ ?_))
   | (refine mk_ 64 c64 (s_ ?_))
   | (refine mk_ 66 c66 (s_ ?_))
   | (refine rk_ ?_;refine ⟨rfl,?_⟩))
  have hZ:=j25_ hX oA0 oA1 oA2 oA3 oA4 oA5 oB0 oB1 oB2 oB3 oB4 oB5 sA0 sA1 sA2 sA3 sA4 sA5 sB0 sB1 sB2 sB3 sB4 sB5
  refine rk_ ?_
  refine hk _ ?_;exact om_)
theorem rm_I {a b:BD}:Pe 22 [schV a b,.str [97,46,73]] (.tup [mgV [97,46,73] a,.bool true]):=by
 intro h hf K hk
 obtain ⟨hu,hut,hX⟩:=fx4 hf
 unfold schV mgV at *
 have PsA:=lV8P (zAi a.rs)
 have PsB:=lV8P (zAi b.rs)
 have PoA:PV1 (oV1 (!a.os.isEmpty)):=oV1P _
 have PoB:PV1 (oV1 (!b.os.isEmpty)):=oV1P _
 generalize oV1 (!a.os.isEmpty)=oA at *
 generalize oV1 (!b.os.isEmpty)=oB at *
 generalize lV8 (zAi a.rs)=sA at *
 generalize lV8 (zAi b.rs)=sB at *
 obtain ⟨a1,a2,a3,a4,a5⟩:=PoA
 obtain ⟨b1,b2,b3,b4,b5⟩:=PoB
 obtain ⟨d1,d2,d3,d4,d5⟩:=PsA
 obtain ⟨e1,e2,e3,e4,e5⟩:=PsB
 simp only [CVal.isUndef,CVal.whole,CVal.cells,CVal.strip,CVal.bare] at a1 a2 a3 a4 a5 b1 b2 b3 b4 b5 d1 d2 d3 d4 d5 e1 e2 e3 e4 e5
 have hP:=j20_ a1 a2 a3 a4 a5 b1 b2 b3 b4 b5 d1 d2 d3 d4 d5 e1 e2 e3 e4 e5
 refine mk_ 22 c22 (s_ ?_)
 have hZ:=j2_ hX hP
 repeat (first
  | refine vk_ ?_
  | refine W.loop ?_
  | (refine dk_ ?_;refine W.loop ?_))
 refine rk_ ?_
 refine hk _ ?_;exact om_
theorem rm_M {a b:BD}:Pe 22 [schV a b,.str [97,46,77]] (.tup [mgV [97,46,77] b,.bool true]):=by
 intro h hf K hk
 obtain ⟨hu,hut,hX⟩:=fx4 hf
 unfold schV mgV at *
 have PsA:=lV8P (zAi a.rs)
 have PsB:=lV8P (zAi b.rs)
 have PoA:PV1 (oV1 (!a.os.isEmpty)):=oV1P _
 have PoB:PV1 (oV1 (!b.os.isEmpty)):=oV1P _
 generalize oV1 (!a.os.isEmpty)=oA at *
 generalize oV1 (!b.os.isEmpty)=oB at *
 generalize lV8 (zAi a.rs)=sA at *
 generalize lV8 (zAi b.rs)=sB at *
 obtain ⟨a1,a2,a3,a4,a5⟩:=PoA
 obtain ⟨b1,b2,b3,b4,b5⟩:=PoB
 obtain ⟨d1,d2,d3,d4,d5⟩:=PsA
 obtain ⟨e1,e2,e3,e4,e5⟩:=PsB
 simp only [CVal.isUndef,CVal.whole,CVal.cells,CVal.strip,CVal.bare] at a1 a2 a3 a4 a5 b1 b2 b3 b4 b5 d1 d2 d3 d4 d5 e1 e2 e3 e4 e5
 have hP:=j20_ a1 a2 a3 a4 a5 b1 b2 b3 b4 b5 d1 d2 d3 d4 d5 e1 e2 e3 e4 e5
 refine mk_ 22 c22 (s_ ?_)
 have hZ:=j2_ hX hP
 repeat (first
  | refine vk_ ?_
  | refine W.loop ?_
  | (refine dk_ ?_;refine W.loop ?_))
 refine rk_ ?_
 refine hk _ ?_;exact om_
def fRW (Ls:List RW) (k:Nat):Option RW:=Ls.find? fun x=>decide (x.num=k)
theorem fRW_at {Ls:List RW} (hd:(Ls.map RW.num).Nodup) {k:Nat} {x:RW} (hx:Ls[k]? = some x):fRW Ls x.num=some x:=by
 induction Ls generalizing k with
 | nil=>cases hx
 | cons y l ih =>
  rw [List.map_cons,List.nodup_cons] at hd
  unfold fRW
  cases k with
  | zero=>cases hx;simp
  | succ k =>
   have hm:=List.mem_of_getElem? (show l[k]? = some x from hx)
   have:¬ y.num=x.num:=fun e=>hd.1 (e ▸ List.mem_map_of_mem hm)
   rw [List.find?_cons_of_neg (by simpa using this)]
   exact ih hd.2 (show l[k]? = some x from hx)
theorem fRW_no {Ls:List RW} {w:Nat} (h:∀ (j:Nat) (y:RW),Ls[j]? = some y→y.num≠w):fRW Ls w=none:=by
 unfold fRW
 rw [List.find?_eq_none]
 intro x hx
 obtain ⟨j,hj,e⟩:=List.getElem_of_mem hx
 simpa using h j x (by rw [← e];exact List.getElem?_eq_getElem hj)
theorem zHp {Ls:List RW} {w:Nat} {x:RW} (h:fRW Ls w=some x):x ∈ Ls∧x.num=w:=by
 unfold fRW at h
 exact ⟨List.mem_of_find?_eq_some h,by simpa using List.find?_some h⟩
def FldR (o:Option RW):CVal:=match o with | some x=>.tup [x.pf,.bool true] | none=>.tup [zPF,.bool false]
theorem pFld_F {Ls:List RW} (hl:Ls.length≤100) (hd:(Ls.map RW.num).Nodup) (w:Nat) {n:B8} {O:CVal} (HO:PV1 O):Pe 31 [.agg [.str n,lV8 Ls,O],.int .i64 (w:Nat)] (FldR (fRW Ls w)) :=
 fd_F hl HO (fun k x hx hw => by obtain rfl : x.num = w := by omega
                                 rw [fRW_at hd hx];rfl) fun h=>by rw [fRW_no fun j y e q=>h j y e (by omega)];rfl
theorem ixr_go {β:Type} {R:Nat × β→CVal→Prop} (hS:ShF R) {l:List (Nat × β)} {rs:List CVal} {L:Nat} (hl:l.length=L) (hL:L≤1000000) (hR:All2 R l rs) {q g n0:Nat} {caps:List CVal} {p:Nat × β→Bool} {E:EE} {ty:NN} (hE:Under E n0) (hT:zAb ty n0) (hq:n0≤q) (HC:∀ x ∈ l,∀ c,R x c→∀ (h:CHeap) (K:KT),Fit h→(∀ b,b<n0→zA1 h.ents b=zA1 E b)→(∀ n',h.next≤n'→K (.bool (p x)) ⟨h.ents,n',h.tys⟩)→Wc tree.getF g (c::caps) h K) {Q:QT}
    (hyes:∀ (v1 v3 v5 v6:CVal) n' (k:Nat) x,l[k]? = some x→p x=true→(∀ j y,j<k→l[j]? = some y→p y=false)→q<n'→Q .ret ⟨[.ref q 0 2 0 L,v1,.int .i64 (L:Nat),v3,.fn (.func g) [] caps,v5,v6,.int .i64 (k:Nat)],⟨(q,.row 0 rs)::E,n',ty⟩,[]⟩)
    (hno:(∀ j y,j<L→l[j]? = some y→p y=false)→∀ (v1 v3 v5 v6:CVal) n',q<n'→Q (.exit 0) ⟨[.ref q 0 2 0 L,v1,.int .i64 (L:Nat),v3,.fn (.func g) [] caps,v5,v6,.int .i64 0],⟨(q,.row 0 rs)::E,n',ty⟩,[]⟩) :
    ∀ (m k nx:Nat) (v3 v5 v6:CVal),k+m=L→(∀ j y,j<k→l[j]? = some y→p y=false)→q<nx→W tree.getF ixrL ⟨[.ref q 0 2 0 L,.int .i64 (k:Nat),.int .i64 (L:Nat),v3,.fn (.func g) [] caps,v5,v6,.int .i64 0],⟨(q,.row 0 rs)::E,nx,ty⟩,[]⟩ Q:=by
 intro m
 induction m with
 | zero =>
  intro k nx v3 v5 v6 h1 h2 h3
  obtain rfl:k=L:=by omega
  refine W.loop ?_
  try refine w0_ ?_
  refine hno h2 _ _ _ _ _ ?_;exact om_
 | succ m ih =>
  intro k nx v3 v5 v6 h1 h2 h3
  have hu:=hE
  have hut:=hT
  have hlt:(k:Int)<(L:Int):=by omega
  have hlen:=hR.len
  have hlr:rs.length=L:=by omega
  obtain ⟨x,hx⟩:∃ x,l[k]? = some x:=⟨_,List.getElem?_eq_getElem (by omega)⟩
  obtain ⟨c,q1,r1⟩:=hR.at hx
  have H:=HC x (List.mem_of_getElem? hx) c r1
  obtain ⟨A,rfl,pA⟩:=hS x c r1
  have m1:=zAq q1
  have hD:∀ x m,nx≤m→zA7 ((q,CObj.row 0 x)::E) m=(q,CObj.row 0 x)::E:=fun x m hm=>zAc (Under.cons (by omega) (hE.le (by omega)))
  refine pq_ pA fun pF=>?_
  refine W.loop ?_
  cases he:p x with
  | true =>
   rw [he] at H
   have hZ:=j6_ hD hlt q1 m1 hlr pF
   repeat (first
    | refine vk_ ?_
    | (refine H _ _ ft_ (by intro b hb;dsimp only;repeat rw [zA6 (by omega)]) fun n1 g1=>⟨rfl,?_⟩;(try dsimp only at g1)))
   refine W.ret ?_
   simp only [zAn,zA5,zA8,zAg,reduceIte]
   refine hyes _ _ _ _ _ k x hx he h2 ?_;exact om_
  | false =>
   rw [he] at H
   have hZ:=j6_ hD hlt q1 m1 hlr pF
   repeat (first
    | refine vk_ ?_
    | (refine H _ _ ft_ (by intro b hb;dsimp only;repeat rw [zA6 (by omega)]) fun n1 g1=>⟨rfl,?_⟩;(try dsimp only at g1)))
   have ih1:=fun nx v3 v5 v6 (h:_<nx)=>ih (k+1) nx v3 v5 v6 (by omega) (fun j y a b=>by
    rcases Nat.lt_succ_iff_lt_or_eq.1 a with c | rfl
    · exact h2 j y c b
    · rw [hx] at b;cases b;exact he) h
   push_cast at ih1
   refine dk_ ?_
   refine ih1 _ _ _ _ ?_;exact om_
def Two (c:CVal):Prop:=∃ k A,c=.agg [.int .i64 k,A]∧PV1 A
theorem del_go {β:Type} {R:Nat × β→CVal→Prop} (hS:ShF R) {l:List (Nat × β)} {L:Nat} (hl:l.length=L) (hL:L≤1000000) {q g n0:Nat} {caps:List CVal} {p:Nat × β→Bool} {E:EE} {ty:NN} (hE:Under E n0) (hT:zAb ty n0) (hq:n0≤q) (HC:∀ x ∈ l,∀ c,R x c→∀ (h:CHeap) (K:KT),Fit h→(∀ b,b<n0→zA1 h.ents b=zA1 E b)→(∀ n',h.next≤n'→K (.bool (p x)) ⟨h.ents,n',h.tys⟩)→Wc tree.getF g (c::caps) h K) {Q:QT}
    (hk:∀ (v3 v5 v6 v7:CVal) (i n':Nat) (rs:List CVal),q<n'→rs.length=L→i≤L→All2 R (l.filter fun x=>!p x) (rs.take i)→Q (.exit 0) ⟨[.ref q 0 2 0 L,.fn (.func g) [] caps,.int .i64 (i:Nat),v3,.int .i64 (L:Nat),v5,v6,v7,.nils],⟨(q,.row 0 rs)::E,n',ty⟩,[]⟩) :
    ∀ (m i j nx:Nat) (rs:List CVal) (v3 v5 v6 v7:CVal),j+m=L→i≤j→rs.length=L→(∀ c ∈ rs,Two c)→All2 R ((l.take j).filter fun x=>!p x) (rs.take i)→All2 R (l.drop j) (rs.drop j)→q<nx→W tree.getF delL ⟨[.ref q 0 2 0 L,.fn (.func g) [] caps,.int .i64 (i:Nat),v3,.int .i64 (j:Nat),v5,v6,v7,.nils],⟨(q,.row 0 rs)::E,nx,ty⟩,[]⟩ Q:=by
 intro m
 induction m with
 | zero =>
  intro i j nx rs v3 v5 v6 v7 h1 h2 h3 h4 h5 h6 h7
  obtain rfl:j=L:=by omega
  rw [List.take_of_length_le (by omega)] at h5
  refine W.loop ?_
  try refine w0_ ?_
  refine hk _ _ _ _ i _ rs ?_ h3 h2 h5;exact om_
 | succ m ih =>
  intro i j nx rs v3 v5 v6 v7 h1 h2 h3 h4 h5 h6 h7
  have hu:=hE
  have hut:=hT
  have hlt:(j:Int)<(L:Int):=by omega
  obtain ⟨x,hx⟩:∃ x,l[j]? = some x:=⟨_,List.getElem?_eq_getElem (by omega)⟩
  obtain ⟨c,q0,r1⟩:=h6.at (i:=0) (x:=x) (by rw [List.getElem?_drop];exact hx)
  have q1:rs[j]? = some c:=by rw [List.getElem?_drop] at q0;exact q0
  have H:=HC x (List.mem_of_getElem? hx) c r1
  obtain ⟨A,rfl,pA⟩:=hS x c r1
  have m1:=zAq q1
  have hil:(i:Int)<(L:Int):=by omega
  have hdl:l.drop j=x::l.drop (j+1):=by
   have hjl:j<l.length:=(List.getElem?_eq_some_iff.1 hx).1
   rw [List.drop_eq_getElem_cons hjl]
   congr 1
   exact (List.getElem?_eq_some_iff.1 hx).2
  have hdr:∀ y k,k≤j→(rs.set k y).drop (j+1)=rs.drop (j+1):=fun y k hk=>List.drop_set_of_lt (by omega)
  have h6':All2 R (l.drop (j+1)) (rs.drop (j+1)):=by
   have:=h6.drop 1
   rw [List.drop_drop,List.drop_drop] at this
   exact this
  have htk:l.take (j+1)=l.take j++[x]:=by
   rw [List.take_add_one,hx];rfl
  obtain ⟨ki,Ai,q3,pAi⟩:∃ k A,rs[i]? = some (.agg [.int .i64 k,A])∧PV1 A:=by
   obtain ⟨k,A,e,pA⟩:=h4 (rs[i]'(by omega)) (List.getElem_mem _)
   exact ⟨k,A,by rw [List.getElem?_eq_getElem (by omega),e],pA⟩
  have m3:=zAq q3
  have hD:∀ x m,nx≤m→zA7 ((q,CObj.row 0 x)::E) m=(q,CObj.row 0 x)::E:=fun x m hm=>zAc (Under.cons (by omega) (hE.le (by omega)))
  have lqn:q<nx:=h7
  have hEn:∀ b,n0≤b→zA1 E b=none:=fun b hb=>zAe hE hb
  refine pq_ pA fun pF=>?_
  refine W.loop ?_
  cases he:p x with
  | true =>
   rw [he] at H
   have hZ:=j7_ hD hEn hlt q1 m1 h3 pF
   repeat (first
    | refine vk_ ?_
    | (refine H _ _ ft_ (by intro b hb;dsimp only;repeat rw [zA6 (by omega)]) fun n1 g1=>⟨rfl,?_⟩;(try dsimp only at g1)))
   have ih1:=fun nx v3 v5 v6 v7=>ih i (j+1) nx rs v3 v5 v6 v7 (by omega) (by omega) h3 h4 (by rw [htk,List.filter_append];simpa [he] using h5) h6'
   push_cast at ih1
   refine dk_ ?_
   refine ih1 _ _ _ _ _ ?_;exact om_
  | false =>
   rw [he] at H
   have hs2:∀ x,zBv rs i x=rs.set i x:=fun x=>zEm _ _ _
   have hZ:=j11_ hD hEn hlt q1 m1 h3 pF hil q3 m3 hs2
   repeat (first
    | refine vk_ ?_
    | (refine H _ _ ft_ (by intro b hb;dsimp only;repeat rw [zA6 (by omega)]) fun n1 g1=>⟨rfl,?_⟩;(try dsimp only at g1)))
   have ih1:=fun nx v3 v5 v6 v7=>ih (i+1) (j+1) nx (rs.set i (.agg [.int .i64 (x.1:Nat),A])) v3 v5 v6 v7 (by omega) (by omega) (by rw [List.length_set];exact h3) (fun c hc=>by
    rcases List.mem_or_eq_of_mem_set hc with h | rfl
    · exact h4 c h
    · exact ⟨_,_,rfl,pA⟩) (by
    rw [htk,List.filter_append,List.take_add_one,List.take_set_of_le (Nat.le_refl _)]
    have e1:(rs.set i (CVal.agg [.int .i64 (x.1:Nat),A]))[i]? = some (.agg [.int .i64 (x.1:Nat),A]):=by
     rw [List.getElem?_set_self (by omega)]
    rw [e1]
    refine h5.app ?_
    simp only [List.filter_cons,he,Bool.not_false,if_true,List.filter_nil,Option.toList_some]
    exact .cons r1 .nil) (by rw [hdr _ _ h2];exact h6')
   push_cast at ih1
   refine dk_ ?_
   refine ih1 _ _ _ _ _ ?_;exact om_
def woP (Ls:List RW) (fr:RW) (k:Nat):Bool:=match fRW Ls k with
 | some g=>decide (0<fr.oo) && (decide (g.oo=fr.oo) && !decide (g.num=fr.num))
 | none=>false
theorem wo1_F {Ls:List RW} (hl:Ls.length≤100) (hd:(Ls.map RW.num).Nodup) {n:B8} {O:CVal} (HO:PV1 O) {fr:RW} {k:Nat} {A:CVal} (pA:PV1 A) {bp bf:Nat} {h:CHeap} (hf:Fit h) (gp:zA1 h.ents bp=some (.cells [.str n,lV8 Ls,O])) (gf:zA1 h.ents bf=some (.cells fr.pf.cells)) {K:KT} (hk:∀ n',h.next≤n'→K (.bool (woP Ls fr k)) ⟨h.ents,n',h.tys⟩):Wc tree.getF 85 (.agg [.int .i64 (k:Nat),A]::[.ptr bp 49283075 0,.ptr bf 63963144 0]) h K:=by
 obtain ⟨hu,hut,hX⟩:=fx4 hf
 have lp:=zA3 hu gp
 have lf:=zA3 hu gf
 have F1:=pFld_F hl hd k (n:=n) HO
 have pL:=lV8P Ls
 unfold woP at hk
 unfold RW.pf at gf
 simp only [CVal.cells] at gf
 refine pq_ pA fun pF=>?_
 refine pq_ HO fun pO=>?_
 refine pq_ pL fun pV=>?_
 cases e:fRW Ls k with
 | none =>
  rw [e] at F1 hk
  simp only [FldR,zPF] at F1
  dsimp only at hk
  refine mk_ 85 c85 (s_ ?_)
  have hZ:=j6_ hX gp gf pF pO pV
  repeat (first
   | refine vk_ ?_
   | (refine pe_ (F1) fun n1 hn1=>⟨rfl,?_⟩))
  refine rk_ ?_
  refine hk _ ?_;exact om_
 | some g =>
  rw [e] at F1 hk
  simp only [FldR,RW.pf] at F1
  dsimp only at hk
  by_cases h1:0<fr.oo
  · have i1:(0:Int)<(fr.oo:Int):=by omega
    by_cases h2:g.oo=fr.oo
    · have i2:((g.oo:Int) == (fr.oo:Int))=true:=by simp [h2]
      by_cases h3:g.num=fr.num
      · have i3:((g.num:Int) != (fr.num:Int))=false:=by simp [h3]
        simp only [h1,h2,h3,decide_true,Bool.not_true,Bool.and_false] at hk
        refine mk_ 85 c85 (s_ ?_)
        have hZ:=j9_ hX gp gf pF pO pV i1 i2 i3
        repeat (first
         | refine vk_ ?_
         | (refine pe_ (F1) fun n1 hn1=>⟨rfl,?_⟩))
        refine rk_ ?_
        refine hk _ ?_;exact om_
      · have i3:((g.num:Int) != (fr.num:Int))=true:=bne_iff_ne.2 (by omega)
        simp only [h1,h2,h3,decide_true,decide_false,Bool.not_false,Bool.and_true] at hk
        refine mk_ 85 c85 (s_ ?_)
        have hZ:=j9_ hX gp gf pF pO pV i1 i2 i3
        repeat (first
         | refine vk_ ?_
         | (refine pe_ (F1) fun n1 hn1=>⟨rfl,?_⟩))
        refine rk_ ?_
        refine hk _ ?_;exact om_
    · have i2:((g.oo:Int) == (fr.oo:Int))=false:=beq_eq_false_iff_ne.2 (by omega)
      simp only [h1,h2,decide_true,decide_false,Bool.false_and,Bool.and_false] at hk
      refine mk_ 85 c85 (s_ ?_)
      have hZ:=j8_ hX gp gf pF pO pV i1 i2
      repeat (first
       | refine vk_ ?_
       | (refine pe_ (F1) fun n1 hn1=>⟨rfl,?_⟩))
      refine rk_ ?_
      refine hk _ ?_;exact om_
  · have i1:¬ (0:Int)<(fr.oo:Int):=by omega
    simp only [h1,decide_false,Bool.false_and] at hk
    refine mk_ 85 c85 (s_ ?_)
    have hZ:=j7_ hX gp gf pF pO pV i1
    repeat (first
     | refine vk_ ?_
     | (refine pe_ (F1) fun n1 hn1=>⟨rfl,?_⟩))
    refine rk_ ?_
    refine hk _ ?_;exact om_
theorem zJ5 {α:Type} {p:α→Bool} {l:List α} {k:Nat} (h:∀ j y,j<k→l[j]? = some y→p y=false):(l.take k).filter (fun x=>!p x)=l.take k:=by
 refine List.filter_eq_self.2 fun x hx=>?_
 obtain ⟨j,hj,e⟩:=List.getElem_of_mem hx
 rw [List.length_take] at hj
 have:=h j x (by omega) (by rw [← e,List.getElem_take,List.getElem?_eq_getElem])
 simp [this]
theorem wo_F {Ls:List RW} (hl:Ls.length≤100) (hd:(Ls.map RW.num).Nodup) {n:B8} {O:CVal} (HO:PV1 O) {fr:RW} {β:Type} {R:Nat × β→CVal→Prop} (hS:ShF R) {Z:Nat} (hz:Z≤1000000) {l:List (Nat × β)} {X:CVal} (hx:LRep Z R 2 l X):PuR 38 [.agg [.str n,lV8 Ls,O],X,fr.pf] (LRep Z R 2 (l.filter fun x=>!woP Ls fr x.1)):=by
 intro h hf K hk
 obtain ⟨hu,hut,hX⟩:=fx4 hf
 obtain ⟨hl2,es,he,hx⟩:=hx
 have l1:=he.len
 have hdA:∀ m,h.next≤m→zB6 h.ents m=h.ents:=fun m hm=>zBa (hu.le hm)
 have pL:=lV8P Ls
 refine pq_ HO fun pO=>?_
 refine pq_ pL fun pV=>?_
 have W1:=fun (k:Nat) (A:CVal) (pA:PV1 A)=>@wo1_F Ls hl hd n O HO fr k A pA
 unfold RW.pf at W1 ⊢
 simp only [CVal.cells] at W1
 rcases hx with ⟨rfl,rfl⟩ | ⟨t,ht,rfl⟩
 · have e0:l=[]:=List.eq_nil_of_length_eq_zero l1.symm
   rw [e0,List.filter_nil] at hk
   refine mk_ 38 c38 (s_ ?_)
   have hZ:=j4_ hX hdA pO pV
   repeat (first
    | refine vk_ ?_
    | (refine dk_ ?_;refine W.loop ?_)
    | refine W.loop ?_
    | (refine mk_ 83 c83 (s_ ?_))
    | (refine mk_ 84 c84 (s_ ?_))
    | (refine mk_ 45 c45 (s_ ?_))
    | (refine rk_ ?_;refine ⟨rfl,?_⟩))
   refine rk_ ?_
   refine hk _ _ LRep.nil ?_;exact om_
 cases es with
 | nil =>
  have e0:l=[]:=List.eq_nil_of_length_eq_zero l1.symm
  rw [e0,List.filter_nil] at hk
  rcases ht with rfl | rfl
  all_goals
   refine mk_ 38 c38 (s_ ?_)
   have hZ:=j4_ hX hdA pO pV
   repeat (first
    | refine vk_ ?_
    | (refine dk_ ?_;refine W.loop ?_)
    | refine W.loop ?_
    | (refine mk_ 83 c83 (s_ ?_))
    | (refine mk_ 84 c84 (s_ ?_))
    | (refine mk_ 45 c45 (s_ ?_))
    | (refine rk_ ?_;refine ⟨rfl,?_⟩))
   refine rk_ ?_
   refine hk _ _ (LRep.imm .nil (.inr rfl) (by simp)) ?_;exact om_
 | cons e1 e2 =>
  obtain ⟨L,hLL⟩:∃ L,l.length=L:=⟨_,rfl⟩
  have l2:=l1.trans hLL
  have hL6:L≤1000000:=by omega
  have hne2:e2.length+1=L:=by simpa using l2
  have hne:(e2.length:Int)+1=(L:Int):=by omega
  have hsm:e2.length+1≤1073741824:=by omega
  have h1:1≤L:=by omega
  have hBare:∀ x ∈ l,∀ c,R x c→c.bare=c:=fun x hx c hc=>by
   obtain ⟨A,rfl,p⟩:=hS x c hc
   exact zGw p
  have hTwo:∀ c ∈ e1::e2,Two c:=by
   intro c hc
   obtain ⟨j,hj,e⟩:=List.getElem_of_mem hc
   obtain ⟨x,hx⟩:∃ x,l[j]? = some x:=⟨_,List.getElem?_eq_getElem (by omega)⟩
   obtain ⟨d,q1,r1⟩:=he.at hx
   rw [List.getElem?_eq_getElem hj,e] at q1
   cases q1
   obtain ⟨A,rfl,p⟩:=hS x _ r1
   exact ⟨_,_,rfl,p⟩
  have hst:(CVal.imm t 2 (e1::e2)).strip=.imm t 2 (e1::e2):=by rcases ht with rfl | rfl <;> rfl
  simp only [CVal.strip] at hst
  have hB2:=zCp he hBare
  have hb1:e1.bare=e1:=by simpa using (List.cons.inj hB2).1
  have hb2:e2.map CVal.bare=e2:=(List.cons.inj hB2).2
  obtain ⟨k1,A1,rfl,pA1⟩:=hTwo e1 (by simp)
  refine pq_ pA1 fun p1=>?_
  have HC:∀ (bp bf n0:Nat) (E:EE),zA1 E bp=some (.cells [.str n,lV8 Ls,O])→zA1 E bf=some (.cells [.int .i64 fr.num,.str fr.nm,.int .i64 fr.lab,.int .i64 fr.kind,.str fr.ty,.int .i64 (zAz fr.key),.bool fr.pkd,.int .i64 fr.oo])→bp<n0→bf<n0→∀ x ∈ l,∀ c,R x c→∀ (h:CHeap) (K:KT),Fit h→(∀ b,b<n0→zA1 h.ents b=zA1 E b)→(∀ n',h.next≤n'→K (.bool (woP Ls fr x.1)) ⟨h.ents,n',h.tys⟩)→Wc tree.getF 85 (c::[.ptr bp 49283075 0,.ptr bf 63963144 0]) h K:=by
   intro bp bf n0 E gp gf hp hf x _ c hc h K hf' hb hk
   obtain ⟨A,rfl,pA⟩:=hS x c hc
   exact W1 x.1 A pA hf' ((hb _ hp).trans gp) ((hb _ hf).trans gf) hk
  have UE:∀ (E:EE) n0,Under E n0→∀ b,n0≤b→zA1 E b=none:=fun E n0 hE b hb=>zAe hE hb
  refine mk_ 38 c38 (s_ ?_)
  have hZ:=j9_ hX hne hne2 hsm hst hb2 p1 pO pV
  repeat ((fail_if_success (show W tree.getF ixrL _ _));first
   | refine vk_ ?_
   | (refine mk_ 84 c84 (s_ ?_))
   | (refine mk_ 45 c45 (s_ ?_))
   | (refine mk_ 83 c83 (s_ ?_))
   | (refine rk_ ?_;refine ⟨rfl,?_⟩))
  have hE0:∀ (m:Nat),h.next≤m→∀ x y,Under ((h.next+1,CObj.cells x)::(h.next,CObj.cells y)::h.ents) (h.next+2):=fun m hm x y=>Under.cons (by omega) (Under.cons (by omega) (hu.le (by omega)))
  have hT0:zAb h.tys (h.next+2):=hut.le (by omega)
  refine ixr_go hS hLL hL6 he (n0:=h.next+2) (p:=fun x=>woP Ls fr x.1) (hE0 h.next (Nat.le_refl _) _ _) hT0 (by omega) (HC h.next (h.next+1) (h.next+2) _ (by simp [zA1]) (by simp [zA1]) (by omega) (by omega)) ?_ ?_ L 0 _ _ _ _ (by omega) (fun j y a _=>by omega) (by omega)
  · intro v1 v3 v5 v6 n' k x hx hpx hno hn'
    have hkL:k<L:=by have:=(List.getElem?_eq_some_iff.1 hx).1;omega
    have hkm:((k:Int) == -1)=false:=beq_eq_false_iff_ne.2 (by omega)
    have hk2:((k:Int)=-1)=False:=eq_false (by omega)
    have hZ:=j11_ hX hne hne2 hsm hst hb2 p1 pO pV hkm hk2
    repeat ((fail_if_success (show W tree.getF delL _ _));first
     | refine vk_ ?_
     | (refine rk_ ?_;refine ⟨rfl,?_⟩))
    have hck:((k:Int)+1)=((k+1:Nat):Int):=by push_cast;rfl
    rw [hck]
    have hfl0:=zJ5 hno
    refine del_go hS hLL hL6 (p:=fun x=>woP Ls fr x.1) (hE0 h.next (Nat.le_refl _) _ _) hT0 (by omega) (HC h.next (h.next+1) (h.next+2) _ (by simp [zA1]) (by simp [zA1]) (by omega) (by omega)) ?_ (L - (k+1)) k (k+1) _ _ _ _ _ _ (by omega) (by omega) l2 hTwo ?_ (he.drop _) (by omega)
    · intro w3 w5 w6 w7 i n2 rs hn2 hrl hi hfin
      have hi2:(i:Int).toNat=i:=by omega
      have hi3:(i:Int)≤(L:Int):=by omega
      have hlf:(l.filter fun x=>!woP Ls fr x.1).length≤Z:=Nat.le_trans (List.length_filter_le _ _) hl2
      have htL:(rs.take i).length=i:=by rw [List.length_take];omega
      have hclr:∀ zs,zs.length=L - i→List.take i (setCells rs i zs)=rs.take i:=fun zs hz=>by unfold setCells;exact List.take_left' htL
      have hclL:∀ zs,zs.length=L - i→(setCells rs i zs).length=L:=fun zs hz=>by unfold setCells;rw [List.length_append,List.length_append,htL,List.length_drop];omega
      have hZ:=j8_ hX hdA hi2 hi3 hrl htL hclr hclL
      repeat (first
       | refine vk_ ?_
       | (refine rk_ ?_;refine ⟨rfl,?_⟩))
      refine rk_ ?_
      refine hk _ _ (LRep.imm hfin (.inl rfl) hlf) ?_;exact om_
    · have htk:l.take (k+1)=l.take k++[x]:=by rw [List.take_add_one,hx];rfl
      rw [htk,List.filter_append,hfl0]
      simp only [List.filter_cons,hpx,Bool.not_true,Bool.false_eq_true,if_false,List.filter_nil,List.append_nil]
      exact he.take k
  · intro hno v1 v3 v5 v6 n' hn'
    have hfl:l.filter (fun x=>!woP Ls fr x.1)=l:=by
     have:=zJ5 hno
     rwa [List.take_of_length_le (by omega)] at this
    rw [hfl] at hk
    have htk:List.take L (CVal.agg [.int .i64 k1,A1]::e2)=.agg [.int .i64 k1,A1]::e2:=List.take_of_length_le (by simp;omega)
    have hZ:=j12_ hX hdA hne hne2 hsm hst hb2 p1 pO pV htk l2
    repeat (first
     | refine vk_ ?_
     | (refine rk_ ?_;refine ⟨rfl,?_⟩))
    refine rk_ ?_
    refine hk _ _ (LRep.imm he (.inl rfl) hl2) ?_;exact om_
end Go.Proofs.YtafeofghkhhhkaaGreat.IrV
