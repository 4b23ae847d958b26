/- What the functions of the law 'PvalMerges' do: part 2 of 9. -/
import Derived.Test.YtafeofghkhhhkaaGreatLx1
namespace Go.Proofs.YtafeofghkhhhkaaGreat.IrM
open Go Go.CI
open Go.LexF hiding zLd zGw
set_option maxRecDepth 100000
set_option maxHeartbeats 4000000
set_option linter.unusedVariables false
set_option linter.unusedSimpArgs false
attribute [local irreducible] W Wo Wc WoR
theorem wd_t (s:B8) (hs:s.length<60000) (i:Nat) (x R:B8) (hx:∀ c ∈ x,c.toNat≠34/\c.toNat≠10/\c.toNat≠92) (hxl:x.length<=90) (VA:Pu TF 117 [.str x] (.bool true)) (hd:s.drop i=34::(x++34::R)) (t:Int) (h:CHeap) (p d:Nat) (hf:Fit h) (hg:zA1 h.ents p=some (lx s (i:Int) 0 t)) (hp:p<h.next) (K:KT) (hk:∀ n' ty,h.next<=n'->zA7 ty n'->K (.agg [.int .i64 3,.str x,.int .u64 0,.int .i64 (i:Int)]) ⟨zA2 h.ents p (lx s ((i+1+x.length+1:Nat):Int) 0 t),n',ty⟩):Wc TF 165 [.ptr p d 0] h K:=by
 obtain ⟨hu,hut,hX⟩:=fx4 hf
 have hY:=fx5 hf hg;have ⟨hG,hD2,hC2,hN2⟩:=hY
 have hc0:=zBc hd
 obtain ⟨hi,hce⟩:=gs_ hc0
 have LF:Pu TF 177 [.int .u8 34] (.bool false):=zBj 34
 have DF:Pu TF 179 [.int .u8 34] (.bool false):=zC5 34
 have hto:((i:Int)+1).toNat=i+1:=by omega
 refine mk_ 165 c165 (s_ ?_)
 have hZ:=j6_ hX hg hY hce hc0 hto
 repeat (first | refine wk_ ?_ | (refine LF _ ?_ _ fun n1 tyn1 hn1 hun1=>⟨rfl,?_⟩;exact fit_;(try dsimp only at hn1)) | (refine DF _ ?_ _ fun n1 tyn1 hn1 hun1=>⟨rfl,?_⟩;exact fit_;(try dsimp only at hn1)))
 refine tx_F s hs i x R hx hxl VA hd t _ p d ?_ ?_ ?_ _ (fun n1 ty1 h1 h2=>⟨rfl,?_⟩);exact fit_;exact ge_;exact om_;all_goals (try dsimp only at h1)
 obtain ⟨e9,he9⟩:∃ e9,i+1+x.length+1=e9:=⟨_,rfl⟩
 simp only [he9] at hk ⊢
 have hZ:=j6_ hX hg hY hce hc0 hto
 repeat (first | refine wk_ ?_)
 all_goals ((try refine W.ret ?_);(try simp only [zB3,zA9,zAo]);(first | refine endW.of (.inl rfl) rfl ?_ | refine endW.of (.inr rfl) rfl ?_);generalize e:zCa .. = r;simp (disch:=omega) [hX,hg,hY] at e;subst e;refine hk _ _ ?_ ?_;omega;exact ut_)
inductive TokOk:B8->Nat->B8->Nat->Bool->Prop
 | name {c:UInt8} {x:B8}:letB c=true->(∀ y ∈ x,letB y=true\/digB y=true)->TokOk (c::x) 1 (c::x) 0 false
 | num {c:UInt8} {x:B8}:c≠48->(∀ y ∈ c::x,digB y=true)->valF 10 0 (c::x)<100000->TokOk (c::x) 2 [] (valF 10 0 (c::x)) false
 | zero:TokOk [48] 2 [] 0 false
 | sign {c:UInt8}:(c=123\/c=125\/c=91\/c=93\/c=61\/c=59\/c=44\/c=60\/c=62\/c=45)->TokOk [c] 4 [c] 0 true
 | text {x:B8}:(∀ c ∈ x,c.toNat≠34/\c.toNat≠10/\c.toNat≠92)->x.length<=90->Pu TF 117 [.str x] (.bool true)->TokOk (34::(x++[34])) 3 x 0 true
theorem wd_F {x tx:B8} {k n:Nat} {fr:Bool} (Tk:TokOk x k tx n fr) (R:B8) (hR:fr=true\/Bk R) (s:B8) (hs:s.length<60000) (i:Nat) (hd:s.drop i=x++R) (t:Int) (h:CHeap) (p d:Nat) (hf:Fit h) (hg:zA1 h.ents p=some (lx s (i:Int) 0 t)) (hp:p<h.next) (K:KT) (hk:∀ n' ty,h.next<=n'->zA7 ty n'->K (.agg [.int .i64 (k:Int),.str tx,.int .u64 (n:Int),.int .i64 (i:Int)]) ⟨zA2 h.ents p (lx s ((i+x.length:Nat):Int) 0 t),n',ty⟩):Wc TF 165 [.ptr p d 0] h K:=by
 cases Tk with
 | @name c x h1 h2 =>
  refine zdd s hs i c x R hd h1 h2 (hR.resolve_left (by simp)) t h p d hf hg hp K fun n' ty g1 g2=>?_
  have:=hk n' ty g1 g2
  rwa [show i+(c::x).length=i+1+x.length by simp;omega] at this
 | @num c x h1 h2 h3=>exact wd_d s hs i c x h1 h2 h3 R (hR.resolve_left (by simp)) hd t h p d hf hg hp K hk
 | zero=>exact wd_0 s hs i R (hR.resolve_left (by simp)) hd t h p d hf hg hp K hk
 | @sign c hc =>
  rcases hc with rfl | rfl | rfl | rfl | rfl | rfl | rfl | rfl | rfl | rfl
  . exact zWk s hs i R hd t h p d hf hg hp K hk
  . exact zV7 s hs i R hd t h p d hf hg hp K hk
  . exact zYi s hs i R hd t h p d hf hg hp K hk
  . exact zXz s hs i R hd t h p d hf hg hp K hk
  . exact zX5 s hs i R hd t h p d hf hg hp K hk
  . exact zYq s hs i R hd t h p d hf hg hp K hk
  . exact zYb s hs i R hd t h p d hf hg hp K hk
  . exact zY9 s hs i R hd t h p d hf hg hp K hk
  . exact zXl s hs i R hd t h p d hf hg hp K hk
  . exact zXu s hs i R hd t h p d hf hg hp K hk
 | text h1 h2 h3 =>
  refine wd_t s hs i tx R h1 h2 h3 (by rw [hd];simp) t h p d hf hg hp K fun n' ty g1 g2=>?_
  have:=hk n' ty g1 g2
  rwa [show i+(34::(tx++[34])).length=i+1+tx.length+1 by simp;omega] at this
theorem TokOk.sp {x tx:B8} {k n:Nat} {fr:Bool} (Tk:TokOk x k tx n fr) (R:B8):Sp (x++R):=by
 intro b u e
 have LT:∀ y:UInt8,letB y=true\/digB y=true->32<y.toNat/\y.toNat≠47:=fun y hy=>by
  have:=zGz (p:=fun y=>!(letB y || digB y) || decide (32<y.toNat/\y.toNat≠47)) (by decide +kernel) y
  rcases hy with hy | hy <;> simpa [hy] using this
 cases Tk with
 | name h1 h2=>injection e with e1 _;exact e1 ▸ LT _ (.inl h1)
 | num h1 h2 h3=>injection e with e1 _;exact e1 ▸ LT _ (.inr (h2 _ (List.mem_cons_self ..)))
 | zero=>injection e with e1 _;rw [<- e1];decide
 | sign hc=>injection e with e1 _;rw [<- e1];rcases hc with rfl | rfl | rfl | rfl | rfl | rfl | rfl | rfl | rfl | rfl <;> decide
 | text h1 h2 h3=>injection e with e1 _;rw [<- e1];decide
theorem TokOk.kk {x tx:B8} {k n:Nat} {fr:Bool} (Tk:TokOk x k tx n fr):k<=4:=by cases Tk <;> omega
theorem TokOk.ne {x tx:B8} {k n:Nat} {fr:Bool} (Tk:TokOk x k tx n fr):x≠[]:=by cases Tk <;> simp
theorem zJe:∀ {l:EE} {p:Nat} {x:CObj},zA1 l p=none->zA2 l p x=l
 | [],_,_,_=>rfl
 | (i,o)::r,p,x,h=>by
  by_cases hi:i=p
  . subst hi;simp [zA1] at h
  . simp [zA1,hi] at h;simp [zA2,hi,zJe h]
def Over (n0:Nat) (E0 l:EE):Prop:=∃ pre,l=pre++E0/\(∀ x ∈ pre,n0<=x.1)/\Under E0 n0
theorem Over.cons {n0:Nat} {E0 l:EE} {i:Nat} {o:CObj} (h:Over n0 E0 l) (hi:n0<=i):Over n0 E0 ((i,o)::l):=by
 obtain ⟨pre,rfl,h1,h2⟩:=h
 exact ⟨(i,o)::pre,rfl,fun x hx=>by rcases List.mem_cons.1 hx with rfl | hx;exact hi;exact h1 x hx,h2⟩
theorem Over.drop {n0:Nat} {E0 l:EE} (h:Over n0 E0 l):zBe l n0=E0:=by
 obtain ⟨pre,rfl,h1,h2⟩:=h
 induction pre with
 | nil=>exact zCj h2
 | cons a pre ih =>
  have:=h1 a (by simp)
  show (if n0<=a.1 then zBe (pre++E0) n0 else _)=_
  rw [if_pos this]
  exact ih fun x hx=>h1 x (by simp [hx])
theorem zQk:∀ {l:EE} {p n0:Nat} {x:CObj},(∀ y ∈ l,n0<=y.1)->∀ y ∈ zA2 l p x,n0<=y.1
 | [],_,_,_,_,y,hy=>by cases hy
 | (i,o)::r,p,n0,x,h,y,hy=>by
  have h1:=h (i,o) (by simp)
  unfold zA2 at hy
  split at hy
  . rcases List.mem_cons.1 hy with rfl | hy
    . exact h1
    . exact h y (by simp [hy])
  . rcases List.mem_cons.1 hy with rfl | hy
    . exact h1
    . exact zQk (fun z hz=>h z (by simp [hz])) y hy
theorem zK5:∀ {pre E0:EE} {p:Nat} {x:CObj},zA1 E0 p=none->zA2 (pre++E0) p x=zA2 pre p x++E0
 | [],_,_,_,h=>zJe h
 | (i,o)::r,E0,p,x,h=>by
  have:=zK5 (pre:=r) (x:=x) h
  simp only [List.cons_append,zA2]
  split
  . rfl
  . rw [this];rfl
theorem Over.set {n0:Nat} {E0 l:EE} {p:Nat} {x:CObj} (h:Over n0 E0 l) (hp:n0<=p):Over n0 E0 (zA2 l p x):=by
 obtain ⟨pre,rfl,h1,h2⟩:=h
 exact ⟨zA2 pre p x,zK5 (zAc h2 hp),zQk h1,h2⟩
abbrev tokC (k:Int) (t:B8) (n:Nat) (a:Int):CVal:=.agg [.int .i64 k,.str t,.int .u64 (n:Int),.int .i64 a]
theorem zEz:∀ {l:EE} {n q:Nat} {o:CObj},zA1 l q=some o->(q<n\/∀ cs,o≠.cells cs)->zA1 (zA5 l n) q=some o
 | [],_,_,_,h,_=>by cases h
 | (i,x)::r,n,q,o,h,hq=>by
  unfold zA5
  by_cases hn:n<=i
  . rw [if_pos hn]
    by_cases hi:i=q
    . subst hi
      simp [zA1] at h
      subst h
      rcases hq with hq | hq
      . omega
      . cases x with
        | cells cs=>exact absurd rfl (hq cs)
        | _=>simp [zA1]
    . have h2:zA1 r q=some o:=by simpa [zA1,hi] using h
      have ih:=zEz (n:=n) h2 hq
      cases x with
      | cells cs=>exact ih
      | _=>simp [zA1,hi];exact ih
  . rw [if_neg hn];exact h
theorem zC0:∀ {l:EE} {n:Nat} {x:Nat × CObj},x ∈ zA5 l n->x ∈ l
 | [],_,_,h=>h
 | (i,o)::r,n,x,h=>by
  unfold zA5 at h
  by_cases hn:n<=i
  . rw [if_pos hn] at h
    cases o with
    | cells cs=>exact List.mem_cons_of_mem _ (zC0 h)
    | _ => rcases List.mem_cons.1 h with rfl | h
           . simp
           . exact List.mem_cons_of_mem _ (zC0 h)
  . rw [if_neg hn] at h;exact h
theorem zH5:∀ {pre E0:EE} {n0 n:Nat},Under E0 n0->n0<=n->zA5 (pre++E0) n=zA5 pre n++E0
 | [],E0,n0,n,h,hn=>zAa (h.le hn)
 | (i,o)::r,E0,n0,n,h,hn=>by
  have ih:=zH5 (pre:=r) h hn
  simp only [List.cons_append,zA5]
  split
  . cases o <;> simp [ih]
  . rfl
theorem Over.dropC {n0 n:Nat} {E0 l:EE} (h:Over n0 E0 l) (hn:n0<=n):Over n0 E0 (zA5 l n):=by
 obtain ⟨pre,rfl,h1,h2⟩:=h
 exact ⟨zA5 pre n,zH5 h2 hn,fun x hx=>h1 x (zC0 hx),h2⟩
abbrev Tok:Type:=Nat × B8 × Nat × Nat
abbrev tokV (t:Tok):CVal:=tokC t.1 t.2.1 t.2.2.1 t.2.2.2
structure Sr (n0:Nat) (E0:EE) (p:Nat) (o:CObj) (L:CVal) (ts:List CVal) (h:CHeap):Prop where
 g:zA1 h.ents p=some o
 l:L=.nils/\ts=[]\/∃ i v,L=.imm (.own i v) 4 ts/\zA1 h.ents i=some (.tok v)/\i≠p/\n0<=i/\i<h.next
 d:Over n0 E0 h.ents
 n:n0<=p
 lt:p<h.next
 f:Fit h
theorem Sr.upd {n0:Nat} {E0:EE} {p:Nat} {o o':CObj} {L:CVal} {ts:List CVal} {h:CHeap} {n':Nat} {ty:NN} (S:Sr n0 E0 p o L ts h) (hn:h.next<=n') (ht:zA7 ty n') :
    Sr n0 E0 p o' L ts ⟨zA2 h.ents p o',n',ty⟩ where
 g:=zA4 S.g
 l:=by
  rcases S.l with h1 | ⟨i,v,h1,h2,h3,h4,h5⟩
  . exact .inl h1
  . exact .inr ⟨i,v,h1,(zA0 h3).trans h2,h3,h4,om_⟩
 d:=S.d.set S.n
 n:=S.n
 lt:=by have:=S.lt;exact om_
 f:=⟨S.f.1.set.le hn,ht⟩
theorem Sr.app0 {n0:Nat} {E0:EE} {p:Nat} {o:CObj} {h:CHeap} {n' i:Nat} {ty:NN} {x:CVal} {ts:List CVal} (S:Sr n0 E0 p o .nils ts h) (hi:h.next<=i) (hn:i<n') (ht:zA7 ty n') :
    Sr n0 E0 p o (.imm (.own i 0) 4 [x]) [x] ⟨(i,.tok 0)::h.ents,n',ty⟩:=by
 have hlt:=S.lt
 have hn0:=S.n
 have hip:(i == p)=false:=by simp;omega
 exact {
  g:=by simp only [zA1,hip,Bool.false_eq_true,if_false];exact S.g
  l:=.inr ⟨i,0,rfl,by simp [zA1],by omega,by omega,hn⟩
  d:=S.d.cons om_
  n:=S.n
  lt:=om_
  f:=⟨Under.cons hn (S.f.1.le om_),ht⟩ }
theorem Sr.app1 {n0:Nat} {E0:EE} {p:Nat} {o:CObj} {h:CHeap} {n' i v:Nat} {ty:NN} {x:CVal} {ts:List CVal} {L:CVal} (S:Sr n0 E0 p o L ts h) (ht:zA1 h.ents i=some (.tok v)) (hip:i≠p) (hi0:n0<=i) (hin:i<h.next) (hn:h.next<=n') (hty:zA7 ty n') :
    Sr n0 E0 p o (.imm (.own i (v+1)) 4 (ts++[x])) (ts++[x]) ⟨zA2 h.ents i (.tok (v+1)),n',ty⟩:=by
 have hlt:=S.lt
 exact {
  g:=(zA0 (Ne.symm hip)).trans S.g
  l:=.inr ⟨i,v+1,rfl,zA4 ht,hip,hi0,om_⟩
  d:=S.d.set hi0
  n:=S.n
  lt:=om_
  f:=⟨S.f.1.set.le hn,hty⟩ }
theorem zSo {n0:Nat} {E0:EE} (p d:Nat) (s:B8) (hs:s.length<60000) (t:Int) (v1 v3 v4 v5 v7 v8 v9 v10:CVal) (Q:QT) (h:CHeap) (hf:Fit h) (i:Nat) (hg:zA1 h.ents p=some (lx s (i:Int) 0 t)) (hp:p<h.next) (hov:Over n0 E0 h.ents) (hn0:n0<=p)  (j k n j2:Nat) (tx:B8) (hk5:k<=4) (SP:∀ (h:CHeap) (hf:Fit h) (hg:zA1 h.ents p=some (lx s (i:Int) 0 t)) (hp:p<h.next) (K:KT) (hk:∀ n' ty,h.next<=n'->zA7 ty n'->K (.tup []) ⟨zA2 h.ents p (lx s (j:Int) 0 t),n',ty⟩),Wc TF 164 [.ptr p d 0] h K) (WD:∀ (h:CHeap) (hf:Fit h) (hg:zA1 h.ents p=some (lx s (j:Int) 0 t)) (hp:p<h.next) (K:KT) (hk:∀ n' ty,h.next<=n'->zA7 ty n'->K (.agg [.int .i64 (k:Int),.str tx,.int .u64 (n:Int),.int .i64 (j:Int)]) ⟨zA2 h.ents p (lx s (j2:Int) 0 t),n',ty⟩),Wc TF 165 [.ptr p d 0] h K)
    (hk:∀ q n' ty w3 w4 w5 w7,h.next<=q->q<n'->zA7 ty n'->W TF zDq ⟨[.str s,v1,.ptr p d 0,w3,w4,w5,.imm (.own q 0) 4 [.agg [.int .i64 (k:Int),.str tx,.int .u64 (n:Int),.int .i64 (j:Int)]],w7,v8,v9,v10],⟨(q,.tok 0)::zA2 h.ents p (lx s (j2:Int) 0 t),n',ty⟩,[]⟩ Q):W TF zDq ⟨[.str s,v1,.ptr p d 0,v3,v4,v5,.nils,v7,v8,v9,v10],h,[]⟩ Q:=by
 obtain ⟨hu,hut,hX⟩:=fx4 hf
 have hY:=fx5 hf hg
 refine W.loop ?_
 have hZ:=j3_ hX hg hY
 repeat (first | refine wk_ ?_ | (refine SP _ ?_ ?_ ?_ _ fun n1 tyn1 hn1 hun1=>⟨rfl,?_⟩;exact fit_;exact ge_;exact om_;(try dsimp only at hn1)) | (refine WD _ ?_ ?_ ?_ _ fun n2 tyn2 hn2 hun2=>⟨rfl,?_⟩;exact fit_;exact ge_;exact om_;(try dsimp only at hn2)))
 show W TF zDq (dropped true _ _) Q
 generalize e:dropped .. = r0
 simp (disch:=omega) [hX,hg,hY] at e
 subst e
 try dsimp only
 refine hk _ _ _ _ _ _ _ ?_ ?_ ?_
 . exact om_
 . exact om_
 . exact ut_
theorem zTf {n0:Nat} {E0:EE} (p d:Nat) (s:B8) (hs:s.length<60000) (t:Int) (v1 v3 v4 v5 v7 v8 v9 v10:CVal) (Q:QT) (h:CHeap) (hf:Fit h) (i:Nat) (hg:zA1 h.ents p=some (lx s (i:Int) 0 t)) (hp:p<h.next) (hov:Over n0 E0 h.ents) (hn0:n0<=p) (iq vq:Nat) (ts:List CVal) (hts:ts.length<100000) (hti:zA1 h.ents iq=some (.tok vq)) (hip:iq≠p) (hi0:n0<=iq) (hin:iq<h.next) (j:Nat) (SP:∀ (h:CHeap) (hf:Fit h) (hg:zA1 h.ents p=some (lx s (i:Int) 0 t)) (hp:p<h.next) (K:KT) (hk:∀ n' ty,h.next<=n'->zA7 ty n'->K (.tup []) ⟨zA2 h.ents p (lx s (j:Int) 0 t),n',ty⟩),Wc TF 164 [.ptr p d 0] h K) (WD:∀ (h:CHeap) (hf:Fit h) (hg:zA1 h.ents p=some (lx s (j:Int) 0 t)) (hp:p<h.next) (K:KT) (hk:∀ n' ty,h.next<=n'->zA7 ty n'->K (.agg [.int .i64 5,.str [],.int .u64 0,.int .i64 (j:Int)]) ⟨h.ents,n',ty⟩),Wc TF 165 [.ptr p d 0] h K)
    (hk:∀ w3 w4 w5 w6 w7 h' q v,Over n0 E0 h'.ents->zA1 h'.ents q=some (.tok v)->n0<=q->zA7 h'.tys h'.next->h.next<=h'.next->Q .ret ⟨[.str s,v1,.ptr p d 0,w3,w4,w5,w6,w7,.imm (.own q v) 4 (ts++[.agg [.int .i64 5,.str [],.int .u64 0,.int .i64 (j:Int)]]),.int .i64 0,.int .i64 0],h',[]⟩):W TF zDq ⟨[.str s,v1,.ptr p d 0,v3,v4,v5,.imm (.own iq vq) 4 ts,v7,v8,v9,v10],h,[]⟩ Q:=by
 obtain ⟨hu,hut,hX⟩:=fx4 hf
 have hY:=fx5 hf hg;have ⟨hG,hD2,hC2,hN2⟩:=hY
 have hti2:∀ x,zA1 (zA2 h.ents p x) iq=some (.tok vq):=fun x=>(zA0 hip).trans hti
 have hip2:¬ p=iq:=fun e=>hip e.symm
 have hti3:∀ x y,zA1 (zA2 (zA2 h.ents p x) iq y) iq=some y:=fun x y=>zA4 (hti2 x)
 have hpg:∀ x y,zA1 (zA2 (zA2 h.ents p x) iq y) p=some x:=fun x y=>(zA0 hip2).trans (hG x)
 have hC3:∀ x y m,h.next<=m->zA5 (zA2 (zA2 h.ents p x) iq y) m=zA2 (zA2 h.ents p x) iq y:=fun x y m hm=>zAa (hu.set.set.le hm)
 refine W.loop ?_
 have hZ:=j10_ hX hg hY hti hti2 hti3 hip hip2 hpg hC3
 repeat (first | refine wk_ ?_ | (refine SP _ ?_ ?_ ?_ _ fun n1 tyn1 hn1 hun1=>⟨rfl,?_⟩;exact fit_;exact ge_;exact om_;(try dsimp only at hn1)) | (refine WD _ ?_ ?_ ?_ _ fun n2 tyn2 hn2 hun2=>⟨rfl,?_⟩;exact fit_;exact ge_;exact om_;(try dsimp only at hn2)))
 all_goals ((try refine W.ret ?_);(try simp only [zB3,zA9,zAo]);refine hk _ _ _ _ _ _ _ _ ?_ ?_ ?_ ?_ ?_;((repeat (first | exact hov | refine Over.set ?_ (by omega) | refine Over.cons ?_ (by omega))));(simp (disch:=omega) [hX,hg,hY,hti,hti2,hti3,hip,hip2,hpg,hC3]);omega;exact ut_;(exact om_))
theorem zT1 {n0:Nat} {E0:EE} (p d:Nat) (s:B8) (hs:s.length<60000) (t:Int) (v1 v3 v4 v5 v7 v8 v9 v10:CVal) (Q:QT) (h:CHeap) (hf:Fit h) (i:Nat) (hg:zA1 h.ents p=some (lx s (i:Int) 0 t)) (hp:p<h.next) (hov:Over n0 E0 h.ents) (hn0:n0<=p) (iq vq:Nat) (ts:List CVal) (hts:ts.length<100000) (hti:zA1 h.ents iq=some (.tok vq)) (hip:iq≠p) (hi0:n0<=iq) (hin:iq<h.next) (j k n j2:Nat) (tx:B8) (hk5:k<=4) (SP:∀ (h:CHeap) (hf:Fit h) (hg:zA1 h.ents p=some (lx s (i:Int) 0 t)) (hp:p<h.next) (K:KT) (hk:∀ n' ty,h.next<=n'->zA7 ty n'->K (.tup []) ⟨zA2 h.ents p (lx s (j:Int) 0 t),n',ty⟩),Wc TF 164 [.ptr p d 0] h K) (WD:∀ (h:CHeap) (hf:Fit h) (hg:zA1 h.ents p=some (lx s (j:Int) 0 t)) (hp:p<h.next) (K:KT) (hk:∀ n' ty,h.next<=n'->zA7 ty n'->K (.agg [.int .i64 (k:Int),.str tx,.int .u64 (n:Int),.int .i64 (j:Int)]) ⟨zA2 h.ents p (lx s (j2:Int) 0 t),n',ty⟩),Wc TF 165 [.ptr p d 0] h K)
    (hk:∀ n' ty w3 w4 w5 w7,h.next<=n'->zA7 ty n'->W TF zDq ⟨[.str s,v1,.ptr p d 0,w3,w4,w5,.imm (.own iq (vq+1)) 4 (ts++[.agg [.int .i64 (k:Int),.str tx,.int .u64 (n:Int),.int .i64 (j:Int)]]),w7,v8,v9,v10],⟨zA2 (zA2 h.ents p (lx s (j2:Int) 0 t)) iq (.tok (vq+1)),n',ty⟩,[]⟩ Q):W TF zDq ⟨[.str s,v1,.ptr p d 0,v3,v4,v5,.imm (.own iq vq) 4 ts,v7,v8,v9,v10],h,[]⟩ Q:=by
 obtain ⟨hu,hut,hX⟩:=fx4 hf
 have hY:=fx5 hf hg;have ⟨hG,hD2,hC2,hN2⟩:=hY
 have hti2:∀ x,zA1 (zA2 h.ents p x) iq=some (.tok vq):=fun x=>(zA0 hip).trans hti
 have hip2:¬ p=iq:=fun e=>hip e.symm
 have hti3:∀ x y,zA1 (zA2 (zA2 h.ents p x) iq y) iq=some y:=fun x y=>zA4 (hti2 x)
 have hpg:∀ x y,zA1 (zA2 (zA2 h.ents p x) iq y) p=some x:=fun x y=>(zA0 hip2).trans (hG x)
 have hC3:∀ x y m,h.next<=m->zA5 (zA2 (zA2 h.ents p x) iq y) m=zA2 (zA2 h.ents p x) iq y:=fun x y m hm=>zAa (hu.set.set.le hm)
 refine W.loop ?_
 have hZ:=j10_ hX hg hY hti hti2 hti3 hip hip2 hpg hC3
 repeat (first | refine wk_ ?_ | (refine SP _ ?_ ?_ ?_ _ fun n1 tyn1 hn1 hun1=>⟨rfl,?_⟩;exact fit_;exact ge_;exact om_;(try dsimp only at hn1)) | (refine WD _ ?_ ?_ ?_ _ fun n2 tyn2 hn2 hun2=>⟨rfl,?_⟩;exact fit_;exact ge_;exact om_;(try dsimp only at hn2)))
 show W TF zDq (dropped true _ _) Q
 generalize e:dropped .. = r0
 simp (disch:=omega) [hX,hg,hY,hti,hti2,hti3,hip,hip2,hpg,hC3] at e
 subst e
 try dsimp only
 refine hk _ _ _ _ _ _ ?_ ?_
 . exact om_
 . exact ut_
theorem Sr.mk0 {h:CHeap} {p n':Nat} {o:CObj} {ty:NN} (hf:Fit h) (hp:h.next<=p) (hn:p<n') (ht:zA7 ty n'):Sr h.next h.ents p o .nils [] ⟨(p,o)::h.ents,n',ty⟩ where
 g:=by simp [zA1]
 l:=.inl ⟨rfl,rfl⟩
 d:=⟨[(p,o)],rfl,fun x hx=>by simp at hx;subst hx;exact hp,hf.1⟩
 n:=hp
 lt:=hn
 f:=⟨Under.cons hn (hf.1.le om_),ht⟩
structure Cel where
 x:B8
 k:Nat
 tx:B8
 n:Nat
 g:B8
 fr:Bool
def rnd:List Cel->B8
 | []=>[]
 | p::r=>p.x++(p.g++rnd r)
abbrev zP6 (g:B8):Prop:=∀ c ∈ g,c.toNat=32\/c.toNat=10
def WF:List Cel->Prop
 | []=>True
 | p::r=>TokOk p.x p.k p.tx p.n p.fr/\zP6 p.g/\(p.fr=true\/Bk (p.g++rnd r))/\WF r
def toks:Nat->List Cel->List Tok
 | _,[]=>[]
 | a,p::r=>(p.k,p.tx,p.n,a)::toks (a+(p.x.length+p.g.length)) r
theorem zaq {n0:Nat} {E0:EE} (p d:Nat) (s:B8) (hs:s.length<60000) (t:Int) (v1 v8 v9 v10:CVal) (Q:QT):∀ (ps:List Cel) (g:B8) (i:Nat),zP6 g->WF ps->s.drop i=g++rnd ps->i+(g.length+(rnd ps).length)=s.length->∀ (L:CVal) (ts:List CVal) (v3 v4 v5 v7:CVal) (h:CHeap),(ts=[]->ps≠[])->ts.length+ps.length<90000->Sr n0 E0 p (lx s (i:Int) 0 t) L ts h ->
    (∀ w3 w4 w5 w6 w7 h' q v,Over n0 E0 h'.ents->zA1 h'.ents q=some (.tok v)->n0<=q->zA7 h'.tys h'.next->h.next<=h'.next->Q .ret ⟨[.str s,v1,.ptr p d 0,w3,w4,w5,w6,w7,.imm (.own q v) 4 (ts++((toks (i+g.length) ps).map tokV++[tokV (5,[],0,s.length)])),.int .i64 0,.int .i64 0],h',[]⟩) ->
    W TF zDq ⟨[.str s,v1,.ptr p d 0,v3,v4,v5,L,v7,v8,v9,v10],h,[]⟩ Q:=by
 intro ps
 induction ps with
 | nil =>
  intro g i hgp _ hd hl L ts v3 v4 v5 v7 h hne htl S hk
  obtain ⟨j,hj⟩:∃ j,i+g.length=j:=⟨_,rfl⟩
  have hje:j=s.length:=by simp only [rnd,List.length_nil] at hl;omega
  rcases S.l with ⟨rfl,rfl⟩ | ⟨iq,vq,rfl,hti,hip,hi0,hin⟩
  . exact absurd rfl (hne rfl)
  . simp only [List.length_nil] at htl
    refine zTf p d s hs t v1 v3 v4 v5 v7 v8 v9 v10 Q h S.f i S.g S.lt S.d S.n iq vq ts (by omega) hti hip hi0 hin j (fun h hf hg hp K hk=>sp_F s hs i g [] hgp (fun _ _ e=>by cases e) hd t h p d hf hg hp K (by rw [hj];exact hk)) (fun h hf hg hp K hk=>wd_e s hs j hje t h p d hf hg hp K hk) (fun w3 w4 w5 w6 w7 h' q v e1 e2 e3 e4 e5=>?_)
    have:=hk w3 w4 w5 w6 w7 h' q v e1 e2 e3 e4 e5
    rw [hje];exact this
 | cons c ps ih =>
  intro g i hgp hw hd hl L ts v3 v4 v5 v7 h hne htl S hk
  obtain ⟨h1,h2,h3,h4⟩:=hw
  obtain ⟨j,hj⟩:∃ j,i+g.length=j:=⟨_,rfl⟩
  obtain ⟨j2,hj2⟩:∃ j2,j+c.x.length=j2:=⟨_,rfl⟩
  have hdj:s.drop j=c.x++(c.g++rnd ps):=by
   rw [<- hj,<- List.drop_drop,hd,List.drop_left];rfl
  have hd2:s.drop j2=c.g++rnd ps:=by rw [<- hj2,<- List.drop_drop,hdj,List.drop_left]
  have hl2:j2+(c.g.length+(rnd ps).length)=s.length:=by simp only [rnd,List.length_append] at hl;omega
  have hsp:Sp (rnd (c::ps)):=h1.sp _
  have SP:∀ (h:CHeap) (hf:Fit h) (hg:zA1 h.ents p=some (lx s (i:Int) 0 t)) (hp:p<h.next) (K:KT) (hk:∀ n' ty,h.next<=n'->zA7 ty n'->K (.tup []) ⟨zA2 h.ents p (lx s (j:Int) 0 t),n',ty⟩),Wc TF 164 [.ptr p d 0] h K:=fun h hf hg hp K hk=>sp_F s hs i g (rnd (c::ps)) hgp hsp hd t h p d hf hg hp K (by rw [hj];exact hk)
  have WD:∀ (h:CHeap) (hf:Fit h) (hg:zA1 h.ents p=some (lx s (j:Int) 0 t)) (hp:p<h.next) (K:KT) (hk:∀ n' ty,h.next<=n'->zA7 ty n'->K (.agg [.int .i64 (c.k:Int),.str c.tx,.int .u64 (c.n:Int),.int .i64 (j:Int)]) ⟨zA2 h.ents p (lx s (j2:Int) 0 t),n',ty⟩),Wc TF 165 [.ptr p d 0] h K:=fun h hf hg hp K hk=>wd_F h1 (c.g++rnd ps) h3 s hs j hdj t h p d hf hg hp K (by rw [hj2];exact hk)
  have hto:toks (i+g.length) (c::ps)=(c.k,c.tx,c.n,j)::toks (j2+c.g.length) ps:=by
   rw [hj,<- hj2,Nat.add_assoc];rfl
  rw [hto] at hk
  simp only [List.length_cons] at htl
  rcases S.l with ⟨rfl,rfl⟩ | ⟨iq,vq,rfl,hti,hip,hi0,hin⟩
  . refine zSo p d s hs t v1 v3 v4 v5 v7 v8 v9 v10 Q h S.f i S.g S.lt S.d S.n j c.k c.n j2 c.tx h1.kk SP WD ?_
    intro q n' ty w3 w4 w5 w7 g1 g2 g3
    refine ih c.g j2 h2 h4 hd2 hl2 _ _ _ _ _ _ _ (by simp) ?_ ((S.upd (o':=lx s (j2:Int) 0 t) (Nat.le_refl _) S.f.2).app0 (x:=.agg [.int .i64 (c.k:Int),.str c.tx,.int .u64 (c.n:Int),.int .i64 (j:Int)]) (i:=q) (n':=n') (ty:=ty) g1 g2 g3) ?_
    . simp only [List.length_cons,List.length_nil] at htl ⊢;omega
    . intro w3 w4 w5 w6 w7 h' q v e1 e2 e3 e4 e5
      exact hk w3 w4 w5 w6 w7 h' q v e1 e2 e3 e4 (by (try dsimp only at e5);omega)
  . refine zT1 p d s hs t v1 v3 v4 v5 v7 v8 v9 v10 Q h S.f i S.g S.lt S.d S.n iq vq ts om_ hti hip hi0 hin j c.k c.n j2 c.tx h1.kk SP WD ?_
    intro n' ty w3 w4 w5 w7 g1 g3
    have Su:=S.upd (o':=lx s (j2:Int) 0 t) (n':=h.next) (ty:=h.tys) (Nat.le_refl _) S.f.2
    refine ih c.g j2 h2 h4 hd2 hl2 _ _ _ _ _ _ _ (by simp) ?_ (Su.app1 (x:=.agg [.int .i64 (c.k:Int),.str c.tx,.int .u64 (c.n:Int),.int .i64 (j:Int)]) (n':=n') (ty:=ty) ((zA0 hip).trans hti) hip hi0 hin g1 g3) ?_
    . rw [List.length_append];simp only [List.length_cons,List.length_nil];omega
    . intro w3 w4 w5 w6 w7 h' q v e1 e2 e3 e4 e5
      have:=hk w3 w4 w5 w6 w7 h' q v e1 e2 e3 e4 (by (try dsimp only at e5);omega)
      simpa [List.append_assoc] using this
theorem zb9 (ps:List Cel) (hw:WF ps) (hne:ps≠[]) (hl:(rnd ps).length<=3000) (hpl:ps.length<9000):Pu TF 147 [.str (rnd ps)] (.tup [.imm .none 4 ((toks 0 ps++[(5,[],0,(rnd ps).length)]).map tokV),.int .i64 0,.int .i64 0]):=by
 intro h hf K hk
 obtain ⟨hu,hut,hX⟩:=fx4 hf
 have hll:¬ 3000<(rnd ps).length:=by omega
 rw [List.map_append] at hk
 obtain ⟨s,hse⟩:∃ s,rnd ps=s:=⟨_,rfl⟩
 have hd0:s.drop 0=[]++rnd ps:=hse.symm
 have hlen0:0+(([]:B8).length+(rnd ps).length)=s.length:=by rw [hse];simp
 rw [hse] at hk hl ⊢
 refine mk_ 147 c147 (s_ ?_)
 try refine wx_ ?_
 refine zaq (n0:=h.next) (E0:=h.ents) _ _ s (by omega) 0 _ _ _ _ _ ps [] 0 (fun _ h=>by cases h) hw hd0 hlen0 _ [] _ _ _ _ _ (fun _=>hne) (by simp only [List.length_nil];omega) (Sr.mk0 ⟨hu,hut⟩ ?_ ?_ ?_) ?_
 . exact om_
 . exact om_
 . exact ut_
 . intro w3 w4 w5 w6 w7 h' q v e1 e2 e3 e4 e5
   try dsimp only at e5
   have hd:=e1.drop
   (try simp only [zB3,zA9,zAo])
   refine endW.of (.inl rfl) rfl ?_
   generalize e:zCa .. = r0
   simp (disch:=omega) [hd,e2] at e
   subst e
   (try dsimp only)
   refine hk _ _ ?_ ?_
   . omega
   . exact e4
def brk (c:UInt8):Bool:=!(letB c || digB c || c == 46)
theorem zUh {b:UInt8} {r:B8} (h:brk b=true):Bk (b::r):=fun c u e=>by
 cases e
 simp only [brk,Bool.not_eq_true',Bool.or_eq_false_iff,beq_eq_false_iff_ne,ne_eq] at h
 exact ⟨h.1.1,h.1.2,fun e=>h.2 (UInt8.toNat_inj.1 (by rw [e];rfl))⟩
theorem zQ5:∀ (a b:List Cel),rnd (a++b)=rnd a++rnd b
 | [],_=>rfl
 | p::r,b=>by simp only [List.cons_append,rnd,zQ5 r b,List.append_assoc]
def zPc:B8->Bool
 | []=>false
 | c::r=>letB c && r.all (fun d=>letB d || digB d)
def numB:B8->Bool
 | []=>false
 | c::r=>c != 48 && (c::r).all digB
theorem zAy {x:B8} (h:zPc x=true):TokOk x 1 x 0 false:=by
 cases x with
 | nil=>cases h
 | cons c r =>
  simp only [zPc,Bool.and_eq_true] at h
  exact .name h.1 fun y hy=>by simpa using List.all_eq_true.1 h.2 y hy
theorem zJz:∀ (x:B8) (n:Nat),(∀ d ∈ x,digB d=true)->valF 10 n x<(n+1) * 10 ^ x.length
 | [],n,_=>by simp [valF]
 | d::x,n,h=>by
  have h1:=zJz x (n * 10+digF d) (fun e he=>h e (by simp [he]))
  have h2:=DLT d (h d (by simp))
  simp only [valF,List.length_cons]
  refine Nat.lt_of_lt_of_le h1 ?_
  rw [Nat.pow_succ,Nat.mul_comm (10 ^ x.length) 10,<- Nat.mul_assoc]
  exact Nat.mul_le_mul_right _ om_
theorem zXf {x:B8} (h:numB x=true) (hl:x.length<=3):TokOk x 2 [] (valF 10 0 x) false:=by
 cases x with
 | nil=>cases h
 | cons c r =>
  simp only [numB,Bool.and_eq_true,bne_iff_ne,ne_eq] at h
  have ha:=List.all_eq_true.1 h.2
  refine .num h.1 ha (Nat.lt_of_lt_of_le (zJz _ 0 ha) ?_)
  have:10 ^ (c::r).length<=10 ^ 3:=Nat.pow_le_pow_right om_ hl
  omega
theorem zWf:TokOk [48] 2 [] 0 false:=.zero
theorem zAv {c:UInt8} (h:c=123\/c=125\/c=91\/c=93\/c=61\/c=59\/c=44\/c=60\/c=62\/c=45):TokOk [c] 4 [c] 0 true:=.sign h
theorem fname {c:UInt8} {S:B8} (hc:letB c=true) (h:numB S=true):zPc (c::S)=true:=by
 cases S with
 | nil=>cases h
 | cons a r =>
  simp only [numB,Bool.and_eq_true] at h
  simp only [zPc,hc,Bool.true_and]
  exact List.all_eq_true.2 fun d hd=>by simp [List.all_eq_true.1 h.2 d hd]
theorem zas:Pu TF 117 [.str [112,114,111,116,111,51]] (.bool true):=by
 intro h hf K hk
 obtain ⟨hu,hut,hX⟩:=fx4 hf
 refine mk_ 117 c117 (s_ ?_)
 repeat (first
  | refine vx_ ?_
  | refine W.loop ?_
  | (refine dx_ ?_;refine W.loop ?_)
  | (refine mk_ 142 c142 (s_ ?_))
  | (refine rx_ ?_;refine ⟨rfl,?_⟩))
 refine rx_ ?_
 refine hk _ _ ?_ ?_;omega;exact ut_
theorem zTx:TokOk [34,112,114,111,116,111,51,34] 3 [112,114,111,116,111,51] 0 true:=.text (x:=[112,114,111,116,111,51]) (by decide) (by decide) zas
theorem zRl:zP6 []:=fun _ h=>by cases h
theorem zYd {c:UInt8} (h:c.toNat=32\/c.toNat=10) {g:B8} (hg:zP6 g):zP6 (c::g):=fun y hy=>by
 rcases List.mem_cons.1 hy with rfl | hy
 . exact h
 . exact hg y hy
def Sep (p:Cel) (r:List Cel):Prop:=p.fr=true\/(∃ b g',p.g=b::g'/\brk b=true)\/(p.g=[]/\∃ q r',r=q::r'/\∃ b x',q.x=b::x'/\brk b=true)
def WFB:List Cel->Prop
 | []=>True
 | p::r=>TokOk p.x p.k p.tx p.n p.fr/\zP6 p.g/\Sep p r/\WFB r
theorem WFB.wf:∀ {ps:List Cel},WFB ps->WF ps
 | [],_=>trivial
 | p::r,h=>by
  obtain ⟨h1,h2,h3,h4⟩:=h
  refine ⟨h1,h2,?_,h4.wf⟩
  rcases h3 with h3 | ⟨b,g,e,hb⟩ | ⟨e,q,r',rfl,b,x',e2,hb⟩
  . exact .inl h3
  . rw [e];exact .inr (zUh hb)
  . rw [e]
    refine .inr ?_
    show Bk (rnd (q::r'))
    simp only [rnd,e2]
    exact zUh hb
theorem Sep.app {p:Cel} {r:List Cel} (h:Sep p r) (s:List Cel):Sep p (r++s):=by
 rcases h with h | h | ⟨e,q,r',rfl,hq⟩
 . exact .inl h
 . exact .inr (.inl h)
 . exact .inr (.inr ⟨e,q,r'++s,rfl,hq⟩)
theorem WFB.app:∀ {a b:List Cel},WFB a->WFB b->WFB (a++b)
 | [],_,_,h=>h
 | p::r,b,h,hb=>⟨h.1,h.2.1,h.2.2.1.app b,h.2.2.2.app hb⟩
theorem WF.len:∀ {ps:List Cel},WF ps->ps.length<=(rnd ps).length
 | [],_=>Nat.le_refl _
 | p::r,h=>by
  have h1:=h.1.ne
  have h2:=WF.len h.2.2.2
  have:1<=p.x.length:=by cases hx:p.x with
   | nil=>exact absurd hx h1
   | cons c u=>simp
  simp only [rnd,List.length_append,List.length_cons];omega
theorem zcx {ps:List Cel} (hw:WFB ps) (hne:ps≠[]) (hl:(rnd ps).length<=3000):Pu TF 147 [.str (rnd ps)] (.tup [.imm .none 4 ((toks 0 ps++[(5,[],0,(rnd ps).length)]).map tokV),.int .i64 0,.int .i64 0]) :=
 zb9 ps hw.wf hne hl (by have:=hw.wf.len;omega)
end Go.Proofs.YtafeofghkhhhkaaGreat.IrM
namespace Go.Proofs.YtafeofghkhhhkaaGreat.IrM
open Go Go.CI
set_option maxRecDepth 100000
set_option maxHeartbeats 4000000
set_option linter.unusedVariables false
set_option linter.unusedSimpArgs false
attribute [local irreducible] W Wo Wc WoR
def Pe (f:Nat) (ar:List CVal) (v:CVal):Prop:=∀ (h:CHeap),Fit h->∀ (K:KT),(∀ n',h.next<=n'->K v ⟨h.ents,n',h.tys⟩)->Wc TF f ar h K
theorem un2_ {l:EE} {n:Nat} (h:Under l n:=by repeat (first | exact hu.le (by (try dsimp only);omega) | exact hu.set.le (by (try dsimp only);omega) | exact hu.set.set.le (by (try dsimp only);omega) | exact hu.set.set.set.le (by (try dsimp only);omega) | refine Under.cons (by (try dsimp only);omega) ?_ | exact Under.nil)):Under l n:=h
theorem ft_ {h:CHeap} (hf:Fit h:=by exact ⟨un2_,ut_⟩):Fit h:=hf
theorem pe_ {f:Nat} {ar:List CVal} {v:CVal} (H:Pe f ar v) {E:EE} {nx:Nat} {ty:NN} {K:KT} (hk:∀ n2,nx<=n2->K v ⟨E,n2,ty⟩) (hf:Fit ⟨E,nx,ty⟩:=by exact ft_):Wc TF f ar ⟨E,nx,ty⟩ K:=H _ hf K hk
attribute [simp] zEo zD4
structure PV1 (v:CVal):Prop where
 u:v.isUndef=false
 w:v.whole=true
 c:v.cells=[v]
 s:v.strip=v
 b:v.bare=v
abbrev pk (L:CVal) (n:Int):CObj:=.cells [L,.int .i64 n]
def Nums (L:CVal):Prop:=L=.nils\/∃ xs:List Int,L=.imm .none 1 (xs.map (CVal.int .u8))/\xs.length<=1000/\∀ x ∈ xs,0<=x/\x<256
theorem fxp {E:EE} {nx p:Nat} {o:CObj} (hu:Under E nx) (hg:zA1 E p=some o):(∀ x,zA1 (zA2 E p x) p=some x)/\(∀ x m,nx<=m->zBe (zA2 E p x) m=zA2 E p x)/\(∀ x m,nx<=m->zA5 (zA2 E p x) m=zA2 E p x)/\(∀ x q,nx<=q->zA1 (zA2 E p x) q=none) :=
 ⟨fun x=>zA4 hg,fun x m hm=>zCj (hu.set.le hm),fun x m hm=>zAa (hu.set.le hm),fun x q hq=>zAc hu.set hq⟩
def PkC (f:Nat) (args:List CVal) (R:CVal->Prop):Prop:=∀ (E:EE) (nx:Nat) (ty:NN) (p d:Nat) (L:CVal) (o:CObj),Under E nx->zA7 ty nx->zA1 E p=some o->Nums L->∀ (j:Int),0<=j->j<5000->∀ K:KT,
 (∀ n2 j2 v,nx<=n2->0<=j2->j2<5000->R v->K v ⟨zA2 E p (pk L j2),n2,ty⟩)->Wc TF f (.ptr p d 0::args) ⟨zA2 E p (pk L j),nx,ty⟩ K
theorem zF0 (m:Int) (hm:1<=m/\m<=200):PkC 24 [.int .i64 m] fun v=>∃ k:Nat,v=.int .i64 (k:Int)/\(k:Int)<m:=by
 intro E nx ty p d L o hu hut hg hL j hj0 hj1 K hk
 have hY:=fxp hu hg
 have hm1:=hm.1
 have hm2:=hm.2
 rcases hL with rfl | ⟨xs,rfl,hxl,hx⟩
 . refine mk_ 24 c24 ?_
   generalize e:zEm .. = r
   simp (disch:=omega) [c24] at e
   subst e
   have hZ:=hY
   repeat (first
    | refine wk_ ?_
    | (refine rk_ ?_;exact hk _ _ _ om_ hj0 hj1 ⟨0,rfl,by omega⟩))
 . have hlen:(xs.map (CVal.int .u8)).length=xs.length:=by simp
   rcases Int.lt_or_le j xs.length with hlt | hge
   . obtain ⟨i,rfl⟩:∃ i:Nat,j=(i:Int):=⟨j.toNat,by omega⟩
     have hi:i<xs.length:=by omega
     have hxi:=hx xs[i] (List.getElem_mem hi)
     have hn:nth (xs.map (CVal.int .u8)) i=.int .u8 xs[i]:=zCc (CVal.int .u8) xs i _ (gE_ hi)
     generalize xs[i]=a at *
     generalize xs.map (CVal.int .u8)=XS at *
     have hw:IntKind.i64.wrap a=a:=by simp [IntKind.wrap,IntKind.bits,IntKind.signed];omega
     have ht0:=Int.tmod_nonneg m hxi.1
     have ht1:=Int.tmod_lt_of_pos a (show (0:Int)<m by omega)
     have hmz:(m == 0)=false:=bn_ om_
     have hmz2:¬ m=0:=by omega
     have hw2:IntKind.i64.wrap (a.tmod m)=a.tmod m:=by simp [IntKind.wrap,IntKind.bits,IntKind.signed];omega
     have he:(i:Int)+1 - 1=(i:Int):=by omega
     refine mk_ 24 c24 (s_ ?_)
     have hZ:=j8_ hY hlen hn hw hw2 hmz hmz2 he
     repeat (first
      | refine wk_ ?_
      | (refine rk_ ?_;exact hk _ _ _ om_ (by omega) (by omega) ⟨(a.tmod m).toNat,by rw [Int.toNat_of_nonneg ht0],by omega⟩))
   . generalize xs.map (CVal.int .u8)=XS at *
     refine mk_ 24 c24 (s_ ?_)
     have hZ:=j2_ hY hlen
     repeat (first
      | refine wk_ ?_
      | (refine rk_ ?_;exact hk _ _ _ om_ hj0 hj1 ⟨0,rfl,by omega⟩))
def W18:List (B8):=[[105,110,116,51,50],[115,116,114,105,110,103],[105,110,116,54,52],[98,111,111,108],[98,121,116,101,115],[117,105,110,116,51,50],[117,105,110,116,54,52],[115,105,110,116,51,50],[115,105,110,116,54,52],[102,105,120,101,100,51,50],[102,105,120,101,100,54,52],[115,102,105,120,101,100,51,50],[115,102,105,120,101,100,54,52],[100,111,117,98,108,101],[102,108,111,97,116],[69],[73],[77]]
theorem zQb:PkC 106 [] fun v=>∃ t,t ∈ W18/\v=.str t:=by
 intro E nx ty p d L o hu hut hg hL j hj0 hj1 K hk
 have hY:=fxp hu hg
 refine mk_ 106 c106 (s_ ?_)
 have hZ:=hY
 repeat (first
  | refine wk_ ?_
  | (refine zF0 18 (by decide) E _ _ p d L o (hu.le om_) (hut.le om_) hg hL j hj0 hj1 _ fun n2 j2 v g1 g2 g3 g4=>?_;(obtain ⟨k,rfl,g5⟩:=g4);(refine ⟨rfl,?_⟩)))
 have k1:k<18:=by omega
 have hwn:nth (W18.map CVal.str) k=.str (W18[k]?.getD []):=zCc CVal.str W18 k _ (by rw [gE_ (show k<W18.length from k1)];rfl)
 have hwm:W18[k]?.getD [] ∈ W18:=by rw [gE_ (show k<W18.length from k1)];exact List.getElem_mem _
 have hwl:(W18.map CVal.str).length=18:=rfl
 rw [show W18.map CVal.str=[.str [105,110,116,51,50],.str [115,116,114,105,110,103],.str [105,110,116,54,52],.str [98,111,111,108],.str [98,121,116,101,115],.str [117,105,110,116,51,50],.str [117,105,110,116,54,52],.str [115,105,110,116,51,50],.str [115,105,110,116,54,52],.str [102,105,120,101,100,51,50],.str [102,105,120,101,100,54,52],.str [115,102,105,120,101,100,51,50],.str [115,102,105,120,101,100,54,52],.str [100,111,117,98,108,101],.str [102,108,111,97,116],.str [69],.str [73],.str [77]] from rfl] at hwn hwl
 generalize W18[k]?.getD []=t at *
 have k2:(k:Int)<18:=g5
 have hZ:=j4_ hY hwn k1 k2
 repeat (first
  | refine wk_ ?_
  | (refine rk_ ?_;exact hk _ _ _ (by (try dsimp only at g1 ⊢);omega) g2 g3 ⟨t,hwm,rfl⟩))
def dgt (r:Nat):UInt8:=UInt8.ofNat (48+r)
def dg (n:Nat):B8:=if n<10 then [dgt n] else if n<100 then [dgt (n / 10),dgt (n % 10)] else [dgt (n / 100),dgt (n / 10 % 10),dgt (n % 10)]
theorem zW0 (n:Int) (hn0:0<=n) (hn1:n<1000) (q1 r1:Int) (hq1:n.tdiv 10=q1) (hr1:n.tmod 10=r1) (b1:0<=r1/\r1<10) (c1:0<=q1/\q1<1000) (z1:q1=0):Pe 134 [.int .u64 n] (.str [UInt8.ofNat (48+r1).toNat]):=by
 intro h hf K hk
 obtain ⟨hu,hut,hX⟩:=fx4 hf
 obtain ⟨b1a,b1b⟩:=b1
 obtain ⟨c1a,c1b⟩:=c1
 have wr1:IntKind.u64.wrap r1=r1:=by simp [IntKind.wrap,IntKind.bits,IntKind.signed];omega
 have wq1:IntKind.u64.wrap q1=q1:=by simp [IntKind.wrap,IntKind.bits,IntKind.signed];omega
 have ws1:IntKind.u64.wrap (48+r1)=48+r1:=by simp [IntKind.wrap,IntKind.bits,IntKind.signed];omega
 have wt1:IntKind.u8.wrap (48+r1)=48+r1:=by simp [IntKind.wrap,IntKind.bits,IntKind.signed];omega
 refine mk_ 134 c134 (s_ ?_)
 have hZ:=j10_ hX hn0 hn1 hq1 hr1 wr1 wq1 ws1 wt1 z1
 repeat (first
  | refine wk_ ?_
  | (refine W.loop ?_)
  | (show W TF _ (dropped true _ _) _;generalize e:dropped _ _ _=r;simp (disch:=omega) [hX,hn0,hn1,hq1,hr1,wr1,wq1,ws1,wt1,z1] at e;subst e;refine W.loop ?_)
  | (refine rk_ ?_;refine hk _ ?_;omega))
theorem zVe (n:Int) (hn0:0<=n) (hn1:n<1000) (q1 r1:Int) (hq1:n.tdiv 10=q1) (hr1:n.tmod 10=r1) (b1:0<=r1/\r1<10) (c1:0<=q1/\q1<1000) (z1:¬ q1=0) (q2 r2:Int) (hq2:q1.tdiv 10=q2) (hr2:q1.tmod 10=r2) (b2:0<=r2/\r2<10) (c2:0<=q2/\q2<1000) (z2:q2=0):Pe 134 [.int .u64 n] (.str [UInt8.ofNat (48+r2).toNat,UInt8.ofNat (48+r1).toNat]):=by
 intro h hf K hk
 obtain ⟨hu,hut,hX⟩:=fx4 hf
 obtain ⟨b1a,b1b⟩:=b1
 obtain ⟨c1a,c1b⟩:=c1
 have wr1:IntKind.u64.wrap r1=r1:=by simp [IntKind.wrap,IntKind.bits,IntKind.signed];omega
 have wq1:IntKind.u64.wrap q1=q1:=by simp [IntKind.wrap,IntKind.bits,IntKind.signed];omega
 have ws1:IntKind.u64.wrap (48+r1)=48+r1:=by simp [IntKind.wrap,IntKind.bits,IntKind.signed];omega
 have wt1:IntKind.u8.wrap (48+r1)=48+r1:=by simp [IntKind.wrap,IntKind.bits,IntKind.signed];omega
 obtain ⟨b2a,b2b⟩:=b2
 obtain ⟨c2a,c2b⟩:=c2
 have wr2:IntKind.u64.wrap r2=r2:=by simp [IntKind.wrap,IntKind.bits,IntKind.signed];omega
 have wq2:IntKind.u64.wrap q2=q2:=by simp [IntKind.wrap,IntKind.bits,IntKind.signed];omega
 have ws2:IntKind.u64.wrap (48+r2)=48+r2:=by simp [IntKind.wrap,IntKind.bits,IntKind.signed];omega
 have wt2:IntKind.u8.wrap (48+r2)=48+r2:=by simp [IntKind.wrap,IntKind.bits,IntKind.signed];omega
 refine mk_ 134 c134 (s_ ?_)
 have hZ:=j17_ hX hn0 hn1 hq1 hr1 wr1 wq1 ws1 wt1 z1 hq2 hr2 wr2 wq2 ws2 wt2 z2
 repeat (first
  | refine wk_ ?_
  | (refine W.loop ?_)
  | (show W TF _ (dropped true _ _) _;generalize e:dropped _ _ _=r;simp (disch:=omega) [hX,hn0,hn1,hq1,hr1,wr1,wq1,ws1,wt1,z1,hq2,hr2,wr2,wq2,ws2,wt2,z2] at e;subst e;refine W.loop ?_)
  | (refine rk_ ?_;refine hk _ ?_;omega))
theorem zWo (n:Int) (hn0:0<=n) (hn1:n<1000) (q1 r1:Int) (hq1:n.tdiv 10=q1) (hr1:n.tmod 10=r1) (b1:0<=r1/\r1<10) (c1:0<=q1/\q1<1000) (z1:¬ q1=0) (q2 r2:Int) (hq2:q1.tdiv 10=q2) (hr2:q1.tmod 10=r2) (b2:0<=r2/\r2<10) (c2:0<=q2/\q2<1000) (z2:¬ q2=0) (q3 r3:Int) (hq3:q2.tdiv 10=q3) (hr3:q2.tmod 10=r3) (b3:0<=r3/\r3<10) (c3:0<=q3/\q3<1000) (z3:q3=0):Pe 134 [.int .u64 n] (.str [UInt8.ofNat (48+r3).toNat,UInt8.ofNat (48+r2).toNat,UInt8.ofNat (48+r1).toNat]):=by
 intro h hf K hk
 obtain ⟨hu,hut,hX⟩:=fx4 hf
 obtain ⟨b1a,b1b⟩:=b1
 obtain ⟨c1a,c1b⟩:=c1
 have wr1:IntKind.u64.wrap r1=r1:=by simp [IntKind.wrap,IntKind.bits,IntKind.signed];omega
 have wq1:IntKind.u64.wrap q1=q1:=by simp [IntKind.wrap,IntKind.bits,IntKind.signed];omega
 have ws1:IntKind.u64.wrap (48+r1)=48+r1:=by simp [IntKind.wrap,IntKind.bits,IntKind.signed];omega
 have wt1:IntKind.u8.wrap (48+r1)=48+r1:=by simp [IntKind.wrap,IntKind.bits,IntKind.signed];omega
 obtain ⟨b2a,b2b⟩:=b2
 obtain ⟨c2a,c2b⟩:=c2
 have wr2:IntKind.u64.wrap r2=r2:=by simp [IntKind.wrap,IntKind.bits,IntKind.signed];omega
 have wq2:IntKind.u64.wrap q2=q2:=by simp [IntKind.wrap,IntKind.bits,IntKind.signed];omega
 have ws2:IntKind.u64.wrap (48+r2)=48+r2:=by simp [IntKind.wrap,IntKind.bits,IntKind.signed];omega
 have wt2:IntKind.u8.wrap (48+r2)=48+r2:=by simp [IntKind.wrap,IntKind.bits,IntKind.signed];omega
 obtain ⟨b3a,b3b⟩:=b3
 obtain ⟨c3a,c3b⟩:=c3
 have wr3:IntKind.u64.wrap r3=r3:=by simp [IntKind.wrap,IntKind.bits,IntKind.signed];omega
 have wq3:IntKind.u64.wrap q3=q3:=by simp [IntKind.wrap,IntKind.bits,IntKind.signed];omega
 have ws3:IntKind.u64.wrap (48+r3)=48+r3:=by simp [IntKind.wrap,IntKind.bits,IntKind.signed];omega
 have wt3:IntKind.u8.wrap (48+r3)=48+r3:=by simp [IntKind.wrap,IntKind.bits,IntKind.signed];omega
 refine mk_ 134 c134 (s_ ?_)
 have hZ:=j24_ hX hn0 hn1 hq1 hr1 wr1 wq1 ws1 wt1 z1 hq2 hr2 wr2 wq2 ws2 wt2 z2 hq3 hr3 wr3 wq3 ws3 wt3 z3
 repeat (first
  | refine wk_ ?_
  | (refine W.loop ?_)
  | (show W TF _ (dropped true _ _) _;generalize e:dropped _ _ _=r;simp (disch:=omega) [hX,hn0,hn1,hq1,hr1,wr1,wq1,ws1,wt1,z1,hq2,hr2,wr2,wq2,ws2,wt2,z2,hq3,hr3,wr3,wq3,ws3,wt3,z3] at e;subst e;refine W.loop ?_)
  | (refine rk_ ?_;refine hk _ ?_;omega))
theorem zZ1 (n:Int) (h0:0<=n) (h1:n<1000) (S:B8) (P:Pe 134 [.int .u64 n] (.str S)):Pe 108 [.int .i64 n] (.str S):=by
 intro h hf K hk
 obtain ⟨hu,hut,hX⟩:=fx4 hf
 have w1:IntKind.u64.wrap n=n:=by simp [IntKind.wrap,IntKind.bits,IntKind.signed];omega
 refine mk_ 108 c108 (s_ ?_)
 have hZ:=j3_ hX w1 h0
 repeat (first
  | refine wk_ ?_
  | (refine pe_ P fun n2 g2=>⟨rfl,?_⟩)
  | (refine rk_ ?_;refine hk _ ?_;omega))
theorem zQg (n:Nat) (hn:n<1000):Pe 108 [.int .i64 (n:Int)] (.str (dg n)):=by
 have f:∀ x:Nat,(x:Int).tdiv 10=((x / 10:Nat):Int)/\(x:Int).tmod 10=((x % 10:Nat):Int):=fun x=>by
  rw [Int.tdiv_eq_ediv_of_nonneg (by omega),Int.tmod_eq_emod_of_nonneg (by omega)];simp
 have g:∀ x:Nat,(48+((x:Nat):Int)).toNat=48+x:=fun x=>by omega
 refine zZ1 n om_ om_ _ ?_
 unfold dg dgt
 by_cases h1:n<10
 . have:=zW0 n om_ om_ _ _ (f n).1 (f n).2 om_ om_ om_
   rw [g,Nat.mod_eq_of_lt h1] at this
   rw [if_pos h1];exact this
 . by_cases h2:n<100
   . have:=zVe n om_ om_ _ _ (f n).1 (f n).2 om_ om_ om_ _ _ (f (n / 10)).1 (f (n / 10)).2 om_ om_ om_
     rw [g,g,Nat.mod_eq_of_lt (show n / 10<10 by omega)] at this
     rw [if_neg h1,if_pos h2];exact this
   . have:=zWo n om_ om_ _ _ (f n).1 (f n).2 om_ om_ om_ _ _ (f (n / 10)).1 (f (n / 10)).2 om_ om_ om_ _ _ (f (n / 10 / 10)).1 (f (n / 10 / 10)).2 om_ om_ om_
     rw [g,g,g,Nat.mod_eq_of_lt (show n / 10 / 10<10 by omega),Nat.div_div_eq_div_mul] at this
     rw [if_neg h1,if_neg h2];exact this
inductive Sh where
 | one | opt | rep (k:Nat) | map (key:B8)
structure FD where
 sh:Sh
 t:B8
 num:Nat
def K6:List (B8):=[[115,116,114,105,110,103],[105,110,116,51,50],[98,111,111,108],[117,105,110,116,54,52],[115,105,110,116,51,50],[102,105,120,101,100,51,50]]
def pkT:Nat->B8
 | 0=>[]
 | 1=>[32,91,112,97,99,107,101,100,32,61,32,102,97,108,115,101,93]
 | _=>[32,91,112,97,99,107,101,100,32,61,32,116,114,117,101,93]
def noPk (t:B8):Prop:=t=[115,116,114,105,110,103]\/t=[98,121,116,101,115]\/t=[73]\/t=[77]
def FD.ok (d:FD):Prop:=d.t ∈ W18/\1<=d.num/\d.num<1000/\match d.sh with
 | .rep k=>k<=2/\(k≠0->¬ noPk d.t)
 | .map key=>key ∈ K6
 | _=>True
def FD.nmR (d:FD) (r:B8):B8:=102::(dg d.num++32::61::32::(dg d.num++r))
def FD.txt (d:FD):B8:=match d.sh with
 | .one=>d.t++32::d.nmR [59,10]
 | .opt=>[111,112,116,105,111,110,97,108,32]++(d.t++32::d.nmR [59,10])
 | .rep k=>[114,101,112,101,97,116,101,100,32]++(d.t++32::d.nmR (pkT k++[59,10]))
 | .map key=>[109,97,112,60]++(key++44::32::(d.t++62::32::d.nmR [59,10]))
theorem zGy (n:Nat):(dg n).length<=3:=by unfold dg;split;simp;split <;> simp
theorem zIp:∀ t ∈ W18,t.length<=8:=by decide
theorem zY6:∀ k<6,nth [.str [115,116,114,105,110,103],.str [105,110,116,51,50],.str [98,111,111,108],.str [117,105,110,116,54,52],.str [115,105,110,116,51,50],.str [102,105,120,101,100,51,50]] k=.str (K6[k]?.getD [])/\K6[k]?.getD [] ∈ K6/\(K6[k]?.getD []).length<=8:=by
 intro k hk
 rcases (show k=0\/k=1\/k=2\/k=3\/k=4\/k=5 by omega) with rfl | rfl | rfl | rfl | rfl | rfl <;> exact ⟨rfl,by decide,by decide⟩
theorem zQ7 (num:Nat) (h1:1<=num) (h2:num<1000):PkC 109 [.int .i64 (num:Int),.bool false] fun v=>∃ d:FD,d.ok/\d.num=num/\v=.str d.txt:=by
 intro E nx ty p d L o hu hut hg hL j hj0 hj1 K hk
 have hY:=fxp hu hg
 have TN:=zQg num h2
 have hd:=zGy num
 refine mk_ 109 c109 (s_ ?_)
 have hZ:=j2_ hY hd
 repeat (first
  | refine wk_ ?_
  | (refine zQb E _ _ p d L o (hu.le om_) (hut.le om_) hg hL _ (by assumption) (by assumption) _ fun n2 j2 v2 g2 ga2 gb2 gv2=>?_;(try dsimp only at g2);(obtain ⟨t,ht,rfl⟩:=gv2);(have htl:=zIp t ht);(refine ⟨rfl,?_⟩))
  | (refine pe_ TN (hf:=⟨hu.set.le om_,hut.le om_⟩) fun n3 g3=>⟨rfl,?_⟩))
 refine zF0 8 (by decide) E _ _ p d L o (hu.le om_) (hut.le om_) hg hL _ (by assumption) (by assumption) _ fun n4 j4 v4 g4 ga4 gb4 gv4=>?_;(try dsimp only at g4)
 obtain ⟨k,rfl,hk8⟩:=gv4
 refine ⟨rfl,?_⟩
 have htS:t=[115,116,114,105,110,103]\/t=[98,121,116,101,115]\/t=[73]\/t=[77]\/((t == [115,116,114,105,110,103])=false/\(t == [98,121,116,101,115])=false/\(t == [73])=false/\(t == [77])=false):=by
  by_cases a1:t=[115,116,114,105,110,103]
  . exact .inl a1
  by_cases a2:t=[98,121,116,101,115]
  . exact .inr (.inl a2)
  by_cases a3:t=[73]
  . exact .inr (.inr (.inl a3))
  by_cases a4:t=[77]
  . exact .inr (.inr (.inr (.inl a4)))
  exact .inr (.inr (.inr (.inr ⟨bn_ a1,bn_ a2,bn_ a3,bn_ a4⟩)))
 have key:∀ d:FD,d.ok->d.num=num->∀ n' j',nx<=n'->0<=j'->j'<5000->K (.str d.txt) ⟨zA2 E p (pk L j'),n',ty⟩:=fun d a b n' j' c1 c2 c3=>hk n' j' _ c1 c2 c3 ⟨d,a,b,rfl⟩
 have N4:=zF0 4 (by decide) E
 have N6:=zF0 6 (by decide) E
 by_cases k0:k=0
 . subst k0
   have hZ:=j3_ hY hd htl
   repeat (first
    | refine wk_ ?_
    | (refine rk_ ?_;(try simp only [List.append_assoc,List.cons_append,List.nil_append]);exact key ⟨.opt,t,num⟩ (by first | exact ⟨ht,h1,h2,trivial⟩ | exact ⟨ht,h1,h2,by decide,by intro;contradiction⟩) rfl _ _ om_ (by assumption) (by assumption)))
 by_cases k12:k=1\/k=2
 . rcases k12 with rfl | rfl
   all_goals
    have hZ:=j3_ hY hd htl
    repeat (first
     | refine wk_ ?_
     | (refine N4 _ _ p d L o (hu.le om_) (hut.le om_) hg hL _ (by assumption) (by assumption) _ fun n5 j5 v5 g5 ga5 gb5 gv5=>?_;(try dsimp only at g5);(obtain ⟨q,rfl,hq⟩:=gv5);(refine ⟨rfl,?_⟩)))
   all_goals (rcases (show q=0\/q=1\/q=2\/q=3 by omega) with rfl | rfl | rfl | rfl)
   all_goals rcases htS with rfl | rfl | rfl | rfl | ⟨s1,s2,s3,s4⟩
   all_goals (first | skip)
   any_goals
    have hZ:=j7_ hY hd htl s1 s2 s3 s4
    repeat (first
     | refine wk_ ?_
     | (refine rk_ ?_;first | exact key ⟨.rep 0,_,num⟩ ⟨ht,h1,h2,by decide,fun h=>absurd rfl h⟩ rfl _ _ om_ (by assumption) (by assumption) | exact key ⟨.rep 1,_,num⟩ ⟨ht,h1,h2,by decide,fun _ e=>by rcases e with rfl | rfl | rfl | rfl <;> simp at s1 s2 s3 s4⟩ rfl _ _ om_ (by assumption) (by assumption) | exact key ⟨.rep 2,_,num⟩ ⟨ht,h1,h2,by decide,fun _ e=>by rcases e with rfl | rfl | rfl | rfl <;> simp at s1 s2 s3 s4⟩ rfl _ _ om_ (by assumption) (by assumption)))
   all_goals
    have hZ:=j3_ hY hd htl
    repeat (first
     | refine wk_ ?_
     | (refine rk_ ?_;first | exact key ⟨.rep 0,_,num⟩ ⟨ht,h1,h2,by decide,fun h=>absurd rfl h⟩ rfl _ _ om_ (by assumption) (by assumption) | exact key ⟨.rep 1,_,num⟩ ⟨ht,h1,h2,by decide,fun _ e=>by rcases e with rfl | rfl | rfl | rfl <;> simp at s1 s2 s3 s4⟩ rfl _ _ om_ (by assumption) (by assumption) | exact key ⟨.rep 2,_,num⟩ ⟨ht,h1,h2,by decide,fun _ e=>by rcases e with rfl | rfl | rfl | rfl <;> simp at s1 s2 s3 s4⟩ rfl _ _ om_ (by assumption) (by assumption)))
 by_cases k3:k=3
 . subst k3
   have hZ:=j3_ hY hd htl
   repeat (first
    | refine wk_ ?_
    | (refine N6 _ _ p d L o (hu.le om_) (hut.le om_) hg hL _ (by assumption) (by assumption) _ fun n6 j6 v6 g6 ga6 gb6 gv6=>?_;(try dsimp only at g6);(obtain ⟨q,rfl,hq⟩:=gv6);(refine ⟨rfl,?_⟩)))
   obtain ⟨kn,km,kl⟩:=zY6 q om_
   have hq2:(q:Int)<6:=hq
   have hq3:q<6:=by omega
   generalize K6[q]?.getD []=ke at *
   have hZ:=j7_ hY hd htl kn kl hq2 hq3
   repeat (first
    | refine wk_ ?_
    | (refine rk_ ?_;exact key ⟨.map ke,t,num⟩ ⟨ht,h1,h2,km⟩ rfl _ _ om_ (by assumption) (by assumption)))
 have z0:((k:Int) == 0)=false:=bn_ om_
 have z1:((k:Int) == 1)=false:=bn_ om_
 have z2:((k:Int) == 2)=false:=bn_ om_
 have z3:((k:Int) == 3)=false:=bn_ om_
 have y0:¬ k=0:=k0
 have y1:¬ k=1:=fun e=>k12 (.inl e)
 have y2:¬ k=2:=fun e=>k12 (.inr e)
 have y3:¬ k=3:=k3
 have hZ:=j11_ hY hd htl z0 z1 z2 z3 y0 y1 y2 y3
 repeat (first
  | refine wk_ ?_
  | (refine rk_ ?_;exact key ⟨.one,t,num⟩ (by first | exact ⟨ht,h1,h2,trivial⟩ | exact ⟨ht,h1,h2,by decide,by intro;contradiction⟩) rfl _ _ om_ (by assumption) (by assumption)))
structure OD where
 t:B8
 num:Nat
def OD.ok (d:OD):Prop:=d.t ∈ W18/\1<=d.num/\d.num<1000
def OD.txt (d:OD):B8:=d.t++32::111::(dg d.num++32::61::32::(dg d.num++[59,10]))
theorem zYa:∀ t ∈ K6,t.length<=8:=by decide
theorem zVr (k:Nat):(pkT k).length<=20:=by rcases k with _ | _ | k <;> simp [pkT]
theorem FD.txt_len {d:FD} (h:d.ok):d.txt.length<=70:=by
 have h1:=zIp _ h.1
 have h2:=zGy d.num
 have h3:=h.2.2.2
 unfold FD.txt FD.nmR
 cases hs:d.sh with
 | one=>simp;omega
 | opt=>simp;omega
 | rep k=>have:=zVr k;simp;omega
 | map key=>rw [hs] at h3;have:=zYa _ h3;simp;omega
def zJr (i m:Nat):Prop:=m=i+1\/m=i+1+14 * i
theorem zc4 {E:EE} {nx:Nat} {ty:NN} {p d:Nat} {L:CVal} {o:CObj} (hu:Under E nx) (hut:zA7 ty nx) (hg:zA1 E p=some o) (hL:Nums L) {n i:Nat} (hi:i<n) (hn:n<=10) {s one:B8} (hsl:s.length<3000) (hol:one.length<3000) (j:Int) (hj0:0<=j) (hj1:j<5000) (v1 v12:CVal) (v4 v5 v7 v9 v10:CVal) {Q:QT}
    (hk1:∀ (v4 v5 v7 v9 v10:CVal) n' j' (x:FD),nx<=n'->0<=j'->j'<5000->x.ok->zJr i x.num->W TF bdL ⟨[.ptr p d 0,v1,.int .i64 ((i:Int)+1),.int .i64 (n:Int),v4,v5,.bool false,v7,.str one,v9,v10,.str (s++x.txt),v12,.str []],⟨zA2 E p (pk L j'),n',ty⟩,[]⟩ Q)
    (hk2:∀ (v4 v5 v7 v9 v10:CVal) n' j' (x:OD),nx<=n'->0<=j'->j'<5000->x.ok->zJr (i+0) (x.num - 100)->100<x.num->W TF bdL ⟨[.ptr p d 0,v1,.int .i64 ((i:Int)+1),.int .i64 (n:Int),v4,v5,.bool false,v7,.str (one++x.txt),v9,v10,.str s,v12,.str []],⟨zA2 E p (pk L j'),n',ty⟩,[]⟩ Q) :
    W TF bdL ⟨[.ptr p d 0,v1,.int .i64 (i:Int),.int .i64 (n:Int),v4,v5,.bool false,v7,.str one,v9,v10,.str s,v12,.str []],⟨zA2 E p (pk L j),nx,ty⟩,[]⟩ Q:=by
 have hY:=fxp hu hg
 have hlt:(i:Int)<(n:Int):=by omega
 refine W.loop ?_
 have hZ:=j2_ hY hlt
 repeat' (first
  | refine st_ rfl ?_
  | refine ws_ ?_
  | (refine zF0 2 (by decide) E _ _ p d L o (hu.le om_) (hut.le om_) hg hL _ (by assumption) (by assumption) _ fun n2 j2 v2 g2 ga2 gb2 gv2=>?_;(try dsimp only at g2);(obtain ⟨k,rfl,hk⟩:=gv2);(rcases (show k=0\/k=1 by omega) with rfl | rfl) <;> refine ⟨rfl,?_⟩))
 . have F0:=zQ7 (i+1) om_ om_
   have TN:=zQg (i+1+100) om_
   rw [show ((i+1:Nat):Int)=(i:Int)+1 by omega] at F0
   rw [show ((i+1+100:Nat):Int)=(i:Int)+1+100 by omega] at TN
   have F:=F0 E
   have hd:=zGy (i+1+100)
   iterate 1 try (first
    | refine st_ rfl ?_
    | ((first | refine W.regG ?_ | refine WoR.go ?_);generalize e:goR .. = r;simp (disch:=omega) [hY,hlt,hsl,hol] at e;replace e:some _=_:=e;subst e;(try dsimp only [goW]))
    | (refine zF0 4 (by decide) E _ _ p d L o (hu.le om_) (hut.le om_) hg hL _ (by assumption) (by assumption) _ fun n4 j4 v4 g4 ga4 gb4 gv4=>?_;(try dsimp only at g4);(obtain ⟨q,rfl,hq⟩:=gv4);(refine ⟨rfl,?_⟩)))
   by_cases q0:q=0
   . subst q0
     have hZ:=j5_ hY hlt hsl hol hd
     repeat (first
      | refine wk_ ?_
      | (refine zQb E _ _ p d L o (hu.le om_) (hut.le om_) hg hL _ (by assumption) (by assumption) _ fun n5 j5 v5 g5 ga5 gb5 gv5=>?_;(try dsimp only at g5);(obtain ⟨t,ht,rfl⟩:=gv5);(have htl:=zIp t ht);(refine ⟨rfl,?_⟩))
      | (refine pe_ TN (hf:=⟨hu.set.le om_,hut.le om_⟩) fun n7 g7=>⟨rfl,?_⟩))
     have hZ:=j6_ hY hlt hsl hol hd htl
     repeat (first
      | refine wk_ ?_
      | (refine pe_ TN (hf:=⟨hu.set.le om_,hut.le om_⟩) fun n7 g7=>⟨rfl,?_⟩))
     show W TF bdL (dropped true _ _) Q;generalize e:dropped _ _ _=r;simp (disch:=omega) [hY] at e;subst e
     exact hk2 _ _ _ _ _ _ _ ⟨t,i+1+100⟩ om_ (by assumption) (by assumption) ⟨ht,om_,om_⟩ (.inl om_) om_
   . have z0:((q:Int) == 0)=false:=bn_ om_
     have hZ:=j6_ hY hlt hsl hol z0 q0
     repeat (first
      | refine wk_ ?_
      | (refine F _ _ p d L o (hu.le om_) (hut.le om_) hg hL _ (by assumption) (by assumption) _ fun n6 j6 v6 g6 ga6 gb6 gv6=>?_;(try dsimp only at g6);(obtain ⟨x,hx,hxn,rfl⟩:=gv6);(have hxl:=FD.txt_len hx);(refine ⟨rfl,?_⟩)))
     have hZ:=j6_ hY hlt hsl hol z0 hxl
     try refine wk_ ?_
     show W TF bdL (dropped true _ _) Q;generalize e:dropped _ _ _=r;simp (disch:=omega) [hY] at e;subst e
     refine hk1 _ _ _ _ _ _ _ x ?_ (by assumption) (by assumption) hx (.inl om_);exact om_
 . have F0:=zQ7 (i+1+14 * i) om_ om_
   have TN:=zQg (i+1+14 * i+100) om_
   rw [show ((i+1+14 * i:Nat):Int)=(i:Int)+1+14 * (i:Int) by omega] at F0
   rw [show ((i+1+14 * i+100:Nat):Int)=(i:Int)+1+14 * (i:Int)+100 by omega] at TN
   have F:=F0 E
   have hd:=zGy (i+1+14 * i+100)
   iterate 1 try (first
    | refine st_ rfl ?_
    | ((first | refine W.regG ?_ | refine WoR.go ?_);generalize e:goR .. = r;simp (disch:=omega) [hY,hlt,hsl,hol] at e;replace e:some _=_:=e;subst e;(try dsimp only [goW]))
    | (refine zF0 4 (by decide) E _ _ p d L o (hu.le om_) (hut.le om_) hg hL _ (by assumption) (by assumption) _ fun n4 j4 v4 g4 ga4 gb4 gv4=>?_;(try dsimp only at g4);(obtain ⟨q,rfl,hq⟩:=gv4);(refine ⟨rfl,?_⟩)))
   by_cases q0:q=0
   . subst q0
     have hZ:=j5_ hY hlt hsl hol hd
     repeat (first
      | refine wk_ ?_
      | (refine zQb E _ _ p d L o (hu.le om_) (hut.le om_) hg hL _ (by assumption) (by assumption) _ fun n5 j5 v5 g5 ga5 gb5 gv5=>?_;(try dsimp only at g5);(obtain ⟨t,ht,rfl⟩:=gv5);(have htl:=zIp t ht);(refine ⟨rfl,?_⟩))
      | (refine pe_ TN (hf:=⟨hu.set.le om_,hut.le om_⟩) fun n7 g7=>⟨rfl,?_⟩))
     have hZ:=j6_ hY hlt hsl hol hd htl
     repeat (first
      | refine wk_ ?_
      | (refine pe_ TN (hf:=⟨hu.set.le om_,hut.le om_⟩) fun n7 g7=>⟨rfl,?_⟩))
     show W TF bdL (dropped true _ _) Q;generalize e:dropped _ _ _=r;simp (disch:=omega) [hY] at e;subst e
     exact hk2 _ _ _ _ _ _ _ ⟨t,i+1+14 * i+100⟩ om_ (by assumption) (by assumption) ⟨ht,om_,om_⟩ (.inr om_) om_
   . have z0:((q:Int) == 0)=false:=bn_ om_
     have hZ:=j6_ hY hlt hsl hol z0 q0
     repeat (first
      | refine wk_ ?_
      | (refine F _ _ p d L o (hu.le om_) (hut.le om_) hg hL _ (by assumption) (by assumption) _ fun n6 j6 v6 g6 ga6 gb6 gv6=>?_;(try dsimp only at g6);(obtain ⟨x,hx,hxn,rfl⟩:=gv6);(have hxl:=FD.txt_len hx);(refine ⟨rfl,?_⟩)))
     have hZ:=j6_ hY hlt hsl hol z0 hxl
     try refine wk_ ?_
     show W TF bdL (dropped true _ _) Q;generalize e:dropped _ _ _=r;simp (disch:=omega) [hY] at e;subst e
     refine hk1 _ _ _ _ _ _ _ x ?_ (by assumption) (by assumption) hx (.inr om_);exact om_
theorem zYp {E:EE} {nx:Nat} {ty:NN} {p d:Nat} {L:CVal} {o:CObj} (hu:Under E nx) (hut:zA7 ty nx) (hg:zA1 E p=some o) (hL:Nums L) {n:Nat} {s one:B8} (j:Int) (hj0:0<=j) (hj1:j<5000) (v1 v12:CVal) (v4 v5 v7 v9 v10:CVal) {Q:QT}
    (hk:∀ (v4 v5 v7 v9 v10:CVal) n' j',nx<=n'->0<=j'->j'<5000->Q (.exit 0) ⟨[.ptr p d 0,v1,.int .i64 (n:Int),.int .i64 (n:Int),v4,v5,.bool false,v7,.str one,v9,v10,.str s,v12,.str []],⟨zA2 E p (pk L j'),n',ty⟩,[]⟩) :
    W TF bdL ⟨[.ptr p d 0,v1,.int .i64 (n:Int),.int .i64 (n:Int),v4,v5,.bool false,v7,.str one,v9,v10,.str s,v12,.str []],⟨zA2 E p (pk L j),nx,ty⟩,[]⟩ Q:=by
 have hY:=fxp hu hg
 refine W.loop ?_
 have hZ:=hY
 try refine wk_ ?_
 all_goals (refine hk _ _ _ _ _ _ _ ?_ hj0 hj1;exact om_)
def fsT (l:List FD):B8:=l.flatMap FD.txt
def osT (l:List OD):B8:=l.flatMap OD.txt
structure Bi (i:Nat) (fs:List FD) (os:List OD):Prop where
 f:∀ x ∈ fs,x.ok/\∃ k,k<i/\zJr k x.num
 o:∀ x ∈ os,x.ok/\100<x.num/\∃ k,k<i/\zJr k (x.num - 100)
 nf:(fs.map (·.num)).Nodup
 no:(os.map (·.num)).Nodup
 l:fs.length+os.length=i
theorem OD.txt_len {d:OD} (h:d.ok):d.txt.length<=70:=by
 have h1:=zIp _ h.1
 have h2:=zGy d.num
 unfold OD.txt;simp;omega
theorem zL6:∀ {l:List FD},(∀ x ∈ l,x.ok)->(fsT l).length<=70 * l.length
 | [],_=>by simp [fsT]
 | x::l,h=>by
  have h1:=FD.txt_len (h x (by simp))
  have h2:=zL6 (l:=l) fun y hy=>h y (by simp [hy])
  have e:fsT (x::l)=x.txt++fsT l:=by simp [fsT]
  rw [e];simp only [List.length_append,List.length_cons];omega
theorem zKt:∀ {l:List OD},(∀ x ∈ l,x.ok)->(osT l).length<=70 * l.length
 | [],_=>by simp [osT]
 | x::l,h=>by
  have h1:=OD.txt_len (h x (by simp))
  have h2:=zKt (l:=l) fun y hy=>h y (by simp [hy])
  have e:osT (x::l)=x.txt++osT l:=by simp [osT]
  rw [e];simp only [List.length_append,List.length_cons];omega
theorem zNq {i k a b:Nat} (hk:k<i) (hi:i<10) (ha:zJr k a) (hb:zJr i b):a≠b:=by
 rcases ha with rfl | rfl <;> rcases hb with rfl | rfl <;> omega
theorem Bi.addF {i:Nat} {fs:List FD} {os:List OD} (B:Bi i fs os) (hi:i<10) {x:FD} (hx:x.ok) (hN:zJr i x.num):Bi (i+1) (fs++[x]) os where
 f:=fun y hy=>by
  rcases List.mem_append.1 hy with h | h
  . obtain ⟨a,k,b,c⟩:=B.f y h;exact ⟨a,k,by omega,c⟩
  . simp at h;subst h;exact ⟨hx,i,by omega,hN⟩
 o:=fun y hy=>by obtain ⟨a,b,k,c,d⟩:=B.o y hy;exact ⟨a,b,k,by omega,d⟩
 nf:=by
  rw [List.map_append,List.nodup_append]
  refine ⟨B.nf,by simp,fun a ha b hb=>?_⟩
  obtain ⟨y,hy,rfl⟩:=List.mem_map.1 ha
  simp at hb;subst hb
  obtain ⟨_,k,h1,h2⟩:=B.f y hy
  exact zNq h1 hi h2 hN
 no:=B.no
 l:=by have:=B.l;simp;omega
theorem Bi.addO {i:Nat} {fs:List FD} {os:List OD} (B:Bi i fs os) (hi:i<10) {x:OD} (hx:x.ok) (hN:zJr i (x.num - 100)) (h100:100<x.num):Bi (i+1) fs (os++[x]) where
 o:=fun y hy=>by
  rcases List.mem_append.1 hy with h | h
  . obtain ⟨a,b,k,c,d⟩:=B.o y h;exact ⟨a,b,k,by omega,d⟩
  . simp at h;subst h;exact ⟨hx,h100,i,by omega,hN⟩
 f:=fun y hy=>by obtain ⟨a,k,c,d⟩:=B.f y hy;exact ⟨a,k,by omega,d⟩
 no:=by
  rw [List.map_append,List.nodup_append]
  refine ⟨B.no,by simp,fun a ha b hb=>?_⟩
  obtain ⟨y,hy,rfl⟩:=List.mem_map.1 ha
  simp at hb;subst hb
  obtain ⟨_,h0,k,h1,h2⟩:=B.o y hy
  have:=zNq h1 hi h2 hN
  omega
 nf:=B.nf
 l:=by have:=B.l;simp;omega
theorem zVu {E:EE} {nx:Nat} {ty:NN} {p d:Nat} {L:CVal} {o:CObj} (hu:Under E nx) (hut:zA7 ty nx) (hg:zA1 E p=some o) (hL:Nums L) {n:Nat} (hn:n<=10) (v1 v12:CVal) {Q:QT}
    (hk:∀ fs os (v4 v5 v7 v9 v10:CVal) n' j',Bi n fs os->nx<=n'->0<=j'->j'<5000->Q (.exit 0) ⟨[.ptr p d 0,v1,.int .i64 (n:Int),.int .i64 (n:Int),v4,v5,.bool false,v7,.str (osT os),v9,v10,.str (fsT fs),v12,.str []],⟨zA2 E p (pk L j'),n',ty⟩,[]⟩) :
    ∀ (m i:Nat) (fs:List FD) (os:List OD) (nx2:Nat) (j:Int) (v4 v5 v7 v9 v10:CVal),i+m=n->Bi i fs os->nx<=nx2->0<=j->j<5000->W TF bdL ⟨[.ptr p d 0,v1,.int .i64 (i:Int),.int .i64 (n:Int),v4,v5,.bool false,v7,.str (osT os),v9,v10,.str (fsT fs),v12,.str []],⟨zA2 E p (pk L j),nx2,ty⟩,[]⟩ Q:=by
 intro m
 induction m with
 | zero =>
  intro i fs os nx2 j v4 v5 v7 v9 v10 h1 B h2 h3 h4
  have h5:i=n:=by omega
  subst h5
  exact zYp (hu.le h2) (hut.le h2) hg hL j h3 h4 _ _ _ _ _ _ _ fun v4 v5 v7 v9 v10 n' j' g1 g2 g3=>hk fs os _ _ _ _ _ n' j' B om_ g2 g3
 | succ m ih =>
  intro i fs os nx2 j v4 v5 v7 v9 v10 h1 B h2 h3 h4
  have l1:=zL6 fun x hx=>(B.f x hx).1
  have l2:=zKt fun x hx=>(B.o x hx).1
  have l3:=B.l
  refine zc4 (hu.le h2) (hut.le h2) hg hL om_ hn om_ om_ j h3 h4 _ _ _ _ _ _ _ (fun v4 v5 v7 v9 v10 n' j' x g1 g2 g3 hx hN=>?_) (fun v4 v5 v7 v9 v10 n' j' x g1 g2 g3 hx hN h100=>?_)
  . have:=ih (i+1) (fs++[x]) os n' j' v4 v5 v7 v9 v10 om_ (B.addF om_ hx hN) om_ g2 g3
    have e:fsT (fs++[x])=fsT fs++x.txt:=by simp [fsT]
    rw [e] at this
    push_cast at this
    exact this
  . have:=ih (i+1) fs (os++[x]) n' j' v4 v5 v7 v9 v10 om_ (B.addO om_ hx hN h100) om_ g2 g3
    have e:osT (os++[x])=osT os++x.txt:=by simp [osT]
    rw [e] at this
    push_cast at this
    exact this
structure BD where
 fs:List FD
 os:List OD
def BD.txt (b:BD):B8:=fsT b.fs++(if b.os.isEmpty then [] else [111,110,101,111,102,32,99,32,123,10]++(osT b.os++[125,10]))
structure BD.ok (b:BD) (n:Nat):Prop where
 b:∃ i,i<=n/\Bi i b.fs b.os
theorem zU2 {l:List OD} (h:l≠[]):osT l≠[]:=by
 cases l with
 | nil=>exact absurd rfl h
 | cons x l=>simp only [osT,List.flatMap_cons,OD.txt,ne_eq,List.append_eq_nil_iff];simp
theorem zU9 (most:Nat) (hm:most<=9):PkC 55 [.int .i64 (most:Int),.bool false] fun v=>∃ b:BD,b.ok most/\v=.str b.txt:=by
 intro E nx ty p d L o hu hut hg hL j hj0 hj1 K hk
 have hY:=fxp hu hg
 have NM:=zF0 ((most:Int)+1) om_
 refine mk_ 55 c55 (s_ ?_)
 repeat ((fail_if_success (show W TF bdL _ _));first
  | refine st_ rfl ?_
  | ((first | refine W.regG ?_ | refine WoR.go ?_);generalize e:goR .. = r;simp (disch:=omega) [hY] at e;replace e:some _=_:=e;subst e;(try dsimp only [goW]))
  | (refine NM E _ _ p d L o (hu.le om_) (hut.le om_) hg hL _ (by assumption) (by assumption) _ fun n2 j2 v2 g2 ga2 gb2 gv2=>?_;(try dsimp only at g2);(obtain ⟨n,rfl,hn⟩:=gv2);(refine ⟨rfl,?_⟩)))
 refine zVu (n:=n) hu hut hg hL (by omega) _ _ (fun fs os v4 v5 v7 v9 v10 n' j' B g1 g2 g3=>?_) n 0 [] [] _ _ _ _ _ _ _ (by omega) ⟨by simp,by simp,by simp,by simp,rfl⟩ ?_ (by assumption) (by assumption)
 . (try simp only [zB3,zA9,zAe,zAo,reduceIte])
   have l1:=zL6 fun x hx=>(B.f x hx).1
   have l2:=zKt fun x hx=>(B.o x hx).1
   have l3:=B.l
   have BO:BD.ok ⟨fs,os⟩ most:=⟨n,by omega,B⟩
   have key:∀ n' j',nx<=n'->0<=j'->j'<5000->K (.str (BD.txt ⟨fs,os⟩)) ⟨zA2 E p (pk L j'),n',ty⟩:=fun n' j' c1 c2 c3=>hk n' j' _ c1 c2 c3 ⟨_,BO,rfl⟩
   cases os with
   | nil =>
    have e:BD.txt ⟨fs,[]⟩=fsT fs:=by simp [BD.txt]
    have e2:osT []=[]:=rfl
    rw [e] at key
    rw [e2]
    have hZ:=hY
    repeat (first
     | refine wk_ ?_
     | (refine rk_ ?_;refine key _ _ ?_ (by assumption) (by assumption);exact om_))
   | cons x os =>
    have e:BD.txt ⟨fs,x::os⟩=fsT fs++([111,110,101,111,102,32,99,32,123,10]++(osT (x::os)++[125,10])):=by simp [BD.txt]
    have e2:(osT (x::os) == [])=false:=by
     cases h:osT (x::os) with
     | nil=>exact absurd h (zU2 (by simp))
     | cons _ _=>rfl
    have e3:¬ osT (x::os)=[]:=zU2 (by simp)
    rw [e] at key
    have l5:(fsT fs).length<=700:=by omega
    have l6:(osT (x::os)).length<=700:=by omega
    generalize osT (x::os)=one at *
    generalize fsT fs=s at *
    have hZ:=j5_ hY e2 e3 l5 l6
    repeat (first
     | refine wk_ ?_
     | (refine rk_ ?_;refine key _ _ ?_ (by assumption) (by assumption);exact om_))
 . exact om_
end Go.Proofs.YtafeofghkhhhkaaGreat.IrM
namespace Go.Proofs.YtafeofghkhhhkaaGreat.IrM
open Go Go.CI
open Go.LexF hiding zLd zGw
set_option maxRecDepth 100000
set_option maxHeartbeats 4000000
set_option linter.unusedVariables false
set_option linter.unusedSimpArgs false
attribute [local irreducible] W Wo Wc WoR
def zGp (a b:BD):B8:=[115,121,110,116,97,120,32,61,32,34,112,114,111,116,111,51,34,59,10,112,97,99,107,97,103,101,32,97,59,10,101,110,117,109,32,69,32,123,32,65,32,61,32,48,59,32,66,32,61,32,49,59,32,67,32,61,32,45,49,59,32,125,10,109,101,115,115,97,103,101,32,73,32,123,10]++(a.txt++([125,10,109,101,115,115,97,103,101,32,77,32,123,10]++(b.txt++[125,10])))
theorem BD.ok.txt_len {b:BD} {n:Nat} (h:b.ok n) (hn:n<=9):b.txt.length<=700:=by
 obtain ⟨i,hi,B⟩:=h.b
 have l1:=zL6 fun x hx=>(B.f x hx).1
 have l2:=zKt fun x hx=>(B.o x hx).1
 have l3:=B.l
 unfold BD.txt
 cases b.os.isEmpty <;> simp <;> omega
theorem zZt:PkC 21 [.bool false] fun v=>∃ a b:BD,a.ok 4/\b.ok 7/\v=.str (zGp a b):=by
 intro E nx ty p d L o hu hut hg hL j hj0 hj1 K hk
 have hY:=fxp hu hg
 have B4:=zU9 4 om_ E
 have B7:=zU9 7 om_ E
 refine mk_ 21 c21 (s_ ?_)
 have hZ:=hY
 repeat (first
  | refine wk_ ?_
  | (refine B4 _ _ p d L o (hu.le om_) (hut.le om_) hg hL _ (by assumption) (by assumption) _ fun n2 j2 v2 g2 ga2 gb2 gv2=>?_;(try dsimp only at g2);(obtain ⟨a,ha,rfl⟩:=gv2);(have hal:=BD.ok.txt_len ha (by omega));(refine ⟨rfl,?_⟩)))
 have hZ:=j2_ hY hal
 repeat (first
  | refine wk_ ?_
  | (refine B7 _ _ p d L o (hu.le om_) (hut.le om_) hg hL _ (by assumption) (by assumption) _ fun n3 j3 v3 g3 ga3 gb3 gv3=>?_;(try dsimp only at g3);(obtain ⟨b,hb,rfl⟩:=gv3);(have hbl:=BD.ok.txt_len hb (by omega));(refine ⟨rfl,?_⟩)))
 have hZ:=j3_ hY hal hbl
 repeat (first
  | refine wk_ ?_
  | (refine rk_ ?_;refine hk _ _ _ ?_ (by assumption) (by assumption) ⟨a,b,ha,hb,rfl⟩;exact om_))
abbrev Kw:=Nat × B8 × Nat
abbrev nm (t:B8):Kw:=(1,t,0)
abbrev sg (c:UInt8):Kw:=(4,[c],0)
abbrev nu (n:Nat):Kw:=(2,[],n)
def Cel.w (p:Cel):Kw:=(p.k,p.tx,p.n)
inductive TB:B8->Bool->List Kw->Prop
 | nil:TB [] false []
 | gap {x tx r:B8} {k n:Nat} {f b fr:Bool} {c:UInt8} {ks:List Kw}:TokOk x k tx n fr->(c.toNat=32\/c.toNat=10)->brk c=true->TB r f ks->b=(match x with | []=>false | d::_=>brk d)->TB (x++c::r) b ((k,tx,n)::ks)
 | dir {x tx r:B8} {k n:Nat} {b f fr:Bool} {ks:List Kw}:TokOk x k tx n fr->TB r f ks->(fr || f)=true->b=(match x with | []=>false | d::_=>brk d)->TB (x++r) b ((k,tx,n)::ks)
theorem TB.cels {t:B8} {b:Bool} {ks:List Kw} (h:TB t b ks):∃ ps,WFB ps/\rnd ps=t/\ps.map Cel.w=ks/\(b=true->∃ q r',ps=q::r'/\∃ c x',q.x=c::x'/\brk c=true):=by
 induction h with
 | nil=>exact ⟨[],trivial,rfl,rfl,fun h=>by cases h⟩
 | @gap x tx r k n f b fr c ks h1 h2 h3 _ hb ih =>
  obtain ⟨ps,w,e,e2,_⟩:=ih
  refine ⟨⟨x,k,tx,n,[c],fr⟩::ps,⟨h1,zYd h2 zRl,.inr (.inl ⟨c,[],rfl,h3⟩),w⟩,by simp [rnd,e],by simp [Cel.w,e2],fun hbt=>⟨_,_,rfl,?_⟩⟩
  rw [hbt] at hb
  cases x with
  | nil=>cases hb
  | cons d y=>exact ⟨d,y,rfl,hb.symm⟩
 | @dir x tx r k n b f fr ks h1 _ ho hb ih =>
  obtain ⟨ps,w,e,e2,hq⟩:=ih
  refine ⟨⟨x,k,tx,n,[],fr⟩::ps,⟨h1,zRl,?_,w⟩,by simp [rnd,e],by simp [Cel.w,e2],fun hbt=>⟨_,_,rfl,?_⟩⟩
  . cases hfr:fr with
    | true=>exact .inl rfl
    | false =>
     rw [hfr] at ho
     obtain ⟨q,r',hz,hz2⟩:=hq (by simpa using ho)
     exact .inr (.inr ⟨rfl,q,r',hz,hz2⟩)
  . rw [hbt] at hb
    cases x with
    | nil=>cases hb
    | cons d y=>exact ⟨d,y,rfl,hb.symm⟩
def BlkT (t:B8) (ks:List Kw):Prop:=∃ ps,WFB ps/\rnd ps=t/\ps.map Cel.w=ks
theorem TB.blk {t:B8} {b:Bool} {ks:List Kw} (h:TB t b ks):BlkT t ks:=let ⟨ps,a,b,c,_⟩:=h.cels;⟨ps,a,b,c⟩
theorem BlkT.nil:BlkT [] []:=⟨[],trivial,rfl,rfl⟩
theorem BlkT.app {a b:B8} {ka kb:List Kw} (ha:BlkT a ka) (hb:BlkT b kb):BlkT (a++b) (ka++kb):=by
 obtain ⟨p,h1,rfl,rfl⟩:=ha
 obtain ⟨q,h2,rfl,rfl⟩:=hb
 exact ⟨p++q,h1.app h2,zQ5 p q,List.map_append ..⟩
def allN (n:Nat) (f:Nat->Bool):Bool:=match n with
 | 0=>true
 | n+1=>f n && allN n f
theorem zJa {f:Nat->Bool}:∀ {n:Nat},allN n f=true->∀ k,k<n->f k=true
 | 0,_,_,hk=>by omega
 | n+1,h,k,hk=>by
  simp only [allN,Bool.and_eq_true] at h
  rcases Nat.lt_or_ge k n with h1 | h1
  . exact zJa h.2 k h1
  . have:k=n:=by omega
    subst this;exact h.1
theorem zZw:allN 1000 (fun n=>n == 0 || (numB (dg n) && Nat.beq (valF 10 0 (dg n)) n))=true:=by kernel_rfl
theorem zTy {n:Nat} (h1:1<=n) (h2:n<1000):numB (dg n)=true/\valF 10 0 (dg n)=n:=by
 have h:=zJa zZw n h2
 simp only [Bool.or_eq_true,Bool.and_eq_true,beq_iff_eq,Nat.beq_eq] at h
 rcases h with h | h
 . omega
 . exact h
theorem zHa {n:Nat} (h1:1<=n) (h2:n<1000):TokOk (dg n) 2 [] n false:=by
 have h:=zXf (zTy h1 h2).1 (zGy n)
 rw [(zTy h1 h2).2] at h;exact h
theorem zUe:∀ t ∈ W18,zPc t=true:=by decide +kernel
theorem zbi:∀ t ∈ K6,zPc t=true:=by decide +kernel
def FD.mid (d:FD) (r:List Kw):List Kw:=nm (102::dg d.num)::sg 61::nu d.num::r
def pkK:Nat->List Kw
 | 0=>[]
 | 1=>[sg 91,nm [112,97,99,107,101,100],sg 61,nm [102,97,108,115,101],sg 93]
 | _=>[sg 91,nm [112,97,99,107,101,100],sg 61,nm [116,114,117,101],sg 93]
def FD.ks (d:FD):List Kw:=match d.sh with
 | .one=>nm d.t::d.mid [sg 59]
 | .opt=>nm [111,112,116,105,111,110,97,108]::nm d.t::d.mid [sg 59]
 | .rep k=>nm [114,101,112,101,97,116,101,100]::nm d.t::d.mid (pkK k++[sg 59])
 | .map key=>nm [109,97,112]::sg 60::nm key::sg 44::nm d.t::sg 62::d.mid [sg 59]
def OD.ks (d:OD):List Kw:=[nm d.t,nm (111::dg d.num),sg 61,nu d.num,sg 59]
theorem FD.blk {d:FD} (h:d.ok):BlkT d.txt d.ks:=by
 obtain ⟨ht,h1,h2,h3⟩:=h
 have hn:=zTy h1 h2
 have htn:=zUe _ ht
 unfold FD.txt FD.ks FD.nmR FD.mid
 cases hs:d.sh with
 | one=>exact TB.blk (b:=_) (.gap (c:=32) (zAy htn) (by decide) (by decide) (.gap (c:=32) (zAy (fname (by decide) hn.1)) (by decide) (by decide) (.gap (c:=32) (zAv (c:=61) (by decide)) (by decide) (by decide) (.dir (zHa h1 h2) (.gap (c:=10) (zAv (c:=59) (by decide)) (by decide) (by decide) .nil rfl) rfl rfl) rfl) rfl) rfl)
 | opt=>exact TB.blk (b:=_) (.gap (c:=32) (zAy (x:=[111,112,116,105,111,110,97,108]) (by decide)) (by decide) (by decide) (.gap (c:=32) (zAy htn) (by decide) (by decide) (.gap (c:=32) (zAy (fname (by decide) hn.1)) (by decide) (by decide) (.gap (c:=32) (zAv (c:=61) (by decide)) (by decide) (by decide) (.dir (zHa h1 h2) (.gap (c:=10) (zAv (c:=59) (by decide)) (by decide) (by decide) .nil rfl) rfl rfl) rfl) rfl) rfl) rfl)
 | rep k =>
  rw [hs] at h3
  rcases (show k=0\/k=1\/k=2 by have:=h3.1;omega) with rfl | rfl | rfl
  . exact TB.blk (b:=_) (.gap (c:=32) (zAy (x:=[114,101,112,101,97,116,101,100]) (by decide)) (by decide) (by decide) (.gap (c:=32) (zAy htn) (by decide) (by decide) (.gap (c:=32) (zAy (fname (by decide) hn.1)) (by decide) (by decide) (.gap (c:=32) (zAv (c:=61) (by decide)) (by decide) (by decide) (.dir (zHa h1 h2) (.gap (c:=10) (zAv (c:=59) (by decide)) (by decide) (by decide) .nil rfl) rfl rfl) rfl) rfl) rfl) rfl)
  . show BlkT ([114,101,112,101,97,116,101,100]++32::(d.t++32::((102::dg d.num)++32::([61]++32::(dg d.num++32::([91]++([112,97,99,107,101,100]++32::([61]++32::([102,97,108,115,101]++([93]++([59]++10::[]))))))))))) _
    exact TB.blk (b:=_) (.gap (c:=32) (zAy (x:=[114,101,112,101,97,116,101,100]) (by decide)) (by decide) (by decide) (.gap (c:=32) (zAy htn) (by decide) (by decide) (.gap (c:=32) (zAy (fname (by decide) hn.1)) (by decide) (by decide) (.gap (c:=32) (zAv (c:=61) (by decide)) (by decide) (by decide) (.gap (c:=32) (zHa h1 h2) (by decide) (by decide) (.dir (zAv (c:=91) (by decide)) (.gap (c:=32) (zAy (by decide)) (by decide) (by decide) (.gap (c:=32) (zAv (c:=61) (by decide)) (by decide) (by decide) (.dir (zAy (x:=[102,97,108,115,101]) (by decide)) (.dir (zAv (c:=93) (by decide)) (.gap (c:=10) (zAv (c:=59) (by decide)) (by decide) (by decide) .nil rfl) rfl rfl) rfl rfl) rfl) rfl) rfl rfl) rfl) rfl) rfl) rfl) rfl)
  . show BlkT ([114,101,112,101,97,116,101,100]++32::(d.t++32::((102::dg d.num)++32::([61]++32::(dg d.num++32::([91]++([112,97,99,107,101,100]++32::([61]++32::([116,114,117,101]++([93]++([59]++10::[]))))))))))) _
    exact TB.blk (b:=_) (.gap (c:=32) (zAy (x:=[114,101,112,101,97,116,101,100]) (by decide)) (by decide) (by decide) (.gap (c:=32) (zAy htn) (by decide) (by decide) (.gap (c:=32) (zAy (fname (by decide) hn.1)) (by decide) (by decide) (.gap (c:=32) (zAv (c:=61) (by decide)) (by decide) (by decide) (.gap (c:=32) (zHa h1 h2) (by decide) (by decide) (.dir (zAv (c:=91) (by decide)) (.gap (c:=32) (zAy (by decide)) (by decide) (by decide) (.gap (c:=32) (zAv (c:=61) (by decide)) (by decide) (by decide) (.dir (zAy (x:=[116,114,117,101]) (by decide)) (.dir (zAv (c:=93) (by decide)) (.gap (c:=10) (zAv (c:=59) (by decide)) (by decide) (by decide) .nil rfl) rfl rfl) rfl rfl) rfl) rfl) rfl rfl) rfl) rfl) rfl) rfl) rfl)
 | map key =>
  rw [hs] at h3
  have hkn:=zbi _ h3
  show BlkT ([109,97,112]++([60]++(key++([44]++32::(d.t++([62]++32::((102::dg d.num)++32::([61]++32::(dg d.num++([59]++10::[])))))))))) _
  exact TB.blk (b:=_) (.dir (zAy (x:=[109,97,112]) (by decide)) (.dir (zAv (c:=60) (by decide)) (.dir (zAy hkn) (.gap (c:=32) (zAv (c:=44) (by decide)) (by decide) (by decide) (.dir (zAy htn) (.gap (c:=32) (zAv (c:=62) (by decide)) (by decide) (by decide) (.gap (c:=32) (zAy (fname (by decide) hn.1)) (by decide) (by decide) (.gap (c:=32) (zAv (c:=61) (by decide)) (by decide) (by decide) (.dir (zHa h1 h2) (.gap (c:=10) (zAv (c:=59) (by decide)) (by decide) (by decide) .nil rfl) rfl rfl) rfl) rfl) rfl) rfl rfl) rfl) rfl rfl) rfl rfl) rfl rfl)
theorem OD.blk {d:OD} (h:d.ok):BlkT d.txt d.ks:=by
 obtain ⟨ht,h1,h2⟩:=h
 have hn:=zTy h1 h2
 have htn:=zUe _ ht
 exact TB.blk (b:=_) (.gap (c:=32) (zAy htn) (by decide) (by decide) (.gap (c:=32) (zAy (fname (by decide) hn.1)) (by decide) (by decide) (.gap (c:=32) (zAv (c:=61) (by decide)) (by decide) (by decide) (.dir (zHa h1 h2) (.gap (c:=10) (zAv (c:=59) (by decide)) (by decide) (by decide) .nil rfl) rfl rfl) rfl) rfl) rfl)
def fsK (l:List FD):List Kw:=l.flatMap FD.ks
def osK (l:List OD):List Kw:=l.flatMap OD.ks
theorem zR8:∀ {l:List FD},(∀ x ∈ l,x.ok)->BlkT (fsT l) (fsK l)
 | [],_=>BlkT.nil
 | x::l,h=>by
  have h1:=(FD.blk (h x (by simp))).app (zR8 (l:=l) fun y hy=>h y (by simp [hy]))
  simpa [fsT,fsK] using h1
theorem zPs:∀ {l:List OD},(∀ x ∈ l,x.ok)->BlkT (osT l) (osK l)
 | [],_=>BlkT.nil
 | x::l,h=>by
  have h1:=(OD.blk (h x (by simp))).app (zPs (l:=l) fun y hy=>h y (by simp [hy]))
  simpa [osT,osK] using h1
def BD.ks (b:BD):List Kw:=fsK b.fs++(if b.os.isEmpty then [] else [nm [111,110,101,111,102],nm [99],sg 123]++(osK b.os++[sg 125]))
theorem zRd:BlkT [125,10] [sg 125]:=TB.blk (b:=_) (.gap (c:=10) (zAv (c:=125) (by decide)) (by decide) (by decide) .nil rfl)
theorem zV0:BlkT [111,110,101,111,102,32,99,32,123,10] [nm [111,110,101,111,102],nm [99],sg 123]:=TB.blk (b:=_) (.gap (c:=32) (zAy (x:=[111,110,101,111,102]) (by decide)) (by decide) (by decide) (.gap (c:=32) (zAy (x:=[99]) (by decide)) (by decide) (by decide) (.gap (c:=10) (zAv (c:=123) (by decide)) (by decide) (by decide) .nil rfl) rfl) rfl)
theorem BD.ok.blk {b:BD} {n:Nat} (h:b.ok n):BlkT b.txt b.ks:=by
 obtain ⟨i,hi,B⟩:=h.b
 have h1:=zR8 fun x hx=>(B.f x hx).1
 have h2:=zPs fun x hx=>(B.o x hx).1
 unfold BD.txt BD.ks
 refine h1.app ?_
 cases b.os.isEmpty with
 | true=>exact BlkT.nil
 | false=>exact zV0.app (h2.app zRd)
def hdrK:List Kw:=[nm [115,121,110,116,97,120],sg 61,(3,[112,114,111,116,111,51],0),sg 59,nm [112,97,99,107,97,103,101],nm [97],sg 59,nm [101,110,117,109],nm [69],sg 123,nm [65],sg 61,nu 0,sg 59,nm [66],sg 61,nu 1,sg 59,nm [67],sg 61,sg 45,nu 1,sg 59,sg 125,nm [109,101,115,115,97,103,101],nm [73],sg 123]
def midK:List Kw:=[sg 125,nm [109,101,115,115,97,103,101],nm [77],sg 123]
theorem zV3:BlkT [115,121,110,116,97,120,32,61,32,34,112,114,111,116,111,51,34,59,10,112,97,99,107,97,103,101,32,97,59,10,101,110,117,109,32,69,32,123,32,65,32,61,32,48,59,32,66,32,61,32,49,59,32,67,32,61,32,45,49,59,32,125,10,109,101,115,115,97,103,101,32,73,32,123,10] hdrK:=by
 show BlkT ([115,121,110,116,97,120]++32::([61]++32::([34,112,114,111,116,111,51,34]++([59]++10::([112,97,99,107,97,103,101]++32::([97]++([59]++10::([101,110,117,109]++32::([69]++32::([123]++32::([65]++32::([61]++32::([48]++([59]++32::([66]++32::([61]++32::([49]++([59]++32::([67]++32::([61]++32::([45]++([49]++([59]++32::([125]++10::([109,101,115,115,97,103,101]++32::([73]++32::([123]++10::[]))))))))))))))))))))))))))) _
 exact TB.blk (b:=_) (.gap (c:=32) (zAy (x:=[115,121,110,116,97,120]) (by decide)) (by decide) (by decide) (.gap (c:=32) (zAv (c:=61) (by decide)) (by decide) (by decide) (.dir (zTx) (.gap (c:=10) (zAv (c:=59) (by decide)) (by decide) (by decide) (.gap (c:=32) (zAy (x:=[112,97,99,107,97,103,101]) (by decide)) (by decide) (by decide) (.dir (zAy (x:=[97]) (by decide)) (.gap (c:=10) (zAv (c:=59) (by decide)) (by decide) (by decide) (.gap (c:=32) (zAy (x:=[101,110,117,109]) (by decide)) (by decide) (by decide) (.gap (c:=32) (zAy (x:=[69]) (by decide)) (by decide) (by decide) (.gap (c:=32) (zAv (c:=123) (by decide)) (by decide) (by decide) (.gap (c:=32) (zAy (x:=[65]) (by decide)) (by decide) (by decide) (.gap (c:=32) (zAv (c:=61) (by decide)) (by decide) (by decide) (.dir (zWf) (.gap (c:=32) (zAv (c:=59) (by decide)) (by decide) (by decide) (.gap (c:=32) (zAy (x:=[66]) (by decide)) (by decide) (by decide) (.gap (c:=32) (zAv (c:=61) (by decide)) (by decide) (by decide) (.dir (zHa (n:=1) om_ om_) (.gap (c:=32) (zAv (c:=59) (by decide)) (by decide) (by decide) (.gap (c:=32) (zAy (x:=[67]) (by decide)) (by decide) (by decide) (.gap (c:=32) (zAv (c:=61) (by decide)) (by decide) (by decide) (.dir (zAv (c:=45) (by decide)) (.dir (zHa (n:=1) om_ om_) (.gap (c:=32) (zAv (c:=59) (by decide)) (by decide) (by decide) (.gap (c:=10) (zAv (c:=125) (by decide)) (by decide) (by decide) (.gap (c:=32) (zAy (x:=[109,101,115,115,97,103,101]) (by decide)) (by decide) (by decide) (.gap (c:=32) (zAy (x:=[73]) (by decide)) (by decide) (by decide) (.gap (c:=10) (zAv (c:=123) (by decide)) (by decide) (by decide) .nil rfl) rfl) rfl) rfl) rfl) rfl rfl) rfl rfl) rfl) rfl) rfl) rfl rfl) rfl) rfl) rfl) rfl rfl) rfl) rfl) rfl) rfl) rfl) rfl) rfl rfl) rfl) rfl) rfl rfl) rfl) rfl)
theorem zV1:BlkT [125,10,109,101,115,115,97,103,101,32,77,32,123,10] midK:=by
 show BlkT ([125]++10::([109,101,115,115,97,103,101]++32::([77]++32::([123]++10::[])))) _
 exact TB.blk (b:=_) (.gap (c:=10) (zAv (c:=125) (by decide)) (by decide) (by decide) (.gap (c:=32) (zAy (x:=[109,101,115,115,97,103,101]) (by decide)) (by decide) (by decide) (.gap (c:=32) (zAy (x:=[77]) (by decide)) (by decide) (by decide) (.gap (c:=10) (zAv (c:=123) (by decide)) (by decide) (by decide) .nil rfl) rfl) rfl) rfl)
def txtK (a b:BD):List Kw:=hdrK++(a.ks++(midK++(b.ks++[sg 125])))
theorem zWd {a b:BD} (ha:a.ok 4) (hb:b.ok 7):BlkT (zGp a b) (txtK a b):=zV3.app (ha.blk.app (zV1.app (hb.blk.app zRd)))
def tokW (t:Tok):Kw:=(t.1,t.2.1,t.2.2.1)
theorem zU0:∀ (ps:List Cel) (a:Nat),(toks a ps).map tokW=ps.map Cel.w
 | [],_=>rfl
 | p::ps,a=>by simp only [toks,List.map_cons,zU0 ps];rfl
theorem zWv {a b:BD} (ha:a.ok 4) (hb:b.ok 7):∃ T:List Tok,Pu TF 147 [.str (zGp a b)] (.tup [.imm .none 4 (T.map tokV),.int .i64 0,.int .i64 0])/\T.map tokW=txtK a b++[(5,[],0)]:=by
 obtain ⟨ps,h1,h2,h3⟩:=zWd ha hb
 have l1:=ha.txt_len om_
 have l2:=hb.txt_len om_
 have hl:(rnd ps).length<=3000:=by rw [h2];unfold zGp;simp;omega
 have:=zcx h1 (fun e=>by rw [e] at h2;unfold zGp at h2;exact absurd h2 (by simp [rnd])) hl
 rw [h2] at this
 refine ⟨_,this,?_⟩
 rw [List.map_append,zU0,h3];rfl
end Go.Proofs.YtafeofghkhhhkaaGreat.IrM
namespace Go.Proofs.YtafeofghkhhhkaaGreat.IrM
open Go Go.CI
set_option maxRecDepth 100000
set_option maxHeartbeats 4000000
set_option linter.unusedVariables false
set_option linter.unusedSimpArgs false
attribute [local irreducible] W Wo Wc WoR
theorem zA3 {l:EE} {n q:Nat} {o:CObj} (hu:Under l n) (h:zA1 l q=some o):q<n:=by
 rcases Nat.lt_or_ge q n with h1 | h1
 . exact h1
 . rw [zAc hu h1] at h;cases h
theorem zA6 {l:EE} {q b:Nat} {o:CObj} (h:q≠b):zA1 ((b,o)::l) q=zA1 l q:=by
 have:¬ b=q:=fun e=>h e.symm
 simp [zA1,this]
def tkv (k:Int) (tx:B8) (n a:Int):CVal:=.agg [.int .i64 k,.str tx,.int .u64 n,.int .i64 a]
abbrev pp (Ls:List CVal) (j:Int):CObj:=.cells [.imm .none 4 Ls,.int .i64 j,.int .i64 0,.int .i64 0]
structure At (Ls:List CVal) (j k:Int) (tx:B8) (n:Int):Prop where
 z:0<=j
 m:j<5000
 l:j<(Ls.length:Int)
 v:∃ a,nth Ls j.toNat=tkv k tx n a
theorem zD3 {h:CHeap} {p d:Nat} {Ls:List CVal} {j:Int} (hf:Fit h) (hg:zA1 h.ents p=some (pp Ls j)) {k n:Int} {tx:B8} {a:Int} (z:0<=j) (l:j<(Ls.length:Int)) (v:nth Ls j.toNat=tkv k tx n a) {K:KT} (hk:∀ n',h.next<=n'->K (tkv k tx n a) ⟨h.ents,n',h.tys⟩):Wc TF 151 [.ptr p d 0] h K:=by
 obtain ⟨hu,hut,hX⟩:=fx4 hf
 have hY:=fx5 hf hg
 have lp:=zA3 hu hg
 simp only [tkv] at v hk
 refine mk_ 151 c151 (s_ ?_)
 have hZ:=j6_ hX hY hg v z l
 repeat (first
  | refine wk_ ?_
  | (refine rk_ ?_;refine hk _ ?_;exact om_))
theorem zAj {h:CHeap} {p d:Nat} {Ls:List CVal} {j:Int} (hf:Fit h) (hg:zA1 h.ents p=some (pp Ls j)) {k n:Int} {tx:B8} (A:At Ls j k tx n) (s:B8) {K:KT} (hk:∀ n',h.next<=n'->K (.bool (k == 4 && tx == s)) ⟨h.ents,n',h.tys⟩):Wc TF 153 [.ptr p d 0,.str s] h K:=by
 obtain ⟨hu,hut,hX⟩:=fx4 hf
 have hY:=fx5 hf hg
 have lp:=zA3 hu hg
 obtain ⟨z,_,l,a,v⟩:=A
 by_cases hk4:k=4
 . subst hk4
   have e:(((4:Int) == 4) && tx == s)=(tx == s):=by simp
   rw [e] at hk
   refine mk_ 153 c153 (s_ ?_)
   have hZ:=j3_ hX hY hg
   repeat (first
    | refine wk_ ?_
    | (refine zD3 ft_ (by simp (disch:=omega) [zA1,zA2,hg,hY]) z l v fun n3 g3=>⟨rfl,?_⟩;(try dsimp only at g3);(try simp only [tkv]))
    | (refine rk_ ?_;refine hk _ ?_;exact om_))
 . have e:((k == 4) && tx == s)=false:=by simp [hk4]
   have e2:(k == 4)=false:=bn_ hk4
   rw [e] at hk
   refine mk_ 153 c153 (s_ ?_)
   have hZ:=j5_ hX hY hg e2 hk4
   repeat (first
    | refine wk_ ?_
    | (refine zD3 ft_ (by simp (disch:=omega) [zA1,zA2,hg,hY]) z l v fun n3 g3=>⟨rfl,?_⟩;(try dsimp only at g3);(try simp only [tkv]))
    | (refine rk_ ?_;refine hk _ ?_;exact om_))
theorem zBg {h:CHeap} {p d:Nat} {Ls:List CVal} {j:Int} (hf:Fit h) (hg:zA1 h.ents p=some (pp Ls j)) {k n:Int} {tx:B8} (A:At Ls j k tx n) (s:B8) {K:KT} (hk:∀ n',h.next<=n'->K (.bool (k == 1 && tx == s)) ⟨h.ents,n',h.tys⟩):Wc TF 154 [.ptr p d 0,.str s] h K:=by
 obtain ⟨hu,hut,hX⟩:=fx4 hf
 have hY:=fx5 hf hg
 have lp:=zA3 hu hg
 obtain ⟨z,_,l,a,v⟩:=A
 by_cases hk4:k=1
 . subst hk4
   have e:(((1:Int) == 1) && tx == s)=(tx == s):=by simp
   rw [e] at hk
   refine mk_ 154 c154 (s_ ?_)
   have hZ:=j3_ hX hY hg
   repeat (first
    | refine wk_ ?_
    | (refine zD3 ft_ (by simp (disch:=omega) [zA1,zA2,hg,hY]) z l v fun n3 g3=>⟨rfl,?_⟩;(try dsimp only at g3);(try simp only [tkv]))
    | (refine rk_ ?_;refine hk _ ?_;exact om_))
 . have e:((k == 1) && tx == s)=false:=by simp [hk4]
   have e2:(k == 1)=false:=bn_ hk4
   rw [e] at hk
   refine mk_ 154 c154 (s_ ?_)
   have hZ:=j5_ hX hY hg e2 hk4
   repeat (first
    | refine wk_ ?_
    | (refine zD3 ft_ (by simp (disch:=omega) [zA1,zA2,hg,hY]) z l v fun n3 g3=>⟨rfl,?_⟩;(try dsimp only at g3);(try simp only [tkv]))
    | (refine rk_ ?_;refine hk _ ?_;exact om_))
theorem zAf {h:CHeap} {p d:Nat} {Ls:List CVal} {j:Int} (hf:Fit h) (hg:zA1 h.ents p=some (pp Ls j)) {c:B8} {n:Int} (A:At Ls j 4 c n) {K:KT} (hk:∀ n',h.next<=n'->K (.tup []) ⟨zA2 h.ents p (pp Ls (j+1)),n',h.tys⟩):Wc TF 150 [.ptr p d 0,.str c] h K:=by
 obtain ⟨hu,hut,hX⟩:=fx4 hf
 have hY:=fx5 hf hg
 have lp:=zA3 hu hg
 have j0:=A.z
 have j1:=A.m
 have e:(((4:Int) == 4) && c == c)=true:=by simp
 refine mk_ 150 c150 (s_ ?_)
 have hZ:=j6_ hX hY hg e j0 j1
 repeat (first
  | refine wk_ ?_
  | (refine zAj ft_ (by simp (disch:=omega) [zA1,zA2,hg,hY]) A _ fun n3 g3=>⟨rfl,?_⟩;(try dsimp only at g3))
  | (refine rk_ ?_;refine hk _ ?_;exact om_))
theorem zAn {h:CHeap} {p d:Nat} {Ls:List CVal} {j:Int} (hf:Fit h) (hg:zA1 h.ents p=some (pp Ls j)) {s:B8} {n:Int} (A:At Ls j 1 s n) {K:KT} (hk:∀ n',h.next<=n'->K (.bool true) ⟨zA2 h.ents p (pp Ls (j+1)),n',h.tys⟩):Wc TF 148 [.ptr p d 0,.str s] h K:=by
 obtain ⟨hu,hut,hX⟩:=fx4 hf
 have hY:=fx5 hf hg
 have lp:=zA3 hu hg
 have j0:=A.z
 have j1:=A.m
 have e:(((1:Int) == 1) && s == s)=true:=by simp
 refine mk_ 148 c148 (s_ ?_)
 have hZ:=j6_ hX hY hg e j0 j1
 repeat (first
  | refine wk_ ?_
  | (refine zBg ft_ (by simp (disch:=omega) [zA1,zA2,hg,hY]) A _ fun n3 g3=>⟨rfl,?_⟩;(try dsimp only at g3))
  | (refine rk_ ?_;refine hk _ ?_;exact om_))
theorem zAr {h:CHeap} {p d:Nat} {Ls:List CVal} {j:Int} (hf:Fit h) (hg:zA1 h.ents p=some (pp Ls j)) {k n:Int} {tx:B8} (A:At Ls j k tx n) (s:B8) (hs:(k == 1 && tx == s)=false) {K:KT} (hk:∀ n',h.next<=n'->K (.bool false) ⟨h.ents,n',h.tys⟩):Wc TF 148 [.ptr p d 0,.str s] h K:=by
 obtain ⟨hu,hut,hX⟩:=fx4 hf
 have hY:=fx5 hf hg
 have lp:=zA3 hu hg
 refine mk_ 148 c148 (s_ ?_)
 have hZ:=j4_ hX hY hg hs
 repeat (first
  | refine wk_ ?_
  | (refine zBg ft_ (by simp (disch:=omega) [zA1,zA2,hg,hY]) A _ fun n3 g3=>⟨rfl,?_⟩;(try dsimp only at g3))
  | (refine rk_ ?_;refine hk _ ?_;exact om_))
theorem zOu (s:B8) (hs:∀ b ∈ s,b≠46) (hl:s.length<1000) {h:CHeap} (hf:Fit h) {Q:QT} (hk:∀ (v2 v3:CVal) n',h.next<=n'->Q (.exit 0) ⟨[.int .i64 (s.length:Int),.str s,v2,v3,.bool false],⟨h.ents,n',h.tys⟩,[]⟩) :
    ∀ (m i nx:Nat) (v2 v3:CVal),i+m=s.length->h.next<=nx->W TF plL ⟨[.int .i64 (i:Int),.str s,v2,v3,.bool false],⟨h.ents,nx,h.tys⟩,[]⟩ Q:=by
 intro m
 induction m with
 | zero =>
  intro i nx v2 v3 h1 h2
  have h3:i=s.length:=by omega
  subst h3
  refine W.loop ?_
  try refine w0_ ?_
  refine hk _ _ _ ?_;exact om_
 | succ m ih =>
  intro i nx v2 v3 h1 h2
  obtain ⟨hu,hut,hX⟩:=fx4 (show Fit ⟨h.ents,nx,h.tys⟩ from ⟨hf.1.le h2,hf.2.le h2⟩)
  dsimp only at hX
  have hi:i<s.length:=by omega
  have hlt:(i:Int)<(s.length:Int):=by omega
  have hb:=hs _ (List.getElem_mem hi)
  have hx:s[i]? = some s[i]:=gE_ hi
  have hb2:¬ ((s[i]).toNat:Int)=46:=fun e=>hb (UInt8.toNat_inj.1 (show (s[i]).toNat=(46:UInt8).toNat by have:(46:UInt8).toNat=46:=rfl;omega))
  have hb3:(((s[i]).toNat:Int) == 46)=false:=bn_ hb2
  have ih1:=fun nx v2 v3 (h:_<=nx)=>ih (i+1) nx v2 v3 om_ h
  push_cast at ih1
  refine W.loop ?_
  have hZ:=j6_ hX hlt hi hx hb2 hb3
  try refine wk_ ?_
  refine dx_ ?_
  refine ih1 _ _ _ ?_;exact om_
theorem zJ7 (s:B8) (hs:∀ b ∈ s,b≠46) (hne:s≠[]) (hl:s.length<1000):Pe 171 [.str s] (.bool true):=by
 intro h hf K hk
 obtain ⟨hu,hut,hX⟩:=fx4 hf
 have hne2:(s == [])=false:=by cases s with | nil=>exact absurd rfl hne | cons _ _=>rfl
 refine mk_ 171 c171 (s_ ?_)
 repeat ((fail_if_success (show W TF plL _ _));first
  | refine st_ rfl ?_
  | refine wsx_ ?_)
 refine zOu s hs hl hf (fun v2 v3 n' g=>?_) s.length 0 _ _ _ om_ ?_
 . (try simp only [zB3,zA9,zAe,zAo,reduceIte])
   have hZ:=j3_ hX hne hne2
   repeat (first
    | refine wk_ ?_
    | (refine rk_ ?_;refine hk _ ?_;exact om_))
 . exact om_
theorem zAs {h:CHeap} {p d:Nat} {Ls:List CVal} {j:Int} (hf:Fit h) (hg:zA1 h.ents p=some (pp Ls j)) {n:Int} {tx:B8} (A:At Ls j 1 tx n) {K:KT} (hk:∀ n',h.next<=n'->K (.str tx) ⟨zA2 h.ents p (pp Ls (j+1)),n',h.tys⟩):Wc TF 155 [.ptr p d 0] h K:=by
 obtain ⟨hu,hut,hX⟩:=fx4 hf
 have hY:=fx5 hf hg
 have lp:=zA3 hu hg
 obtain ⟨z,m,l,a,v⟩:=A
 refine mk_ 155 c155 (s_ ?_)
 have hZ:=j5_ hX hY hg z m
 repeat (first
  | refine wk_ ?_
  | (refine zD3 ft_ (by simp (disch:=omega) [zA1,zA2,hg,hY]) z l v fun n3 g3=>⟨rfl,?_⟩;(try dsimp only at g3);(try simp only [tkv]))
  | (refine rk_ ?_;refine hk _ ?_;exact om_))
theorem zS2 {h:CHeap} {p d:Nat} {Ls:List CVal} {j:Int} (hf:Fit h) (hg:zA1 h.ents p=some (pp Ls j)) {n:Int} {tx:B8} (A:At Ls j 3 tx n) {K:KT} (hk:∀ n',h.next<=n'->K (.str tx) ⟨zA2 h.ents p (pp Ls (j+1)),n',h.tys⟩):Wc TF 152 [.ptr p d 0] h K:=by
 obtain ⟨hu,hut,hX⟩:=fx4 hf
 have hY:=fx5 hf hg
 have lp:=zA3 hu hg
 obtain ⟨z,m,l,a,v⟩:=A
 refine mk_ 152 c152 (s_ ?_)
 have hZ:=j5_ hX hY hg z m
 repeat (first
  | refine wk_ ?_
  | (refine zD3 ft_ (by simp (disch:=omega) [zA1,zA2,hg,hY]) z l v fun n3 g3=>⟨rfl,?_⟩;(try dsimp only at g3);(try simp only [tkv]))
  | (refine rk_ ?_;refine hk _ ?_;exact om_))
theorem zAu {h:CHeap} {p d:Nat} {Ls:List CVal} {j:Int} (hf:Fit h) (hg:zA1 h.ents p=some (pp Ls j)) {n:Int} {tx:B8} (A:At Ls j 2 tx n) {K:KT} (hk:∀ n',h.next<=n'->K (.int .u64 n) ⟨zA2 h.ents p (pp Ls (j+1)),n',h.tys⟩):Wc TF 172 [.ptr p d 0] h K:=by
 obtain ⟨hu,hut,hX⟩:=fx4 hf
 have hY:=fx5 hf hg
 have lp:=zA3 hu hg
 obtain ⟨z,m,l,a,v⟩:=A
 refine mk_ 172 c172 (s_ ?_)
 have hZ:=j5_ hX hY hg z m
 repeat (first
  | refine wk_ ?_
  | (refine zD3 ft_ (by simp (disch:=omega) [zA1,zA2,hg,hY]) z l v fun n3 g3=>⟨rfl,?_⟩;(try dsimp only at g3);(try simp only [tkv]))
  | (refine rk_ ?_;refine hk _ ?_;exact om_))
theorem zCz {h:CHeap} {p d:Nat} {Ls:List CVal} {j:Int} (hf:Fit h) (hg:zA1 h.ents p=some (pp Ls j)) {n:Int} {tx:B8} (A:At Ls j 1 tx n) (hs:∀ b ∈ tx,b≠46) (hne:tx≠[]) (hl:tx.length<1000) {K:KT} (hk:∀ n',h.next<=n'->K (.str tx) ⟨zA2 h.ents p (pp Ls (j+1)),n',h.tys⟩):Wc TF 166 [.ptr p d 0] h K:=by
 obtain ⟨hu,hut,hX⟩:=fx4 hf
 have hY:=fx5 hf hg
 have lp:=zA3 hu hg
 obtain ⟨z,m,l,a,v⟩:=A
 have P:=zJ7 tx hs hne hl
 refine mk_ 166 c166 (s_ ?_)
 have hZ:=j5_ hX hY hg z m
 repeat (first
  | refine wk_ ?_
  | (refine zD3 ft_ (by simp (disch:=omega) [zA1,zA2,hg,hY]) z l v fun n3 g3=>⟨rfl,?_⟩;(try dsimp only at g3);(try simp only [tkv]))
  | (refine pe_ P fun n4 g4=>⟨rfl,?_⟩)
  | (refine rk_ ?_;refine hk _ ?_;exact om_))
theorem zH8 {h:CHeap} {p d:Nat} {Ls:List CVal} {j:Int} (hf:Fit h) (hg:zA1 h.ents p=some (pp Ls j)) (c:Int) (hc:c<30) {K:KT} (hk:∀ n',h.next<=n'->K (.bool false) ⟨h.ents,n',h.tys⟩):Wc TF 156 [.ptr p d 0,.int .i64 c] h K:=by
 obtain ⟨hu,hut,hX⟩:=fx4 hf
 have hY:=fx5 hf hg
 have lp:=zA3 hu hg
 refine mk_ 156 c156 (s_ ?_)
 have hZ:=j4_ hX hY hg hc
 repeat (first
  | refine wk_ ?_
  | (refine rk_ ?_;refine hk _ ?_;exact om_))
end Go.Proofs.YtafeofghkhhhkaaGreat.IrM
