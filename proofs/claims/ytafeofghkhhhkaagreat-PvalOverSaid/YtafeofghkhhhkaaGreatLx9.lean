/- What the functions of the law 'PvalOver' do: part 9 of 9. -/
import Derived.Test.YtafeofghkhhhkaaGreatLx8
namespace Go.Proofs.YtafeofghkhhhkaaGreat.IrV
open Go Go.CI
set_option maxRecDepth 100000
set_option maxHeartbeats 4000000
set_option linter.unusedVariables false
set_option linter.unusedSimpArgs false
attribute [local irreducible] W Wo Wc WoR
theorem okF_rep {a b:BD} {n:Nat} {fr:RW} (hl:fr.lab=2) {l:List (BV × MVB n)} (hne:l≠[]):OkF b0V (OkMs a b n) fr.fld l:=by
 have e1:fr.fld.lab=1:=by simp [RW.fld,hl]
 exact ⟨hne,fun e=>by omega,fun e=>by omega⟩
theorem okF_one {a b:BD} {n:Nat} {fr:RW} (h2:fr.lab≠2) (h3:fr.lab≠3) {x:BV × MVB n} (hx:VX a b n fr.kind fr.ty x):OkF b0V (OkMs a b n) fr.fld [x]:=by
 have e1:fr.fld.lab=0:=by simp [RW.fld,h2,h3]
 refine ⟨by simp,fun e=>by omega,fun _ _=>⟨x,rfl,fun hm=>?_⟩⟩
 have hk:fr.kind=16:=by simpa [RW.fld] using hm
 exact hx.1 hk
theorem okF_map {a b:BD} {n:Nat} {fr:RW} (h3:fr.lab=3) {q:List (BV × (BV × MVB n))} (hne:q≠[]) (hs:SL.Srt (ltV (sgK (zAz fr.key))) q) (hk:∀ x ∈ q,kokK (zAz fr.key) x.1):OkF b0V (OkMs a b n) fr.fld (zB2 (mv0 BV n) q):=by
 have e1:fr.fld.lab=2:=by simp [RW.fld,h3]
 exact ⟨ne_unprs hne,fun _=>⟨q,hs,hk,rfl⟩,fun _ e=>by omega⟩
theorem rise_get {Ls:List RW} (h:Rise Ls) {i j:Nat} {x y:RW} (hx:Ls[i]? = some x) (hy:Ls[j]? = some y) (hij:i<j):x.num<y.num:=by
 induction Ls generalizing i j with
 | nil=>cases hx
 | cons a l ih =>
  cases j with
  | zero=>omega
  | succ j =>
   cases i with
   | zero =>
    cases hx
    have:=h.1 _ (List.mem_map_of_mem (List.mem_of_getElem? (show l[j]? = some y from hy)))
    simpa [nltB] using this
   | succ i=>exact ih h.2 hx hy (by omega)
theorem Fr0.put5 {n0 p:Nat} {E0 E:EE} {L:CVal} {j:Int} {nx:Nat} {b1 b5 b6 b8:Nat} {c12:Nat × CObj} {o1 o6 o8:CObj} {x y:CObj} (hb:b5≠b1∧b5≠b6∧b5≠b8) (h:Fr0 n0 E0 p L [c12,(b1,o1),(b5,x),(b6,o6),(b8,o8)] j E nx):Fr0 n0 E0 p L [(b1,o1),(b5,y),(b6,o6),(b8,o8)] j (zA2 E b5 y) nx:=by
 have h5:=h.cs (b5,x) (by simp)
 have h1:=h.cs (b1,o1) (by simp)
 have h6:=h.cs (b6,o6) (by simp)
 have h8:=h.cs (b8,o8) (by simp)
 have hp:=h.pn
 dsimp only at h1 h5 h6 h8
 refine ⟨h.ov.set h5.1,h.un.set,h.n0x,hp,by rw [zA0 (by omega)];exact h.gp,fun z hz=>?_⟩
 simp only [List.mem_cons,List.not_mem_nil,or_false] at hz
 rcases hz with rfl | rfl | rfl | rfl
 · exact ⟨h1.1,by dsimp only;rw [zA0 (Ne.symm hb.1)];exact h1.2⟩
 · exact ⟨h5.1,zA4 h5.2⟩
 · exact ⟨h6.1,by dsimp only;rw [zA0 (Ne.symm hb.2.1)];exact h6.2⟩
 · exact ⟨h8.1,by dsimp only;rw [zA0 (Ne.symm hb.2.2)];exact h8.2⟩
theorem mm_go {a b c:BD} {n deep:Nat} (hd:deep<9) (HM:MsC a b n (deep+1)) {t:Nmt} (hc:bdOf a b t=some c) (hs:SOk (zAi c.rs)) {O:CVal} (HO:PV1 O) {S1 S2:CVal} (hS:schV a b=.agg [S1,S2]) (pS1:PV1 S1) (pS2:PV1 S2) {n0 p d b1 b5 b6 b8:Nat} (hb:b5≠b1∧b5≠b6∧b5≠b8) {E0:EE} {L:CVal} (hL:Nums L) {ty:NN} (hty0:zAb ty n0) (hne0:lV8 (zAi c.rs)=.imm .none 8 ((zAi c.rs).map RW.pf)) {Q:QT} {r:B8}
    (hq:∀ (o:List (Nat × List (BV × MVB n))) (Fo v7 v0 v4 v10 v11 v12 v13 v14 v15 v16 v17 v18 v19 v20 v21 v22:CVal) (E:EE) (nx:Nat) (j:Int),OkM b0V (fldS a b) (n+1) t ((o,[]):MVB (n+1))→LRep 100 (RF 100 (RM 100 n)) 2 o Fo→Fr0 n0 E0 p L [(b1,.cells [S1,S2]),(b5,.cells [Fo,.str r]),(b6,.cells [.nils,.str []]),(b8,.cells [.str t,lV8 (zAi c.rs),O])] j E nx→0≤j→j<5000→Q (.exit 0) ⟨[v0,.ptr b1 30408706 0,.str t,.int .i64 (deep:Nat),v4,.ptr b5 37748738 0,.ptr b6 37748738 0,v7,.ptr b8 49283075 0,.ptr p d 0,v10,v11,v12,v13,v14,v15,v16,v17,v18,v19,v20,v21,v22],⟨E,nx,ty⟩,[]⟩) :
    ∀ (rest:List RW) (i:Nat) (o:List (Nat × List (BV × MVB n))) (Fo v0 v4 v10 v11 v12 v13 v14 v15 v16 v17 v18 v19 v20 v21 v22:CVal) (E:EE) (nx:Nat) (j:Int),(zAi c.rs).drop i=rest→i+rest.length=(zAi c.rs).length→OkM b0V (fldS a b) (n+1) t ((o,[]):MVB (n+1))→(∀ x ∈ o,∃ (i':Nat) (y:RW),i'<i∧(zAi c.rs)[i']? = some y∧x.1≤y.num)→LRep i (RF 100 (RM 100 n)) 2 o Fo→Fr0 n0 E0 p L [(b1,.cells [S1,S2]),(b5,.cells [Fo,.str r]),(b6,.cells [.nils,.str []]),(b8,.cells [.str t,lV8 (zAi c.rs),O])] j E nx→0≤j→j<5000→W tree.getF mmL ⟨[v0,.ptr b1 30408706 0,.str t,.int .i64 (deep:Nat),v4,.ptr b5 37748738 0,.ptr b6 37748738 0,.int .i64 (i:Nat),.ptr b8 49283075 0,.ptr p d 0,v10,v11,v12,v13,v14,v15,v16,v17,v18,v19,v20,v21,v22],⟨E,nx,ty⟩,[]⟩ Q:=by
 have hlen:((zAi c.rs).map RW.pf).length=(zAi c.rs).length:=List.length_map ..
 have hl9:=hs.len
 have lb0:∀ x:CVal,x.beq x=true:=fun x=>zAf x
 have ls0:∀ l:List CVal,beqs l l=true:=fun l=>by have:=zAf (CVal.agg l);simpa using this
 have N3:=zEx 3 (by omega)
 have N4:=zEx 4 (by omega)
 have OP:=over_P
 refine pq_ pS1 fun w1=>?_
 refine pq_ pS2 fun w2=>?_
 refine pq_ HO fun w3=>?_
 intro rest
 induction rest with
 | nil =>
  intro i o Fo v0 v4 v10 v11 v12 v13 v14 v15 v16 v17 v18 v19 v20 v21 v22 E nx j i1 i2 i3 i4 i5 i6 i7 i8
  obtain rfl:i=(zAi c.rs).length:=by simpa using i2
  have g8:=(i6.cs (b8,.cells [.str t,lV8 (zAi c.rs),O]) (by simp)).2
  dsimp only at g8
  rw [hne0] at g8
  have hge:¬ ((zAi c.rs).length:Int)<((zAi c.rs).length:Int):=by omega
  refine W.loop ?_
  have hZ:=j3_ g8 hlen hge
  try refine wk_ ?_
  refine hq o Fo _ _ _ _ _ _ _ _ _ _ _ _ _ _ _ _ _ _ _ i3 (i5.mono (by omega) fun _ _ h=>h) (i6.up ?_) i7 i8;exact om_
 | cons fr rest ih =>
  intro i o Fo v0 v4 v10 v11 v12 v13 v14 v15 v16 v17 v18 v19 v20 v21 v22 E nx j i1 i2 i3 i4 i5 i6 i7 i8
  rw [List.length_cons] at i2
  have hfi:(zAi c.rs)[i]? = some fr:=by
   have:((zAi c.rs).drop i)[0]? = some fr:=by rw [i1];rfl
   rw [List.getElem?_drop] at this;exact this
  have hdr:(zAi c.rs).drop (i+1)=rest:=by
   have:=congrArg (List.drop 1) i1
   rw [List.drop_drop] at this;exact this
  have hfr:=fRW_at hs.nd hfi
  obtain ⟨hfok,hfk⟩:=hs.ok fr (List.mem_of_getElem? hfi)
  have hlow:∀ x ∈ o,x.1<fr.num:=fun x hx=>by
   obtain ⟨i',y,h1,h2,h3⟩:=i4 x hx
   have:=rise_get hs.rise h2 hfi h1
   omega
  have hlt:(i:Int)<((zAi c.rs).length:Int):=by omega
  have hn:nth ((zAi c.rs).map RW.pf) i=fr.pf:=zCn RW.pf _ i fr hfi
  have hn2:((zAi c.rs).map RW.pf)[i]? = some fr.pf:=by rw [List.getElem?_map,hfi];rfl
  have hu:=i6.un
  have hut:zAb ty nx:=hty0.le i6.n0x
  have gp:=i6.gp
  have g8:=(i6.cs (b8,.cells [.str t,lV8 (zAi c.rs),O]) (by simp)).2
  dsimp only at g8
  rw [hne0] at g8
  have q8:=zA3 hu g8
  have hb8:=(i6.cs (b8,.cells [.str t,lV8 (zAi c.rs),O]) (by simp)).1
  dsimp only at hb8
  have hpn:=i6.pn
  have n0x:=i6.n0x
  have gs8:∀ x,zA1 (zA2 E p x) b8=some (.cells [.str t,.imm .none 8 ((zAi c.rs).map RW.pf),O]):=fun x=>by rw [zA0 (by omega),g8]
  have hX3:∀ q,nx≤q→zA1 E q=none:=fun q hq=>zAe hu hq
  have hX4:∀ x q,nx≤q→zA1 (zA2 E p x) q=none:=fun x q hq=>zAe hu.set hq
  have hD1:∀ x m,nx≤m→zA7 (zA2 E p x) m=zA2 E p x:=fun x m hm=>zAc (hu.set.le hm)
  have ihn:=fun v0 v4 v10 v11 v12 v13 v14 v15 v16 v17 v18 v19 v20 v21 v22 E nx j=>ih (i+1) o Fo v0 v4 v10 v11 v12 v13 v14 v15 v16 v17 v18 v19 v20 v21 v22 E nx j hdr (by omega) i3 (fun x hx=>by obtain ⟨i',y,h1,h2⟩:=i4 x hx;exact ⟨i',y,by omega,h2⟩) (i5.mono (by omega) fun _ _ h=>h)
  have ihy:=fun o2 Fo2 v0 v4 v10 v11 v12 v13 v14 v15 v16 v17 v18 v19 v20 v21 v22 E nx j (a1:OkM b0V (fldS a b) (n+1) t ((o2,[]):MVB (n+1))) (a2:∀ x ∈ o2,x.1≤fr.num)=>ih (i+1) o2 Fo2 v0 v4 v10 v11 v12 v13 v14 v15 v16 v17 v18 v19 v20 v21 v22 E nx j hdr (by omega) a1 (fun x hx=>⟨i,fr,by omega,hfi,a2 x hx⟩)
  have OVN:=fun (l:List (BV × MVB n)) (Y:CVal) hfl hy=>rov_new hc hs HO (by omega) i3 hfr (l:=l) hfl hlow i5 (Y:=Y) (r:=r) hy
  push_cast at ihn ihy
  have hty:fr.kind=16→fr.ty=tyI∨fr.ty=tyM:=kind16 hfok
  have hkd:1≤fr.kind∧fr.kind≤17:=by
   obtain ⟨h1,h2,_⟩:=zFu _ hfok.t
   unfold RW.kind
   split
   · split <;> omega
   · omega
  have INR:=fun (h3:fr.lab≠3)=>@inr_go a b n deep (by omega) HM fr hkd hty h3 S1 S2 hS pS1 pS2 n0 p d b1
  have INM:=fun (h3:fr.lab=3)=>@inm_go a b n deep (by omega) HM fr hkd hty h3 (hfk h3) S1 S2 hS pS1 pS2 n0 p d b1
  generalize hPF:(zAi c.rs).map RW.pf=PF at *
  unfold RW.pf at hn hn2 OVN
  refine W.loop ?_
  have hZ:=j14_ hX3 hX4 hD1 g8 gs8 hlt hn hn2 hlen w1 w2 w3 lb0 ls0
  repeat (refine vk_ ?_)
  refine pkc_ OP ⟨hu.le (by (try dsimp only);omega),hut.le (by (try dsimp only);omega)⟩ gp hL i7 i8 fun n2 j2 v2 g2 ga2 gb2 gv2=>?_
  dsimp only at g2
  obtain ⟨bo,rfl⟩:=gv2
  refine ⟨rfl,?_⟩
  cases bo with
  | true =>
   repeat (refine vk_ ?_)
   refine hq o Fo _ _ _ _ _ _ _ _ _ _ _ _ _ _ _ _ _ _ _ i3 (i5.mono (by omega) fun _ _ h=>h) (i6.pick ?_) ga2 gb2;exact om_
  | false =>
  repeat (refine vk_ ?_)
  refine pk1_ N3 gp hL fun n3 j3 v3 g3 ga3 gb3 gv3=>?_
  (try dsimp only at g3)
  obtain ⟨k3,rfl,hk3⟩:=gv3
  refine ⟨rfl,?_⟩
  by_cases hz:k3=0
  · subst hz
    repeat (refine vk_ ?_)
    refine dk_ ?_
    refine ihn _ _ _ _ _ _ _ _ _ _ _ _ _ _ _ _ _ _ (i6.pick ?_) ga3 gb3;exact om_
  have hz1:((k3:Int) == 0)=false:=beq_eq_false_iff_ne.2 (by omega)
  have hz2:((k3:Int)=0)=False:=eq_false (by omega)
  have hbn:∀ x ∈ ([(b1,.cells [S1,S2]),(b5,.cells [Fo,.str r]),(b6,.cells [.nils,.str []]),(b8,.cells [.str t,lV8 (zAi c.rs),O])]:EE),x.1<nx:=fun x hx=>zA3 i6.un (i6.cs x hx).2
  have hbn2:∀ F':CVal,∀ x ∈ ([(b1,.cells [S1,S2]),(b5,.cells [F',.str r]),(b6,.cells [.nils,.str []]),(b8,.cells [.str t,lV8 (zAi c.rs),O])]:EE),x.1<nx:=fun F' x hx=>by
   have h1:=hbn (b1,.cells [S1,S2]) (by simp)
   have h5:=hbn (b5,.cells [Fo,.str r]) (by simp)
   have h6:=hbn (b6,.cells [.nils,.str []]) (by simp)
   have h8:=hbn (b8,.cells [.str t,lV8 (zAi c.rs),O]) (by simp)
   simp only [List.mem_cons,List.not_mem_nil,or_false] at hx
   rcases hx with rfl | rfl | rfl | rfl <;> assumption
  by_cases l3:fr.lab=3
  · have e2:((fr.lab:Int) == 2)=false:=beq_eq_false_iff_ne.2 (by omega)
    have e3:((fr.lab:Int) == 3)=true:=by simp [l3]
    have e2':((fr.lab:Int)=2)=False:=eq_false (by omega)
    have e3':((fr.lab:Int)=3)=True:=by simp [l3]
    have e4:((fr.lab:Int) == 0)=false:=beq_eq_false_iff_ne.2 (by omega)
    have e4':((fr.lab:Int)=0)=False:=eq_false (by omega)
    have hZ:=j20_ hX3 hX4 hD1 g8 gs8 hlt hn hn2 hlen w1 w2 w3 lb0 ls0 hz1 hz2 e2 e3 e2' e3'
    repeat ((fail_if_success (show W tree.getF inL _ _));first
     | refine vk_ ?_
     | (refine pk1_ N4 gp hL fun n5 j5 v5 g5 ga5 gb5 gv5=>?_;(try dsimp only at g5);obtain ⟨k5,rfl,hk5⟩:=gv5;refine ⟨rfl,?_⟩))
    refine INM l3 (CS:=(_,.cells [.int .i64 fr.num,.str fr.nm,.int .i64 fr.lab,.int .i64 fr.kind,.str fr.ty,.int .i64 (zAz fr.key),.bool fr.pkd,.int .i64 fr.oo])::[(b1,.cells [S1,S2]),(b5,.cells [Fo,.str r]),(b6,.cells [.nils,.str []]),(b8,.cells [.str t,lV8 (zAi c.rs),O])]) hL (by simp) (List.mem_cons_self ..) hty0 (N:=k5) (by omega) ?_ k5 0 [] _ _ _ _ _ _ (by omega) (by simp) trivial (fun x hx=>by cases hx) LRep.nil (Fr0.cell (i6.pick (n2:=nx) (Nat.le_refl _)) ?_ ?_) ga5 gb5
    rotate_left
    · omega
    · omega
    intro q v16 v17 v18 E2 nx2 j4 hql hqs hqk hqr hf2 ga4 gb4
    have hu2:=hf2.un
    have hut2:zAb ty nx2:=hty0.le hf2.n0x
    have c1:=(hf2.cs (b1,.cells [S1,S2]) (by simp)).2
    have c5:=(hf2.cs (b5,.cells [Fo,.str r]) (by simp)).2
    have c8:=(hf2.cs (b8,.cells [.str t,lV8 (zAi c.rs),O]) (by simp)).2
    have c12:=(hf2.cs (_,.cells [.int .i64 fr.num,.str fr.nm,.int .i64 fr.lab,.int .i64 fr.kind,.str fr.ty,.int .i64 (zAz fr.key),.bool fr.pkd,.int .i64 fr.oo]) (List.mem_cons_self ..)).2
    dsimp only at c1 c5 c8 c12
    have hX5:∀ q,nx2≤q→zA1 E2 q=none:=fun q hq=>zAe hu2 hq
    rw [hne0] at c8
    have p5:=i5.p
    refine pq_ p5 fun w7=>?_
    have hu:=hu2
    have hut:=hut2
    have hqr2:LRep 100 (RV (RM 100 n)) 4 (zB2 (mv0 BV n) q) v18:=hqr.mono (by omega) fun _ _ h=>h
    have p18:=hqr.p
    refine pq_ p18 fun w6=>?_
    by_cases hq0:q=[]
    · subst hq0
      obtain ⟨_,es,he,hv⟩:=hqr
      obtain rfl:=he.nil_inv
      rcases hv with ⟨rfl,_⟩ | ⟨tt,_,rfl⟩
      all_goals
       skip
       have hZ:=j14_ hX5 c1 c5 c8 c12 w1 w2 w3 w6 w7 lb0 ls0 e4 e4'
       repeat (refine vk_ ?_)
       refine dk_ ?_
       refine ihn _ _ _ _ _ _ _ _ _ _ _ _ _ _ _ _ _ _ (Fr0.drop (Fr0.sub hf2 fun y hy=>List.mem_cons_of_mem _ hy) n0x hbn ?_) ga4 gb4;exact om_
    · have hfl:=okF_map (n:=n) (a:=a) (b:=b) l3 hq0 hqs fun x hx=>(hqk x hx).1
      obtain ⟨o2,a1,a2,HOV⟩:=OVN _ v18 hfl hqr2
      rw [hS,hne0] at HOV
      obtain ⟨_,es,he,hv⟩:=id hqr
      have hel:=he.len
      rw [zB3] at hel
      have hq1:1≤q.length:=List.length_pos_iff.2 hq0
      rcases hv with ⟨rfl,rfl⟩ | ⟨tt,htt,rfl⟩
      · exfalso;simp at hel;omega
      have d5a:((es.length:Int) == 0)=false:=beq_eq_false_iff_ne.2 (by omega)
      have d5b:((es.length:Int)=0)=False:=eq_false (by omega)
      have d5c:¬ es=[]:=fun e=>by rw [e] at hel;simp at hel;omega
      have hZ:=j17_ hX5 c1 c5 c8 c12 w1 w2 w3 w6 w7 lb0 ls0 e4 e4' d5a d5b d5c
      repeat (first
       | refine vk_ ?_
       | (refine pr_ (HOV) fun v1 n1 RA g1=>?_;obtain ⟨G2,rfl,RA⟩:=RA;refine pq_ (RA.p) fun hP=>?_;have hZ:=And.intro hZ hP;refine ⟨rfl,?_⟩))
      refine dk_ ?_
      refine ihy o2 G2 _ _ _ _ _ _ _ _ _ _ _ _ _ _ _ _ _ _ a1 a2 RA (Fr0.drop (Fr0.put5 hb hf2) n0x (hbn2 G2) ?_) ga4 gb4;exact om_
  by_cases l2:fr.lab=2
  · have e2:((fr.lab:Int) == 2)=true:=by simp [l2]
    have e3:((fr.lab:Int) == 3)=false:=beq_eq_false_iff_ne.2 (by omega)
    have e2':((fr.lab:Int)=2)=True:=by simp [l2]
    have e3':((fr.lab:Int)=3)=False:=eq_false (by omega)
    have e4:((fr.lab:Int) == 0)=false:=beq_eq_false_iff_ne.2 (by omega)
    have e4':((fr.lab:Int)=0)=False:=eq_false (by omega)
    have hZ:=j20_ hX3 hX4 hD1 g8 gs8 hlt hn hn2 hlen w1 w2 w3 lb0 ls0 hz1 hz2 e2 e3 e2' e3'
    repeat ((fail_if_success (show W tree.getF inL _ _));first
     | refine vk_ ?_
     | (refine pk1_ N4 gp hL fun n5 j5 v5 g5 ga5 gb5 gv5=>?_;(try dsimp only at g5);obtain ⟨k5,rfl,hk5⟩:=gv5;refine ⟨rfl,?_⟩))
    refine INR l3 (CS:=(_,.cells [.int .i64 fr.num,.str fr.nm,.int .i64 fr.lab,.int .i64 fr.kind,.str fr.ty,.int .i64 (zAz fr.key),.bool fr.pkd,.int .i64 fr.oo])::[(b1,.cells [S1,S2]),(b5,.cells [Fo,.str r]),(b6,.cells [.nils,.str []]),(b8,.cells [.str t,lV8 (zAi c.rs),O])]) hL (by simp) (List.mem_cons_self ..) hty0 (N:=k5) (by omega) ?_ k5 0 [] _ _ _ _ _ _ (by omega) rfl (fun x hx=>by cases hx) (.inl ⟨rfl,rfl⟩) (Fr0.cell (i6.pick (n2:=nx) (Nat.le_refl _)) ?_ ?_) ga5 gb5
    rotate_left
    · omega
    · omega
    intro l v16 v17 v18 E2 nx2 j4 hll hvl hLT hf2 ga4 gb4
    have hu2:=hf2.un
    have hut2:zAb ty nx2:=hty0.le hf2.n0x
    have c1:=(hf2.cs (b1,.cells [S1,S2]) (by simp)).2
    have c5:=(hf2.cs (b5,.cells [Fo,.str r]) (by simp)).2
    have c8:=(hf2.cs (b8,.cells [.str t,lV8 (zAi c.rs),O]) (by simp)).2
    have c12:=(hf2.cs (_,.cells [.int .i64 fr.num,.str fr.nm,.int .i64 fr.lab,.int .i64 fr.kind,.str fr.ty,.int .i64 (zAz fr.key),.bool fr.pkd,.int .i64 fr.oo]) (List.mem_cons_self ..)).2
    dsimp only at c1 c5 c8 c12
    have hX5:∀ q,nx2≤q→zA1 E2 q=none:=fun q hq=>zAe hu2 hq
    rw [hne0] at c8
    have p5:=i5.p
    refine pq_ p5 fun w7=>?_
    have hu:=hu2
    have hut:=hut2
    have w6:=True.intro
    rcases hLT with ⟨rfl,rfl⟩ | ⟨ti,tu,es,rfl,hne,he,gt,hi,hci⟩
    · skip
      have hZ:=j14_ hX5 c1 c5 c8 c12 w1 w2 w3 w6 w7 lb0 ls0 e4 e4'
      repeat (refine vk_ ?_)
      refine dk_ ?_
      refine ihn _ _ _ _ _ _ _ _ _ _ _ _ _ _ _ _ _ _ (Fr0.drop (Fr0.sub hf2 fun y hy=>List.mem_cons_of_mem _ hy) n0x hbn ?_) ga4 gb4;exact om_
    · have hl0:l≠[]:=fun e=>by rw [e] at he;exact hne he.nil_inv
      have hfl:=okF_rep (n:=n) (a:=a) (b:=b) l2 hl0
      obtain ⟨o2,a1,a2,HOV⟩:=OVN l (.imm .none 4 es) hfl (LRep.imm he (.inl rfl) (by omega))
      rw [hS,hne0] at HOV
      have hel:=he.len
      have hq1:1≤es.length:=List.length_pos_iff.2 hne
      have d5a:((es.length:Int) == 0)=false:=beq_eq_false_iff_ne.2 (by omega)
      have d5b:((es.length:Int)=0)=False:=eq_false (by omega)
      have hZ:=j17_ hX5 c1 c5 c8 c12 w1 w2 w3 w6 w7 lb0 ls0 e4 e4' d5a d5b hne
      repeat (first
       | refine vk_ ?_
       | (refine pr_ (HOV) fun v1 n1 RA g1=>?_;obtain ⟨G2,rfl,RA⟩:=RA;refine pq_ (RA.p) fun hP=>?_;have hZ:=And.intro hZ hP;refine ⟨rfl,?_⟩))
      refine dk_ ?_
      refine ihy o2 G2 _ _ _ _ _ _ _ _ _ _ _ _ _ _ _ _ _ _ a1 a2 RA (Fr0.drop (Fr0.put5 hb hf2) n0x (hbn2 G2) ?_) ga4 gb4;exact om_
  have e2:((fr.lab:Int) == 2)=false:=beq_eq_false_iff_ne.2 (by omega)
  have e3:((fr.lab:Int) == 3)=false:=beq_eq_false_iff_ne.2 (by omega)
  have e2':((fr.lab:Int)=2)=False:=eq_false (by omega)
  have e3':((fr.lab:Int)=3)=False:=eq_false (by omega)
  have hZ:=j20_ hX3 hX4 hD1 g8 gs8 hlt hn hn2 hlen w1 w2 w3 lb0 ls0 hz1 hz2 e2 e3 e2' e3'
  repeat ((fail_if_success (show W tree.getF inL _ _));refine vk_ ?_)
  refine INR l3 (CS:=(_,.cells [.int .i64 fr.num,.str fr.nm,.int .i64 fr.lab,.int .i64 fr.kind,.str fr.ty,.int .i64 (zAz fr.key),.bool fr.pkd,.int .i64 fr.oo])::[(b1,.cells [S1,S2]),(b5,.cells [Fo,.str r]),(b6,.cells [.nils,.str []]),(b8,.cells [.str t,lV8 (zAi c.rs),O])]) hL (by simp) (List.mem_cons_self ..) hty0 (N:=1) (by omega) ?_ 1 0 [] _ _ _ _ _ _ (by omega) rfl (fun x hx=>by cases hx) (.inl ⟨rfl,rfl⟩) (Fr0.cell (i6.pick (n2:=nx) (Nat.le_refl _)) ?_ ?_) ga3 gb3
  rotate_left
  · omega
  · omega
  intro l v16 v17 v18 E2 nx2 j4 hll hvl hLT hf2 ga4 gb4
  obtain ⟨x,rfl⟩:∃ x,l=[x]:=by
   match l,hll with
   | [x],_=>exact ⟨x,rfl⟩
  have hfl:=okF_one l2 l3 (hvl x (by simp))
  have hu2:=hf2.un
  have hut2:zAb ty nx2:=hty0.le hf2.n0x
  have c1:=(hf2.cs (b1,.cells [S1,S2]) (by simp)).2
  have c5:=(hf2.cs (b5,.cells [Fo,.str r]) (by simp)).2
  have c8:=(hf2.cs (b8,.cells [.str t,lV8 (zAi c.rs),O]) (by simp)).2
  have c12:=(hf2.cs (_,.cells [.int .i64 fr.num,.str fr.nm,.int .i64 fr.lab,.int .i64 fr.kind,.str fr.ty,.int .i64 (zAz fr.key),.bool fr.pkd,.int .i64 fr.oo]) (List.mem_cons_self ..)).2
  dsimp only at c1 c5 c8 c12
  have hX5:∀ q,nx2≤q→zA1 E2 q=none:=fun q hq=>zAe hu2 hq
  rw [hne0] at c8
  rcases hLT with ⟨_,e⟩ | ⟨ti,tu,es,rfl,hne,he,gt,hi,hci⟩
  · cases e
  obtain ⟨cc,rr,rfl,hcc,hrr⟩:=he.cons_inv
  obtain rfl:=hrr.nil_inv
  obtain ⟨o2,a1,a2,HOV⟩:=OVN [x] (.imm .none 4 [cc]) hfl (LRep.imm (.cons hcc .nil) (.inl rfl) (by simp))
  rw [hS,hne0] at HOV
  obtain ⟨Fx,rx,rfl,x1,x2,pFx,hFx⟩:=hcc
  refine pq_ pFx fun w6=>?_
  have p5:=i5.p
  refine pq_ p5 fun w7=>?_
  have hu:=hu2
  have hut:=hut2
  by_cases d0:fr.lab=0
  rotate_left
  · skip
    have d0a:(((fr.lab:Int)) == 0)=false:=beq_eq_false_iff_ne.2 (by omega)
    have d0b:(((fr.lab:Int))=0)=False:=eq_false (by omega)
    have d0c:(((fr.lab:Int)) != 0)=true:=bne_iff_ne.2 (by omega)
    have hZ:=j14_ hX5 c1 c5 c8 c12 w1 w2 w3 w6 w7 lb0 ls0 d0a d0b
    repeat (first
     | refine vk_ ?_
     | (refine pr_ (HOV) fun v1 n1 RA g1=>?_;obtain ⟨G2,rfl,RA⟩:=RA;refine pq_ (RA.p) fun hP=>?_;have hZ:=And.intro hZ hP;refine ⟨rfl,?_⟩))
    refine dk_ ?_
    refine ihy o2 G2 _ _ _ _ _ _ _ _ _ _ _ _ _ _ _ _ _ _ a1 a2 RA (Fr0.drop (Fr0.put5 hb hf2) n0x (hbn2 G2) ?_) ga4 gb4;exact om_
  · skip
    have d0a:(((fr.lab:Int)) == 0)=true:=by simp [d0]
    have d0b:(((fr.lab:Int))=0)=True:=by simp [d0]
    by_cases d1:fr.oo=0
    rotate_left
    · skip
      have d1a:(((fr.oo:Int)) == 0)=false:=beq_eq_false_iff_ne.2 (by omega)
      have d1b:(((fr.oo:Int))=0)=False:=eq_false (by omega)
      have d1c:(((fr.oo:Int)) != 0)=true:=bne_iff_ne.2 (by omega)
      have hZ:=j16_ hX5 c1 c5 c8 c12 w1 w2 w3 w6 w7 lb0 ls0 d0a d0b d1a d1b
      repeat (first
       | refine vk_ ?_
       | (refine pr_ (HOV) fun v1 n1 RA g1=>?_;obtain ⟨G2,rfl,RA⟩:=RA;refine pq_ (RA.p) fun hP=>?_;have hZ:=And.intro hZ hP;refine ⟨rfl,?_⟩))
      refine dk_ ?_
      refine ihy o2 G2 _ _ _ _ _ _ _ _ _ _ _ _ _ _ _ _ _ _ a1 a2 RA (Fr0.drop (Fr0.put5 hb hf2) n0x (hbn2 G2) ?_) ga4 gb4;exact om_
    · skip
      have d1a:(((fr.oo:Int)) == 0)=true:=by simp [d1]
      have d1b:(((fr.oo:Int))=0)=True:=by simp [d1]
      by_cases d2:fr.kind=16
      · skip
        have d2a:(((fr.kind:Int)) == 16)=true:=by simp [d2]
        have d2b:(((fr.kind:Int))=16)=True:=by simp [d2]
        have d2c:((fr.kind:Int) != 16)=false:=by simp [d2]
        have hZ:=j19_ hX5 c1 c5 c8 c12 w1 w2 w3 w6 w7 lb0 ls0 d0a d0b d1a d1b d2a d2b d2c
        repeat (first
         | refine vk_ ?_
         | (refine pr_ (HOV) fun v1 n1 RA g1=>?_;obtain ⟨G2,rfl,RA⟩:=RA;refine pq_ (RA.p) fun hP=>?_;have hZ:=And.intro hZ hP;refine ⟨rfl,?_⟩))
        refine dk_ ?_
        refine ihy o2 G2 _ _ _ _ _ _ _ _ _ _ _ _ _ _ _ _ _ _ a1 a2 RA (Fr0.drop (Fr0.put5 hb hf2) n0x (hbn2 G2) ?_) ga4 gb4;exact om_
      · skip
        have d2a:(((fr.kind:Int)) == 16)=false:=beq_eq_false_iff_ne.2 (by omega)
        have d2b:(((fr.kind:Int))=16)=False:=eq_false (by omega)
        have d2c:(((fr.kind:Int)) != 16)=true:=bne_iff_ne.2 (by omega)
        by_cases d3:x.1.1=0
        rotate_left
        · skip
          have d3a:((x.1.1) == 0)=false:=beq_eq_false_iff_ne.2 (by omega)
          have d3b:((x.1.1)=0)=False:=eq_false (by omega)
          have d3c:((x.1.1) != 0)=true:=bne_iff_ne.2 (by omega)
          have hZ:=j21_ hX5 c1 c5 c8 c12 w1 w2 w3 w6 w7 lb0 ls0 d0a d0b d1a d1b d2a d2b d2c d3a d3b
          repeat (first
           | refine vk_ ?_
           | (refine pr_ (HOV) fun v1 n1 RA g1=>?_;obtain ⟨G2,rfl,RA⟩:=RA;refine pq_ (RA.p) fun hP=>?_;have hZ:=And.intro hZ hP;refine ⟨rfl,?_⟩))
          refine dk_ ?_
          refine ihy o2 G2 _ _ _ _ _ _ _ _ _ _ _ _ _ _ _ _ _ _ a1 a2 RA (Fr0.drop (Fr0.put5 hb hf2) n0x (hbn2 G2) ?_) ga4 gb4;exact om_
        · skip
          have d3a:((x.1.1) == 0)=true:=by simp [d3]
          have d3b:((x.1.1)=0)=True:=by simp [d3]
          by_cases d4:x.1.2=[]
          rotate_left
          · skip
            have d4a:((x.1.2) == [])=false:=beq_eq_false_iff_ne.2 d4
            have d4b:((x.1.2)=[])=False:=eq_false d4
            have hZ:=j23_ hX5 c1 c5 c8 c12 w1 w2 w3 w6 w7 lb0 ls0 d0a d0b d1a d1b d2a d2b d2c d3a d3b d4a d4b
            repeat (first
             | refine vk_ ?_
             | (refine pr_ (HOV) fun v1 n1 RA g1=>?_;obtain ⟨G2,rfl,RA⟩:=RA;refine pq_ (RA.p) fun hP=>?_;have hZ:=And.intro hZ hP;refine ⟨rfl,?_⟩))
            refine dk_ ?_
            refine ihy o2 G2 _ _ _ _ _ _ _ _ _ _ _ _ _ _ _ _ _ _ a1 a2 RA (Fr0.drop (Fr0.put5 hb hf2) n0x (hbn2 G2) ?_) ga4 gb4;exact om_
          · skip
            have d4a:((x.1.2) == [])=true:=by simp [d4]
            have d4b:((x.1.2)=[])=True:=by simp [d4]
            have hZ:=j23_ hX5 c1 c5 c8 c12 w1 w2 w3 w6 w7 lb0 ls0 d0a d0b d1a d1b d2a d2b d2c d3a d3b d4a d4b
            repeat (refine vk_ ?_)
            refine dk_ ?_
            refine ihn _ _ _ _ _ _ _ _ _ _ _ _ _ _ _ _ _ _ (Fr0.drop (Fr0.sub hf2 fun y hy=>List.mem_cons_of_mem _ hy) n0x hbn ?_) ga4 gb4;exact om_
theorem Fr0.put5b {n0 p:Nat} {E0 E:EE} {L:CVal} {j:Int} {nx:Nat} {b1 b5 b6 b8:Nat} {o1 o6 o8:CObj} {x y:CObj} (hb:b5≠b1∧b5≠b6∧b5≠b8) (h:Fr0 n0 E0 p L [(b1,o1),(b5,x),(b6,o6),(b8,o8)] j E nx):Fr0 n0 E0 p L [(b1,o1),(b5,y),(b6,o6),(b8,o8)] j (zA2 E b5 y) nx :=
 Fr0.put5 (c12:=(b1,o1)) hb ⟨h.ov,h.un,h.n0x,h.pn,h.gp,fun z hz=>by
  rcases List.mem_cons.1 hz with rfl | hz
  · exact h.cs _ (by simp)
  · exact h.cs z hz⟩
theorem wire_nth:∀ i<4,∃ w:Nat,(w=0∨w=1∨w=2∨w=5)∧nth [.int .i64 0,.int .i64 1,.int .i64 2,.int .i64 5] i=.int .i64 (w:Nat):=by
 intro i hi
 have:i=0∨i=1∨i=2∨i=3:=by omega
 rcases this with rfl | rfl | rfl | rfl
 · exact ⟨0,by simp,rfl⟩
 · exact ⟨1,by simp,rfl⟩
 · exact ⟨2,by simp,rfl⟩
 · exact ⟨5,by simp,rfl⟩
theorem rr_go {deep:Nat} {t:Nmt} {LV O S1 S2:CVal} {n0 p d b1 b5 b6 b8:Nat} (hb:b5≠b1∧b5≠b6∧b5≠b8) {E0:EE} {L Fo:CVal} (pFo:PV1 Fo) (hL:Nums L) {ty:NN} (hty0:zAb ty n0) {v0 v4 v7 v10 v11 v12 v13 v14 v15 v16 v17 v18 v19 v20:CVal} {Q:QT}
    (hq:∀ (r:B8) (v22:CVal) (E:EE) (nx:Nat) (j:Int),r.length≤90→Fr0 n0 E0 p L [(b1,.cells [S1,S2]),(b5,.cells [Fo,.str r]),(b6,.cells [.nils,.str []]),(b8,.cells [.str t,LV,O])] j E nx→0≤j→j<5000→Q (.exit 4) ⟨[v0,.ptr b1 30408706 0,.str t,.int .i64 (deep:Nat),v4,.ptr b5 37748738 0,.ptr b6 37748738 0,v7,.ptr b8 49283075 0,.ptr p d 0,v10,v11,v12,v13,v14,v15,v16,v17,v18,v19,v20,.int .i64 0,v22],⟨E,nx,ty⟩,[]⟩) :
    ∀ (m:Nat) (r:B8) (v22:CVal) (E:EE) (nx:Nat) (j:Int),r.length+10 * m≤90→Fr0 n0 E0 p L [(b1,.cells [S1,S2]),(b5,.cells [Fo,.str r]),(b6,.cells [.nils,.str []]),(b8,.cells [.str t,LV,O])] j E nx→0≤j→j<5000→W tree.getF rrL ⟨[v0,.ptr b1 30408706 0,.str t,.int .i64 (deep:Nat),v4,.ptr b5 37748738 0,.ptr b6 37748738 0,v7,.ptr b8 49283075 0,.ptr p d 0,v10,v11,v12,v13,v14,v15,v16,v17,v18,v19,v20,.int .i64 (m:Nat),v22],⟨E,nx,ty⟩,[]⟩ Q:=by
 have N3:=zEx 3 (by omega)
 have N4:=zEx 4 (by omega)
 have N200:=zEx 200 (by omega)
 have lb0:∀ x:CVal,x.beq x=true:=fun x=>zAf x
 have ls0:∀ l:List CVal,beqs l l=true:=fun l=>by have:=zAf (CVal.agg l);simpa using this
 refine pq_ pFo fun w1=>?_
 intro m
 induction m with
 | zero =>
  intro r v22 E nx j i1 i2 i3 i4
  refine W.loop ?_
  try refine w0_ ?_
  refine hq r _ _ _ _ (by omega) (i2.up ?_) i3 i4;exact om_
 | succ m ih =>
  intro r v22 E nx j i1 i2 i3 i4
  have hu:=i2.un
  have hut:zAb ty nx:=hty0.le i2.n0x
  have gp:=i2.gp
  have g5:=(i2.cs (b5,.cells [Fo,.str r]) (by simp)).2
  have h5:=(i2.cs (b5,.cells [Fo,.str r]) (by simp)).1
  dsimp only at g5 h5
  have q5:=zA3 hu g5
  have hpn:=i2.pn
  have n0x:=i2.n0x
  have gs5:∀ x,zA1 (zA2 E p x) b5=some (.cells [Fo,.str r]):=fun x=>by rw [zA0 (by omega),g5]
  have hX3:∀ q,nx≤q→zA1 E q=none:=fun q hq=>zAe hu hq
  have hX4:∀ x q,nx≤q→zA1 (zA2 E p x) q=none:=fun x q hq=>zAe hu.set hq
  have hD2:∀ x y m,nx≤m→zA7 (zA2 (zA2 E p x) b5 y) m=zA2 (zA2 E p x) b5 y:=fun x y m hm=>zAc (hu.set.set.le hm)
  have hgt:(0:Int)<(m:Int)+1:=by omega
  have hrl:∀ n:Nat,n≤10→(r.length+n<4611686018427387904)=True:=fun n hn=>eq_true (by omega)
  refine W.loop ?_
  push_cast
  have hZ:=j9_ hX3 hX4 hD2 g5 gs5 hgt w1 lb0 ls0
  repeat (refine vk_ ?_)
  refine pkc_ N3 ⟨hu.le (by (try dsimp only);omega),hut.le (by (try dsimp only);omega)⟩ gp hL i3 i4 fun n2 j2 v2 g2 ga2 gb2 gv2=>?_
  dsimp only at g2
  obtain ⟨k2,rfl,hk2⟩:=gv2
  refine ⟨rfl,?_⟩
  have hk2':k2<3:=by omega
  repeat (refine vk_ ?_)
  refine pk0_ N4 gp hL fun n3 j3 v3 g3 ga3 gb3 gv3=>?_
  (try dsimp only at g3)
  obtain ⟨k3,rfl,hk3⟩:=gv3
  refine ⟨rfl,?_⟩
  have hk3':k3<4:=by omega
  have hk3i:(k3:Int)<4:=by omega
  obtain ⟨w,hw,hwn⟩:=wire_nth k3 hk3'
  have hZ:=j12_ hX3 hX4 hD2 g5 gs5 hgt w1 lb0 ls0 hk3' hk3i hwn
  repeat (refine vk_ ?_)
  refine pk0_ N200 gp hL fun n4 j4 v4 g4 ga4 gb4 gv4=>?_
  (try dsimp only at g4)
  obtain ⟨k4,rfl,hk4⟩:=gv4
  refine ⟨rfl,?_⟩
  have hk4':k4<200:=by omega
  have P1:=prec_F (num:=900+k2) (w:=w) (n:=k4) (by omega) hw hk4'
  have hlen:=recB_len (900+k2) w k4
  push_cast at P1
  generalize recB (900+k2) w k4=B at *
  have e64:IntKind.u64.wrap (k4:Int)=(k4:Int):=zB8 (by omega) (by omega)
  have hrl2:r.length+B.length<4611686018427387904:=by omega
  have hZ:=j14_ hX3 hX4 hD2 g5 gs5 hgt w1 lb0 ls0 hk3' hk3i hwn e64 hrl2
  repeat (first
   | refine vk_ ?_
   | (refine pe_ (P1) fun n1 hn1=>⟨rfl,?_⟩))
  refine dk_ ?_
  refine ih (r++B) _ _ _ _ ?_ (Fr0.put5b hb (i2.pick ?_)) ga4 gb4
  · rw [List.length_append];omega
  · exact om_
theorem ms_end {a b:BD} {n deep:Nat} {t:Nmt} {nx0 p d b1 b5 b6 b8:Nat} (hb:b5≠b1∧b5≠b6∧b5≠b8) {E0:EE} {L S1 S2 LV O Fo:CVal} (hL:Nums L) {ty:NN} (hty0:zAb ty nx0) {K:KT}
    (hk:∀ n2 j2 v,nx0≤n2→0≤j2→j2<5000→(∃ F r m,v=.agg [F,.str r]∧RM 100 (n+1) m F r∧OkMs a b (n+1) t m)→K v ⟨zA2 E0 p (pk L j2),n2,ty⟩) {o:List (Nat × List (BV × MVB n))} (hok:OkM b0V (fldS a b) (n+1) t ((o,[]):MVB (n+1))) (hF:LRep 100 (RF 100 (RM 100 n)) 2 o Fo) {v0 v4 v7 v10 v11 v12 v13 v14 v15 v16 v17 v18 v19 v20 v22 v21:CVal} {E:EE} {nx:Nat} {j:Int} (h6:Fr0 nx0 E0 p L [(b1,.cells [S1,S2]),(b5,.cells [Fo,.str []]),(b6,.cells [.nils,.str []]),(b8,.cells [.str t,LV,O])] j E nx) (hj0:0≤j) (hj1:j<5000) :
    ∀ (W1:CCode) (hW:W1=msE),W tree.getF W1 ⟨[v0,.ptr b1 30408706 0,.str t,.int .i64 (deep:Nat),v4,.ptr b5 37748738 0,.ptr b6 37748738 0,v7,.ptr b8 49283075 0,.ptr p d 0,v10,v11,v12,v13,v14,v15,v16,v17,v18,v19,v20,v21,v22],⟨E,nx,ty⟩,[]⟩ (endW c9 nx0 K):=by
 rintro _ rfl
 have pFo:=hF.p
 have N3:=zEx 3 (by omega)
 have N4:=zEx 4 (by omega)
 refine pq_ pFo fun w1=>?_
 have hu:=h6.un
 have hut:zAb ty nx:=hty0.le h6.n0x
 have gp:=h6.gp
 have g5:=(h6.cs (b5,.cells [Fo,.str []]) (by simp)).2
 have g6:=(h6.cs (b6,.cells [.nils,.str []]) (by simp)).2
 have i5:=(h6.cs (b5,.cells [Fo,.str []]) (by simp)).1
 have i6:=(h6.cs (b6,.cells [.nils,.str []]) (by simp)).1
 dsimp only at g5 g6 i5 i6
 have hpn:=h6.pn
 have q5:=zA3 hu g5
 have q6:=zA3 hu g6
 have n0x:=h6.n0x
 have fin:∀ (r:B8),r.length≤90→∃ F r' m,(CVal.agg [Fo,.str r])=.agg [F,.str r']∧RM 100 (n+1) m F r'∧OkMs a b (n+1) t m:=fun r hr=>⟨Fo,r,((o,r):MVB (n+1)),rfl,⟨hF,rfl,by omega⟩,hok⟩
 have gs5:∀ x,zA1 (zA2 E p x) b5=some (.cells [Fo,.str []]):=fun x=>by rw [zA0 (by omega),g5]
 have gs6:∀ x,zA1 (zA2 E p x) b6=some (.cells [.nils,.str []]):=fun x=>by rw [zA0 (by omega),g6]
 have gss:∀ x y,zA1 (zA2 (zA2 E p x) b6 y) b6=some y:=fun x y=>zA4 (gs6 x)
 have hdr:∀ j2 y,zBe (zA2 (zA2 E p (pk L j2)) b6 y) nx0=zA2 E0 p (pk L j2):=fun j2 y=>((h6.pick (n2:=nx) (j2:=j2) (Nat.le_refl _)).ov.set i6).drop
 have hZ:=j8_ g5 g6 gs5 gs6 gss hdr w1 hpn
 repeat (refine vk_ ?_)
 refine pkc_ N4 ⟨hu.le (by (try dsimp only);omega),hut.le (by (try dsimp only);omega)⟩ gp hL hj0 hj1 fun n2 j2 v2 g2 ga2 gb2 gv2=>?_
 dsimp only at g2
 obtain ⟨k2,rfl,hk2⟩:=gv2
 refine ⟨rfl,?_⟩
 by_cases hz:k2=0
 · subst hz
   repeat (refine vk_ ?_)
   refine pk0_ N3 gp hL fun n3 j3 v3 g3 ga3 gb3 gv3=>?_
   (try dsimp only at g3)
   obtain ⟨k3,rfl,hk3⟩:=gv3
   refine ⟨rfl,?_⟩
   repeat ((fail_if_success (show W tree.getF rrL _ _));refine vk_ ?_)
   refine rr_go hb pFo hL hty0 ?_ k3 [] _ _ _ _ (by simp;omega) (h6.pick ?_) ga3 gb3
   rotate_left
   · omega
   intro r v22 E2 nx2 j4 hr f2 ga4 gb4
   have g5':=(f2.cs (b5,.cells [Fo,.str r]) (by simp)).2
   have g6':=(f2.cs (b6,.cells [.nils,.str []]) (by simp)).2
   dsimp only at g5' g6'
   have n2x:=f2.n0x
   have gss':∀ y,zA1 (zA2 E2 b6 y) b6=some y:=fun y=>zA4 g6'
   have hdr':∀ y,zBe (zA2 E2 b6 y) nx0=zA2 E0 p (pk L j4):=fun y=>(f2.ov.set i6).drop
   have hZ:=j6_ g5' g6' gss' hdr' w1 hpn
   repeat (refine vk_ ?_)
   refine rk_ ?_
   refine hk _ _ _ ?_ ga4 gb4 (fin r hr);exact om_
 · have hz1:((k2:Int) == 0)=false:=beq_eq_false_iff_ne.2 (by omega)
   have hz2:((k2:Int)=0)=False:=eq_false (by omega)
   have hZ:=j10_ g5 g6 gs5 gs6 gss hdr w1 hpn hz1 hz2
   repeat (refine vk_ ?_)
   refine rk_ ?_
   refine hk _ _ _ ?_ ga2 gb2 (fin [] (by simp));exact om_
theorem Fr0.base {n0 p:Nat} {E:EE} {L:CVal} {j:Int} {o:CObj} (hu:Under E n0) (hg:zA1 E p=some o):Fr0 n0 E p L [] j (zA2 E p (pk L j)) n0 :=
 ⟨⟨[],rfl,fun x hx=>(by cases hx),hu.set⟩,hu.set,Nat.le_refl _,zA3 hu hg,zA4 hg,fun x hx=>(by cases hx)⟩
theorem mkm_one {a b:BD} (ha:a.ok 4) (hb:b.ok 7):MsC a b 1 5:=by
 intro t ht E nx ty p d L o hu hut hg hL j hj0 hj1 K hk
 have hY:=fxp hu hg
 have lp:=zA3 hu hg
 obtain ⟨S1,S2,hS,pS1,pS2⟩:=schS a b
 have hX3:∀ q,nx≤q→zA1 E q=none:=fun q hq=>zAe hu hq
 have PC:∃ (c:BD) (O:CVal),PV1 O∧Pe 22 [schV a b,.str t] (.tup [.agg [.str t,lV8 (zAi c.rs),O],.bool true]):=by
  rcases ht with rfl | rfl
  · exact ⟨a,_,oV1P _,rm_I⟩
  · exact ⟨b,_,oV1P _,rm_M⟩
 obtain ⟨c,O,HO,PC⟩:=PC
 rw [hS] at PC ⊢
 have pL:=lV8P (zAi c.rs)
 refine pq_ pS1 fun w1=>?_
 refine pq_ pS2 fun w2=>?_
 refine pq_ HO fun w3=>?_
 refine pq_ pL fun w4=>?_
 refine mk_ 9 c9 (s_ ?_)
 have hZ:=j6_ hY hX3 w1 w2 w3 w4
 repeat (first
  | refine vk_ ?_
  | (refine pe_ (PC) fun n1 hn1=>⟨rfl,?_⟩))
 refine rk_ ?_
 refine hk _ _ _ ?_ hj0 hj1 ⟨.nils,[],((([]:List (Nat × List (BV × MVB 0))),[]):MVB 1),rfl,⟨LRep.nil,rfl,by simp⟩,⟨trivial,fun p hp=>(by cases hp),fun p hp=>(by cases hp)⟩⟩;exact om_
theorem mkm_succ {a b:BD} (ha:a.ok 4) (hb:b.ok 7) {n deep:Nat} (hd:deep≤4) (HM:MsC a b n (deep+1)):MsC a b (n+1) deep:=by
 intro t ht E nx ty p d L o hu hut hg hL j hj0 hj1 K hk
 have hY:=fxp hu hg
 have lp:=zA3 hu hg
 obtain ⟨S1,S2,hS,pS1,pS2⟩:=schS a b
 have hX3:∀ q,nx≤q→zA1 E q=none:=fun q hq=>zAe hu hq
 have sa:=BD.sok ha (by omega)
 have sb:=BD.sok hb (by omega)
 have PC:∃ c,bdOf a b t=some c∧SOk (zAi c.rs)∧∃ O,PV1 O∧Pe 22 [schV a b,.str t] (.tup [.agg [.str t,lV8 (zAi c.rs),O],.bool true]):=by
  rcases ht with rfl | rfl
  · exact ⟨a,rfl,sa,_,oV1P _,rm_I⟩
  · exact ⟨b,rfl,sb,_,oV1P _,rm_M⟩
 obtain ⟨c,hc,hs,O,HO,PC⟩:=PC
 rw [hS] at PC ⊢
 have pL:=lV8P (zAi c.rs)
 have hdI:¬ (4:Int)<(deep:Int):=by omega
 refine pq_ pS1 fun w1=>?_
 refine pq_ pS2 fun w2=>?_
 refine pq_ HO fun w3=>?_
 refine pq_ pL fun w4=>?_
 refine mk_ 9 c9 (s_ ?_)
 have hZ:=j7_ hY hX3 w1 w2 w3 w4 hdI
 repeat ((fail_if_success (show W tree.getF mmL _ _));first
  | refine vk_ ?_
  | (refine pe_ (PC) fun n1 hn1=>⟨rfl,?_⟩))
 have hok0:OkM b0V (fldS a b) (n+1) t ((([]:List (Nat × List (BV × MVB n))),[]):MVB (n+1)):=⟨trivial,fun p hp=>(by cases hp),fun p hp=>(by cases hp)⟩
 by_cases hLs:zAi c.rs=[]
 · have e8:lV8 (zAi c.rs)=.nils:=by rw [hLs];rfl
   have F0:=True.intro
   rw [e8] at *
   have hZ:=j7_ hY hX3 w1 w2 w3 w4 hdI
   repeat ((fail_if_success (show W tree.getF msE _ _));first
    | refine st_ rfl ?_
    | ((first | refine W.regG ?_ | refine WoR.go ?_);generalize e:goR .. = r;simp (disch:=omega) [hZ] at e;replace e:some _=_:=e;subst e;(try dsimp only [goW]))
    | refine W.loop ?_
    | (refine dk_ ?_;refine W.loop ?_)
    | (simp only [zAn,zA5,zA8,zA9,zAg,reduceIte]))
   refine ms_end (S1:=S1) (S2:=S2) (LV:=.nils) (O:=O) ⟨?_,?_,?_⟩ hL hut hk hok0 LRep.nil (Fr0.sub (Fr0.cell (Fr0.cell (n2:=nx+4) (i:=nx+2+1) (Fr0.cell (n2:=nx+2) (i:=nx+1) (Fr0.cell (n2:=nx+1) (i:=nx) (Fr0.base hu hg) (by omega) (by omega)) (by omega) (by omega)) (by omega) (by omega)) ?_ ?_) fun x hx=>by simp only [List.mem_cons,List.not_mem_nil,or_false] at hx ⊢;rcases hx with rfl | rfl | rfl | rfl <;> simp) hj0 hj1 msE rfl
   · omega
   · omega
   · omega
   · omega
   · omega
 · have hne0:lV8 (zAi c.rs)=.imm .none 8 ((zAi c.rs).map RW.pf):=by
    cases e:zAi c.rs with
    | nil=>exact absurd e hLs
    | cons x l=>rfl
   refine mm_go (by omega) HM hc hs HO hS pS1 pS2 (n0:=nx) (r:=[]) ⟨?_,?_,?_⟩ hL hut hne0 ?_ (zAi c.rs) 0 [] .nils _ _ _ _ _ _ _ _ _ _ _ _ _ _ _ _ _ j rfl (by omega) hok0 (fun x hx=>by cases hx) LRep.nil (Fr0.sub (Fr0.cell (Fr0.cell (n2:=nx+4) (i:=nx+2+1) (Fr0.cell (n2:=nx+2) (i:=nx+1) (Fr0.cell (n2:=nx+1) (i:=nx) (Fr0.base hu hg) (by omega) (by omega)) (by omega) (by omega)) (by omega) (by omega)) ?_ ?_) fun x hx=>by simp only [List.mem_cons,List.not_mem_nil,or_false] at hx ⊢;rcases hx with rfl | rfl | rfl | rfl <;> simp) hj0 hj1
   · omega
   · omega
   · omega
   · intro o Fo v7 v0 v4 v10 v11 v12 v13 v14 v15 v16 v17 v18 v19 v20 v21 v22 E2 nx2 j2 hok hF f2 hj2 hj2'
     (try simp only [zAn,zA5,zA8,zA9,zAg,reduceIte])
     exact ms_end ⟨by omega,by omega,by omega⟩ hL hut hk hok hF f2 hj2 hj2' msE rfl
   · omega
   · omega
theorem msg_C {a b:BD} (ha:a.ok 4) (hb:b.ok 7):∀ n deep,n+deep=5→MsC a b (n+1) deep
 | 0,deep,h=>by
  obtain rfl:deep=5:=by omega
  exact mkm_one ha hb
 | n+1,deep,h=>mkm_succ ha hb (by omega) (msg_C ha hb n (deep+1) (by omega))
theorem proto_1 {p d nx:Nat} {ty:NN} {L:CVal} (hp:p<nx) (hut:zAb ty nx) (hL:Nums L) {K:KT} (hk:∀ h' a b,a.ok 4→b.ok 7→Fit h'→nx≤h'.next→(∀ q,q<nx→q≠p→zA1 h'.ents q=none)→K (.tup [schV a b,.bool true]) h'):Wc tree.getF 8 [.ptr p d 0] ⟨[(p,.cells [L,.int .i64 0])],nx,ty⟩ K:=by
 have e0:[(p,CObj.cells [L,.int .i64 0])]=zA2 [(p,pk L 0)] p (pk L 0):=by simp [zA2]
 rw [e0]
 refine proto_F (Under.cons hp Under.nil) hut (o:=pk L 0) (by simp [zA1]) hL (by omega) (by omega) fun h' a b j2 ha hb P=>hk h' a b ha hb P.fit P.nx fun q q1 q2=>(P.fr q q1).trans ?_
 dsimp only
 rw [zA0 q2]
 simp [zA1,Ne.symm q2]
theorem bgPV {K:KT} (hk:∀ n' ty,3≤n'→zAb ty n'→K (.bool true) ⟨[],n',ty⟩):Wc tree.getF 6 [] ⟨[],3,[]⟩ K:=wc_start (m:=1000000) (by kernel_rfl) hk
structure LLn (v:CVal) (n:Nat):Prop where
 u:PV1 v
 len:v.lenOf=some n
 s:v.isStr=false
theorem zIh {c:CVal} {xs:List Int} (hc:c=.nils∧xs=[]∨c=.imm .none 1 (xs.map (CVal.int .u8))):LLn c xs.length:=by
 rcases hc with ⟨rfl,rfl⟩ | rfl
 · exact ⟨⟨rfl,rfl,rfl,rfl,rfl⟩,rfl,rfl⟩
 · exact ⟨⟨rfl,rfl,rfl,rfl,rfl⟩,by simp [CVal.lenOf],rfl⟩
theorem pv_t0 {L0 L1 L2 L3:CVal} {m0 m1 m2 m3:Nat} (H0:LLn L0 m0) (H1:LLn L1 m1) (H2:LLn L2 m2) (H3:LLn L3 m3)  (h0:120<m0):Wc tree.getF 5 [L0,L1,L2,L3] zC5 fun v _=>v=.bool true:=by
 have q0:(120:Int)<(m0:Int):=by omega
 obtain ⟨⟨a1,a2,a3,a4,a5⟩,a6,a7⟩:=H0
 obtain ⟨⟨b1,b2,b3,b4,b5⟩,b6,b7⟩:=H1
 obtain ⟨⟨d1,d2,d3,d4,d5⟩,d6,d7⟩:=H2
 obtain ⟨⟨e1,e2,e3,e4,e5⟩,e6,e7⟩:=H3
 simp only [CVal.isUndef,CVal.whole,CVal.cells,CVal.strip,CVal.bare,CVal.isStr] at a1 a2 a3 a4 a5 a7 b1 b2 b3 b4 b5 b7 d1 d2 d3 d4 d5 d7 e1 e2 e3 e4 e5 e7
 have hN0:zC5=⟨[],0,[]⟩:=rfl
 have hA:=j30_ a1 a2 a3 a4 a5 a6 a7 b1 b2 b3 b4 b5 b6 b7 d1 d2 d3 d4 d5 d6 d7 e1 e2 e3 e4 e5 e6 e7 q0 True.intro
 have hA:=And.intro hA (j2_ True.intro True.intro)
 refine mk_ 5 c5 ?_
 generalize e:zDr .. = r
 simp (disch:=omega) [hN0,hA] at e
 subst e
 repeat (first
  | refine st_ rfl ?_
  | ((first | refine W.regG ?_ | refine WoR.go ?_);generalize e:goR .. = r;simp (disch:=omega) [hA,-CVal.lenOf] at e;replace e:some _=_:=e;subst e;(try dsimp only [goW]))
  | (simp only [zAn,zA5,zA8,zA9,zAg,reduceIte]))
 refine bgPV fun n1 ty1 hn1 hut1=>⟨rfl,?_⟩
 obtain ⟨hu,hut,hX⟩:=fx4 (h:=⟨[],n1,ty1⟩) ⟨Under.nil,hut1⟩
 repeat (first
  | refine st_ rfl ?_
  | ((first | refine W.regG ?_ | refine WoR.go ?_);generalize e:goR .. = r;simp (disch:=omega) [hX,hA,-CVal.lenOf] at e;replace e:some _=_:=e;subst e;(try dsimp only [goW]))
  | (simp only [zAn,zA5,zA8,zA9,zAg,reduceIte])
  | (refine mk_ 7 c7 (s_ ?_))
  | (refine rx_ ?_;refine ⟨rfl,?_⟩))
 refine rx_ ?_
 rfl
theorem pv_t1 {L0 L1 L2 L3:CVal} {m0 m1 m2 m3:Nat} (H0:LLn L0 m0) (H1:LLn L1 m1) (H2:LLn L2 m2) (H3:LLn L3 m3) (h0:m0≤120) (h1:40<m1):Wc tree.getF 5 [L0,L1,L2,L3] zC5 fun v _=>v=.bool true:=by
 have q0:¬ (120:Int)<(m0:Int):=by omega
 have q1:(40:Int)<(m1:Int):=by omega
 obtain ⟨⟨a1,a2,a3,a4,a5⟩,a6,a7⟩:=H0
 obtain ⟨⟨b1,b2,b3,b4,b5⟩,b6,b7⟩:=H1
 obtain ⟨⟨d1,d2,d3,d4,d5⟩,d6,d7⟩:=H2
 obtain ⟨⟨e1,e2,e3,e4,e5⟩,e6,e7⟩:=H3
 simp only [CVal.isUndef,CVal.whole,CVal.cells,CVal.strip,CVal.bare,CVal.isStr] at a1 a2 a3 a4 a5 a7 b1 b2 b3 b4 b5 b7 d1 d2 d3 d4 d5 d7 e1 e2 e3 e4 e5 e7
 have hN0:zC5=⟨[],0,[]⟩:=rfl
 have hA:=j30_ a1 a2 a3 a4 a5 a6 a7 b1 b2 b3 b4 b5 b6 b7 d1 d2 d3 d4 d5 d6 d7 e1 e2 e3 e4 e5 e6 e7 q0 q1
 have hA:=And.intro hA (j2_ True.intro True.intro)
 refine mk_ 5 c5 ?_
 generalize e:zDr .. = r
 simp (disch:=omega) [hN0,hA] at e
 subst e
 repeat (first
  | refine st_ rfl ?_
  | ((first | refine W.regG ?_ | refine WoR.go ?_);generalize e:goR .. = r;simp (disch:=omega) [hA,-CVal.lenOf] at e;replace e:some _=_:=e;subst e;(try dsimp only [goW]))
  | (simp only [zAn,zA5,zA8,zA9,zAg,reduceIte]))
 refine bgPV fun n1 ty1 hn1 hut1=>⟨rfl,?_⟩
 obtain ⟨hu,hut,hX⟩:=fx4 (h:=⟨[],n1,ty1⟩) ⟨Under.nil,hut1⟩
 repeat (first
  | refine st_ rfl ?_
  | ((first | refine W.regG ?_ | refine WoR.go ?_);generalize e:goR .. = r;simp (disch:=omega) [hX,hA,-CVal.lenOf] at e;replace e:some _=_:=e;subst e;(try dsimp only [goW]))
  | (simp only [zAn,zA5,zA8,zA9,zAg,reduceIte])
  | (refine mk_ 7 c7 (s_ ?_))
  | (refine rx_ ?_;refine ⟨rfl,?_⟩))
 refine rx_ ?_
 rfl
theorem pv_t2 {L0 L1 L2 L3:CVal} {m0 m1 m2 m3:Nat} (H0:LLn L0 m0) (H1:LLn L1 m1) (H2:LLn L2 m2) (H3:LLn L3 m3) (h0:m0≤120) (h1:m1≤40) (h2:40<m2):Wc tree.getF 5 [L0,L1,L2,L3] zC5 fun v _=>v=.bool true:=by
 have q0:¬ (120:Int)<(m0:Int):=by omega
 have q1:¬ (40:Int)<(m1:Int):=by omega
 have q2:(40:Int)<(m2:Int):=by omega
 obtain ⟨⟨a1,a2,a3,a4,a5⟩,a6,a7⟩:=H0
 obtain ⟨⟨b1,b2,b3,b4,b5⟩,b6,b7⟩:=H1
 obtain ⟨⟨d1,d2,d3,d4,d5⟩,d6,d7⟩:=H2
 obtain ⟨⟨e1,e2,e3,e4,e5⟩,e6,e7⟩:=H3
 simp only [CVal.isUndef,CVal.whole,CVal.cells,CVal.strip,CVal.bare,CVal.isStr] at a1 a2 a3 a4 a5 a7 b1 b2 b3 b4 b5 b7 d1 d2 d3 d4 d5 d7 e1 e2 e3 e4 e5 e7
 have hN0:zC5=⟨[],0,[]⟩:=rfl
 have hA:=j30_ a1 a2 a3 a4 a5 a6 a7 b1 b2 b3 b4 b5 b6 b7 d1 d2 d3 d4 d5 d6 d7 e1 e2 e3 e4 e5 e6 e7 q0 q1
 have hA:=And.intro hA (j2_ q2 True.intro)
 refine mk_ 5 c5 ?_
 generalize e:zDr .. = r
 simp (disch:=omega) [hN0,hA] at e
 subst e
 repeat (first
  | refine st_ rfl ?_
  | ((first | refine W.regG ?_ | refine WoR.go ?_);generalize e:goR .. = r;simp (disch:=omega) [hA,-CVal.lenOf] at e;replace e:some _=_:=e;subst e;(try dsimp only [goW]))
  | (simp only [zAn,zA5,zA8,zA9,zAg,reduceIte]))
 refine bgPV fun n1 ty1 hn1 hut1=>⟨rfl,?_⟩
 obtain ⟨hu,hut,hX⟩:=fx4 (h:=⟨[],n1,ty1⟩) ⟨Under.nil,hut1⟩
 repeat (first
  | refine st_ rfl ?_
  | ((first | refine W.regG ?_ | refine WoR.go ?_);generalize e:goR .. = r;simp (disch:=omega) [hX,hA,-CVal.lenOf] at e;replace e:some _=_:=e;subst e;(try dsimp only [goW]))
  | (simp only [zAn,zA5,zA8,zA9,zAg,reduceIte])
  | (refine mk_ 7 c7 (s_ ?_))
  | (refine rx_ ?_;refine ⟨rfl,?_⟩))
 refine rx_ ?_
 rfl
theorem pv_t3 {L0 L1 L2 L3:CVal} {m0 m1 m2 m3:Nat} (H0:LLn L0 m0) (H1:LLn L1 m1) (H2:LLn L2 m2) (H3:LLn L3 m3) (h0:m0≤120) (h1:m1≤40) (h2:m2≤40) (h3:40<m3):Wc tree.getF 5 [L0,L1,L2,L3] zC5 fun v _=>v=.bool true:=by
 have q0:¬ (120:Int)<(m0:Int):=by omega
 have q1:¬ (40:Int)<(m1:Int):=by omega
 have q2:¬ (40:Int)<(m2:Int):=by omega
 have q3:(40:Int)<(m3:Int):=by omega
 obtain ⟨⟨a1,a2,a3,a4,a5⟩,a6,a7⟩:=H0
 obtain ⟨⟨b1,b2,b3,b4,b5⟩,b6,b7⟩:=H1
 obtain ⟨⟨d1,d2,d3,d4,d5⟩,d6,d7⟩:=H2
 obtain ⟨⟨e1,e2,e3,e4,e5⟩,e6,e7⟩:=H3
 simp only [CVal.isUndef,CVal.whole,CVal.cells,CVal.strip,CVal.bare,CVal.isStr] at a1 a2 a3 a4 a5 a7 b1 b2 b3 b4 b5 b7 d1 d2 d3 d4 d5 d7 e1 e2 e3 e4 e5 e7
 have hN0:zC5=⟨[],0,[]⟩:=rfl
 have hA:=j30_ a1 a2 a3 a4 a5 a6 a7 b1 b2 b3 b4 b5 b6 b7 d1 d2 d3 d4 d5 d6 d7 e1 e2 e3 e4 e5 e6 e7 q0 q1
 have hA:=And.intro hA (j2_ q2 q3)
 refine mk_ 5 c5 ?_
 generalize e:zDr .. = r
 simp (disch:=omega) [hN0,hA] at e
 subst e
 repeat (first
  | refine st_ rfl ?_
  | ((first | refine W.regG ?_ | refine WoR.go ?_);generalize e:goR .. = r;simp (disch:=omega) [hA,-CVal.lenOf] at e;replace e:some _=_:=e;subst e;(try dsimp only [goW]))
  | (simp only [zAn,zA5,zA8,zA9,zAg,reduceIte]))
 refine bgPV fun n1 ty1 hn1 hut1=>⟨rfl,?_⟩
 obtain ⟨hu,hut,hX⟩:=fx4 (h:=⟨[],n1,ty1⟩) ⟨Under.nil,hut1⟩
 repeat (first
  | refine st_ rfl ?_
  | ((first | refine W.regG ?_ | refine WoR.go ?_);generalize e:goR .. = r;simp (disch:=omega) [hX,hA,-CVal.lenOf] at e;replace e:some _=_:=e;subst e;(try dsimp only [goW]))
  | (simp only [zAn,zA5,zA8,zA9,zAg,reduceIte])
  | (refine mk_ 7 c7 (s_ ?_))
  | (refine rx_ ?_;refine ⟨rfl,?_⟩))
 refine rx_ ?_
 rfl
theorem mem_sortR {x:RW} {l:List RW} (h:x ∈ zAi l):x ∈ l:=by
 have:∀ (l acc:List RW),x ∈ l.foldl (fun acc r=>insR r acc) acc→x ∈ acc∨x ∈ l:=by
  intro l
  induction l with
  | nil=>exact fun acc h=>.inl h
  | cons y l ih =>
   intro acc h
   rcases ih _ h with h | h
   · rcases zH7.1 h with rfl | h
     · exact .inr (by simp)
     · exact .inl h
   · exact .inr (by simp [h])
 rcases this l [] h with h | h
 · cases h
 · exact h
theorem noOne {a b:BD} (ha:a.os=[]) (hb:b.os=[]):NoOne (fldS a b):=by
 have key:∀ (c:BD) (k:Nat) (r:RW),c.os=[]→fRW (zAi c.rs) k=some r→r.oo=0:=fun c k r hc h=>by
  have:=mem_sortR (zHp h).1
  unfold BD.rs at this
  rw [hc,List.map_nil,List.append_nil] at this
  obtain ⟨d,_,rfl⟩:=List.mem_map.1 this
  obtain ⟨sh,t,num⟩:=d
  cases sh <;> rfl
 intro t k f h
 unfold fldS bdOf at h
 split at h
 · rename_i c e
   obtain ⟨r,hr,rfl⟩:=Option.map_eq_some_iff.1 h
   split at e
   · cases e;exact key a k r ha hr
   · split at e
     · cases e;exact key b k r hb hr
     · cases e
 · cases h
theorem oVk (c:BD):∃ (o:CVal) (k:Nat),oV1 (!c.os.isEmpty)=o∧PV1 o∧o.lenOf=some k∧o.isStr=false∧k≤1∧(k=0→c.os=[]):=by
 cases e:c.os.isEmpty
 · exact ⟨_,1,rfl,⟨rfl,rfl,rfl,rfl,rfl⟩,rfl,rfl,by omega,fun h=>by omega⟩
 · exact ⟨_,0,rfl,⟨rfl,rfl,rfl,rfl,rfl⟩,rfl,rfl,by omega,fun _=>List.isEmpty_iff.1 e⟩
set_option maxHeartbeats 20000000
theorem pv_m {L0 L1 L2 L3:CVal} {m0 m1 m2 m3:Nat} (H0:LLn L0 m0) (H1:LLn L1 m1) (H2:LLn L2 m2) (H3:LLn L3 m3) (h0:m0≤120) (h1:m1≤40) (h2:m2≤40) (h3:m3≤40) (hN0':Nums L0) (hN1':Nums L1) (hN2':Nums L2) (hN3':Nums L3):Wc tree.getF 5 [L0,L1,L2,L3] zC5 fun v _=>v=.bool true:=by
 have q0:¬ (120:Int)<(m0:Int):=by omega
 have q1:¬ (40:Int)<(m1:Int):=by omega
 have q2:¬ (40:Int)<(m2:Int):=by omega
 have q3:¬ (40:Int)<(m3:Int):=by omega
 obtain ⟨⟨a1,a2,a3,a4,a5⟩,a6,a7⟩:=H0
 obtain ⟨⟨b1,b2,b3,b4,b5⟩,b6,b7⟩:=H1
 obtain ⟨⟨d1,d2,d3,d4,d5⟩,d6,d7⟩:=H2
 obtain ⟨⟨e1,e2,e3,e4,e5⟩,e6,e7⟩:=H3
 simp only [CVal.isUndef,CVal.whole,CVal.cells,CVal.strip,CVal.bare,CVal.isStr] at a1 a2 a3 a4 a5 a7 b1 b2 b3 b4 b5 b7 d1 d2 d3 d4 d5 d7 e1 e2 e3 e4 e5 e7
 have hN0:zC5=⟨[],0,[]⟩:=rfl
 have hA:=j30_ a1 a2 a3 a4 a5 a6 a7 b1 b2 b3 b4 b5 b6 b7 d1 d2 d3 d4 d5 d6 d7 e1 e2 e3 e4 e5 e6 e7 q0 q1
 have hA:=And.intro hA (j2_ q2 q3)
 refine mk_ 5 c5 ?_
 generalize e:zDr .. = r
 simp (disch:=omega) [hN0,hA] at e
 subst e
 repeat (first
  | refine st_ rfl ?_
  | ((first | refine W.regG ?_ | refine WoR.go ?_);generalize e:goR .. = r;simp (disch:=omega) [hA,-CVal.lenOf] at e;replace e:some _=_:=e;subst e;(try dsimp only [goW]))
  | (simp only [zAn,zA5,zA8,zA9,zAg,reduceIte]))
 refine bgPV fun n1 ty1 hn1 hut1=>⟨rfl,?_⟩
 obtain ⟨hu,hut,hX⟩:=fx4 (h:=⟨[],n1,ty1⟩) ⟨Under.nil,hut1⟩
 repeat (first
  | refine st_ rfl ?_
  | ((first | refine W.regG ?_ | refine WoR.go ?_);generalize e:goR .. = r;simp (disch:=omega) [hX,hA,-CVal.lenOf] at e;replace e:some _=_:=e;subst e;(try dsimp only [goW]))
  | (simp only [zAn,zA5,zA8,zA9,zAg,reduceIte])
  | (refine mk_ 7 c7 (s_ ?_))
  | (refine rx_ ?_;refine ⟨rfl,?_⟩))
 refine proto_1 (by omega) (hut1.le (by omega)) hN0' fun h2 a b ha hb g2 n2 Z2=>⟨rfl,?_⟩
 obtain ⟨S1,S2,hS,pS1,pS2⟩:=schS a b
 have MS:=msg_C ha hb 5 0 rfl tyM (.inr rfl)
 have MC:=merge_C ha hb 6 tyM (.inr rfl)
 rw [hS] at MS MC ⊢
 refine pq_ pS1 fun w1=>?_
 refine pq_ pS2 fun w2=>?_
 clear hu hut hX
 obtain ⟨hu,hut,hX⟩:=fx4 g2
 have lb0:∀ x:CVal,x.beq x=true:=fun x=>zAf x
 have ls0:∀ l:List CVal,beqs l l=true:=fun l=>by have:=zAf (CVal.agg l);simpa using this
 have hZ:=j7_ hX Z2 w1 w2 hA lb0 ls0
 repeat (first
  | refine vk_ ?_
  | (refine mk_ 7 c7 (s_ ?_))
  | (refine rk_ ?_;refine ⟨rfl,?_⟩))
 refine pkc_ (j:=0) MS ft_ (by simp (disch:=omega) [zA1,pk]) hN1' (by omega) (by omega) fun x1 j1 v1 g1x ga1 gb1 gv1=>?_
 dsimp only at g1x
 obtain ⟨F1,r1,t1,rfl,rm1,ok1⟩:=gv1
 refine ⟨rfl,?_⟩
 refine pq_ (RM.p rm1) fun f1=>?_
 have hZ:=And.intro hZ f1
 repeat (first
  | refine vk_ ?_
  | (refine mk_ 7 c7 (s_ ?_))
  | (refine rk_ ?_;refine ⟨rfl,?_⟩))
 refine pkc_ (j:=0) MS ft_ (by simp (disch:=omega) [zA1,pk]) hN2' (by omega) (by omega) fun x2 j2 v2 g2x ga2 gb2 gv2=>?_
 dsimp only at g2x
 obtain ⟨F2,r2,t2,rfl,rm2,ok2⟩:=gv2
 refine ⟨rfl,?_⟩
 refine pq_ (RM.p rm2) fun f2=>?_
 have hZ:=And.intro hZ f2
 repeat (first
  | refine vk_ ?_
  | (refine mk_ 7 c7 (s_ ?_))
  | (refine rk_ ?_;refine ⟨rfl,?_⟩))
 refine pkc_ (j:=0) MS ft_ (by simp (disch:=omega) [zA1,pk]) hN3' (by omega) (by omega) fun x3 j3 v3 g3x ga3 gb3 gv3=>?_
 dsimp only at g3x
 obtain ⟨F3,r3,t3,rfl,rm3,ok3⟩:=gv3
 refine ⟨rfl,?_⟩
 refine pq_ (RM.p rm3) fun f3=>?_
 have hZ:=And.intro hZ f3
 repeat (first
  | refine vk_ ?_
  | (refine mk_ 7 c7 (s_ ?_))
  | (refine rk_ ?_;refine ⟨rfl,?_⟩))
 clear hA
 have okG:=zEn b0V (zHe a b) 6 tyM
 have ok0:OkMs a b 6 tyM (mv0 BV 6):=⟨trivial,fun p hp=>(by cases hp),fun p hp=>(by cases hp)⟩
 have eL:=merge_left b0V (zHe a b) 6 tyM t1 ok1
 have eR:=merge_right (b0:=b0V) (fld:=fldS a b) 6 tyM t1
 have eA:a.os=[]→b.os=[]→mgM a b 6 tyM (mgM a b 6 tyM t1 t2) t3=mgM a b 6 tyM t1 (mgM a b 6 tyM t2 t3):=fun h1 h2=>zJk b0V (noOne h1 h2) (zHe a b) 6 tyM t1 t2 t3 ok1 ok2 ok3
 have M8:=MC 100 0 (by omega) (by omega) t1 (mv0 BV 6) F1 .nils r1 [] ok1 ok0 rm1 RM.zero
 have M9:=MC 0 100 (by omega) (by omega) (mv0 BV 6) t1 .nils F1 [] r1 ok0 ok1 RM.zero rm1
 rw [show mgM a b 6 tyM t1 (mv0 BV 6)=t1 from eR] at M8
 rw [show mgM a b 6 tyM (mv0 BV 6) t1=t1 from eL] at M9
 refine pr_ (MC 100 100 (by omega) (by omega) t1 t2 F1 F2 r1 r2 ok1 ok2 rm1 rm2) fun v4 n4 R4 g4=>?_
 obtain ⟨X4,u4,rfl,R4⟩:=R4
 refine ⟨rfl,?_⟩
 refine pq_ (RM.p R4) fun x4=>?_
 have hZ:=And.intro hZ x4
 repeat (refine vk_ ?_)
 refine pr_ (MC 200 100 (by omega) (by omega) _ t3 X4 F3 u4 r3 (okG t1 t2 ok1 ok2) ok3 R4 rm3) fun v5 n5 R5 g5=>?_
 obtain ⟨X5,u5,rfl,R5⟩:=R5
 refine ⟨rfl,?_⟩
 refine pq_ (RM.p R5) fun x5=>?_
 have hZ:=And.intro hZ x5
 repeat (refine vk_ ?_)
 refine pr_ (MC 100 100 (by omega) (by omega) t2 t3 F2 F3 r2 r3 ok2 ok3 rm2 rm3) fun v6 n6 R6 g6=>?_
 obtain ⟨X6,u6,rfl,R6⟩:=R6
 refine ⟨rfl,?_⟩
 refine pq_ (RM.p R6) fun x6=>?_
 have hZ:=And.intro hZ x6
 repeat (refine vk_ ?_)
 refine pr_ (MC 100 200 (by omega) (by omega) t1 _ F1 X6 r1 u6 ok1 (okG t2 t3 ok2 ok3) rm1 R6) fun v7 n7 R7 g7=>?_
 obtain ⟨X7,u7,rfl,R7⟩:=R7
 refine ⟨rfl,?_⟩
 refine pq_ (RM.p R7) fun x7=>?_
 have hZ:=And.intro hZ x7
 have hS1:S1=.imm .none 3 [mgV tyI a,mgV tyM b]:=by
  have e:=hS
  unfold schV at e
  simp only [CVal.agg.injEq,List.cons.injEq] at e
  exact e.1.symm
 have pA:=lV8P (zAi a.rs)
 have pB:=lV8P (zAi b.rs)
 subst hS1
 unfold mgV at M8 M9 ⊢
 refine pq_ pA fun hA1=>?_
 refine pq_ pB fun hB1=>?_
 have hZ:=j14_ hX Z2 w2 f1 f2 f3 x4 x5 x6 x7 hA1 hB1 lb0 ls0
 obtain ⟨oA,kA,eoA,pOA,lOA,sOA,hkA,zA⟩:=oVk a
 obtain ⟨oB,kB,eoB,pOB,lOB,sOB,hkB,zB⟩:=oVk b
 rw [eoA,eoB] at M8 M9 ⊢
 simp only [CVal.isStr] at sOA sOB
 refine pq_ pOA fun yA=>?_
 refine pq_ pOB fun yB=>?_
 have hL2:∀ x y:CVal,(CVal.imm .none 3 [x,y]).lenOf=some 2:=fun _ _=>rfl
 have hZ:=And.intro hZ (j7_ yA yB lOA lOB sOA sOB hL2)
 repeat (first
  | refine st_ rfl ?_
  | ((first | refine W.regG ?_ | refine WoR.go ?_);generalize e:goR .. = r;simp (disch:=omega) [hZ,-CVal.lenOf] at e;replace e:some _=_:=e;subst e;(try dsimp only [goW]))
  | (refine dk_ ?_;refine W.loop ?_)
  | refine W.loop ?_
  | (simp only [zAn,zA5,zA8,zA9,zAg,reduceIte]))
 refine pr_ M8 fun v8 n8 R8 g8=>?_
 obtain ⟨X8,u8,rfl,R8⟩:=R8
 refine ⟨rfl,?_⟩
 refine pq_ (RM.p R8) fun x8=>?_
 have hZ:=And.intro hZ x8
 repeat (refine vk_ ?_)
 refine pe_ (same_C (Z:=100) (by omega) 6 t1 X8 F1 u8 r1 R8 rm1) fun n8' g8'=>⟨rfl,?_⟩
 repeat (refine vk_ ?_)
 refine pr_ M9 fun v9 n9 R9 g9=>?_
 obtain ⟨X9,u9,rfl,R9⟩:=R9
 refine ⟨rfl,?_⟩
 refine pq_ (RM.p R9) fun x9=>?_
 have hZ:=And.intro hZ x9
 repeat (refine vk_ ?_)
 refine pe_ (same_C (Z:=100) (by omega) 6 t1 X9 F1 u9 r1 R9 rm1) fun n9' g9'=>⟨rfl,?_⟩
 by_cases hk0:kA+kB=0
 · repeat (refine vk_ ?_)
   refine pe_ (same_C (Z:=300) (by omega) 6 _ X5 X7 u5 u7 R5 (eA (zA (by omega)) (zB (by omega)) ▸ R7)) fun y11 z11=>⟨rfl,?_⟩
   repeat (refine vk_ ?_)
   refine rk_ ?_
   rfl
 · repeat (refine vk_ ?_)
   refine rk_ ?_
   rfl
theorem law (c0:CVal) (z0:List Int) (hc0:c0=.nils∧z0=[]∨c0=.imm .none 1 (z0.map (CVal.int .u8))) (hw0:∀ x ∈ z0,0≤x∧x<256) (c1:CVal) (z1:List Int) (hc1:c1=.nils∧z1=[]∨c1=.imm .none 1 (z1.map (CVal.int .u8))) (hw1:∀ x ∈ z1,0≤x∧x<256) (c2:CVal) (z2:List Int) (hc2:c2=.nils∧z2=[]∨c2=.imm .none 1 (z2.map (CVal.int .u8))) (hw2:∀ x ∈ z2,0≤x∧x<256) (c3:CVal) (z3:List Int) (hc3:c3=.nils∧z3=[]∨c3=.imm .none 1 (z3.map (CVal.int .u8))) (hw3:∀ x ∈ z3,0≤x∧x<256):Wc tree.getF 5 [c0,c1,c2,c3] zC5 fun v _=>v=.bool true:=by
 have nm:∀ (c:CVal) (z:List Int),(c=.nils∧z=[]∨c=.imm .none 1 (z.map (CVal.int .u8)))→(∀ x ∈ z,0≤x∧x<256)→z.length≤120→Nums c:=by
  rintro c z (⟨rfl,_⟩ | rfl) hw hl
  · exact .inl rfl
  · exact .inr ⟨z,rfl,by omega,hw⟩
 have H0:=zIh hc0
 have H1:=zIh hc1
 have H2:=zIh hc2
 have H3:=zIh hc3
 rcases Nat.lt_or_ge 120 z0.length with h0 | h0
 · exact pv_t0 H0 H1 H2 H3 h0
 rcases Nat.lt_or_ge 40 z1.length with h1 | h1
 · exact pv_t1 H0 H1 H2 H3 h0 h1
 rcases Nat.lt_or_ge 40 z2.length with h2 | h2
 · exact pv_t2 H0 H1 H2 H3 h0 h1 h2
 rcases Nat.lt_or_ge 40 z3.length with h3 | h3
 · exact pv_t3 H0 H1 H2 H3 h0 h1 h2 h3
 exact pv_m H0 H1 H2 H3 h0 h1 h2 h3 (nm c0 z0 hc0 hw0 (by omega)) (nm c1 z1 hc1 hw1 (by omega)) (nm c2 z2 hc2 hw2 (by omega)) (nm c3 z3 hc3 hw3 (by omega))
end Go.Proofs.YtafeofghkhhhkaaGreat.IrV
