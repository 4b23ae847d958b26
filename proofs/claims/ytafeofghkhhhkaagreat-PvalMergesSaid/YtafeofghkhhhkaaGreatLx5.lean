/- What the functions of the law 'PvalMerges' do: part 5 of 9. -/
import Derived.Test.YtafeofghkhhhkaaGreatLx4
namespace Go.Proofs.YtafeofghkhhhkaaGreat.IrM
open Go Go.CI
set_option maxRecDepth 100000
set_option maxHeartbeats 4000000
set_option linter.unusedVariables false
set_option linter.unusedSimpArgs false
attribute [local irreducible] W Wo Wc WoR
theorem zKu {l:List CVal} (z:l.map CVal.bare=l):(∃ (w:CVal) (ws:List CVal),l=[]/\w.bare=w/\ws.map CVal.bare=ws/\ws.length<=0)\/∃ w ws,l=w::ws/\w.bare=w/\ws.map CVal.bare=ws/\ws.length+1<=l.length:=by
 cases l with
 | nil=>exact .inl ⟨.nils,[],rfl,rfl,rfl,Nat.le_refl _⟩
 | cons w ws =>
  rw [List.map_cons] at z
  injection z with z1 z2
  exact .inr ⟨w,ws,rfl,z1,z2,by simp⟩
theorem tl_a {hh:CHeap} (hf:Fit hh) {b1 pm p7:Nat} {FV O:CVal} {whole n:B8} {L:List CVal} {i4 d4 ix dx:Nat} {r:RW} {κ kk:Nat} (hκ1:1<=κ) (hκ2:κ<=17) {ty:B8} {acc:List RW} {tg:Tag} (hl9:acc.length<=100) (e2:r.lab=2) {bb:Bool} (hc:bb=false/\(r.pk:Int)=0/\wN κ=2\/bb=true/\(r.pk:Int)=0/\wN κ≠2\/bb=true/\(r.pk:Int)=1/\wN κ≠2\/bb=false/\(r.pk:Int)=2/\wN κ≠2)
    (gm:zA1 hh.ents pm=some (.cells [.str whole,.nils,O])) (ha:acc=[]) (gx:zA1 hh.ents ix=some (.cells [.int .i64 r.num,.str r.nm,.int .i64 r.lab,.int .i64 (κ:Int),.str ty,.int .i64 (kk:Int),.bool false,.int .i64 r.oo])) (g4:zA1 hh.ents i4=some (.cells [.int .i64 r.lab,.str r.t,.str r.key,.str r.nm,.int .u64 r.num,.int .i64 r.pk,.int .i64 r.oo])) (n1:ix≠pm) (n2:i4≠ix) (n3:i4≠pm) (HO:PV1 O) {v0 v2 v3 v5 v8 v9 v10 v11 v13 v15 v16 v17 v18 v19 v20 v21 v22 v23 v24 v25 v26 v27:CVal} {Q:QT}
    (hk:∀ (v19 v20 v21 v22:CVal) n' i u,hh.next<=n'->hh.next<=i->i<n'->Q .normal ⟨[v0,.ptr b1 164626444 0,v2,v3,.ptr i4 d4 0,v5,.ptr pm 49283075 0,.ptr p7 49283075 0,v8,v9,v10,v11,.ptr ix dx 0,v13,FV,v15,v16,v17,v18,v19,v20,v21,v22,v23,v24,v25,v26,v27,.int .i64 0],⟨(i,.tok u)::zA2 (zA2 hh.ents ix (.cells [.int .i64 r.num,.str r.nm,.int .i64 r.lab,.int .i64 (κ:Int),.str ty,.int .i64 (kk:Int),.bool bb,.int .i64 r.oo])) pm (.cells [.str whole,.imm (.own i u) 8 ((acc.take (posR r acc)).map RW.pf++(.agg [.int .i64 r.num,.str r.nm,.int .i64 r.lab,.int .i64 (κ:Int),.str ty,.int .i64 (kk:Int),.bool bb,.int .i64 r.oo])::(acc.drop (posR r acc)).map RW.pf),O]),n',hh.tys⟩,[]⟩) :
    W TF zKj ⟨[v0,.ptr b1 164626444 0,v2,v3,.ptr i4 d4 0,v5,.ptr pm 49283075 0,.ptr p7 49283075 0,v8,v9,v10,v11,.ptr ix dx 0,v13,FV,v15,v16,v17,v18,v19,v20,v21,v22,v23,v24,v25,v26,v27,.int .i64 0],hh,[]⟩ Q:=by
 obtain ⟨hu,hut,hX⟩:=fx4 hf
 have hY:=fx5 hf gx
 have s1:∀ X,zA1 (zA2 hh.ents ix X) pm=zA1 hh.ents pm:=fun X=>zA0 (Ne.symm n1)
 have s2:∀ X,zA1 (zA2 hh.ents ix X) i4=zA1 hh.ents i4:=fun X=>zA0 n2
 have lx:=zA3 hu gx
 have lm:=zA3 hu gm
 obtain ⟨o1,o2,o3,o4,o5⟩:=HO
 simp only [CVal.isUndef,CVal.whole,CVal.cells,CVal.strip,CVal.bare] at o1 o2 o3 o4 o5
 have p2:(r.lab:Int)=2:=by omega
 rcases hc with ⟨eb,p1,e3⟩ | ⟨eb,p1,e3⟩ | ⟨eb,p1,e3⟩ | ⟨eb,p1,e3⟩
 all_goals (
  simp only [eb] at hk
  simp only [p2] at hk
  have hZ:=j15_ hX hY s1 s2 gm gx g4 o1 o2 o3 o4 o5 p1 p2 e3
  repeat ((fail_if_success (show W TF posL _ _));first
   | refine st_ rfl ?_
   | refine ws_ ?_
   | (refine xs_ ?_)
   | (refine pe_ (zO2 κ hκ1 hκ2) fun _ g=>⟨rfl,?_⟩))
  refine zRa (hh:=⟨_,_,_⟩) (r:=r) (L:=L) (n:=n) (whole:=whole) (O:=O) (x1:=.str r.nm) (x2:=.int .i64 2) (x3:=.int .i64 κ) (x4:=.str ty) (x5:=.int .i64 kk) (x6:=.bool bb) (x7:=.int .i64 r.oo) ?_ ?_ ?_ (Nat.le_refl _) fun v22 n' g=>?_
  . exact ft_
  . dsimp only;rw [s1];exact gm
  . dsimp only;rw [hY.1,eb]
  simp only [eb]
  dsimp only at g
  refine xs_ ?_
  subst ha
  have b1:=trivial
  have b2:=trivial
  have b3:=trivial
  have b4:=trivial
  have hZ:=j19_ hX hY s1 s2 gm gx g4 o1 o2 o3 o4 o5 p1 p2 e3 b1 b2 b3 b4
  try refine vk_ ?_
  refine hk _ _ _ _ _ _ _ ?_ ?_ ?_
  all_goals omega)
theorem tl_c {hh:CHeap} (hf:Fit hh) {b1 pm p7:Nat} {FV O:CVal} {whole n:B8} {L:List CVal} {i4 d4 ix dx:Nat} {r:RW} {κ kk:Nat} (hκ1:1<=κ) (hκ2:κ<=17) {ty:B8} {acc:List RW} {tg:Tag} (hl9:acc.length<=100) (e1:r.pk=0) (e2:r.lab≠2)
    (gm:zA1 hh.ents pm=some (.cells [.str whole,.nils,O])) (ha:acc=[]) (gx:zA1 hh.ents ix=some (.cells [.int .i64 r.num,.str r.nm,.int .i64 r.lab,.int .i64 (κ:Int),.str ty,.int .i64 (kk:Int),.bool false,.int .i64 r.oo])) (g4:zA1 hh.ents i4=some (.cells [.int .i64 r.lab,.str r.t,.str r.key,.str r.nm,.int .u64 r.num,.int .i64 r.pk,.int .i64 r.oo])) (n1:ix≠pm) (n2:i4≠ix) (n3:i4≠pm) (HO:PV1 O) {v0 v2 v3 v5 v8 v9 v10 v11 v13 v15 v16 v17 v18 v19 v20 v21 v22 v23 v24 v25 v26 v27:CVal} {Q:QT}
    (hk:∀ (v19 v20 v21 v22:CVal) n' i u,hh.next<=n'->hh.next<=i->i<n'->Q .normal ⟨[v0,.ptr b1 164626444 0,v2,v3,.ptr i4 d4 0,v5,.ptr pm 49283075 0,.ptr p7 49283075 0,v8,v9,v10,v11,.ptr ix dx 0,v13,FV,v15,v16,v17,v18,v19,v20,v21,v22,v23,v24,v25,v26,v27,.int .i64 0],⟨(i,.tok u)::zA2 (zA2 hh.ents ix (.cells [.int .i64 r.num,.str r.nm,.int .i64 r.lab,.int .i64 (κ:Int),.str ty,.int .i64 (kk:Int),.bool false,.int .i64 r.oo])) pm (.cells [.str whole,.imm (.own i u) 8 ((acc.take (posR r acc)).map RW.pf++(.agg [.int .i64 r.num,.str r.nm,.int .i64 r.lab,.int .i64 (κ:Int),.str ty,.int .i64 (kk:Int),.bool false,.int .i64 r.oo])::(acc.drop (posR r acc)).map RW.pf),O]),n',hh.tys⟩,[]⟩) :
    W TF zKj ⟨[v0,.ptr b1 164626444 0,v2,v3,.ptr i4 d4 0,v5,.ptr pm 49283075 0,.ptr p7 49283075 0,v8,v9,v10,v11,.ptr ix dx 0,v13,FV,v15,v16,v17,v18,v19,v20,v21,v22,v23,v24,v25,v26,v27,.int .i64 0],hh,[]⟩ Q:=by
 obtain ⟨hu,hut,hX⟩:=fx4 hf
 have hY:=fx5 hf gx
 have s1:∀ X,zA1 (zA2 hh.ents ix X) pm=zA1 hh.ents pm:=fun X=>zA0 (Ne.symm n1)
 have s2:∀ X,zA1 (zA2 hh.ents ix X) i4=zA1 hh.ents i4:=fun X=>zA0 n2
 have lx:=zA3 hu gx
 have lm:=zA3 hu gm
 obtain ⟨o1,o2,o3,o4,o5⟩:=HO
 simp only [CVal.isUndef,CVal.whole,CVal.cells,CVal.strip,CVal.bare] at o1 o2 o3 o4 o5
 have p1:(r.pk:Int)=0:=by omega
 have p2:¬ (r.lab:Int)=2:=by omega
 have hZ:=j14_ hX hY s1 s2 gm gx g4 o1 o2 o3 o4 o5 p1 p2
 repeat ((fail_if_success (show W TF posL _ _));first
  | refine st_ rfl ?_
  | refine ws_ ?_
  | (refine xs_ ?_)
  | (refine pe_ (zO2 κ hκ1 hκ2) fun _ g=>⟨rfl,?_⟩))
 refine zRa (hh:=⟨_,_,_⟩) (r:=r) (L:=L) (n:=n) (whole:=whole) (O:=O) (x1:=.str r.nm) (x2:=.int .i64 r.lab) (x3:=.int .i64 κ) (x4:=.str ty) (x5:=.int .i64 kk) (x6:=.bool false) (x7:=.int .i64 r.oo) ?_ ?_ ?_ (Nat.le_refl _) fun v22 n' g=>?_
 . exact ft_
 . dsimp only;rw [s1];exact gm
 . dsimp only;rw [hY.1]
 dsimp only at g
 refine xs_ ?_
 subst ha
 have b1:=trivial
 have b2:=trivial
 have b3:=trivial
 have b4:=trivial
 have hZ:=j18_ hX hY s1 s2 gm gx g4 o1 o2 o3 o4 o5 p1 p2 b1 b2 b3 b4
 try refine vk_ ?_
 refine hk _ _ _ _ _ _ _ ?_ ?_ ?_
 all_goals omega
theorem tm_a {hh:CHeap} (hf:Fit hh) {b1 pm p7:Nat} {FV O:CVal} {whole n:B8} {L:List CVal} {i4 d4 ix dx:Nat} {r:RW} {κ kk:Nat} (hκ1:1<=κ) (hκ2:κ<=17) {ty:B8} {acc:List RW} {tg:Tag} (hl9:acc.length<=100) (e2:r.lab=2) {bb:Bool} (hc:bb=false/\(r.pk:Int)=0/\wN κ=2\/bb=true/\(r.pk:Int)=0/\wN κ≠2\/bb=true/\(r.pk:Int)=1/\wN κ≠2\/bb=false/\(r.pk:Int)=2/\wN κ≠2)
    (gm:zA1 hh.ents pm=some (.cells [.str whole,.imm tg 8 (acc.map RW.pf),O]))  (gx:zA1 hh.ents ix=some (.cells [.int .i64 r.num,.str r.nm,.int .i64 r.lab,.int .i64 (κ:Int),.str ty,.int .i64 (kk:Int),.bool false,.int .i64 r.oo])) (g4:zA1 hh.ents i4=some (.cells [.int .i64 r.lab,.str r.t,.str r.key,.str r.nm,.int .u64 r.num,.int .i64 r.pk,.int .i64 r.oo])) (n1:ix≠pm) (n2:i4≠ix) (n3:i4≠pm) (HO:PV1 O) {v0 v2 v3 v5 v8 v9 v10 v11 v13 v15 v16 v17 v18 v19 v20 v21 v22 v23 v24 v25 v26 v27:CVal} {Q:QT}
    (hk:∀ (v19 v20 v21 v22:CVal) n' i u,hh.next<=n'->hh.next<=i->i<n'->Q .normal ⟨[v0,.ptr b1 164626444 0,v2,v3,.ptr i4 d4 0,v5,.ptr pm 49283075 0,.ptr p7 49283075 0,v8,v9,v10,v11,.ptr ix dx 0,v13,FV,v15,v16,v17,v18,v19,v20,v21,v22,v23,v24,v25,v26,v27,.int .i64 0],⟨(i,.tok u)::zA2 (zA2 hh.ents ix (.cells [.int .i64 r.num,.str r.nm,.int .i64 r.lab,.int .i64 (κ:Int),.str ty,.int .i64 (kk:Int),.bool bb,.int .i64 r.oo])) pm (.cells [.str whole,.imm (.own i u) 8 ((acc.take (posR r acc)).map RW.pf++(.agg [.int .i64 r.num,.str r.nm,.int .i64 r.lab,.int .i64 (κ:Int),.str ty,.int .i64 (kk:Int),.bool bb,.int .i64 r.oo])::(acc.drop (posR r acc)).map RW.pf),O]),n',hh.tys⟩,[]⟩) :
    W TF zKj ⟨[v0,.ptr b1 164626444 0,v2,v3,.ptr i4 d4 0,v5,.ptr pm 49283075 0,.ptr p7 49283075 0,v8,v9,v10,v11,.ptr ix dx 0,v13,FV,v15,v16,v17,v18,v19,v20,v21,v22,v23,v24,v25,v26,v27,.int .i64 0],hh,[]⟩ Q:=by
 obtain ⟨hu,hut,hX⟩:=fx4 hf
 have hY:=fx5 hf gx
 have s1:∀ X,zA1 (zA2 hh.ents ix X) pm=zA1 hh.ents pm:=fun X=>zA0 (Ne.symm n1)
 have s2:∀ X,zA1 (zA2 hh.ents ix X) i4=zA1 hh.ents i4:=fun X=>zA0 n2
 have lx:=zA3 hu gx
 have lm:=zA3 hu gm
 obtain ⟨o1,o2,o3,o4,o5⟩:=HO
 simp only [CVal.isUndef,CVal.whole,CVal.cells,CVal.strip,CVal.bare] at o1 o2 o3 o4 o5
 have p2:(r.lab:Int)=2:=by omega
 rcases hc with ⟨eb,p1,e3⟩ | ⟨eb,p1,e3⟩ | ⟨eb,p1,e3⟩ | ⟨eb,p1,e3⟩
 all_goals (
  simp only [eb] at hk
  simp only [p2] at hk
  have hZ:=j15_ hX hY s1 s2 gm gx g4 o1 o2 o3 o4 o5 p1 p2 e3
  repeat ((fail_if_success (show W TF posL _ _));first
   | refine st_ rfl ?_
   | refine ws_ ?_
   | (refine xs_ ?_)
   | (refine pe_ (zO2 κ hκ1 hκ2) fun _ g=>⟨rfl,?_⟩))
  refine zUp (hh:=⟨_,_,_⟩) (r:=r) (L:=L) (n:=n) (whole:=whole) (O:=O) (x1:=.str r.nm) (x2:=.int .i64 2) (x3:=.int .i64 κ) (x4:=.str ty) (x5:=.int .i64 kk) (x6:=.bool bb) (x7:=.int .i64 r.oo) (acc:=acc) (tg:=tg) ?_ hl9 ?_ ?_ (fun v22 n' g=>?_) acc 0 _ _ rfl (by simp) (Nat.le_refl _)
  . exact ft_
  . dsimp only;rw [s1];exact gm
  . dsimp only;rw [hY.1,eb]
  simp only [eb]
  dsimp only at g
  refine xs_ ?_
  have pl:=zPm r acc
  have z0:(acc.map RW.pf).length=acc.length:=by simp
  have b1:beqs (acc.map RW.pf) (acc.map RW.pf)=true:=zCk _
  have b2:=trivial
  have b3:=trivial
  have b4:=trivial
  simp only [List.map_take,List.map_drop] at hk
  have z4:(acc.map RW.pf).map CVal.bare=acc.map RW.pf:=by rw [List.map_map];rfl
  generalize posR r acc=ps at *
  generalize acc.map RW.pf=AL at *
  have z1:AL.length=acc.length:=z0
  have z5:List.take acc.length AL=AL:=by rw [<- z1,List.take_length]
  have z2:(ps:Int)<=(acc.length:Int):=by omega
  have z3:(0:Int)<=(ps:Int):=by omega
  have zt:(AL.take ps).length+(AL.drop ps).length=acc.length:=by rw [<- List.length_append,List.take_append_drop];exact z0
  rcases zKu (l:=AL.take ps) (by rw [List.map_take,z4]) with ⟨w,ws,hT,zw,zws,lw⟩ | ⟨w,ws,hT,zw,zws,lw⟩ <;> rcases zKu (l:=AL.drop ps) (by rw [List.map_drop,z4]) with ⟨d,ds,hD,zd,zds,ld⟩ | ⟨d,ds,hD,zd,zds,ld⟩
  all_goals (
   have lw9:ws.length<=100:=by omega
   have ld9:ds.length<=100:=by omega
   simp only [CVal.bare,CVal.strip] at zw zd
   simp only [hT,hD,List.nil_append,List.cons_append] at hk
   have hZ:=j32_ hX hY s1 s2 gm gx g4 o1 o2 o3 o4 o5 p1 p2 e3 b1 b2 b3 b4 z1 z2 z3 z4 z5 hT hD zw zws zd zds lw9 ld9
   try refine vk_ ?_
   refine hk _ _ _ _ _ _ _ ?_ ?_ ?_
   all_goals omega))
theorem tm_c {hh:CHeap} (hf:Fit hh) {b1 pm p7:Nat} {FV O:CVal} {whole n:B8} {L:List CVal} {i4 d4 ix dx:Nat} {r:RW} {κ kk:Nat} (hκ1:1<=κ) (hκ2:κ<=17) {ty:B8} {acc:List RW} {tg:Tag} (hl9:acc.length<=100) (e1:r.pk=0) (e2:r.lab≠2)
    (gm:zA1 hh.ents pm=some (.cells [.str whole,.imm tg 8 (acc.map RW.pf),O]))  (gx:zA1 hh.ents ix=some (.cells [.int .i64 r.num,.str r.nm,.int .i64 r.lab,.int .i64 (κ:Int),.str ty,.int .i64 (kk:Int),.bool false,.int .i64 r.oo])) (g4:zA1 hh.ents i4=some (.cells [.int .i64 r.lab,.str r.t,.str r.key,.str r.nm,.int .u64 r.num,.int .i64 r.pk,.int .i64 r.oo])) (n1:ix≠pm) (n2:i4≠ix) (n3:i4≠pm) (HO:PV1 O) {v0 v2 v3 v5 v8 v9 v10 v11 v13 v15 v16 v17 v18 v19 v20 v21 v22 v23 v24 v25 v26 v27:CVal} {Q:QT}
    (hk:∀ (v19 v20 v21 v22:CVal) n' i u,hh.next<=n'->hh.next<=i->i<n'->Q .normal ⟨[v0,.ptr b1 164626444 0,v2,v3,.ptr i4 d4 0,v5,.ptr pm 49283075 0,.ptr p7 49283075 0,v8,v9,v10,v11,.ptr ix dx 0,v13,FV,v15,v16,v17,v18,v19,v20,v21,v22,v23,v24,v25,v26,v27,.int .i64 0],⟨(i,.tok u)::zA2 (zA2 hh.ents ix (.cells [.int .i64 r.num,.str r.nm,.int .i64 r.lab,.int .i64 (κ:Int),.str ty,.int .i64 (kk:Int),.bool false,.int .i64 r.oo])) pm (.cells [.str whole,.imm (.own i u) 8 ((acc.take (posR r acc)).map RW.pf++(.agg [.int .i64 r.num,.str r.nm,.int .i64 r.lab,.int .i64 (κ:Int),.str ty,.int .i64 (kk:Int),.bool false,.int .i64 r.oo])::(acc.drop (posR r acc)).map RW.pf),O]),n',hh.tys⟩,[]⟩) :
    W TF zKj ⟨[v0,.ptr b1 164626444 0,v2,v3,.ptr i4 d4 0,v5,.ptr pm 49283075 0,.ptr p7 49283075 0,v8,v9,v10,v11,.ptr ix dx 0,v13,FV,v15,v16,v17,v18,v19,v20,v21,v22,v23,v24,v25,v26,v27,.int .i64 0],hh,[]⟩ Q:=by
 obtain ⟨hu,hut,hX⟩:=fx4 hf
 have hY:=fx5 hf gx
 have s1:∀ X,zA1 (zA2 hh.ents ix X) pm=zA1 hh.ents pm:=fun X=>zA0 (Ne.symm n1)
 have s2:∀ X,zA1 (zA2 hh.ents ix X) i4=zA1 hh.ents i4:=fun X=>zA0 n2
 have lx:=zA3 hu gx
 have lm:=zA3 hu gm
 obtain ⟨o1,o2,o3,o4,o5⟩:=HO
 simp only [CVal.isUndef,CVal.whole,CVal.cells,CVal.strip,CVal.bare] at o1 o2 o3 o4 o5
 have p1:(r.pk:Int)=0:=by omega
 have p2:¬ (r.lab:Int)=2:=by omega
 have hZ:=j14_ hX hY s1 s2 gm gx g4 o1 o2 o3 o4 o5 p1 p2
 repeat ((fail_if_success (show W TF posL _ _));first
  | refine st_ rfl ?_
  | refine ws_ ?_
  | (refine xs_ ?_)
  | (refine pe_ (zO2 κ hκ1 hκ2) fun _ g=>⟨rfl,?_⟩))
 refine zUp (hh:=⟨_,_,_⟩) (r:=r) (L:=L) (n:=n) (whole:=whole) (O:=O) (x1:=.str r.nm) (x2:=.int .i64 r.lab) (x3:=.int .i64 κ) (x4:=.str ty) (x5:=.int .i64 kk) (x6:=.bool false) (x7:=.int .i64 r.oo) (acc:=acc) (tg:=tg) ?_ hl9 ?_ ?_ (fun v22 n' g=>?_) acc 0 _ _ rfl (by simp) (Nat.le_refl _)
 . exact ft_
 . dsimp only;rw [s1];exact gm
 . dsimp only;rw [hY.1]
 dsimp only at g
 refine xs_ ?_
 have pl:=zPm r acc
 have z0:(acc.map RW.pf).length=acc.length:=by simp
 have b1:beqs (acc.map RW.pf) (acc.map RW.pf)=true:=zCk _
 have b2:=trivial
 have b3:=trivial
 have b4:=trivial
 simp only [List.map_take,List.map_drop] at hk
 have z4:(acc.map RW.pf).map CVal.bare=acc.map RW.pf:=by rw [List.map_map];rfl
 generalize posR r acc=ps at *
 generalize acc.map RW.pf=AL at *
 have z1:AL.length=acc.length:=z0
 have z5:List.take acc.length AL=AL:=by rw [<- z1,List.take_length]
 have z2:(ps:Int)<=(acc.length:Int):=by omega
 have z3:(0:Int)<=(ps:Int):=by omega
 have zt:(AL.take ps).length+(AL.drop ps).length=acc.length:=by rw [<- List.length_append,List.take_append_drop];exact z0
 rcases zKu (l:=AL.take ps) (by rw [List.map_take,z4]) with ⟨w,ws,hT,zw,zws,lw⟩ | ⟨w,ws,hT,zw,zws,lw⟩ <;> rcases zKu (l:=AL.drop ps) (by rw [List.map_drop,z4]) with ⟨d,ds,hD,zd,zds,ld⟩ | ⟨d,ds,hD,zd,zds,ld⟩
 all_goals (
  have lw9:ws.length<=100:=by omega
  have ld9:ds.length<=100:=by omega
  simp only [CVal.bare,CVal.strip] at zw zd
  simp only [hT,hD,List.nil_append,List.cons_append] at hk
  have hZ:=j31_ hX hY s1 s2 gm gx g4 o1 o2 o3 o4 o5 p1 p2 b1 b2 b3 b4 z1 z2 z3 z4 z5 hT hD zw zws zd zds lw9 ld9
  try refine vk_ ?_
  refine hk _ _ _ _ _ _ _ ?_ ?_ ?_
  all_goals omega)
theorem RW.ok.kind {r:RW} (h:r.ok):1<=r.kind/\r.kind<=17:=by
 have hk:=zF4 _ h.t
 unfold RW.kind
 split
 . split <;> omega
 . omega
theorem zU5 {hh:CHeap} (hf:Fit hh) {b1 pm p7:Nat} {FV O:CVal} {whole n:B8} {L:List CVal} {i4 d4 ix dx:Nat} {r:RW} (ro:r.ok) {acc:List RW} (hl9:acc.length<=100) {Fv:CVal} (hF:(Fv=.nils/\acc=[])\/∃ tg,Fv=.imm tg 8 (acc.map RW.pf))
    (gm:zA1 hh.ents pm=some (.cells [.str whole,Fv,O])) (gx:zA1 hh.ents ix=some (.cells [.int .i64 r.num,.str r.nm,.int .i64 r.lab,.int .i64 (r.kind:Int),.str r.ty,.int .i64 (zAi r.key:Int),.bool false,.int .i64 r.oo])) (g4:zA1 hh.ents i4=some (.cells [.int .i64 r.lab,.str r.t,.str r.key,.str r.nm,.int .u64 r.num,.int .i64 r.pk,.int .i64 r.oo])) (n1:ix≠pm) (n2:i4≠ix) (n3:i4≠pm) (HO:PV1 O) {v0 v2 v3 v5 v8 v9 v10 v11 v13 v15 v16 v17 v18 v19 v20 v21 v22 v23 v24 v25 v26 v27:CVal} {Q:QT}
    (hk:∀ (v19 v20 v21 v22:CVal) n' i u,hh.next<=n'->hh.next<=i->i<n'->Q .normal ⟨[v0,.ptr b1 164626444 0,v2,v3,.ptr i4 d4 0,v5,.ptr pm 49283075 0,.ptr p7 49283075 0,v8,v9,v10,v11,.ptr ix dx 0,v13,FV,v15,v16,v17,v18,v19,v20,v21,v22,v23,v24,v25,v26,v27,.int .i64 0],⟨(i,.tok u)::zA2 (zA2 hh.ents ix (.cells [.int .i64 r.num,.str r.nm,.int .i64 r.lab,.int .i64 (r.kind:Int),.str r.ty,.int .i64 (zAi r.key:Int),.bool r.pkd,.int .i64 r.oo])) pm (.cells [.str whole,.imm (.own i u) 8 ((insR r acc).map RW.pf),O]),n',hh.tys⟩,[]⟩) :
    W TF zKj ⟨[v0,.ptr b1 164626444 0,v2,v3,.ptr i4 d4 0,v5,.ptr pm 49283075 0,.ptr p7 49283075 0,v8,v9,v10,v11,.ptr ix dx 0,v13,FV,v15,v16,v17,v18,v19,v20,v21,v22,v23,v24,v25,v26,v27,.int .i64 0],hh,[]⟩ Q:=by
 obtain ⟨k1,k2⟩:=ro.kind
 have hp:=ro.pk
 have hp2:=ro.pk2
 rw [zO7,List.map_append,List.map_cons] at hk
 unfold RW.pf at hk
 have hD:(r.pk=0/\r.lab=2/\wN r.kind=2)\/(r.pk=0/\r.lab=2/\wN r.kind≠2)\/(r.pk=0/\r.lab≠2)\/(r.pk=1/\r.lab=2/\wN r.kind≠2)\/(r.pk=2/\r.lab=2/\wN r.kind≠2):=by
  by_cases e0:r.pk=0
  . by_cases e1:r.lab=2
    . by_cases e2:wN r.kind=2
      . exact .inl ⟨e0,e1,e2⟩
      . exact .inr (.inl ⟨e0,e1,e2⟩)
    . exact .inr (.inr (.inl ⟨e0,e1⟩))
  . obtain ⟨e1,e2⟩:=hp2 e0
    rcases (show r.pk=1\/r.pk=2 by omega) with e | e
    . exact .inr (.inr (.inr (.inl ⟨e,e1,e2⟩)))
    . exact .inr (.inr (.inr (.inr ⟨e,e1,e2⟩)))
 rcases hD with ⟨e1,e2,e3⟩ | ⟨e1,e2,e3⟩ | ⟨e1,e2⟩ | ⟨e1,e2,e3⟩ | ⟨e1,e2,e3⟩
 . rw [show r.pkd=false from (by unfold RW.pkd;rw [e2,e3];simp)] at hk
   rcases hF with ⟨rfl,ha⟩ | ⟨tg,rfl⟩
   . exact tl_a (L:=L) (n:=n) (tg:=.none) hf k1 k2 hl9 e2 (.inl ⟨rfl,by omega,e3⟩) gm ha gx g4 n1 n2 n3 HO hk
   . exact tm_a (L:=L) (n:=n) hf k1 k2 hl9 e2 (.inl ⟨rfl,by omega,e3⟩) gm gx g4 n1 n2 n3 HO hk
 . rw [show r.pkd=true from (by unfold RW.pkd;rw [e1,e2];simp [e3])] at hk
   rcases hF with ⟨rfl,ha⟩ | ⟨tg,rfl⟩
   . exact tl_a (L:=L) (n:=n) (tg:=.none) hf k1 k2 hl9 e2 (.inr (.inl ⟨rfl,by omega,e3⟩)) gm ha gx g4 n1 n2 n3 HO hk
   . exact tm_a (L:=L) (n:=n) hf k1 k2 hl9 e2 (.inr (.inl ⟨rfl,by omega,e3⟩)) gm gx g4 n1 n2 n3 HO hk
 . rw [show r.pkd=false from (by unfold RW.pkd;simp [e2])] at hk
   rcases hF with ⟨rfl,ha⟩ | ⟨tg,rfl⟩
   . exact tl_c (L:=L) (n:=n) (tg:=.none) hf k1 k2 hl9 e1 e2 gm ha gx g4 n1 n2 n3 HO hk
   . exact tm_c (L:=L) (n:=n) hf k1 k2 hl9 e1 e2 gm gx g4 n1 n2 n3 HO hk
 . rw [show r.pkd=true from (by unfold RW.pkd;rw [e1,e2];simp [e3])] at hk
   rcases hF with ⟨rfl,ha⟩ | ⟨tg,rfl⟩
   . exact tl_a (L:=L) (n:=n) (tg:=.none) hf k1 k2 hl9 e2 (.inr (.inr (.inl ⟨rfl,by omega,e3⟩))) gm ha gx g4 n1 n2 n3 HO hk
   . exact tm_a (L:=L) (n:=n) hf k1 k2 hl9 e2 (.inr (.inr (.inl ⟨rfl,by omega,e3⟩))) gm gx g4 n1 n2 n3 HO hk
 . rw [show r.pkd=false from (by unfold RW.pkd;rw [e1,e2];simp)] at hk
   rcases hF with ⟨rfl,ha⟩ | ⟨tg,rfl⟩
   . exact tl_a (L:=L) (n:=n) (tg:=.none) hf k1 k2 hl9 e2 (.inr (.inr (.inr ⟨rfl,by omega,e3⟩))) gm ha gx g4 n1 n2 n3 HO hk
   . exact tm_a (L:=L) (n:=n) hf k1 k2 hl9 e2 (.inr (.inr (.inr ⟨rfl,by omega,e3⟩))) gm gx g4 n1 n2 n3 HO hk
structure MI (h0:CHeap) (b1 pm p7:Nat) (NV:List CVal) (whole:B8) (O:CVal) (acc:List RW) (hh:CHeap):Prop where
 fit:Fit hh
 nx:h0.next<=hh.next
 g1:zA1 hh.ents b1=some (.cells NV)
 gm:∃ Fv,zA1 hh.ents pm=some (.cells [.str whole,Fv,O])/\((Fv=.nils/\acc=[])\/∃ i u,Fv=.imm (.own i u) 8 (acc.map RW.pf))
 g7:zA1 hh.ents p7=some (.cells [.str [],.nils,.nils])
 l1:h0.next<=b1
 lm:h0.next<=pm
 l7:h0.next<=p7
 n1:b1≠pm
 n2:p7≠pm
 fr:∀ q,q<h0.next->zA1 hh.ents q=zA1 h0.ents q
theorem MI.next {h0 hh:CHeap} {b1 pm p7:Nat} {NV:List CVal} {whole:B8} {O:CVal} {acc acc':List RW} (M:MI h0 b1 pm p7 NV whole O acc hh) {H:EE} {i u n:Nat} {ty:NN} (hi:hh.next<=i) (hn:hh.next<=n) (hin:i<n) (hU:Under H n) (hT:zA7 ty n)
    (fr:∀ q,q<hh.next->q≠pm->zA1 H q=zA1 hh.ents q) (gE:zA1 H pm=some (.cells [.str whole,.imm (.own i u) 8 (acc'.map RW.pf),O])):MI h0 b1 pm p7 NV whole O acc' ⟨zA5 ((i,.tok u)::H) hh.next,n,ty⟩:=by
 obtain ⟨Fv,gm,_⟩:=M.gm
 have lm:=zA3 M.fit.1 gm
 have l1:=zA3 M.fit.1 M.g1
 have l7:=zA3 M.fit.1 M.g7
 have nx:=M.nx
 have key:∀ q,q<hh.next->q≠pm->zA1 (zA5 ((i,.tok u)::H) hh.next) q=zA1 hh.ents q:=fun q q1 q2=>by
  rw [zDs q1,zA6 (by omega)];exact fr q q1 q2
 refine ⟨⟨zCo (Under.cons hin hU),hT⟩,by dsimp only;omega,?_,⟨.imm (.own i u) 8 (acc'.map RW.pf),?_,.inr ⟨i,u,rfl⟩⟩,?_,M.l1,M.lm,M.l7,M.n1,M.n2,fun q q1=>?_⟩
 . dsimp only;rw [key b1 l1 M.n1];exact M.g1
 . dsimp only;rw [zDs lm,zA6 (by omega)];exact gE
 . dsimp only;rw [key p7 l7 M.n2];exact M.g7
 . dsimp only;rw [key q (by omega) (by have:=M.lm;omega)];exact M.fr q q1
theorem zUx {h0 hh:CHeap} {b1 pm p7:Nat} {FV O:CVal} {whole n:B8} {L:List CVal} {r:RW} {Ls acc:List RW} (M:MI h0 b1 pm p7 [.str whole,.int .i64 16,.str n,.imm .none 7 L,O,.nils,.nils,.nils,.nils,.str [],.nils,.str [120]] whole O acc hh) (ro:r.ok) (HO:PV1 O) (HV:PV1 FV) (HH:Pe 127 [O,.str r.nm] (.bool false))
    (HFd:zAi r.t=0->∀ (h:CHeap),Fit h->∀ (K:KT),(∀ h',PG h h'->K (.tup [.str r.ty,.int .i64 r.kind,.int .i64 0]) h')->Wc TF 131 [FV,.str [120],.str whole,.str r.t] h K)
    (hL:L=Ls.map RW.v) (hl9:Ls.length<=100) (ha9:acc.length<=100) {i:Nat} (hi:Ls[i]? = some r) (hd:∀ x ∈ Ls.take i,x.num≠r.num/\x.nm≠r.nm) {v0 v3 v4 v5 v8 v9 v10 v11 v12 v13 v15 v16 v17 v18 v19 v20 v21 v22 v23 v24 v25 v26 v27:CVal} {Q:QT}
    (hk:∀ (v3 v4 v5 v8 v9 v10 v11 v12 v13 v15 v16 v17 v18 v19 v20 v21 v22:CVal) h',MI h0 b1 pm p7 [.str whole,.int .i64 16,.str n,.imm .none 7 L,O,.nils,.nils,.nils,.nils,.str [],.nils,.str [120]] whole O (insR r acc) h'->W TF msgL ⟨[v0,.ptr b1 164626444 0,.int .i64 ((i:Int)+1),v3,v4,v5,.ptr pm 49283075 0,.ptr p7 49283075 0,v8,v9,v10,v11,v12,v13,FV,v15,v16,v17,v18,v19,v20,v21,v22,v23,v24,v25,v26,v27,.int .i64 0],h',[]⟩ Q) :
    W TF msgL ⟨[v0,.ptr b1 164626444 0,.int .i64 (i:Int),v3,v4,v5,.ptr pm 49283075 0,.ptr p7 49283075 0,v8,v9,v10,v11,v12,v13,FV,v15,v16,v17,v18,v19,v20,v21,v22,v23,v24,v25,v26,v27,.int .i64 0],hh,[]⟩ Q:=by
 have hf:=M.fit
 obtain ⟨hu,hut,hX⟩:=fx4 hf
 obtain ⟨Fv,gm,hF⟩:=M.gm
 replace hF:(Fv=.nils/\acc=[])\/∃ tg,Fv=.imm tg 8 (acc.map RW.pf):=hF.imp id fun ⟨i,u,e⟩=>⟨.own i u,e⟩
 have g1:=M.g1
 have hil:i<Ls.length:=(gs_ hi).1
 have hn:nth L i=r.v:=by rw [hL];exact zCc RW.v Ls i r hi
 have hn2:L[i]? = some r.v:=by rw [hL,List.getElem?_map,hi];rfl
 have hlen:L.length=Ls.length:=by rw [hL,List.length_map]
 have hlt:(i:Int)<(Ls.length:Int):=by omega
 have l1:=zA3 hu g1
 have lm:=zA3 hu gm
 obtain ⟨o1,o2,o3,o4,o5⟩:=id HO
 simp only [CVal.isUndef,CVal.whole,CVal.cells,CVal.strip,CVal.bare] at o1 o2 o3 o4 o5
 have BF:=@za0 n r.t r.key r.nm (.imm .none 7 L) O r.lab r.pk r.oo r.num ro.num1 ro.num2
 have q1:=ro.num1
 have q2:=ro.num2
 have bO:O.beq O=true:=zB4 _
 unfold RW.v ffV at hn hn2
 have fin:∀ (H:CHeap) (ix:Nat) (X:CObj) (i4 u n:Nat),True:=fun _ _ _ _ _ _=>trivial
 refine W.loop ?_
 have hZ:=j16_ hX g1 gm hn hn2 hlen hlt o1 o2 o3 o4 o5 bO q1 q2 hil
 repeat ((fail_if_success (show W TF (.seq (.S [.k 3 12,.l 0,.g (.bin .eql (.loc 0) (.const (.int .i64 0)))] [(13,2)] _) _) _ _));first
  | refine st_ rfl ?_
  | refine ws_ ?_
  | (refine xs_ ?_)
  | (refine pe_ (BF) fun _ g=>⟨rfl,?_⟩)
  | (refine pe_ HH fun nH gH=>⟨rfl,?_⟩)
  | (refine pe_ (zQr r.t) fun nA gA=>⟨rfl,?_⟩)
  | (refine pe_ (zQr r.key) fun nB gB=>⟨rfl,?_⟩)
  | (refine zZl (hh:=⟨_,_,_⟩) (L:=L) (n:=n) (whole:=whole) (O:=O) (r:=r) ?_ hL ?_ ?_ (i:=i) (by omega) hl9 hd (fun v8 v9 v10 n' g=>?_) i 0 _ _ _ (by simp) (Nat.le_refl _);exact ft_;(focus ((simp (disch:=omega) [zA1,g1];done)));(focus ((simp (disch:=omega) [zA1];done)));(try dsimp only at g)))
 obtain ⟨f1,f2,f3,f4,f5⟩:=HV
 simp only [CVal.isUndef,CVal.whole,CVal.cells,CVal.strip,CVal.bare] at f1 f2 f3 f4 f5
 by_cases hz:zAi r.t=0
 . have HFz:=HFd hz
   have hz1:(zAi r.t:Int)=0:=by omega
   have hz2:((zAi r.t:Int) == 0)=true:=by simp [hz]
   have hZ:=j23_ hX g1 gm hn hn2 hlen hlt o1 o2 o3 o4 o5 bO q1 q2 hil hz1 hz2 f1 f2 f3 f4 f5
   repeat ((fail_if_success (show W TF zKj _ _));first
    | refine st_ rfl ?_
    | refine ws_ ?_
    | (refine xs_ ?_)
    | (refine HFz _ ft_ _ fun h2 P=>⟨rfl,?_⟩))
   have f9:=P.fit
   have nx2:=P.nx
   dsimp only at nx2
   have gx2:zA1 h2.ents (nH+1+1+1+1+1+1+1+1+1+1+1+1+1+1+1+1)=some (.cells [.int .i64 r.num,.str r.nm,.int .i64 r.lab,.int .i64 0,.str [],.int .i64 (zAi r.key:Int),.bool false,.int .i64 r.oo]):=(P.fr (nH+1+1+1+1+1+1+1+1+1+1+1+1+1+1+1+1) (by dsimp only;omega)).trans (by simp [zA1])
   have g42:zA1 h2.ents (hh.next+6+1+1+1+1+1+1)=some (.cells [.int .i64 r.lab,.str r.t,.str r.key,.str r.nm,.int .u64 r.num,.int .i64 r.pk,.int .i64 r.oo]):=(P.fr (hh.next+6+1+1+1+1+1+1) (by dsimp only;omega)).trans (by simp (disch:=omega) [zA1])
   have gm2:zA1 h2.ents pm=some (.cells [.str whole,Fv,O]):=(P.fr pm (by dsimp only;omega)).trans (by simp (disch:=omega) [zA1,gm])
   obtain ⟨hu2,hut2,hX2⟩:=fx4 f9
   have hY2:=fx5 f9 gx2
   have hk0:(zAi r.t:Int)=0:=hz1
   have hZ:=j6_ hX2 hY2 gx2 g42 gm2 hk0
   repeat ((fail_if_success (show W TF zKj _ _));first
    | refine st_ rfl ?_
    | refine ws_ ?_
    | (refine xs_ ?_))
   refine zU5 (hh:=⟨_,_,_⟩) (L:=L) (n:=n) (whole:=whole) (O:=O) (r:=r) (acc:=acc) (Fv:=Fv) ?_ ro ha9 hF ?_ ?_ ?_ ?_ ?_ ?_ HO (fun v19 v20 v21 v22 n' j u c1 c2 c3=>?_)
   . exact ⟨(Under.set hu2).le (by dsimp only;omega),hut2.le (by dsimp only;omega)⟩
   . dsimp only;rw [zA0 (by omega)];exact gm2
   . exact hY2.1 _
   . dsimp only;rw [zA0 (by omega)];exact g42
   . omega
   . omega
   . omega
   dsimp only at c1 c2 c3
   refine xs_ ?_
   have hZ:=j3_ hX hil hl9
   repeat ((fail_if_success (show W TF msgL _ _));first
    | refine st_ rfl ?_
    | refine ws_ ?_
    | (refine xs_ ?_))
   show W TF msgL (dropped true _ _) Q
   generalize e:dropped _ _ _=r2
   simp only [dropped,if_pos] at e
   subst e
   refine hk _ _ _ _ _ _ _ _ _ _ _ _ _ _ _ _ _ _ (MI.next M (i:=j) (u:=u) ?_ ?_ ?_ ?_ ?_ (fun q q1 qn=>?_) ?_)
   . omega
   . omega
   . omega
   . exact Under.set ((Under.set hu2).le om_)
   . exact hut2.le om_
   . rw [zA0 qn,zA0 (by omega),P.fr q (by dsimp only;omega)];dsimp only;rw [zA6 (by omega),zA6 (by omega)]
   . exact zA4 (o:=.cells [.str whole,Fv,O]) ((zA0 (show pm≠_ by omega)).trans gm2)
 . have hz1:¬ (zAi r.t:Int)=0:=by omega
   have hz2:((zAi r.t:Int) == 0)=false:=by simp [hz]
   have hkd:r.kind=zAi r.t:=by unfold RW.kind;rw [if_neg hz]
   have hty:r.ty=[]:=by unfold RW.ty;rw [if_neg hz]
   have hZ:=j18_ hX g1 gm hn hn2 hlen hlt o1 o2 o3 o4 o5 bO q1 q2 hil hz1 hz2
   repeat ((fail_if_success (show W TF zKj _ _));first
    | refine st_ rfl ?_
    | refine ws_ ?_
    | (refine xs_ ?_))
   refine zU5 (hh:=⟨_,_,_⟩) (L:=L) (n:=n) (whole:=whole) (O:=O) (r:=r) (acc:=acc) (Fv:=Fv) ?_ ro ha9 hF ?_ ?_ ?_ ?_ ?_ ?_ HO (fun v19 v20 v21 v22 n' j u c1 c2 c3=>?_)
   . exact ft_
   . simp (disch:=omega) [zA1];exact gm
   . rw [hkd,hty];simp (disch:=omega) [zA1]
   . simp (disch:=omega) [zA1]
   . omega
   . omega
   . omega
   dsimp only at c1 c2 c3
   refine xs_ ?_
   have hZ:=j3_ hX hil hl9
   repeat ((fail_if_success (show W TF msgL _ _));first
    | refine st_ rfl ?_
    | refine ws_ ?_
    | (refine xs_ ?_))
   show W TF msgL (dropped true _ _) Q
   generalize e:dropped _ _ _=r2
   simp only [dropped,if_pos] at e
   subst e
   refine hk _ _ _ _ _ _ _ _ _ _ _ _ _ _ _ _ _ _ (MI.next M (i:=j) (u:=u) ?_ ?_ ?_ ?_ ?_ (fun q q1 qn=>?_) ?_)
   . omega
   . omega
   . omega
   . exact Under.cons om_ (Under.cons om_ ((Under.set hu).le om_))
   . exact hut.le om_
   . rw [zA6 (by omega),zA6 (by omega),zA0 qn]
   . rw [zA6 (by omega),zA6 (by omega)];exact zA4 gm
def zAd (l:List RW):List RW:=l.foldl (fun acc r=>insR r acc) []
theorem zOe (r:RW):∀ l,(insR r l).length=l.length+1
 | []=>rfl
 | x::l=>by unfold insR;split <;> simp [zOe r l]
theorem zPe (l:List RW) (r:RW):zAd (l++[r])=insR r (zAd l):=by unfold zAd;rw [List.foldl_append];rfl
theorem zBh (l:List RW):(zAd l).length=l.length:=by
 unfold zAd
 suffices H:∀ (l acc:List RW),(l.foldl (fun acc r=>insR r acc) acc).length=acc.length+l.length by simpa using H l []
 intro l
 induction l with
 | nil=>intro acc;rfl
 | cons x l ih=>intro acc;simp only [List.foldl_cons,List.length_cons];rw [ih,zOe];omega
theorem MI.up {h0:CHeap} {b1 pm p7:Nat} {NV:List CVal} {whole:B8} {O:CVal} {acc:List RW} {hh:CHeap} (M:MI h0 b1 pm p7 NV whole O acc hh) {n:Nat} (h:hh.next<=n):MI h0 b1 pm p7 NV whole O acc ⟨hh.ents,n,hh.tys⟩:=⟨⟨M.fit.1.le h,M.fit.2.le h⟩,Nat.le_trans M.nx h,M.g1,M.gm,M.g7,M.l1,M.lm,M.l7,M.n1,M.n2,M.fr⟩
theorem zZq {h0:CHeap} {b1 pm p7:Nat} {FV O:CVal} {whole n:B8} {L:List CVal} {Ls:List RW} (hok:∀ r ∈ Ls,r.ok) (hd1:(Ls.map RW.num).Nodup) (hd2:(Ls.map RW.nm).Nodup) (hl9:Ls.length<=100) (hL:L=Ls.map RW.v) (HO:PV1 O) (HV:PV1 FV) (HH:∀ r ∈ Ls,Pe 127 [O,.str r.nm] (.bool false)) (HFd:∀ r ∈ Ls,zAi r.t=0->∀ (h:CHeap),Fit h->∀ (K:KT),(∀ h',PG h h'->K (.tup [.str r.ty,.int .i64 r.kind,.int .i64 0]) h')->Wc TF 131 [FV,.str [120],.str whole,.str r.t] h K) {v0 v23 v24 v25 v26 v27:CVal} {Q:QT}
    (hk:∀ (v3 v4 v5 v8 v9 v10 v11 v12 v13 v15 v16 v17 v18 v19 v20 v21 v22:CVal) h',MI h0 b1 pm p7 [.str whole,.int .i64 16,.str n,.imm .none 7 L,O,.nils,.nils,.nils,.nils,.str [],.nils,.str [120]] whole O (zAd Ls) h'->Q (.exit 0) ⟨[v0,.ptr b1 164626444 0,.int .i64 (Ls.length:Int),v3,v4,v5,.ptr pm 49283075 0,.ptr p7 49283075 0,v8,v9,v10,v11,v12,v13,FV,v15,v16,v17,v18,v19,v20,v21,v22,v23,v24,v25,v26,v27,.int .i64 0],h',[]⟩) :
    ∀ (rest:List RW) (i:Nat) (v3 v4 v5 v8 v9 v10 v11 v12 v13 v15 v16 v17 v18 v19 v20 v21 v22:CVal) (hh:CHeap),Ls.drop i=rest->i<=Ls.length->MI h0 b1 pm p7 [.str whole,.int .i64 16,.str n,.imm .none 7 L,O,.nils,.nils,.nils,.nils,.str [],.nils,.str [120]] whole O (zAd (Ls.take i)) hh->W TF msgL ⟨[v0,.ptr b1 164626444 0,.int .i64 (i:Int),v3,v4,v5,.ptr pm 49283075 0,.ptr p7 49283075 0,v8,v9,v10,v11,v12,v13,FV,v15,v16,v17,v18,v19,v20,v21,v22,v23,v24,v25,v26,v27,.int .i64 0],hh,[]⟩ Q:=by
 intro rest
 induction rest with
 | nil =>
  intro i v3 v4 v5 v8 v9 v10 v11 v12 v13 v15 v16 v17 v18 v19 v20 v21 v22 hh h1 h2 M
  have hi:Ls.length<=i:=List.drop_eq_nil_iff.1 h1
  obtain rfl:i=Ls.length:=by omega
  rw [List.take_length] at M
  have g1:=M.g1
  have hlen:L.length=Ls.length:=by rw [hL,List.length_map]
  refine W.loop ?_
  have hZ:=j2_ g1 hlen
  try refine wk_ ?_
  exact hk _ _ _ _ _ _ _ _ _ _ _ _ _ _ _ _ _ _ (M.up om_)
 | cons r rest ih =>
  intro i v3 v4 v5 v8 v9 v10 v11 v12 v13 v15 v16 v17 v18 v19 v20 v21 v22 hh h1 h2 M
  obtain ⟨q1,q2,q3⟩:=zFk h1
  have hil:i<Ls.length:=by have:=congrArg List.length h1;simp at this;omega
  have hm:r ∈ Ls:=List.mem_of_getElem? q2
  have ht:Ls.take (i+1)=Ls.take i++[r]:=by rw [List.take_add_one,q2];rfl
  refine zUx (Ls:=Ls) (r:=r) (acc:=zAd (Ls.take i)) M (hok r hm) HO HV (HH r hm) (HFd r hm) hL hl9 (by rw [zBh,List.length_take];omega) q2 ?_ ?_
  . intro x hx
    rw [<- List.take_append_drop i Ls,h1] at hd1 hd2
    rw [List.map_append,List.nodup_append] at hd1 hd2
    exact ⟨hd1.2.2 _ (List.mem_map_of_mem hx) _ (by simp),hd2.2.2 _ (List.mem_map_of_mem hx) _ (by simp)⟩
  . intro w3 w4 w5 w8 w9 w10 w11 w12 w13 w15 w16 w17 w18 w19 w20 w21 w22 h' M'
    rw [<- zPe,<- ht] at M'
    have:=ih (i+1) w3 w4 w5 w8 w9 w10 w11 w12 w13 w15 w16 w17 w18 w19 w20 w21 w22 h' q3 om_ M'
    push_cast at this
    exact this
theorem zMn {FV O:CVal} {whole n:B8} {Ls:List RW} (hok:∀ r ∈ Ls,r.ok) (hd1:(Ls.map RW.num).Nodup) (hd2:(Ls.map RW.nm).Nodup) (hl9:Ls.length<=100) (hO2:O=.nils\/O=.imm .none 1 [.str [99]]) (HV:PV1 FV) (HH:∀ r ∈ Ls,Pe 127 [O,.str r.nm] (.bool false)) (HFd:∀ r ∈ Ls,zAi r.t=0->∀ (h:CHeap),Fit h->∀ (K:KT),(∀ h',PG h h'->K (.tup [.str r.ty,.int .i64 r.kind,.int .i64 0]) h')->Wc TF 131 [FV,.str [120],.str whole,.str r.t] h K) (hne:Ls≠[]) {h:CHeap} (hf:Fit h) {K:KT}
    (hk:∀ h',PG h h'->K (.tup [.agg [.str whole,.imm .none 8 ((zAd Ls).map RW.pf),O],.int .i64 0]) h'):Wc TF 99 [FV,.agg [.str whole,.int .i64 16,.str n,.imm .none 7 (Ls.map RW.v),O,.nils,.nils,.nils,.nils,.str [],.nils,.str [120]]] h K:=by
 have HO:PV1 O:=by rcases hO2 with rfl | rfl <;> exact ⟨rfl,rfl,rfl,rfl,rfl⟩
 obtain ⟨hu,hut,hX⟩:=fx4 hf
 obtain ⟨L,hL⟩:∃ L,L=Ls.map RW.v:=⟨_,rfl⟩
 rw [<- hL]
 obtain ⟨o1,o2,o3,o4,o5⟩:=id HO
 obtain ⟨f1,f2,f3,f4,f5⟩:=id HV
 simp only [CVal.isUndef,CVal.whole,CVal.cells,CVal.strip,CVal.bare] at o1 o2 o3 o4 o5 f1 f2 f3 f4 f5
 refine mk_ 99 c99 (s_ ?_)
 have hZ:=j11_ hX o1 o2 o3 o4 o5 f1 f2 f3 f4 f5
 repeat ((fail_if_success (show W TF msgL _ _));first
  | refine st_ rfl ?_
  | refine ws_ ?_
  | (refine xs_ ?_))
 refine zZq (h0:=h) (b1:=h.next) (n:=n) (whole:=whole) (O:=O) hok hd1 hd2 hl9 hL HO HV HH HFd ?_ Ls 0 _ _ _ _ _ _ _ _ _ _ _ _ _ _ _ _ _ _ rfl (Nat.zero_le _) ?_
 rotate_left
 . refine ⟨?_,by dsimp only;omega,by simp (disch:=omega) [zA1],⟨.nils,by simp [zA1],.inl ⟨rfl,rfl⟩⟩,by simp [zA1],by omega,by omega,by omega,by omega,by omega,fun q q1=>?_⟩
   . exact ft_
   . dsimp only;rw [zA6 (by omega),zA6 (by omega),zA6 (by omega)]
 intro v3 v4 v5 v8 v9 v10 v11 v12 v13 v15 v16 v17 v18 v19 v20 v21 v22 h' M
 clear hu hut hX
 obtain ⟨hu,hut,hX⟩:=fx4 M.fit
 have g1:=M.g1
 obtain ⟨Fv,gm,hF⟩:=M.gm
 obtain ⟨ti,tu,rfl⟩:∃ i u,Fv=.imm (.own i u) 8 ((zAd Ls).map RW.pf):=by
  rcases hF with ⟨_,e⟩ | e
  . exact absurd (by have:=zBh Ls;rw [e] at this;exact List.length_eq_zero_iff.1 this.symm) hne
  . exact e
 have g7:=M.g7
 have l1:=zA3 hu g1
 have lm:=zA3 hu gm
 have l7:=zA3 hu g7
 have nx:=M.nx
 have m1:=M.l1
 have m7:=M.l7
 have hY:=fx5 M.fit g7
 have zb:((zAd Ls).map RW.pf).map CVal.bare=(zAd Ls).map RW.pf:=by rw [List.map_map];rfl
 generalize (zAd Ls).map RW.pf=AL at *
 rcases hO2 with rfl | rfl
 all_goals (
  have hZ:=j5_ hX hY g1 gm g7
  repeat (first
   | refine vk_ ?_
   | (refine W.loop ?_)
   | (show W TF _ (dropped true _ _) _;generalize e:dropped _ _ _=r;simp (disch:=omega) [hX,hY,g1,gm,g7] at e;subst e;refine W.loop ?_)
   | (refine rk_ ?_;skip))
  refine hk _ ⟨⟨zBy ((Under.set hu).le (by dsimp only;omega)),hut.le (by dsimp only;omega)⟩,by dsimp only;omega,fun q q1=>?_⟩
  dsimp only
  rw [zF8 q1,zA0 (by omega)]
  exact M.fr q q1)
theorem zLm {FV O:CVal} {whole n:B8} (hO2:O=.nils\/O=.imm .none 1 [.str [99]]) (HV:PV1 FV) {h:CHeap} (hf:Fit h) {K:KT}
    (hk:∀ h',PG h h'->K (.tup [.agg [.str whole,.nils,O],.int .i64 0]) h'):Wc TF 99 [FV,.agg [.str whole,.int .i64 16,.str n,.nils,O,.nils,.nils,.nils,.nils,.str [],.nils,.str [120]]] h K:=by
 obtain ⟨hu,hut,hX⟩:=fx4 hf
 obtain ⟨f1,f2,f3,f4,f5⟩:=id HV
 simp only [CVal.isUndef,CVal.whole,CVal.cells,CVal.strip,CVal.bare] at f1 f2 f3 f4 f5
 rcases hO2 with rfl | rfl
 all_goals (
  refine mk_ 99 c99 (s_ ?_)
  have hZ:=j6_ hX f1 f2 f3 f4 f5
  repeat (first
   | refine vk_ ?_
   | (refine W.loop ?_)
   | (show W TF _ (dropped true _ _) _;generalize e:dropped _ _ _=r;simp (disch:=omega) [hX,f1,f2,f3,f4,f5] at e;subst e;refine W.loop ?_)
   | (refine rk_ ?_;skip))
  refine hk _ ⟨⟨?_,hut.le (by dsimp only;omega)⟩,by dsimp only;omega,fun q q1=>rfl⟩
  exact hu.le (by dsimp only;omega))
def dgv (l:B8):Nat:=l.foldl (fun n b=>n * 10+(b.toNat - 48)) 0
theorem zR7:allN 1000 (fun n=>dgv (dg n) == n)=true:=by kernel_rfl
theorem zU4 {a b:Nat} (ha:a<1000) (hb:b<1000) (e:dg a=dg b):a=b:=by
 have h1:=zJa zR7 a ha
 have h2:=zJa zR7 b hb
 simp only [beq_iff_eq] at h1 h2
 rw [<- h1,<- h2,e]
theorem zI0 {α β:Type} {f:α->β}:∀ {l:List α},(∀ x ∈ l,∀ y ∈ l,f x=f y->x=y)->l.Nodup->(l.map f).Nodup
 | [],_,_=>List.nodup_nil
 | a::l,h,hn=>by
  rw [List.nodup_cons] at hn
  rw [List.map_cons,List.nodup_cons]
  refine ⟨fun hm=>?_,zI0 (fun x hx y hy=>h x (List.mem_cons_of_mem _ hx) y (List.mem_cons_of_mem _ hy)) hn.2⟩
  obtain ⟨y,hy,e⟩:=List.mem_map.1 hm
  have:=h y (List.mem_cons_of_mem _ hy) a (List.mem_cons_self ..) e
  exact hn.1 (this ▸ hy)
theorem BD.rs_ok {b:BD} {m:Nat} (h:b.ok m):∀ r ∈ b.rs,r.ok:=by
 obtain ⟨i,hi,B⟩:=h.b
 intro r hr
 rcases List.mem_append.1 hr with hr | hr
 . obtain ⟨d,hd,rfl⟩:=List.mem_map.1 hr;exact FD.rw_ok (B.f d hd).1
 . obtain ⟨d,hd,rfl⟩:=List.mem_map.1 hr;exact OD.rw_ok (B.o d hd).1
theorem FD.rw_num (d:FD):d.rw.num=d.num:=by obtain ⟨sh,t,n⟩:=d;cases sh <;> rfl
theorem FD.rw_nm (d:FD):d.rw.nm=102::dg d.num:=by obtain ⟨sh,t,n⟩:=d;cases sh <;> rfl
theorem BD.rs_num {b:BD} {m:Nat} (h:b.ok m) (hm:m<=7):(b.rs.map RW.num).Nodup:=by
 obtain ⟨i,hi,B⟩:=h.b
 have e:b.rs.map RW.num=b.fs.map (·.num)++b.os.map (·.num):=by
  simp only [BD.rs,List.map_append,List.map_map]
  congr 1
  exact List.map_congr_left fun d _=>d.rw_num
 rw [e,List.nodup_append]
 refine ⟨B.nf,B.no,?_⟩
 intro x hx y hy
 obtain ⟨d,hd,rfl⟩:=List.mem_map.1 hx
 obtain ⟨o,ho,rfl⟩:=List.mem_map.1 hy
 obtain ⟨_,k,hk,hN⟩:=B.f d hd
 obtain ⟨_,h1,_⟩:=B.o o ho
 rcases hN with e | e <;> omega
theorem BD.rs_nm {b:BD} {m:Nat} (h:b.ok m) (hm:m<=7):(b.rs.map RW.nm).Nodup:=by
 obtain ⟨i,hi,B⟩:=h.b
 have e:b.rs.map RW.nm=(b.fs.map (·.num)).map (fun n=>102::dg n)++(b.os.map (·.num)).map (fun n=>111::dg n):=by
  simp only [BD.rs,List.map_append,List.map_map]
  congr 1
  exact List.map_congr_left fun d _=>d.rw_nm
 have hF:∀ x ∈ b.fs.map (·.num),x<1000:=fun x hx=>by obtain ⟨d,hd,rfl⟩:=List.mem_map.1 hx;exact (B.f d hd).1.2.2.1
 have hO:∀ x ∈ b.os.map (·.num),x<1000:=fun x hx=>by obtain ⟨d,hd,rfl⟩:=List.mem_map.1 hx;exact (B.o d hd).1.2.2
 rw [e,List.nodup_append]
 refine ⟨?_,?_,?_⟩
 . refine zI0 ?_ B.nf
   intro x hx y hy e
   injection e with _ e
   exact zU4 (hF x hx) (hF y hy) e
 . refine zI0 ?_ B.no
   intro x hx y hy e
   injection e with _ e
   exact zU4 (hO x hx) (hO y hy) e
 . intro x hx y hy
   obtain ⟨d,hd,rfl⟩:=List.mem_map.1 hx
   obtain ⟨o,ho,rfl⟩:=List.mem_map.1 hy
   intro e
   injection e with e _
   exact absurd e (by decide)
def lV8 (l:List RW):CVal:=match l with | []=>.nils | _::_=>.imm .none 8 (l.map RW.pf)
def oV1 (c:Bool):CVal:=if c=true then .imm .none 1 [.str [99]] else .nils
def mgV (whole:B8) (b:BD):CVal:=.agg [.str whole,lV8 (zAd b.rs),oV1 (!b.os.isEmpty)]
theorem fvP (a b:BD):PV1 (zCf a b):=⟨rfl,rfl,rfl,rfl,rfl⟩
theorem oV2 (c:Bool):oV1 c=.nils\/oV1 c=.imm .none 1 [.str [99]]:=by cases c;exact .inl rfl;exact .inr rfl
theorem zZ0 {a b c:BD} {m:Nat} {nv:B8} (hc:c.ok m) (hm:m<=7) {h:CHeap} (hf:Fit h) {K:KT} (hk:∀ h',PG h h'->K (.tup [mgV [97,46,73] c,.int .i64 0]) h'):Wc TF 99 [zCf a b,nmM [97,46,73] (msgV nv c.xs (!c.os.isEmpty))] h K:=by
 have hok:=BD.rs_ok hc
 have hlen:c.rs.length<=100:=by
  have:=hc.len
  simp only [BD.rs,List.length_append,List.length_map];omega
 unfold mgV at hk
 unfold nmM msgV
 rw [<- BD.rs_v]
 dsimp only [List.cons_append,List.nil_append]
 by_cases he:c.rs=[]
 . rw [he] at hk ⊢
   exact zLm (oV2 _) (fvP a b) hf hk
 . have e7:lV7 (c.rs.map RW.v)=.imm .none 7 (c.rs.map RW.v):=by
    cases hr:c.rs with
    | nil=>exact absurd hr he
    | cons x l=>rfl
   have e8:lV8 (zAd c.rs)=.imm .none 8 ((zAd c.rs).map RW.pf):=by
    cases hr:zAd c.rs with
    | nil=>exact absurd (by have:=zBh c.rs;rw [hr] at this;exact List.length_eq_zero_iff.1 this.symm) he
    | cons x l=>rfl
   rw [e7]
   rw [e8] at hk
   refine zMn hok (BD.rs_num hc hm) (BD.rs_nm hc hm) hlen (oV2 _) (fvP a b) (fun r hr=>zU8 (hok r hr).nm _) ?_ he hf hk
   intro r hr hz h hf K hk
   unfold RW.ty RW.kind at hk
   rw [if_pos hz,if_pos hz] at hk
   rcases (zF4 r.t (hok r hr).t).2.1 hz with e | e | e
   . rw [e] at hk ⊢;exact zWu hf hk
   . rw [e] at hk ⊢;exact zW3 hf hk
   . rw [e] at hk ⊢;exact zWp hf hk
theorem zZ5 {a b c:BD} {m:Nat} {nv:B8} (hc:c.ok m) (hm:m<=7) {h:CHeap} (hf:Fit h) {K:KT} (hk:∀ h',PG h h'->K (.tup [mgV [97,46,77] c,.int .i64 0]) h'):Wc TF 99 [zCf a b,nmM [97,46,77] (msgV nv c.xs (!c.os.isEmpty))] h K:=by
 have hok:=BD.rs_ok hc
 have hlen:c.rs.length<=100:=by
  have:=hc.len
  simp only [BD.rs,List.length_append,List.length_map];omega
 unfold mgV at hk
 unfold nmM msgV
 rw [<- BD.rs_v]
 dsimp only [List.cons_append,List.nil_append]
 by_cases he:c.rs=[]
 . rw [he] at hk ⊢
   exact zLm (oV2 _) (fvP a b) hf hk
 . have e7:lV7 (c.rs.map RW.v)=.imm .none 7 (c.rs.map RW.v):=by
    cases hr:c.rs with
    | nil=>exact absurd hr he
    | cons x l=>rfl
   have e8:lV8 (zAd c.rs)=.imm .none 8 ((zAd c.rs).map RW.pf):=by
    cases hr:zAd c.rs with
    | nil=>exact absurd (by have:=zBh c.rs;rw [hr] at this;exact List.length_eq_zero_iff.1 this.symm) he
    | cons x l=>rfl
   rw [e7]
   rw [e8] at hk
   refine zMn hok (BD.rs_num hc hm) (BD.rs_nm hc hm) hlen (oV2 _) (fvP a b) (fun r hr=>zU8 (hok r hr).nm _) ?_ he hf hk
   intro r hr hz h hf K hk
   unfold RW.ty RW.kind at hk
   rw [if_pos hz,if_pos hz] at hk
   rcases (zF4 r.t (hok r hr).t).2.1 hz with e | e | e
   . rw [e] at hk ⊢;exact zVl hf hk
   . rw [e] at hk ⊢;exact zWj hf hk
   . rw [e] at hk ⊢;exact zVc hf hk
def schV (a b:BD):CVal:=.agg [.imm .none 3 [mgV [97,46,73] a,mgV [97,46,77] b],.imm .none 2 [.agg [.str [97,46,69],.imm .none 2 [.agg [.str [65],.int .i64 0],.agg [.str [66],.int .i64 1],.agg [.str [67],.int .i64 (-1)]]]]]
theorem lV7P (l:List CVal):PV1 (lV7 l):=by cases l <;> exact ⟨rfl,rfl,rfl,rfl,rfl⟩
theorem lV8P (l:List RW):PV1 (lV8 l):=by cases l <;> exact ⟨rfl,rfl,rfl,rfl,rfl⟩
theorem oV1P (c:Bool):PV1 (if c=true then CVal.imm .none 1 [.str [99]] else .nils):=by cases c <;> exact ⟨rfl,rfl,rfl,rfl,rfl⟩
theorem zTc {a b:BD} (ha:a.ok 4) (hb:b.ok 7) {h:CHeap} (hf:Fit h) {K:KT} (hk:∀ h',PG h h'->K (.tup [schV a b,.int .i64 0,.str []]) h'):Wc TF 44 [zCf a b] h K:=by
 obtain ⟨hu,hut,hX⟩:=fx4 hf
 have AF:=@zNk a b
 have M1:=@zZ0 a b a 4 [73] ha om_
 have M2:=@zZ5 a b b 7 [77] hb om_
 unfold nmM msgV nmE at AF
 unfold nmM msgV at M1 M2
 unfold mgV oV1 at M1 M2
 unfold schV mgV oV1 at hk
 dsimp only [List.cons_append,List.nil_append] at AF M1 M2
 have PlA:=lV7P a.xs
 have PlB:=lV7P b.xs
 have PoA:=oV1P (!a.os.isEmpty)
 have PoB:=oV1P (!b.os.isEmpty)
 have PsA:=lV8P (zAd a.rs)
 have PsB:=lV8P (zAd b.rs)
 have PFV:=fvP a b
 generalize lV7 a.xs=lA at *
 generalize lV7 b.xs=lB at *
 generalize (if (!a.os.isEmpty)=true then CVal.imm .none 1 [.str [99]] else .nils)=oA at *
 generalize (if (!b.os.isEmpty)=true then CVal.imm .none 1 [.str [99]] else .nils)=oB at *
 generalize lV8 (zAd a.rs)=sA at *
 generalize lV8 (zAd b.rs)=sB at *
 generalize zCf a b=FV at *
 have lA0:lA.beq lA=true:=zB4 _
 obtain ⟨lA1,lA2,lA3,lA4,lA5⟩:=PlA
 have lB0:lB.beq lB=true:=zB4 _
 obtain ⟨lB1,lB2,lB3,lB4,lB5⟩:=PlB
 have oA0:oA.beq oA=true:=zB4 _
 obtain ⟨oA1,oA2,oA3,oA4,oA5⟩:=PoA
 have oB0:oB.beq oB=true:=zB4 _
 obtain ⟨oB1,oB2,oB3,oB4,oB5⟩:=PoB
 have sA0:sA.beq sA=true:=zB4 _
 obtain ⟨sA1,sA2,sA3,sA4,sA5⟩:=PsA
 have sB0:sB.beq sB=true:=zB4 _
 obtain ⟨sB1,sB2,sB3,sB4,sB5⟩:=PsB
 have FV0:FV.beq FV=true:=zB4 _
 obtain ⟨FV1,FV2,FV3,FV4,FV5⟩:=PFV
 simp only [CVal.isUndef,CVal.whole,CVal.cells,CVal.strip,CVal.bare] at lA1 lA2 lA3 lA4 lA5 lB1 lB2 lB3 lB4 lB5 oA1 oA2 oA3 oA4 oA5 oB1 oB2 oB3 oB4 oB5 sA1 sA2 sA3 sA4 sA5 sB1 sB2 sB3 sB4 sB5 FV1 FV2 FV3 FV4 FV5
 refine mk_ 44 c44 (s_ ?_)
 have hZ:=j43_ hX lA0 lA1 lA2 lA3 lA4 lA5 lB0 lB1 lB2 lB3 lB4 lB5 oA0 oA1 oA2 oA3 oA4 oA5 oB0 oB1 oB2 oB3 oB4 oB5 sA0 sA1 sA2 sA3 sA4 sA5 sB0 sB1 sB2 sB3 sB4 sB5 FV0 FV1 FV2 FV3 FV4 FV5
 repeat (first
  | refine vk_ ?_
  | (refine W.loop ?_)
  | (show W TF _ (dropped true _ _) _;generalize e:dropped _ _ _=r;simp (disch:=omega) [hX,lA0,lA1,lA2,lA3,lA4,lA5,lB0,lB1,lB2,lB3,lB4,lB5,oA0,oA1,oA2,oA3,oA4,oA5,oB0,oB1,oB2,oB3,oB4,oB5,sA0,sA1,sA2,sA3,sA4,sA5,sB0,sB1,sB2,sB3,sB4,sB5,FV0,FV1,FV2,FV3,FV4,FV5] at e;subst e;refine W.loop ?_))
 refine AF ft_ fun h2 P=>⟨rfl,?_⟩
 have f2:=P.fit
 have n2:=P.nx
 dsimp only at n2
 clear hu hut hX
 obtain ⟨hu,hut,hX⟩:=fx4 f2
 have r2:zA1 h2.ents h.next=some (.cells [.nils,.nils]):=(P.fr _ (by dsimp only;omega)).trans (by simp [zA1])
 have hZ:=j44_ hX r2 lA0 lA1 lA2 lA3 lA4 lA5 lB0 lB1 lB2 lB3 lB4 lB5 oA0 oA1 oA2 oA3 oA4 oA5 oB0 oB1 oB2 oB3 oB4 oB5 sA0 sA1 sA2 sA3 sA4 sA5 sB0 sB1 sB2 sB3 sB4 sB5 FV0 FV1 FV2 FV3 FV4 FV5
 repeat (first
  | refine vk_ ?_
  | (refine W.loop ?_)
  | (show W TF _ (dropped true _ _) _;generalize e:dropped _ _ _=r;simp (disch:=omega) [hX,r2,lA0,lA1,lA2,lA3,lA4,lA5,lB0,lB1,lB2,lB3,lB4,lB5,oA0,oA1,oA2,oA3,oA4,oA5,oB0,oB1,oB2,oB3,oB4,oB5,sA0,sA1,sA2,sA3,sA4,sA5,sB0,sB1,sB2,sB3,sB4,sB5,FV0,FV1,FV2,FV3,FV4,FV5] at e;subst e;refine W.loop ?_))
 refine M1 ft_ fun h3 P3=>⟨rfl,?_⟩
 have f3:=P3.fit
 have n3:=P3.nx
 dsimp only at n3
 clear hu hut hX
 obtain ⟨hu,hut,hX⟩:=fx4 f3
 have r3:zA1 h3.ents h.next=some (.cells [.nils,.nils]):=(P3.fr _ (by dsimp only;omega)).trans (by simp (disch:=omega) [zA1,r2])
 have r3s:zA1 h3.ents (h2.next+1+4+1+3+3+4+1+3+11+3+3+3+4+1+3+11+3+3+11+3+3+3+4+3)=some (.cells [.nils,.nils]):=(P3.fr _ (by dsimp only;omega)).trans (by simp (disch:=omega) [zA1])
 have r3m:zA1 h3.ents (h2.next+1+4+1+3+3+4+1+3+11+3+3+3+4+1+3+11+3+3+11+3+3+3+4+3+1+1+4+1+6+1)=some (.cells [.str [],.nils,.nils]):=(P3.fr _ (by dsimp only;omega)).trans (by simp (disch:=omega) [zA1])
 have y3s:=fx5 f3 r3s
 have y3m:=fx5 f3 r3m
 generalize hbs:(h2.next+1+4+1+3+3+4+1+3+11+3+3+3+4+1+3+11+3+3+11+3+3+3+4+3)=bs at *
 have hbs1:h2.next<bs:=by omega
 have t1:∀ X,zA1 (zA2 h3.ents (bs+1+1+4+1+6+1) X) bs=zA1 h3.ents bs:=fun X=>zA0 om_
 have t2:∀ X,zA1 (zA2 h3.ents bs X) (bs+1+1+4+1+6+1)=zA1 h3.ents (bs+1+1+4+1+6+1):=fun X=>zA0 om_
 have t3:∀ X Y,zA1 (zA2 (zA2 h3.ents (bs+1+1+4+1+6+1) X) bs Y) bs=some Y:=fun X Y=>zA4 ((t1 X).trans r3s)
 repeat (first
  | refine st_ rfl ?_
  | ((first | refine W.regG ?_ | refine WoR.go ?_);generalize e:goR .. = r;simp (disch:=omega) [hX,r3,r3s,r3m,y3s,y3m,t1,t2,t3,lA0,lA1,lA2,lA3,lA4,lA5,lB0,lB1,lB2,lB3,lB4,lB5,oA0,oA1,oA2,oA3,oA4,oA5,oB0,oB1,oB2,oB3,oB4,oB5,sA0,sA1,sA2,sA3,sA4,sA5,sB0,sB1,sB2,sB3,sB4,sB5,FV0,FV1,FV2,FV3,FV4,FV5] at e;replace e:some _=_:=e;subst e;(try dsimp only [goW]))
  | (refine W.loop ?_)
  | (show W TF _ (dropped true _ _) _;generalize e:dropped _ _ _=r;simp (disch:=omega) [hX,r3,r3s,r3m,y3s,y3m,t1,t2,t3,lA0,lA1,lA2,lA3,lA4,lA5,lB0,lB1,lB2,lB3,lB4,lB5,oA0,oA1,oA2,oA3,oA4,oA5,oB0,oB1,oB2,oB3,oB4,oB5,sA0,sA1,sA2,sA3,sA4,sA5,sB0,sB1,sB2,sB3,sB4,sB5,FV0,FV1,FV2,FV3,FV4,FV5] at e;subst e;refine W.loop ?_)
  | (refine xs_ ?_)
  | (refine mk_ 100 c100 (s_ ?_))
  | ((first | (refine W.ret ?_;(try simp only [zB3,zA9,zAe,zAo,reduceIte]);refine endW.of (.inl rfl) rfl ?_) | refine endW.of (.inl rfl) rfl ?_ | refine endW.of (.inr rfl) rfl ?_);generalize e:zCa .. = r;simp (disch:=omega) [hX,r3,r3s,r3m,y3s,y3m,t1,t2,t3,lA0,lA1,lA2,lA3,lA4,lA5,lB0,lB1,lB2,lB3,lB4,lB5,oA0,oA1,oA2,oA3,oA4,oA5,oB0,oB1,oB2,oB3,oB4,oB5,sA0,sA1,sA2,sA3,sA4,sA5,sB0,sB1,sB2,sB3,sB4,sB5,FV0,FV1,FV2,FV3,FV4,FV5] at e;subst e;refine ⟨rfl,?_⟩))
 generalize hE4:zA5 _ (bs+1+1)=E4
 have lbs:bs<h3.next:=by omega
 have lhn:h.next<bs:=by omega
 have fr4:∀ q,q<h2.next->zA1 E4 q=zA1 h2.ents q:=fun q q1=>by
  rw [<- hE4,zDs (by omega),zA0 (by omega),zA0 (by omega),P3.fr q (by dsimp only;omega)];dsimp only;rw [zA6 (by omega),zA6 (by omega)]
 have u4:Under E4 h3.next:=hE4 ▸ zCo (Under.set (Under.set f3.1))
 have r4s:zA1 E4 bs=some (.cells [.imm .none 3 [(.agg [.str [97,46,73],sA,oA])],.nils]):=by rw [<- hE4,zDs (by omega)];exact t3 _ _
 have r4:zA1 E4 h.next=some (.cells [.nils,.nils]):=(fr4 _ om_).trans r2
 generalize hn4:(h3.next+6+2+1+14+13+2+3+4+1+6)=n4
 clear hu hut hX
 have f4:Fit ⟨E4,n4,h3.tys⟩:=⟨u4.le (by dsimp only;omega),f3.2.le (by dsimp only;omega)⟩
 obtain ⟨hu,hut,hX⟩:=fx4 f4
 dsimp only at hX
 have hZ:=j45_ hX r4 r4s lA0 lA1 lA2 lA3 lA4 lA5 lB0 lB1 lB2 lB3 lB4 lB5 oA0 oA1 oA2 oA3 oA4 oA5 oB0 oB1 oB2 oB3 oB4 oB5 sA0 sA1 sA2 sA3 sA4 sA5 sB0 sB1 sB2 sB3 sB4 sB5 FV0 FV1 FV2 FV3 FV4 FV5
 repeat (first
  | refine vk_ ?_
  | (refine W.loop ?_)
  | (show W TF _ (dropped true _ _) _;generalize e:dropped _ _ _=r;simp (disch:=omega) [hX,r4,r4s,lA0,lA1,lA2,lA3,lA4,lA5,lB0,lB1,lB2,lB3,lB4,lB5,oA0,oA1,oA2,oA3,oA4,oA5,oB0,oB1,oB2,oB3,oB4,oB5,sA0,sA1,sA2,sA3,sA4,sA5,sB0,sB1,sB2,sB3,sB4,sB5,FV0,FV1,FV2,FV3,FV4,FV5] at e;subst e;refine W.loop ?_))
 refine M2 ft_ fun h5 P5=>⟨rfl,?_⟩
 have f5:=P5.fit
 have n5:=P5.nx
 dsimp only at n5
 clear hu hut hX
 obtain ⟨hu,hut,hX⟩:=fx4 f5
 have lb4:bs<n4:=by omega
 have r5:zA1 h5.ents h.next=some (.cells [.nils,.nils]):=(P5.fr _ (by dsimp only;omega)).trans (by simp (disch:=omega) [zA1,r4])
 have r5s:zA1 h5.ents bs=some (.cells [.imm .none 3 [(.agg [.str [97,46,73],sA,oA])],.nils]):=(P5.fr _ (by dsimp only;omega)).trans (by simp (disch:=omega) [zA1,r4s])
 have r5m:zA1 h5.ents (n4+1)=some (.cells [.str [],.nils,.nils]):=(P5.fr _ (by dsimp only;omega)).trans (by simp (disch:=omega) [zA1])
 have y5s:=fx5 f5 r5s
 have y5m:=fx5 f5 r5m
 have t51:∀ X,zA1 (zA2 h5.ents (n4+1) X) bs=zA1 h5.ents bs:=fun X=>zA0 om_
 have t53:∀ X Y,zA1 (zA2 (zA2 h5.ents (n4+1) X) bs Y) bs=some Y:=fun X Y=>zA4 ((t51 X).trans r5s)
 repeat (first
  | refine st_ rfl ?_
  | ((first | refine W.regG ?_ | refine WoR.go ?_);generalize e:goR .. = r;simp (disch:=omega) [hX,r5,r5s,r5m,y5s,y5m,t51,t53,lA0,lA1,lA2,lA3,lA4,lA5,lB0,lB1,lB2,lB3,lB4,lB5,oA0,oA1,oA2,oA3,oA4,oA5,oB0,oB1,oB2,oB3,oB4,oB5,sA0,sA1,sA2,sA3,sA4,sA5,sB0,sB1,sB2,sB3,sB4,sB5,FV0,FV1,FV2,FV3,FV4,FV5] at e;replace e:some _=_:=e;subst e;(try dsimp only [goW]))
  | (refine W.loop ?_)
  | (show W TF _ (dropped true _ _) _;generalize e:dropped _ _ _=r;simp (disch:=omega) [hX,r5,r5s,r5m,y5s,y5m,t51,t53,lA0,lA1,lA2,lA3,lA4,lA5,lB0,lB1,lB2,lB3,lB4,lB5,oA0,oA1,oA2,oA3,oA4,oA5,oB0,oB1,oB2,oB3,oB4,oB5,sA0,sA1,sA2,sA3,sA4,sA5,sB0,sB1,sB2,sB3,sB4,sB5,FV0,FV1,FV2,FV3,FV4,FV5] at e;subst e;refine W.loop ?_)
  | (refine xs_ ?_)
  | (refine mk_ 100 c100 (s_ ?_))
  | ((first | (refine W.ret ?_;(try simp only [zB3,zA9,zAe,zAo,reduceIte]);refine endW.of (.inl rfl) rfl ?_) | refine endW.of (.inl rfl) rfl ?_ | refine endW.of (.inr rfl) rfl ?_);generalize e:zCa .. = r;simp (disch:=omega) [hX,r5,r5s,r5m,y5s,y5m,t51,t53,lA0,lA1,lA2,lA3,lA4,lA5,lB0,lB1,lB2,lB3,lB4,lB5,oA0,oA1,oA2,oA3,oA4,oA5,oB0,oB1,oB2,oB3,oB4,oB5,sA0,sA1,sA2,sA3,sA4,sA5,sB0,sB1,sB2,sB3,sB4,sB5,FV0,FV1,FV2,FV3,FV4,FV5] at e;subst e;refine ⟨rfl,?_⟩))
 generalize hE6:zA5 _ (h3.next+6+2+1+14+13+2+3)=E6
 have fr6:∀ q,q<h2.next->zA1 E6 q=zA1 h2.ents q:=fun q q1=>by
  rw [<- hE6,zDs (by omega),zA0 (by omega),zA0 (by omega),P5.fr q (by dsimp only;omega)];dsimp only;rw [zA6 (by omega)];exact fr4 q q1
 have u6:Under E6 h5.next:=hE6 ▸ zCo (Under.set (Under.set f5.1))
 have r6s:zA1 E6 bs=some (.cells [.imm .none 3 [(.agg [.str [97,46,73],sA,oA]),(.agg [.str [97,46,77],sB,oB])],.nils]):=by rw [<- hE6,zDs (by omega)];exact t53 _ _
 have r6:zA1 E6 h.next=some (.cells [.nils,.nils]):=(fr6 _ om_).trans r2
 clear hu hut hX
 have f6:Fit ⟨E6,h5.next,h5.tys⟩:=⟨u6,f5.2⟩
 obtain ⟨hu,hut,hX⟩:=fx4 f6
 dsimp only at hX
 have y6s:=fx5 f6 r6s
 have y6:=fx5 f6 r6
 dsimp only at y6s y6
 have t6:∀ X,zA1 (zA2 E6 bs X) h.next=zA1 E6 h.next:=fun X=>zA0 om_
 have t6b:∀ X Y,zA1 (zA2 (zA2 E6 bs X) h.next Y) h.next=some Y:=fun X Y=>zA4 ((t6 X).trans r6)
 repeat (first
  | refine st_ rfl ?_
  | ((first | refine W.regG ?_ | refine WoR.go ?_);generalize e:goR .. = r;simp (disch:=omega) [hX,r6,r6s,y6,y6s,t6,t6b,lA0,lA1,lA2,lA3,lA4,lA5,lB0,lB1,lB2,lB3,lB4,lB5,oA0,oA1,oA2,oA3,oA4,oA5,oB0,oB1,oB2,oB3,oB4,oB5,sA0,sA1,sA2,sA3,sA4,sA5,sB0,sB1,sB2,sB3,sB4,sB5,FV0,FV1,FV2,FV3,FV4,FV5] at e;replace e:some _=_:=e;subst e;(try dsimp only [goW]))
  | (refine W.loop ?_)
  | (show W TF _ (dropped true _ _) _;generalize e:dropped _ _ _=r;simp (disch:=omega) [hX,r6,r6s,y6,y6s,t6,t6b,lA0,lA1,lA2,lA3,lA4,lA5,lB0,lB1,lB2,lB3,lB4,lB5,oA0,oA1,oA2,oA3,oA4,oA5,oB0,oB1,oB2,oB3,oB4,oB5,sA0,sA1,sA2,sA3,sA4,sA5,sB0,sB1,sB2,sB3,sB4,sB5,FV0,FV1,FV2,FV3,FV4,FV5] at e;subst e;refine W.loop ?_)
  | (refine xs_ ?_)
  | (refine mk_ 97 c97 (s_ ?_))
  | (refine mk_ 98 c98 (s_ ?_))
  | ((first | (refine W.ret ?_;(try simp only [zB3,zA9,zAe,zAo,reduceIte]);refine endW.of (.inl rfl) rfl ?_) | refine endW.of (.inl rfl) rfl ?_ | refine endW.of (.inr rfl) rfl ?_);generalize e:zCa .. = r;simp (disch:=omega) [hX,r6,r6s,y6,y6s,t6,t6b,lA0,lA1,lA2,lA3,lA4,lA5,lB0,lB1,lB2,lB3,lB4,lB5,oA0,oA1,oA2,oA3,oA4,oA5,oB0,oB1,oB2,oB3,oB4,oB5,sA0,sA1,sA2,sA3,sA4,sA5,sB0,sB1,sB2,sB3,sB4,sB5,FV0,FV1,FV2,FV3,FV4,FV5] at e;subst e;refine ⟨rfl,?_⟩))
 (first | (refine W.ret ?_;(try simp only [zB3,zA9,zAe,zAo,reduceIte]);refine endW.of (.inl rfl) rfl ?_) | refine endW.of (.inl rfl) rfl ?_ | refine endW.of (.inr rfl) rfl ?_);generalize e:zCa .. = r;simp (disch:=omega) [hX,r6,r6s,y6,y6s,t6,t6b,lA0,lA1,lA2,lA3,lA4,lA5,lB0,lB1,lB2,lB3,lB4,lB5,oA0,oA1,oA2,oA3,oA4,oA5,oB0,oB1,oB2,oB3,oB4,oB5,sA0,sA1,sA2,sA3,sA4,sA5,sB0,sB1,sB2,sB3,sB4,sB5,FV0,FV1,FV2,FV3,FV4,FV5] at e;subst e
 refine hk _ ⟨⟨?_,?_⟩,?_,fun q q1=>?_⟩
 . dsimp only;exact zBy ((Under.set (Under.set u6)).le (by omega))
 . dsimp only;exact f5.2.le (by omega)
 . dsimp only;omega
 . dsimp only
   rw [zF8 q1,zA0 (by omega),zA0 (by omega),fr6 q (by omega),P.fr q (by dsimp only;omega)]
   exact zA6 om_
theorem of_F {a b:BD} (ha:a.ok 4) (hb:b.ok 7) {h:CHeap} (hf:Fit h) {K:KT} (hk:∀ h',PG h h'->K (.tup [schV a b,.bool true]) h'):Wc TF 16 [.str (zGp a b)] h K:=by
 obtain ⟨hu,hut,hX⟩:=fx4 hf
 have LF:=@zXt a b ha hb
 have SF:=@zTc a b ha hb
 have PFV:=fvP a b
 unfold srcL at LF
 unfold schV at hk SF
 generalize zCf a b=FV at *
 generalize mgV [97,46,73] a=mA at *
 generalize mgV [97,46,77] b=mB at *
 generalize zGp a b=txt at *
 obtain ⟨f1,f2,f3,f4,f5⟩:=PFV
 simp only [CVal.isUndef,CVal.whole,CVal.cells,CVal.strip,CVal.bare] at f1 f2 f3 f4 f5
 have mA0:mA.beq mA=true:=zB4 _
 have mB0:mB.beq mB=true:=zB4 _
 refine mk_ 16 c16 (s_ ?_)
 have hZ:=j6_ hX f1 f2 f3 f4 f5
 try refine vk_ ?_
 refine LF ft_ fun h2 P=>⟨rfl,?_⟩
 have g2:=P.fit
 have n2:=P.nx
 dsimp only at n2
 have r2:zA1 h2.ents h.next=some (.cells [.nils,.nils]):=(P.fr _ (by dsimp only;omega)).trans (by simp [zA1])
 clear hu hut hX
 obtain ⟨hu,hut,hX⟩:=fx4 g2
 have hZ:=j7_ hX r2 f1 f2 f3 f4 f5
 try refine vk_ ?_
 refine SF ft_ fun h3 P3=>⟨rfl,?_⟩
 have g3:=P3.fit
 have n3:=P3.nx
 dsimp only at n3
 have r3:zA1 h3.ents h.next=some (.cells [.nils,.nils]):=(P3.fr _ (by dsimp only;omega)).trans (by simp (disch:=omega) [zA1,r2])
 have Z:∀ q,h2.next<=q->q<_->zA1 h3.ents q=none:=fun q a b=>(P3.fr q b).trans (hX.2.2.1 q a)
 dsimp only at Z
 clear hu hut hX
 obtain ⟨hu,hut,hX⟩:=fx4 g3
 have y3:=fx5 g3 r3
 have hZ:=j6_ hX r3 y3 mA0 mB0 Z
 repeat (first
  | refine vk_ ?_
  | (refine rk_ ?_;skip))
 refine hk _ ⟨⟨?_,?_⟩,?_,fun q q1=>?_⟩
 . dsimp only;exact zBy ((Under.set hu).le (by omega))
 . dsimp only;exact g3.2.le (by omega)
 . dsimp only;omega
 . dsimp only
   rw [zF8 q1,zA0 (by omega),P3.fr q (by dsimp only;omega),P.fr q (by dsimp only;omega)]
   exact zA6 om_
theorem zWr {E:EE} {nx:Nat} {ty:NN} {p d:Nat} {L:CVal} {o:CObj} (hu:Under E nx) (hut:zA7 ty nx) (hg:zA1 E p=some o) (hL:Nums L) {j:Int} (hj0:0<=j) (hj1:j<5000) {K:KT}
    (hk:∀ h' a b j2,a.ok 4->b.ok 7->PG ⟨zA2 E p (pk L j2),nx,ty⟩ h'->K (.tup [schV a b,.bool true]) h'):Wc TF 8 [.ptr p d 0] ⟨zA2 E p (pk L j),nx,ty⟩ K:=by
 have hY:=fxp hu hg
 have lp:=zA3 hu hg
 refine mk_ 8 c8 (s_ ?_)
 have hZ:=hY
 try refine vk_ ?_
 have e0:∀ j,(nx,CObj.cells [.nils,.nils])::zA2 E p (pk L j)=zA2 ((nx,.cells [.nils,.nils])::E) p (pk L j):=fun j=>by
  have h1:¬ nx=p:=by omega
  simp [zA2,h1]
 rw [e0]
 refine zZt _ _ _ p d L o (Under.cons (by omega) (hu.le (by omega))) (hut.le (by omega)) (by simp (disch:=omega) [zA1,hg]) hL j hj0 hj1 _ (fun n2 j2 v c1 c2 c3 Rv=>?_)
 obtain ⟨a,b,ha,hb,rfl⟩:=Rv
 rw [<- e0]
 refine ⟨rfl,?_⟩
 have hZ:=hY
 try refine vk_ ?_
 refine of_F ha hb ?_ fun h3 P3=>⟨rfl,?_⟩
 . exact ⟨Under.cons (by dsimp only;omega) ((Under.set hu).le (by dsimp only;omega)),hut.le (by dsimp only;omega)⟩
 have g3:=P3.fit
 have n3:=P3.nx
 dsimp only at n3
 have r3:zA1 h3.ents nx=some (.cells [.nils,.nils]):=(P3.fr _ (by dsimp only;omega)).trans (by simp [zA1])
 have hk2:=hk ⟨zBe (zA2 h3.ents nx (.cells (schV a b).cells)) nx,h3.next,h3.tys⟩ a b j2 ha hb ⟨⟨zBy (Under.set g3.1),g3.2⟩,by dsimp only;omega,fun q q1=>by
  dsimp only at q1 ⊢
  rw [zF8 q1,zA0 (by omega),P3.fr q (by dsimp only;omega)]
  exact zA6 om_⟩
 unfold schV at *
 generalize mgV [97,46,73] a=mA at *
 generalize mgV [97,46,77] b=mB at *
 obtain ⟨hu3,hut3,hX⟩:=fx4 g3
 have y3:=fx5 g3 r3
 have hZ:=j3_ hX r3 y3
 repeat (first
  | refine vk_ ?_
  | (refine rk_ ?_;skip))
 exact hk2
theorem zZy (l:List RW) (hl:l.length<=100):Pe 65 [lV8 l] (lV8 l):=by
 intro h hf K hk
 obtain ⟨hu,hut,hX⟩:=fx4 hf
 cases l with
 | nil =>
  unfold lV8 at *
  refine mk_ 65 c65 (s_ ?_)
  repeat (first
   | refine vx_ ?_
   | (refine rx_ ?_;refine hk _ ?_;exact om_))
 | cons r l =>
  have e:lV8 (r::l)=.imm .none 8 (r.pf::l.map RW.pf):=rfl
  have z1:(l.map RW.pf).map CVal.bare=l.map RW.pf:=by rw [List.map_map];rfl
  have z0:r.pf.bare=r.pf:=rfl
  have z2:(l.map RW.pf).length<=100:=by simp at hl ⊢;omega
  rw [e] at hk ⊢
  generalize l.map RW.pf=AL at *
  generalize r.pf=w at *
  simp only [CVal.bare,CVal.strip] at z0
  refine mk_ 65 c65 (s_ ?_)
  have hZ:=j4_ hX z0 z1 z2
  repeat (first
   | refine vk_ ?_
   | (refine rk_ ?_;refine hk _ ?_;exact om_))
theorem zXh {Ls:List RW} (hl:Ls.length<=100) {q d:Nat} {w:Int} {hh:CHeap} (hf:Fit hh) (hg:zA1 hh.ents q=some (.cells [.int .i64 w])) {Q:QT}
    (hyes:∀ v1 v3 v5 v6 n' k x,Ls[k]? = some x->(x.num:Int)=w->(∀ j y,j<k->Ls[j]? = some y->(y.num:Int)≠w)->hh.next<=n'->Q .ret ⟨[.imm .none 8 (Ls.map RW.pf),v1,.int .i64 Ls.length,v3,.fn (.func 71) [] [.ptr q d 0],v5,v6,.int .i64 (k:Nat)],⟨hh.ents,n',hh.tys⟩,[]⟩)
    (hno:(∀ j y,j<Ls.length->Ls[j]? = some y->(y.num:Int)≠w)->∀ v1 v3 v5 v6 n',hh.next<=n'->Q (.exit 0) ⟨[.imm .none 8 (Ls.map RW.pf),v1,.int .i64 Ls.length,v3,.fn (.func 71) [] [.ptr q d 0],v5,v6,.int .i64 0],⟨hh.ents,n',hh.tys⟩,[]⟩) :
    ∀ (m k nx:Nat) (v3 v5 v6:CVal),k+m=Ls.length->(∀ j y,j<k->Ls[j]? = some y->(y.num:Int)≠w)->hh.next<=nx->W TF ixL ⟨[.imm .none 8 (Ls.map RW.pf),.int .i64 (k:Nat),.int .i64 Ls.length,v3,.fn (.func 71) [] [.ptr q d 0],v5,v6,.int .i64 0],⟨hh.ents,nx,hh.tys⟩,[]⟩ Q:=by
 intro m
 induction m with
 | zero =>
  intro k nx v3 v5 v6 h1 h2 h3
  obtain rfl:k=Ls.length:=by omega
  refine W.loop ?_
  try refine w0_ ?_
  refine hno h2 _ _ _ _ _ ?_;exact om_
 | succ m ih =>
  intro k nx v3 v5 v6 h1 h2 h3
  obtain ⟨hu,hut,hX⟩:=fx4 (show Fit ⟨hh.ents,nx,hh.tys⟩ from ⟨hf.1.le h3,hf.2.le h3⟩)
  dsimp only at hX hu hut
  have hlt:(k:Int)<(Ls.length:Int):=by omega
  have lq:=zA3 hu hg
  have hkl:k<Ls.length:=by omega
  obtain ⟨x,hx⟩:∃ x,Ls[k]? = some x:=⟨_,gE_ hkl⟩
  have hn:nth (Ls.map RW.pf) k=x.pf:=zCc RW.pf Ls k x hx
  have hn2:(Ls.map RW.pf)[k]? = some x.pf:=by rw [List.getElem?_map,hx];rfl
  have hlen:(Ls.map RW.pf).length=Ls.length:=List.length_map ..
  generalize hPF:Ls.map RW.pf=PF at *
  unfold RW.pf at hn hn2
  refine W.loop ?_
  by_cases he:(x.num:Int)=w
  . subst he
    have hZ:=j6_ hX hg hlt hn hn2 hlen
    repeat (first
     | refine wk_ ?_
     | (refine mk_ 71 c71 (s_ ?_))
     | (refine rk_ ?_;refine ⟨rfl,?_⟩))
    refine W.ret ?_
    simp only [zB3,zA9,zAe,zAo,reduceIte]
    refine hyes _ _ _ _ _ k x hx rfl h2 ?_;exact om_
  . have e1:((x.num:Int) == w)=false:=by simp [he]
    have e2:((x.num:Int)=w)=False:=by simp [he]
    have hZ:=j8_ hX hg hlt hn hn2 hlen e1 e2
    repeat (first
     | refine wk_ ?_
     | (refine mk_ 71 c71 (s_ ?_))
     | (refine rk_ ?_;refine ⟨rfl,?_⟩))
    have ih1:=fun nx v3 v5 v6 (h:_<=nx)=>ih (k+1) nx v3 v5 v6 om_ (fun j y a b=>by
     rcases Nat.lt_succ_iff_lt_or_eq.1 a with c | rfl
     . exact h2 j y c b
     . rw [hx] at b;cases b;exact he) h
    push_cast at ih1
    refine dx_ ?_
    refine ih1 _ _ _ _ ?_;exact om_
def zPF:CVal:=.agg [.int .i64 0,.str [],.int .i64 0,.int .i64 0,.str [],.int .i64 0,.bool false,.int .i64 0]
theorem fd_F {Ls:List RW} (hl:Ls.length<=100) {w:Int} {n:B8} {O:CVal} (HO:PV1 O) {R:CVal} (hyes:∀ (k:Nat) (x:RW),Ls[k]? = some x->(x.num:Int)=w->R=.tup [x.pf,.bool true]) (hno:(∀ (j:Nat) (y:RW),Ls[j]? = some y->(y.num:Int)≠w)->R=.tup [zPF,.bool false]):Pe 31 [.agg [.str n,lV8 Ls,O],.int .i64 w] R:=by
 intro h hf K hk
 obtain ⟨hu,hut,hX⟩:=fx4 hf
 obtain ⟨f1,f2,f3,f4,f5⟩:=HO
 simp only [CVal.isUndef,CVal.whole,CVal.cells,CVal.strip,CVal.bare] at f1 f2 f3 f4 f5
 cases hLs:Ls with
 | nil =>
  subst hLs
  obtain rfl:=hno (by intro j y e;cases e)
  unfold lV8
  unfold zPF at hk
  refine mk_ 31 c31 (s_ ?_)
  have hZ:=j6_ hX f1 f2 f3 f4 f5
  repeat (first
   | refine vk_ ?_
   | (refine W.loop ?_)
   | (show W TF _ (dropped true _ _) _;generalize e:dropped _ _ _=r;simp (disch:=omega) [hX,f1,f2,f3,f4,f5] at e;subst e;refine W.loop ?_)
   | (refine mk_ 70 c70 (s_ ?_))
   | (refine rk_ ?_;refine ⟨rfl,?_⟩))
  have hZ:=j6_ hX f1 f2 f3 f4 f5
  refine rk_ ?_
  refine hk _ ?_;exact om_
 | cons r0 l0 =>
  have e8:lV8 Ls=.imm .none 8 (Ls.map RW.pf):=by rw [hLs];rfl
  have hlen:(Ls.map RW.pf).length=Ls.length:=List.length_map ..
  rw [<- hLs,e8]
  refine mk_ 31 c31 (s_ ?_)
  have hZ:=j7_ hX f1 f2 f3 f4 f5 hlen
  repeat (first
   | refine vk_ ?_
   | (refine mk_ 70 c70 (s_ ?_))
   | (refine rk_ ?_;refine ⟨rfl,?_⟩))
  refine zXh hl (hh:=⟨_,_,_⟩) (w:=w) ?_ ?_ ?_ ?_ Ls.length 0 _ _ _ _ om_ (fun j y a _=>by omega) (Nat.le_refl _)
  . exact ft_
  . simp (disch:=omega) [zA1]
  . intro v1 v3 v5 v6 n' k x hx hw _ hn'
    obtain rfl:=hyes k x hx hw
    have hn:nth (Ls.map RW.pf) k=x.pf:=zCc RW.pf Ls k x hx
    have hkl:(k:Int)<(Ls.length:Int):=by have:=(gs_ hx).1;omega
    have hk0:¬ (k:Int)<0:=by omega
    dsimp only at hn'
    generalize hPF:Ls.map RW.pf=PF at *
    unfold RW.pf at hn hk
    clear e8
    have hZ:=j10_ hX f1 f2 f3 f4 f5 hlen hn hkl hk0
    repeat (first
     | refine vk_ ?_
     | (refine mk_ 70 c70 (s_ ?_))
     | (refine rk_ ?_;refine ⟨rfl,?_⟩))
    have hZ:=j10_ hX f1 f2 f3 f4 f5 hlen hn hkl hk0
    refine rk_ ?_
    refine hk _ ?_;exact om_
  . intro hh v1 v3 v5 v6 n' hn'
    obtain rfl:=hno (fun j y e=>hh j y (gs_ e).1 e)
    dsimp only at hn'
    unfold zPF at hk
    have hZ:=j6_ hX f1 f2 f3 f4 f5
    repeat (first
     | refine vk_ ?_
     | (refine mk_ 70 c70 (s_ ?_))
     | (refine rk_ ?_;refine ⟨rfl,?_⟩))
    have hZ:=j6_ hX f1 f2 f3 f4 f5
    refine rk_ ?_
    refine hk _ ?_;exact om_
end Go.Proofs.YtafeofghkhhhkaaGreat.IrM
namespace Go.Proofs.YtafeofghkhhhkaaGreat.IrM
set_option maxRecDepth 100000
set_option maxHeartbeats 4000000
set_option linter.unusedVariables false
set_option linter.unusedSimpArgs false
namespace SL
section
variable {K V:Type} (lt:K->K->Bool)
structure Ord:Prop where
 irr:∀ a,lt a a=false
 trans:∀ a b c,lt a b=true->lt b c=true->lt a c=true
 tri:∀ a b,lt a b=false->lt b a=false->a=b
def put (k:K) (v:V):List (K × V)->List (K × V)
 | []=>[(k,v)]
 | (a,x)::l=>if lt a k then (a,x)::put k v l else if lt k a then (k,v)::(a,x)::l else (a,v)::l
def get (k:K):List (K × V)->Option V
 | []=>none
 | (a,x)::l=>if lt a k then get k l else if lt k a then none else some x
def Srt:List (K × V)->Prop
 | []=>True
 | (a,_)::l=>(∀ p ∈ l,lt a p.1=true)/\Srt l
variable {lt}
theorem mem_put {k:K} {v:V}:∀ {l:List (K × V)} {p:K × V},p ∈ put lt k v l->p.1=k\/p ∈ l\/∃ q ∈ l,q.1=p.1
 | [],p,h=>by simp [put] at h;exact .inl (by rw [h])
 | (a,x)::l,p,h=>by
  unfold put at h
  split at h
  . rcases List.mem_cons.1 h with rfl | h
    . exact .inr (.inl (by simp))
    . rcases mem_put h with h | h | ⟨q,hq,e⟩
      . exact .inl h
      . exact .inr (.inl (by simp [h]))
      . exact .inr (.inr ⟨q,by simp [hq],e⟩)
  split at h
  . rcases List.mem_cons.1 h with rfl | h
    . exact .inl rfl
    . exact .inr (.inl h)
  . rcases List.mem_cons.1 h with rfl | h
    . exact .inr (.inr ⟨(a,x),by simp,rfl⟩)
    . exact .inr (.inl (by simp [h]))
theorem srt_put (O:Ord lt) {k:K} {v:V}:∀ {l:List (K × V)},Srt lt l->Srt lt (put lt k v l)
 | [],_=>⟨fun p hp=>(by cases hp),trivial⟩
 | (a,x)::l,h=>by
  unfold put
  split
  . rename_i h1
    refine ⟨fun p hp=>?_,srt_put O h.2⟩
    rcases mem_put hp with e | hp | ⟨q,hq,e⟩
    . rw [e];exact h1
    . exact h.1 p hp
    . rw [<- e];exact h.1 q hq
  split
  . rename_i h1 h2
    refine ⟨fun p hp=>?_,h⟩
    rcases List.mem_cons.1 hp with rfl | hp
    . exact h2
    . exact O.trans _ _ _ h2 (h.1 p hp)
  . exact ⟨h.1,h.2⟩
theorem get_put (O:Ord lt) {k j:K} {v:V}:∀ {l:List (K × V)},Srt lt l->get lt j (put lt k v l)=if lt j k then get lt j l else if lt k j then get lt j l else some v
 | [],_=>by
  unfold put get
  by_cases h1:lt k j=true
  . have h2:lt j k=false:=by
     cases h:lt j k with
     | false=>rfl
     | true=>have:=O.trans _ _ _ h1 h;rw [O.irr] at this;cases this
    simp [h1,h2,get]
  . by_cases h2:lt j k=true
    . simp [h1,h2]
    . simp [h1,h2]
 | (a,x)::l,h=>by
  unfold put
  by_cases hak:lt a k=true
  . rw [if_pos hak]
    unfold get
    by_cases haj:lt a j=true
    . rw [if_pos haj,if_pos haj,get_put O h.2]
    . rw [if_neg haj,if_neg haj]
      by_cases hja:lt j a=true
      . have hjk:lt j k=true:=O.trans _ _ _ hja hak
        rw [if_pos hja,if_pos hjk]
      . have e:a=j:=O.tri _ _ (by simpa using haj) (by simpa using hja)
        subst e
        rw [if_neg hja,if_pos hak]
  . rw [if_neg hak]
    by_cases hka:lt k a=true
    . rw [if_pos hka]
      conv=>lhs;unfold get
      by_cases hkj:lt k j=true
      . have hjk:¬ lt j k=true:=fun h1=>by have:=O.trans _ _ _ hkj h1;rw [O.irr] at this;cases this
        rw [if_pos hkj,if_neg hjk,if_pos hkj]
      . rw [if_neg hkj]
        by_cases hjk:lt j k=true
        . rw [if_pos hjk,if_pos hjk]
          have hja:lt j a=true:=O.trans _ _ _ hjk hka
          have haj:¬ lt a j=true:=fun h1=>by have:=O.trans _ _ _ hja h1;rw [O.irr] at this;cases this
          unfold get
          rw [if_neg haj,if_pos hja]
        . rw [if_neg hjk,if_neg hjk,if_neg hkj]
    . rw [if_neg hka]
      have e:a=k:=O.tri _ _ (by simpa using hak) (by simpa using hka)
      subst e
      conv=>lhs;unfold get
      by_cases haj:lt a j=true
      . have hja:¬ lt j a=true:=fun h1=>by have:=O.trans _ _ _ haj h1;rw [O.irr] at this;cases this
        rw [if_pos haj,if_neg hja,if_pos haj]
        conv=>rhs;unfold get
        rw [if_pos haj]
      . rw [if_neg haj]
        by_cases hja:lt j a=true
        . rw [if_pos hja,if_pos hja]
          unfold get
          rw [if_neg haj,if_pos hja]
        . rw [if_neg hja,if_neg hja,if_neg haj]
theorem zHk (O:Ord lt) {k:K} {l:List (K × V)} (h:∀ p ∈ l,lt k p.1=true):get lt k l=none:=by
 cases l with
 | nil=>rfl
 | cons p l =>
  obtain ⟨a,x⟩:=p
  have h1:=h (a,x) (by simp)
  have h2:¬ lt a k=true:=fun h3=>by have:=O.trans _ _ _ h1 h3;rw [O.irr] at this;cases this
  unfold get
  rw [if_neg h2,if_pos h1]
theorem ext (O:Ord lt):∀ {l m:List (K × V)},Srt lt l->Srt lt m->(∀ k,get lt k l=get lt k m)->l=m
 | [],[],_,_,_=>rfl
 | [],(a,x)::m,_,_,h=>by
  have:=h a
  simp [get,O.irr] at this
 | (a,x)::l,[],_,_,h=>by
  have:=h a
  simp [get,O.irr] at this
 | (a,x)::l,(b,y)::m,hl,hm,h=>by
  have ha:=h a
  have hb:=h b
  unfold get at ha hb
  rw [O.irr,if_neg (by simp),if_neg (by simp)] at ha
  rw [O.irr] at hb
  have hba:¬ lt b a=true:=fun h1=>by
   rw [if_pos h1] at ha
   have hab:¬ lt a b=true:=fun h2=>by have:=O.trans _ _ _ h1 h2;rw [O.irr] at this;cases this
   rw [if_neg hab,if_pos h1] at hb
   simp at hb
  rw [if_neg hba] at ha
  have hab:¬ lt a b=true:=fun h1=>by rw [if_pos h1] at ha;cases ha
  rw [if_neg hab] at ha
  have e:a=b:=O.tri _ _ (by simpa using hab) (by simpa using hba)
  subst e
  cases ha
  have:l=m:=ext O hl.2 hm.2 fun k=>by
   have hk:=h k
   unfold get at hk
   by_cases h1:lt a k=true
   . rw [if_pos h1,if_pos h1] at hk;exact hk
   . by_cases h2:lt k a=true
     . rw [zHk O fun p hp=>O.trans _ _ _ h2 (hl.1 p hp),zHk O fun p hp=>O.trans _ _ _ h2 (hm.1 p hp)]
     . have e:a=k:=O.tri _ _ (by simpa using h1) (by simpa using h2)
       subst e
       rw [zHk O hl.1,zHk O hm.1]
  rw [this]
theorem zSj (k a:K) (x:V) (l:List (K × V)):get lt k ((a,x)::l)=if lt a k then get lt k l else if lt k a then none else some x:=rfl
def mrg (lt:K->K->Bool) (op:K->Option V->V->V) (a b:List (K × V)):List (K × V):=b.foldl (fun o p=>put lt p.1 (op p.1 (get lt p.1 o) p.2) o) a
theorem zN3 (O:Ord lt) (op:K->Option V->V->V):∀ {b a:List (K × V)},Srt lt a->Srt lt (mrg lt op a b)
 | [],a,h=>h
 | p::b,a,h=>zN3 O op (b:=b) (srt_put O h)
theorem zRx (O:Ord lt) (op:K->Option V->V->V) (k:K):∀ {b a:List (K × V)},Srt lt a->Srt lt b->get lt k (mrg lt op a b)=match get lt k b with | none=>get lt k a | some v=>some (op k (get lt k a) v)
 | [],a,_,_=>rfl
 | (c,v)::b,a,ha,hb=>by
  show get lt k (mrg lt op (put lt c (op c (get lt c a) v) a) b)=_
  rw [zRx O op k (srt_put O ha) hb.2,get_put O ha]
  rw [zSj]
  by_cases h1:lt c k=true
  . have h2:¬ lt k c=true:=fun h3=>by have:=O.trans _ _ _ h1 h3;rw [O.irr] at this;cases this
    simp only [if_pos h1,if_neg h2]
  . by_cases h2:lt k c=true
    . have h3:get lt k b=none:=zHk O fun p hp=>O.trans _ _ _ h2 (hb.1 p hp)
      simp only [if_neg h1,if_pos h2,h3]
    . have e:c=k:=O.tri _ _ (by simpa using h1) (by simpa using h2)
      subst e
      have h3:get lt c b=none:=zHk O hb.1
      simp only [if_neg h1,h3]
theorem zWc (O:Ord lt) (op:K->Option V->V->V) (h0:∀ k z,op k none z=z) {a:List (K × V)} (ha:Srt lt a):mrg lt op [] a=a:=by
 refine ext O (zN3 O op trivial) ha fun k=>?_
 rw [zRx (a:=[]) O op k trivial ha]
 cases get lt k a with
 | none=>rfl
 | some v=>simp [get,h0]
end
end SL
namespace SL
section
variable {K V:Type} {lt:K->K->Bool}
theorem put_mem {k:K} {v:V}:∀ {l:List (K × V)} {p:K × V},p ∈ put lt k v l->p=(k,v)\/p ∈ l\/(∃ x,(p.1,x) ∈ l/\p.2=v/\lt p.1 k=false/\lt k p.1=false)
 | [],p,h=>by simp [put] at h;exact .inl h
 | (a,x)::l,p,h=>by
  unfold put at h
  split at h
  . rcases List.mem_cons.1 h with rfl | h
    . exact .inr (.inl (by simp))
    . rcases put_mem h with h | h | ⟨y,h,e⟩
      . exact .inl h
      . exact .inr (.inl (by simp [h]))
      . exact .inr (.inr ⟨y,by simp [h],e⟩)
  split at h
  . rcases List.mem_cons.1 h with rfl | h
    . exact .inl rfl
    . exact .inr (.inl h)
  . rename_i h1 h2
    rcases List.mem_cons.1 h with rfl | h
    . exact .inr (.inr ⟨x,by simp,rfl,by simpa using h1,by simpa using h2⟩)
    . exact .inr (.inl (by simp [h]))
theorem get_mem (O:Ord lt) {k:K}:∀ {l:List (K × V)} {v:V},get lt k l=some v->(k,v) ∈ l
 | [],v,h=>by cases h
 | (a,x)::l,v,h=>by
  unfold get at h
  split at h
  . exact List.mem_cons_of_mem _ (get_mem O h)
  split at h
  . cases h
  . rename_i h1 h2
    have e:a=k:=O.tri _ _ (by simpa using h1) (by simpa using h2)
    subst e
    cases h
    simp
def All (P:K->V->Prop) (l:List (K × V)):Prop:=∀ p ∈ l,P p.1 p.2
theorem zPx (O:Ord lt) {P:K->V->Prop} {k:K} {v:V} {l:List (K × V)} (hl:All P l) (hv:P k v):All P (put lt k v l):=fun p hp=>by
 rcases put_mem hp with rfl | h | ⟨x,_,e,h1,h2⟩
 . exact hv
 . exact hl p h
 . rw [O.tri _ _ h1 h2,e];exact hv
theorem zQ4 (O:Ord lt) {P:K->V->Prop} {op:K->Option V->V->V} (hn:∀ k z,P k z->P k (op k none z)) (hs:∀ k x z,P k x->P k z->P k (op k (some x) z)):∀ {b a:List (K × V)},All P a->All P b->All P (mrg lt op a b)
 | [],a,ha,_=>ha
 | (k,v)::b,a,ha,hb=>by
  refine zQ4 O hn hs (b:=b) (zPx O ha ?_) fun p hp=>hb p (List.mem_cons_of_mem _ hp)
  have hv:P k v:=hb (k,v) (by simp)
  cases hg:get lt k a with
  | none=>exact hn k v hv
  | some x=>exact hs k x v (ha (k,x) (get_mem O hg)) hv
end
end SL
open SL
def MV (B:Type):Nat->Type
 | 0=>Unit
 | n+1=>List (Nat × List (B × MV B n)) × B8
def mv0 (B:Type):∀ n,MV B n
 | 0=>()
 | _+1=>([],[])
structure Fld (B T:Type) where
 lab:Nat
 msg:Bool
 sub:T
 lt:B->B->Bool
 kok:B->Prop
 val:B->Prop
 one:Nat
section
variable {B T:Type} (b0:B)
def prs {M:Type}:List (B × M)->List (B × (B × M))
 | k::v::l=>(k.1,v)::prs l
 | _=>[]
def zB2 {M:Type} (e:M):List (B × (B × M))->List (B × M)
 | []=>[]
 | (k,v)::l=>(k,e)::v::zB2 e l
theorem zCl {M:Type} (e:M):∀ q:List (B × (B × M)),prs (zB2 e q)=q
 | []=>rfl
 | (k,v)::q=>by show (k,v)::prs (zB2 e q)=_;rw [zCl e q]
def nltB (a b:Nat):Bool:=decide (a<b)
theorem ordN:Ord nltB:=⟨fun a=>by simp [nltB],fun a b c h1 h2=>by simp [nltB] at *;omega,fun a b h1 h2=>by simp [nltB] at *;omega⟩
def opM {n:Nat} (rec:T->MV B n->MV B n->MV B n) (f:Fld B T) (old:Option (List (B × MV B n))) (new:List (B × MV B n)):List (B × MV B n) :=
 if f.lab=1 then old.getD []++new
 else if f.lab=2 then zB2 (mv0 B n) (mrg f.lt (fun _ _ z=>z) (prs (old.getD [])) (prs new))
 else if f.msg then match old,new with
  | some (x::_),y::_=>[(b0,rec f.sub x.2 y.2)]
  | _,_=>new
 else new
def wout (fld:Nat->Option (Fld B T)) {W:Type} (k:Nat) (f:Fld B T) (o:List (Nat × W)):List (Nat × W) :=
 o.filter fun p=>match fld p.1 with
  | some g=>!(decide (0<f.one) && decide (g.one=f.one) && !decide (p.1=k))
  | none=>true
def zJu (fld:T->Nat->Option (Fld B T)):∀ n,T->MV B n->MV B n->MV B n
 | 0,_,_,_=>()
 | n+1,t,a,b=>(b.1.foldl (fun o p=>match fld t p.1 with
     | some f=>put nltB p.1 (opM b0 (zJu fld n) f (get nltB p.1 (wout (fld t) p.1 f o)) p.2) (wout (fld t) p.1 f o)
     | none=>o) a.1,a.2++b.2)
def VV {n:Nat} (ok:T->MV B n->Prop) (f:Fld B T) (v:B × MV B n):Prop:=(f.msg=true->v.1=b0/\ok f.sub v.2)/\(f.msg=false->f.val v.1/\v.2=mv0 B n)
def OkF {n:Nat} (ok:T->MV B n->Prop) (f:Fld B T) (l:List (B × MV B n)):Prop :=
 l≠[]/\(f.lab=2->∃ q,Srt f.lt q/\All (fun k v=>f.kok k/\VV b0 ok f v) q/\l=zB2 (mv0 B n) q)/\(f.lab≠1->f.lab≠2->∃ v:B × MV B n,l=[v]/\VV b0 ok f v)/\(f.lab=1->∀ x ∈ l,VV b0 ok f x)
variable (rok:B8->Prop)
def OkM (fld:T->Nat->Option (Fld B T)):∀ n,T->MV B n->Prop
 | 0,_,_=>True
 | n+1,t,m=>Srt nltB m.1/\All (fun k l=>∃ f,fld t k=some f/\OkF b0 (OkM fld n) f l) m.1/\(∀ p ∈ m.1,∀ q ∈ m.1,∀ f g,fld t p.1=some f->fld t q.1=some g->0<f.one->f.one=g.one->p.1=q.1)/\rok m.2
variable {rok}
theorem zIj {n:Nat} {rec:T->MV B n->MV B n->MV B n} {ok:T->MV B n->Prop} {f:Fld B T} (O:Ord f.lt) {l:List (B × MV B n)} (h:OkF b0 ok f l):opM b0 rec f none l=l:=by
 unfold opM
 split
 . rfl
 split
 . obtain ⟨q,hs,_,rfl⟩:=h.2.1 (by assumption)
   show zB2 _ (mrg f.lt _ [] (prs (zB2 _ q)))=_
   rw [zCl,zWc O _ (fun _ _=>rfl) hs]
 . split <;> rfl
theorem zKl {M:Type} {e:M} {q:List (B × (B × M))} (h:zB2 e q≠[]):q≠[]:=by
 rintro rfl;exact h rfl
theorem zNr {M:Type} {e:M} {q:List (B × (B × M))} (h:q≠[]):zB2 e q≠[]:=by
 cases q with
 | nil=>exact absurd rfl h
 | cons a q=>simp [zB2]
theorem zXo {K V:Type} {lt:K->K->Bool} {k:K} {v:V}:∀ {l:List (K × V)},put lt k v l≠[]
 | []=>by simp [put]
 | (a,x)::l=>by unfold put;split;simp;split <;> simp
theorem zU6 {K V:Type} {lt:K->K->Bool} {op:K->Option V->V->V}:∀ {b a:List (K × V)},b≠[]->mrg lt op a b≠[]
 | [],_,h=>absurd rfl h
 | [p],a,_=>zXo
 | p::q::b,a,_=>zU6 (b:=q::b) (by simp)
theorem zQ3 {n:Nat} {rec:T->MV B n->MV B n->MV B n} {ok:T->MV B n->Prop} (hr:∀ t a b,ok t a->ok t b->ok t (rec t a b)) {f:Fld B T} (O:Ord f.lt) {x l:List (B × MV B n)} (hx:OkF b0 ok f x) (h:OkF b0 ok f l):OkF b0 ok f (opM b0 rec f (some x) l):=by
 unfold opM
 split
 . rename_i h1
   refine ⟨by simp [h.1],fun e=>by omega,fun e=>by omega,fun _ x hx'=>?_⟩
   rcases List.mem_append.1 hx' with hx' | hx'
   . exact hx.2.2.2 h1 x hx'
   . exact h.2.2.2 h1 x hx'
 split
 . rename_i h2
   obtain ⟨q,hs,hk,rfl⟩:=h.2.1 h2
   obtain ⟨p,hp,hj,rfl⟩:=hx.2.1 h2
   refine ⟨zNr (zU6 ?_),fun _=>⟨_,zN3 O _ (by rw [Option.getD_some,zCl];exact hp),?_,rfl⟩,fun _ e=>absurd h2 e,fun e=>by omega⟩
   . rw [zCl];exact zKl h.1
   . rw [Option.getD_some,zCl,zCl]
     exact zQ4 O (P:=fun k v=>f.kok k/\VV b0 ok f v) (fun _ _ h=>h) (fun _ _ _ _ h=>h) hj hk
 . rename_i h1 h2
   obtain ⟨v,rfl,hv⟩:=h.2.2.1 h1 h2
   obtain ⟨w,rfl,hw⟩:=hx.2.2.1 h1 h2
   split
   . rename_i hm
     exact ⟨by simp,fun e=>absurd e h2,fun _ _=>⟨_,rfl,fun _=>⟨rfl,hr _ _ _ (hw.1 hm).2 (hv.1 hm).2⟩,fun e=>by rw [hm] at e;cases e⟩,fun e=>absurd e h1⟩
   . exact h
def zRh (rok:B8->Prop) (fld:T->Nat->Option (Fld B T)):Prop:=(∀ t k f,fld t k=some f->Ord f.lt)/\rok []/\∀ x y,rok x->rok y->rok (x++y)
theorem zDv {V:Type} {p:Nat × V->Bool}:∀ {o:List (Nat × V)},Srt nltB o->Srt nltB (o.filter p)
 | [],_=>trivial
 | (a,x)::o,h=>by
  rw [List.filter_cons]
  split
  . exact ⟨fun q hq=>h.1 q ((List.mem_filter.1 hq).1),zDv h.2⟩
  . exact zDv h.2
theorem zYj {fld:T->Nat->Option (Fld B T)} {n:Nat} {t:T} {k:Nat} {f:Fld B T} {l:List (B × MV B n)} {m:MV B (n+1)} (h:OkM b0 rok fld (n+1) t m) (hf:fld t k=some f) (hl:OkF b0 (OkM b0 rok fld n) f l):OkM b0 rok fld (n+1) t ((put nltB k l (wout (fld t) k f m.1),m.2):MV B (n+1)):=by
 have hk:∀ p ∈ put nltB k l (wout (fld t) k f m.1),p.1=k\/p ∈ wout (fld t) k f m.1:=fun p hp=>by
  rcases put_mem hp with rfl | h | ⟨x,_,e,h1,h2⟩
  . exact .inl rfl
  . exact .inr h
  . exact .inl (ordN.tri _ _ h1 h2)
 have hw:∀ p ∈ wout (fld t) k f m.1,∀ g,fld t p.1=some g->0<f.one->f.one=g.one->p.1=k:=fun p hp g hg h0 h1=>by
  have:=(List.mem_filter.1 hp).2
  simp only [hg] at this
  simp [h1] at this
  rcases this with h | h
  . omega
  . exact h
 refine ⟨srt_put ordN (zDv h.1),zPx ordN (fun p hp=>h.2.1 p ((List.mem_filter.1 hp).1)) ⟨f,hf,hl⟩,fun p hp q hq g i hg hi h0 h1=>?_,h.2.2.2⟩
 rcases hk p hp with e | hp'
 . rcases hk q hq with e' | hq'
   . rw [e,e']
   . rw [e,hf] at hg;cases hg
     rw [e,hw q hq' i hi h0 h1]
 . rcases hk q hq with e' | hq'
   . rw [e',hf] at hi;cases hi
     rw [e',hw p hp' g hg (h1 ▸ h0) h1.symm]
   . exact h.2.2.1 p ((List.mem_filter.1 hp').1) q ((List.mem_filter.1 hq').1) g i hg hi h0 h1
theorem zLc {fld:Nat->Option (Fld B T)} {W:Type} {P:Nat->W->Prop} {k:Nat} {f:Fld B T} {o:List (Nat × W)} (h:All P o):All P (wout fld k f o):=fun p hp=>h p ((List.mem_filter.1 hp).1)
theorem step_ok {fld:T->Nat->Option (Fld B T)} (ho:zRh rok fld) {n:Nat} (ih:∀ t a b,OkM b0 rok fld n t a->OkM b0 rok fld n t b->OkM b0 rok fld n t (zJu b0 fld n t a b)) {t:T} {o:List (Nat × List (B × MV B n))} {r':B8} (h:OkM b0 rok fld (n+1) t ((o,r'):MV B (n+1))) {k:Nat} {f:Fld B T} {l:List (B × MV B n)} (hf:fld t k=some f) (hl:OkF b0 (OkM b0 rok fld n) f l):OkM b0 rok fld (n+1) t ((put nltB k (opM b0 (zJu b0 fld n) f (get nltB k (wout (fld t) k f o)) l) (wout (fld t) k f o),r'):MV B (n+1)):=by
 refine zYj b0 h hf ?_
 cases hg:get nltB k (wout (fld t) k f o) with
 | none=>rw [zIj b0 (ho.1 _ _ _ hf) hl];exact hl
 | some x =>
  obtain ⟨g,hg',hx⟩:=zLc (fld:=fld t) (k:=k) (f:=f) h.2.1 (k,x) (get_mem ordN hg)
  rw [hf] at hg';cases hg'
  exact zQ3 b0 ih (ho.1 _ _ _ hf) hx hl
theorem zE2 {fld:T->Nat->Option (Fld B T)} (ho:zRh rok fld):∀ n t a b,OkM b0 rok fld n t a->OkM b0 rok fld n t b->OkM b0 rok fld n t (zJu b0 fld n t a b)
 | 0,_,_,_,_,_=>trivial
 | n+1,t,a,b,ha,hb=>by
  have key:∀ (l:List (Nat × List (B × MV B n))) (o:List (Nat × List (B × MV B n))) (r:B8),All (fun k l=>∃ f,fld t k=some f/\OkF b0 (OkM b0 rok fld n) f l) l->OkM b0 rok fld (n+1) t ((o,r):MV B (n+1))->OkM b0 rok fld (n+1) t ((l.foldl (fun o p=>match fld t p.1 with
   | some f=>put nltB p.1 (opM b0 (zJu b0 fld n) f (get nltB p.1 (wout (fld t) p.1 f o)) p.2) (wout (fld t) p.1 f o)
   | none=>o) o,r):MV B (n+1)):=by
   intro l
   induction l with
   | nil=>intro o r _ h;exact h
   | cons p l ih =>
    intro o r hl h
    obtain ⟨f,hf,hp⟩:=hl p (by simp)
    rw [List.foldl_cons,hf]
    exact ih _ r (fun q hq=>hl q (List.mem_cons_of_mem _ hq)) (step_ok b0 ho (zE2 ho n) (r':=r) h hf hp)
  exact key b.1 a.1 (a.2++b.2) hb.2.1 ⟨ha.1,ha.2.1,ha.2.2.1,ho.2.2 _ _ ha.2.2.2 hb.2.2.2⟩
end
end Go.Proofs.YtafeofghkhhhkaaGreat.IrM
namespace Go.Proofs.YtafeofghkhhhkaaGreat.IrM
open SL
open Go.Lib (compareBytes)
set_option maxRecDepth 100000
set_option maxHeartbeats 4000000
set_option linter.unusedVariables false
set_option linter.unusedSimpArgs false
theorem zLb:∀ a:B8,compareBytes a a=0
 | []=>rfl
 | x::a=>by
  unfold compareBytes
  rw [if_neg (UInt8.lt_irrefl x),if_neg (UInt8.lt_irrefl x)]
  exact zLb a
theorem zX2:∀ {a b:B8},compareBytes a b=0->a=b
 | [],[],_=>rfl
 | [],_::_,h=>by simp [compareBytes] at h
 | _::_,[],h=>by simp [compareBytes] at h
 | x::a,y::b,h=>by
  unfold compareBytes at h
  by_cases h1:x<y
  . simp [h1] at h
  by_cases h2:y<x
  . simp [h1,h2] at h
  rw [if_neg h1,if_neg h2] at h
  rw [UInt8.le_antisymm (UInt8.not_lt.1 h2) (UInt8.not_lt.1 h1),zX2 h]
theorem zMv:∀ a b:B8,compareBytes b a=- compareBytes a b
 | [],[]=>rfl
 | [],_::_=>by simp [compareBytes]
 | _::_,[]=>by simp [compareBytes]
 | x::a,y::b=>by
  unfold compareBytes
  by_cases h1:x<y
  . have h2:¬ y<x:=fun h=>UInt8.lt_irrefl x (UInt8.lt_trans h1 h)
    simp [h1,h2]
  by_cases h2:y<x
  . simp [h1,h2]
  simp only [if_neg h1,if_neg h2]
  exact zMv a b
theorem zOl:∀ {a b c:B8},compareBytes a b<0->compareBytes b c<0->compareBytes a c<0
 | [],[],_,h,_=>by simp [compareBytes] at h
 | [],_::_,[],_,h=>by simp [compareBytes] at h
 | [],_::_,_::_,_,_=>by simp [compareBytes]
 | _::_,[],_,h,_=>by simp [compareBytes] at h
 | _::_,_::_,[],_,h=>by simp [compareBytes] at h
 | x::a,y::b,z::c,h1,h2=>by
  unfold compareBytes at h1 h2 ⊢
  by_cases hxy:x<y
  . by_cases hyz:y<z
    . simp [UInt8.lt_trans hxy hyz]
    . by_cases hzy:z<y
      . simp [hyz,hzy] at h2
      . have e:y=z:=UInt8.le_antisymm (UInt8.not_lt.1 hzy) (UInt8.not_lt.1 hyz)
        subst e
        simp [hxy]
  . by_cases hyx:y<x
    . simp [hxy,hyx] at h1
    . have e:x=y:=UInt8.le_antisymm (UInt8.not_lt.1 hyx) (UInt8.not_lt.1 hxy)
      subst e
      rw [if_neg hxy,if_neg hxy] at h1
      by_cases hyz:x<z
      . simp [hyz]
      . by_cases hzy:z<x
        . simp [hyz,hzy] at h2
        . rw [if_neg hyz,if_neg hzy] at h2 ⊢
          exact zOl h1 h2
def sgn (n:Int):Int:=if n<9223372036854775808 then n else n - 18446744073709551616
def ltV (s:Bool) (a b:Int × B8):Bool :=
 let x:=if s then sgn a.1 else a.1
 let y:=if s then sgn b.1 else b.1
 if x<y then true else if y<x then false else if a.1<b.1 then true else if b.1<a.1 then false else decide (compareBytes a.2 b.2<0)
theorem ordV (s:Bool):Ord (ltV s) where
 irr a:=by simp [ltV,zLb]
 trans a b c h1 h2:=by
  simp only [ltV] at *
  generalize (if s=true then sgn a.1 else a.1)=x at *
  generalize (if s=true then sgn b.1 else b.1)=y at *
  generalize (if s=true then sgn c.1 else c.1)=z at *
  by_cases hxz:x<z
  . simp [hxz]
  by_cases hzx:z<x
  . exfalso
    split at h1
    . split at h2
      . omega
      . split at h2
        . cases h2
        . omega
    . split at h1
      . cases h1
      . split at h2
        . omega
        . split at h2
          . cases h2
          . omega
  rw [if_neg hxz,if_neg hzx]
  have hxy:x=y/\y=z:=by
   split at h1
   . split at h2
     . omega
     . split at h2
       . cases h2
       . omega
   . split at h1
     . cases h1
     . split at h2
       . omega
       . split at h2
         . cases h2
         . omega
  obtain ⟨rfl,rfl⟩:=hxy
  simp only [Int.lt_irrefl,if_false] at h1 h2
  by_cases h3:a.1<c.1
  . simp [h3]
  by_cases h4:c.1<a.1
  . exfalso
    split at h1
    . split at h2
      . omega
      . split at h2
        . cases h2
        . omega
    . split at h1
      . cases h1
      . split at h2
        . omega
        . split at h2
          . cases h2
          . omega
  rw [if_neg h3,if_neg h4]
  have h5:a.1=b.1/\b.1=c.1:=by
   split at h1
   . split at h2
     . omega
     . split at h2
       . cases h2
       . omega
   . split at h1
     . cases h1
     . split at h2
       . omega
       . split at h2
         . cases h2
         . omega
  rw [h5.1,h5.2] at h1
  rw [h5.2] at h2
  simp only [Int.lt_irrefl,if_false,decide_eq_true_eq] at h1 h2 ⊢
  exact zOl h1 h2
 tri a b h1 h2:=by
  simp only [ltV] at *
  generalize (if s=true then sgn a.1 else a.1)=x at *
  generalize (if s=true then sgn b.1 else b.1)=y at *
  by_cases hxy:x<y
  . simp [hxy] at h1
  by_cases hyx:y<x
  . simp [hyx] at h2
  rw [if_neg hxy,if_neg hyx] at h1
  rw [if_neg hyx,if_neg hxy] at h2
  by_cases h3:a.1<b.1
  . simp [h3] at h1
  by_cases h4:b.1<a.1
  . simp [h4] at h2
  rw [if_neg h3,if_neg h4] at h1
  rw [if_neg h4,if_neg h3] at h2
  simp only [decide_eq_false_iff_not] at h1 h2
  have e:=zMv a.2 b.2
  exact Prod.ext (by omega) (zX2 (by omega))
end Go.Proofs.YtafeofghkhhhkaaGreat.IrM
namespace Go.Proofs.YtafeofghkhhhkaaGreat.IrM
open Go.CI
open Go.Lib (compareBytes)
set_option maxRecDepth 100000
set_option maxHeartbeats 4000000
set_option linter.unusedVariables false
set_option linter.unusedSimpArgs false
theorem zG0:∀ a b:B8,zCp a b=decide (compareBytes a b<0)
 | [],[]=>by simp [zCp,compareBytes]
 | [],_::_=>by simp [zCp,compareBytes]
 | _::_,[]=>by simp [zCp,compareBytes]
 | x::a,y::b=>by
  unfold zCp compareBytes
  by_cases h1:x<y
  . simp [h1]
  by_cases h2:y<x
  . have h3:x≠y:=fun e=>h1 (e ▸ (e ▸ h2))
    simp [h1,h2,h3]
  . have e:x=y:=UInt8.le_antisymm (UInt8.not_lt.1 h2) (UInt8.not_lt.1 h1)
    subst e
    simp [h1,zG0 a b]
theorem zD6 (s:Bool) (n:Int) (a b:B8):ltV s (n,a) (n,b)=zCp a b:=by
 rw [zG0]
 simp [ltV]
theorem zR9 (s:Bool) {n m:Int} (hn:0<=n) (hn':n<18446744073709551616) (hm:0<=m) (hm':m<18446744073709551616):ltV s (n,[]) (m,[])=if s then decide (sgn n<sgn m) else decide (n<m):=by
 unfold ltV
 cases s
 . simp only [Bool.false_eq_true,if_false]
   by_cases h1:n<m
   . simp [h1]
   by_cases h2:m<n
   . simp [h1,h2]
   . simp [h1,h2,zLb]
 . simp only [if_true]
   by_cases h1:sgn n<sgn m
   . simp [h1]
   by_cases h2:sgn m<sgn n
   . simp [h1,h2]
   . have e:n=m:=by
      unfold sgn at h1 h2
      by_cases h3:n<9223372036854775808 <;> by_cases h4:m<9223372036854775808 <;> simp only [if_pos,if_neg,h3,h4,not_false_eq_true,if_true,if_false] at h1 h2 <;> omega
     subst e
     simp [zLb]
end Go.Proofs.YtafeofghkhhhkaaGreat.IrM
namespace Go.Proofs.YtafeofghkhhhkaaGreat.IrM
open Go Go.CI
set_option maxRecDepth 100000
set_option maxHeartbeats 4000000
set_option linter.unusedVariables false
set_option linter.unusedSimpArgs false
attribute [local irreducible] W Wo Wc WoR
def zGg (t:Tag):Prop:=t=.none\/t=.full
inductive All2 {α β:Type} (R:α->β->Prop):List α->List β->Prop
 | nil:All2 R [] []
 | cons {a:α} {b:β} {l:List α} {m:List β}:R a b->All2 R l m->All2 R (a::l) (b::m)
section
variable {α β:Type} {R:α->β->Prop}
theorem All2.len {l:List α} {m:List β} (h:All2 R l m):m.length=l.length:=by
 induction h with
 | nil=>rfl
 | cons _ _ ih=>simp [ih]
theorem All2.app {l l':List α} {m m':List β} (h:All2 R l m) (h':All2 R l' m'):All2 R (l++l') (m++m'):=by
 induction h with
 | nil=>exact h'
 | cons a _ ih=>exact .cons a ih
theorem All2.mono {S:α->β->Prop} (hs:∀ a b,R a b->S a b) {l:List α} {m:List β} (h:All2 R l m):All2 S l m:=by
 induction h with
 | nil=>exact .nil
 | cons a _ ih=>exact .cons (hs _ _ a) ih
theorem All2.at {l:List α} {m:List β} (h:All2 R l m) {i:Nat} {x:α} (hi:l[i]? = some x):∃ y,m[i]? = some y/\R x y:=by
 induction h generalizing i with
 | nil=>cases hi
 | cons a _ ih=>cases i with
  | zero=>cases hi;exact ⟨_,rfl,a⟩
  | succ i=>exact ih hi
theorem All2.take {l:List α} {m:List β} (h:All2 R l m) (i:Nat):All2 R (l.take i) (m.take i):=by
 induction h generalizing i with
 | nil=>simpa using All2.nil
 | cons a _ ih=>cases i with
  | zero=>exact .nil
  | succ i=>exact .cons a (ih i)
theorem All2.drop {l:List α} {m:List β} (h:All2 R l m) (i:Nat):All2 R (l.drop i) (m.drop i):=by
 induction h generalizing i with
 | nil=>simpa using All2.nil
 | cons a h ih=>cases i with
  | zero=>exact .cons a h
  | succ i=>exact ih i
theorem All2.set {l:List α} {m:List β} (h:All2 R l m) (i:Nat) {x:α} {y:β} (hx:R x y):All2 R (l.set i x) (m.set i y):=by
 induction h generalizing i with
 | nil=>exact .nil
 | cons a h ih=>cases i with
  | zero=>exact .cons hx h
  | succ i=>exact .cons a (ih i)
theorem All2.nil_inv {m:List β} (h:All2 R ([]:List α) m):m=[]:=by cases h;rfl
theorem All2.cons_inv {a:α} {l:List α} {m:List β} (h:All2 R (a::l) m):∃ b r,m=b::r/\R a b/\All2 R l r:=by cases h with | cons x y=>exact ⟨_,_,rfl,x,y⟩
end
def LRep {α:Type} (Z:Nat) (R:α->CVal->Prop) (k:Nat) (l:List α) (v:CVal):Prop:=l.length<=Z/\∃ es,All2 R l es/\((v=.nils/\es=[])\/∃ t,zGg t/\v=.imm t k es)
theorem LRep.mono {α:Type} {Z Z':Nat} {R S:α->CVal->Prop} {k:Nat} {l:List α} {v:CVal} (h:LRep Z R k l v) (hz:Z<=Z') (hs:∀ a b,R a b->S a b):LRep Z' S k l v:=by
 obtain ⟨h1,es,h2,h3⟩:=h
 exact ⟨Nat.le_trans h1 hz,es,h2.mono hs,h3⟩
theorem LRep.p {α:Type} {Z:Nat} {R:α->CVal->Prop} {k:Nat} {l:List α} {v:CVal} (h:LRep Z R k l v):PV1 v:=by
 obtain ⟨_,es,_,⟨rfl,_⟩ | ⟨t,rfl | rfl,rfl⟩⟩:=h <;> exact ⟨rfl,rfl,rfl,rfl,rfl⟩
theorem LRep.nil {α:Type} {Z:Nat} {R:α->CVal->Prop} {k:Nat}:LRep Z R k ([]:List α) .nils:=⟨Nat.zero_le _,[],.nil,.inl ⟨rfl,rfl⟩⟩
theorem LRep.imm {α:Type} {Z:Nat} {R:α->CVal->Prop} {k:Nat} {l:List α} {es:List CVal} {t:Tag} (h:All2 R l es) (ht:zGg t) (hl:l.length<=Z):LRep Z R k l (.imm t k es):=⟨hl,es,h,.inr ⟨t,ht,rfl⟩⟩
abbrev BV:=Int × B8
abbrev MVB:=MV BV
def RV {M:Type} (R:M->CVal->B8->Prop) (x:BV × M) (c:CVal):Prop:=∃ F r,c=.agg [.int .u64 x.1.1,.str x.1.2,F,.str r]/\0<=x.1.1/\x.1.1<18446744073709551616/\PV1 F/\R x.2 F r
def RF {M:Type} (Z:Nat) (R:M->CVal->B8->Prop) (x:Nat × List (BV × M)) (c:CVal):Prop:=∃ L,c=.agg [.int .i64 (x.1:Nat),L]/\PV1 L/\LRep Z (RV R) 4 x.2 L
def RM (Z:Nat):∀ n,MVB n->CVal->B8->Prop
 | 0,_,F,r=>LRep Z (fun (_:Unit) _=>False) 2 [] F/\r=[]
 | n+1,m,F,r=>LRep Z (RF Z (RM Z n)) 2 m.1 F/\r=m.2/\r.length<=Z
theorem RV.mono {M:Type} {R S:M->CVal->B8->Prop} (h:∀ m F r,R m F r->S m F r) {x:BV × M} {c:CVal} (hx:RV R x c):RV S x c:=by
 obtain ⟨F,r,e,h1,h2,h3,h4⟩:=hx
 exact ⟨F,r,e,h1,h2,h3,h _ _ _ h4⟩
theorem RF.mono {M:Type} {Z Z':Nat} (hz:Z<=Z') {R S:M->CVal->B8->Prop} (h:∀ m F r,R m F r->S m F r) {x:Nat × List (BV × M)} {c:CVal} (hx:RF Z R x c):RF Z' S x c:=by
 obtain ⟨L,e,h1,h2⟩:=hx
 exact ⟨L,e,h1,h2.mono hz fun _ _=>RV.mono h⟩
theorem RM.mono {Z Z':Nat} (hz:Z<=Z'):∀ n m F r,RM Z n m F r->RM Z' n m F r
 | 0,_,_,_,h=>⟨h.1.mono hz fun _ _ h=>h,h.2⟩
 | n+1,_,_,_,h=>⟨h.1.mono hz fun _ _=>RF.mono hz (RM.mono hz n),h.2.1,Nat.le_trans h.2.2 hz⟩
theorem RM.p {Z n:Nat} {m:MVB n} {F:CVal} {r:B8} (h:RM Z n m F r):PV1 F:=by
 cases n with
 | zero=>exact h.1.p
 | succ n=>exact h.1.p
theorem RM.zero {Z n:Nat}:RM Z n (mv0 BV n) .nils []:=by
 cases n with
 | zero=>exact ⟨LRep.nil,rfl⟩
 | succ n=>exact ⟨LRep.nil,rfl,Nat.zero_le _⟩
theorem zAk:∀ {es:List CVal} {i:Nat} {c:CVal},es[i]? = some c->nth es i=c
 | [],_,_,h=>by cases h
 | _::_,0,_,h=>by cases h;rfl
 | _::r,i+1,_,h=>zAk (es:=r) h
def PuR (f:Nat) (ar:List CVal) (R:CVal->Prop):Prop:=∀ h:CHeap,Fit h->∀ K:KT,(∀ v n',R v->h.next<=n'->K v ⟨h.ents,n',h.tys⟩)->Wc TF f ar h K
theorem pr_ {f:Nat} {ar:List CVal} {R:CVal->Prop} (H:PuR f ar R) {E:EE} {nx:Nat} {ty:NN} {K:KT} (hk:∀ v n2,R v->nx<=n2->K v ⟨E,n2,ty⟩) (hf:Fit ⟨E,nx,ty⟩:=by exact ft_):Wc TF f ar ⟨E,nx,ty⟩ K:=H _ hf K hk
theorem PV1.five {v:CVal} (h:PV1 v):v.isUndef=false/\v.whole=true/\v.cells=[v]/\v.strip=v/\v.bare=v/\(CVal.tup [v]).bare=.tup [v]:=⟨h.u,h.w,h.c,h.s,h.b,by
 have hc:=h.c
 have hs:=h.s
 cases v with
 | agg cs=>simp only [CVal.cells] at hc;have h2:SizeOf.sizeOf cs=SizeOf.sizeOf [CVal.agg cs]:=congrArg SizeOf.sizeOf hc;simp at h2;omega
 | imm t k es=>cases t <;> simp_all [CVal.bare,CVal.strip]
 | _=>rfl⟩
theorem lbs_:(∀ x:CVal,x.beq x=true)/\∀ l:List CVal,beqs l l=true:=⟨fun x=>zB4 x,fun l=>by have:=zB4 (CVal.agg l);simpa using this⟩
theorem pq_ {v:CVal} {P R:Prop} (h:PV1 v) (r:R->P) (g:(v.isUndef=false/\v.whole=true/\v.cells=[v]/\v.strip=v/\v.bare=v/\(CVal.tup [v]).bare=.tup [v])->R:=by (intro q_;first | (simp only [CVal.isUndef,CVal.whole,CVal.cells,CVal.strip,CVal.bare,List.map,CVal.tup.injEq,List.cons.injEq,and_true] at q_;exact q_) | exact q_)):P:=r (g h.five)
theorem zZr {es fs:List CVal} {L:Nat} (h1:es.length=L) (h2:fs.length=L) (hL:L<=1000000) {t t1:Tag} (hS:∀ i,i<L->∃ k A k1 A1,es[i]? = some (.agg [.int .i64 k,A])/\fs[i]? = some (.agg [.int .i64 k1,A1])/\PV1 A/\PV1 A1/\Pe 42 [.agg [.int .i64 k,A],.agg [.int .i64 k1,A1]] (.bool true)) {hh:CHeap} (hf:Fit hh) {v2:CVal} {Q:QT}
    (hk:∀ (v5 v7 v9 v10 v11:CVal) n',hh.next<=n'->Q (.exit 0) ⟨[.imm t 2 es,.imm t1 2 fs,v2,.int .i64 (L:Nat),.int .i64 (L:Nat),v5,.imm t 2 es,v7,.fn (.func 42) [] [],v9,v10,v11,.bool false],⟨hh.ents,n',hh.tys⟩,[]⟩) :
    ∀ (m i nx:Nat) (v5 v7 v9 v10 v11:CVal),i+m=L->hh.next<=nx->W TF ef2L ⟨[.imm t 2 es,.imm t1 2 fs,v2,.int .i64 (i:Nat),.int .i64 (L:Nat),v5,.imm t 2 es,v7,.fn (.func 42) [] [],v9,v10,v11,.bool false],⟨hh.ents,nx,hh.tys⟩,[]⟩ Q:=by
 intro m
 induction m with
 | zero =>
  intro i nx v5 v7 v9 v10 v11 e1 e2
  obtain rfl:i=L:=by omega
  refine W.loop ?_
  try refine w0_ ?_
  refine hk _ _ _ _ _ _ ?_;exact om_
 | succ m ih =>
  intro i nx v5 v7 v9 v10 v11 e1 e2
  obtain ⟨hu,hut,hX⟩:=fx4 (show Fit ⟨hh.ents,nx,hh.tys⟩ from ⟨hf.1.le e2,hf.2.le e2⟩)
  dsimp only at hX hu hut
  have hlt:(i:Int)<(L:Int):=by omega
  obtain ⟨k,A,k1,A1,q1,q2,p1,p2,H⟩:=hS i om_
  have m1:=zAk q1
  have m2:=zAk q2
  refine pq_ p1 fun p1=>?_
  refine pq_ p2 fun p2=>?_
  refine W.loop ?_
  have hZ:=j10_ hX hlt q1 q2 p1 p2 m1 m2 h1 h2
  repeat (first
   | refine vk_ ?_
   | (refine pe_ (H) fun n1 hn1=>⟨rfl,?_⟩))
  have ih1:=fun nx v5 v7 v9 v10 v11 (h:_<=nx)=>ih (i+1) nx v5 v7 v9 v10 v11 om_ h
  push_cast at ih1
  refine dx_ ?_
  refine ih1 _ _ _ _ _ _ ?_;exact om_
theorem zXp {es fs:List CVal} {L:Nat} (h1:es.length=L) (h2:fs.length=L) (hL:L<=1000000) {t t1:Tag} (hS:∀ i,i<L->∃ b s A r b1 s1 A1 r1,es[i]? = some (.agg [.int .u64 b,.str s,A,.str r])/\fs[i]? = some (.agg [.int .u64 b1,.str s1,A1,.str r1])/\PV1 A/\PV1 A1/\Pe 94 [.agg [.int .u64 b,.str s,A,.str r],.agg [.int .u64 b1,.str s1,A1,.str r1]] (.bool true)) {hh:CHeap} (hf:Fit hh) {v2:CVal} {Q:QT}
    (hk:∀ (v5 v7 v9 v10 v11:CVal) n',hh.next<=n'->Q (.exit 0) ⟨[.imm t 4 es,.imm t1 4 fs,v2,.int .i64 (L:Nat),.int .i64 (L:Nat),v5,.imm t 4 es,v7,.fn (.func 94) [] [],v9,v10,v11,.bool false],⟨hh.ents,n',hh.tys⟩,[]⟩) :
    ∀ (m i nx:Nat) (v5 v7 v9 v10 v11:CVal),i+m=L->hh.next<=nx->W TF ef4L ⟨[.imm t 4 es,.imm t1 4 fs,v2,.int .i64 (i:Nat),.int .i64 (L:Nat),v5,.imm t 4 es,v7,.fn (.func 94) [] [],v9,v10,v11,.bool false],⟨hh.ents,nx,hh.tys⟩,[]⟩ Q:=by
 intro m
 induction m with
 | zero =>
  intro i nx v5 v7 v9 v10 v11 e1 e2
  obtain rfl:i=L:=by omega
  refine W.loop ?_
  try refine w0_ ?_
  refine hk _ _ _ _ _ _ ?_;exact om_
 | succ m ih =>
  intro i nx v5 v7 v9 v10 v11 e1 e2
  obtain ⟨hu,hut,hX⟩:=fx4 (show Fit ⟨hh.ents,nx,hh.tys⟩ from ⟨hf.1.le e2,hf.2.le e2⟩)
  dsimp only at hX hu hut
  have hlt:(i:Int)<(L:Int):=by omega
  obtain ⟨b,s,A,r,b1,s1,A1,r1,q1,q2,p1,p2,H⟩:=hS i om_
  have m1:=zAk q1
  have m2:=zAk q2
  refine pq_ p1 fun p1=>?_
  refine pq_ p2 fun p2=>?_
  refine W.loop ?_
  have hZ:=j10_ hX hlt q1 q2 p1 p2 m1 m2 h1 h2
  repeat (first
   | refine vk_ ?_
   | (refine pe_ (H) fun n1 hn1=>⟨rfl,?_⟩))
  have ih1:=fun nx v5 v7 v9 v10 v11 (h:_<=nx)=>ih (i+1) nx v5 v7 v9 v10 v11 om_ h
  push_cast at ih1
  refine dx_ ?_
  refine ih1 _ _ _ _ _ _ ?_;exact om_
end Go.Proofs.YtafeofghkhhhkaaGreat.IrM
