/- What the functions of the law 'PruleMade' do: part 7 of 8. -/
import Derived.Test.YtcokdlfmnhjngaaGreatLx6
namespace Go.Proofs.YtcokdlfmnhjngaaGreat.IrE
open Go Go.CI
set_option maxRecDepth 100000
set_option maxHeartbeats 4000000
set_option linter.unusedVariables false
set_option linter.unusedSimpArgs false
attribute [local irreducible] W Wo Wc WoR
structure MI (h0:CHeap) (b1 pm p7:Nat) (NV:List CVal) (whole:B8) (O:CVal) (acc:List RW) (hh:CHeap):Prop where
 fit:Fit hh
 nx:h0.next ≤ hh.next
 g1:zA1 hh.ents b1 = some (.cells NV)
 gm:∃ Fv,zA1 hh.ents pm = some (.cells [.str whole,Fv,O]) ∧ ((Fv = .nils ∧ acc = []) ∨ ∃ i u,Fv = .imm (.own i u) 8 (acc.map RW.pf))
 g7:zA1 hh.ents p7 = some (.cells [.str [],.nils,.nils])
 l1:h0.next ≤ b1
 lm:h0.next ≤ pm
 l7:h0.next ≤ p7
 n1:b1 ≠ pm
 n2:p7 ≠ pm
 fr:∀ q,q < h0.next → zA1 hh.ents q = zA1 h0.ents q
theorem MI.next {h0 hh:CHeap} {b1 pm p7:Nat} {NV:List CVal} {whole:B8} {O:CVal} {acc acc':List RW} (M:MI h0 b1 pm p7 NV whole O acc hh) {H:EE} {i u n:Nat} {ty:NN} (hi:hh.next ≤ i) (hn:hh.next ≤ n) (hin:i < n) (hU:Under H n) (hT:zA9 ty n)
    (fr:∀ q,q < hh.next → q ≠ pm → zA1 H q = zA1 hh.ents q) (gE:zA1 H pm = some (.cells [.str whole,.imm (.own i u) 8 (acc'.map RW.pf),O])):MI h0 b1 pm p7 NV whole O acc' ⟨zAc ((i,.tok u) :: H) hh.next,n,ty⟩:=by
 obtain ⟨Fv,gm,_⟩:=M.gm
 have lm:=zA5 M.fit.1 gm
 have l1:=zA5 M.fit.1 M.g1
 have l7:=zA5 M.fit.1 M.g7
 have nx:=M.nx
 have key:∀ q,q < hh.next → q ≠ pm → zA1 (zAc ((i,.tok u) :: H) hh.next) q = zA1 hh.ents q:=fun q q1 q2 => by
  rw [zCp q1,zA7 (by omega)]; exact fr q q1 q2
 refine ⟨⟨zC0 (Under.cons hin hU),hT⟩,by dsimp only; omega,?_,⟨.imm (.own i u) 8 (acc'.map RW.pf),?_,.inr ⟨i,u,rfl⟩⟩,?_,M.l1,M.lm,M.l7,M.n1,M.n2,fun q q1 => ?_⟩
 · dsimp only; rw [key b1 l1 M.n1]; exact M.g1
 · dsimp only; rw [zCp lm,zA7 (by omega)]; exact gE
 · dsimp only; rw [key p7 l7 M.n2]; exact M.g7
 · dsimp only; rw [key q (by omega) (by have:=M.lm; omega)]; exact M.fr q q1
theorem msg_one {h0 hh:CHeap} {b1 pm p7:Nat} {FV O:CVal} {whole n:B8} {L:List CVal} {r:RW} {Ls acc:List RW} (M:MI h0 b1 pm p7 [.str whole,.int .i64 16,.str n,.imm .none 7 L,O,.nils,.nils,.nils,.nils,.str [],.nils,.str [120]] whole O acc hh) (ro:r.ok) (HO:PV1 O) (HV:PV1 FV) (HH:Pe 137 [O,.str r.nm] (.bool false))
    (HFd:zBx r.t = 0 → ∀ (h:CHeap),Fit h → ∀ (K:KT),(∀ h',PG h h' → K (.tup [.str r.ty,.int .i64 r.kind,.int .i64 0]) h') → Wc tree.getF 173 [FV,.str [120],.str whole,.str r.t] h K)
    (hL:L = Ls.map RW.v) (hl9:Ls.length ≤ 100) (ha9:acc.length ≤ 100) {i:Nat} (hi:Ls[i]? = some r) (hd:∀ x ∈ Ls.take i,x.num ≠ r.num ∧ x.nm ≠ r.nm) {v0 v3 v4 v5 v8 v9 v10 v11 v12 v13 v15 v16 v17 v18 v19 v20 v21 v22 v23 v24 v25 v26 v27:CVal} {Q:QT}
    (hk:∀ (v3 v4 v5 v8 v9 v10 v11 v12 v13 v15 v16 v17 v18 v19 v20 v21 v22:CVal) h',MI h0 b1 pm p7 [.str whole,.int .i64 16,.str n,.imm .none 7 L,O,.nils,.nils,.nils,.nils,.str [],.nils,.str [120]] whole O (insR r acc) h' → W tree.getF msgL ⟨[v0,.ptr b1 211812364 0,.int .i64 ((i:Int) + 1),v3,v4,v5,.ptr pm 49283075 0,.ptr p7 49283075 0,v8,v9,v10,v11,v12,v13,FV,v15,v16,v17,v18,v19,v20,v21,v22,v23,v24,v25,v26,v27,.int .i64 0],h',[]⟩ Q) :
    W tree.getF msgL ⟨[v0,.ptr b1 211812364 0,.int .i64 (i:Int),v3,v4,v5,.ptr pm 49283075 0,.ptr p7 49283075 0,v8,v9,v10,v11,v12,v13,FV,v15,v16,v17,v18,v19,v20,v21,v22,v23,v24,v25,v26,v27,.int .i64 0],hh,[]⟩ Q:=by
 have hf:=M.fit
 obtain ⟨hu,hut,hX⟩:=fx4 hf
 obtain ⟨Fv,gm,hF⟩:=M.gm
 replace hF:(Fv = .nils ∧ acc = []) ∨ ∃ tg,Fv = .imm tg 8 (acc.map RW.pf):=hF.imp id fun ⟨i,u,e⟩ => ⟨.own i u,e⟩
 have g1:=M.g1
 have hil:i < Ls.length:=(List.getElem?_eq_some_iff.1 hi).1
 have hn:nth L i = r.v:=by rw [hL]; exact zCs RW.v Ls i r hi
 have hn2:L[i]? = some r.v:=by rw [hL,List.getElem?_map,hi]; rfl
 have hlen:L.length = Ls.length:=by rw [hL,List.length_map]
 have hlt:(i:Int) < (Ls.length:Int):=by omega
 have l1:=zA5 hu g1
 have lm:=zA5 hu gm
 obtain ⟨o1,o2,o3,o4,o5⟩:=id HO
 simp only [CVal.isUndef,CVal.whole,CVal.cells,CVal.strip,CVal.bare] at o1 o2 o3 o4 o5
 have BF:=@bad_F n r.t r.key r.nm (.imm .none 7 L) O r.lab r.pk r.oo r.num ro.num1 ro.num2
 have q1:=ro.num1
 have q2:=ro.num2
 have bO:O.beq O = true:=zBg _
 unfold RW.v ffV at hn hn2
 have fin:∀ (H:CHeap) (ix:Nat) (X:CObj) (i4 u n:Nat),True:=fun _ _ _ _ _ _ => trivial
 refine W.loop ?_
 repeat ((fail_if_success (show W tree.getF (.seq (.seq (.R [.k 3 12,.l 0,.g (.bin .eql (.loc 0) (.const (.int .i64 0)))] [(13,2)]) _) _) _ _)); first
  | refine st_ rfl ?_
  | ((first | refine W.regG ?_ | refine WoR.go ?_); generalize e:goR .. = r; simp (disch:=omega) [hX,g1,gm,hn,hn2,hlen,hlt,o1,o2,o3,o4,o5,bO,q1,q2,hil] at e; replace e:some _ = _:=e; subst e; (try dsimp only [goW]))
  | ((simp only [zAd,zA3,zA8,zAa,zAb,reduceIte]))
  | (refine pe_ (BF) fun _ g => ⟨rfl,?_⟩; (try dsimp only at g))
  | (refine pe_ HH fun nH gH => ⟨rfl,?_⟩; (try dsimp only at gH))
  | (refine pe_ (kind_F r.t) fun nA gA => ⟨rfl,?_⟩; (try dsimp only at gA))
  | (refine pe_ (kind_F r.key) fun nB gB => ⟨rfl,?_⟩; (try dsimp only at gB))
  | (refine dup_go (hh:=⟨_,_,_⟩) (L:=L) (n:=n) (whole:=whole) (O:=O) (r:=r) ?_ hL ?_ ?_ (i:=i) (by omega) hl9 hd (fun v8 v9 v10 n' g => ?_) i 0 _ _ _ (by simp) (Nat.le_refl _); exact ft_; (focus ((simp (disch:=omega) [zA1,g1]; done))); (focus ((simp (disch:=omega) [zA1]; done))); (try dsimp only at g)))
 obtain ⟨f1,f2,f3,f4,f5⟩:=HV
 simp only [CVal.isUndef,CVal.whole,CVal.cells,CVal.strip,CVal.bare] at f1 f2 f3 f4 f5
 by_cases hz:zBx r.t = 0
 · have HFz:=HFd hz
   have hz1:(zBx r.t:Int) = 0:=by omega
   have hz2:((zBx r.t:Int) == 0) = true:=by simp [hz]
   repeat ((fail_if_success (show W tree.getF zH4 _ _)); first
    | refine st_ rfl ?_
    | ((first | refine W.regG ?_ | refine WoR.go ?_); generalize e:goR .. = r; simp (disch:=omega) [hX,g1,gm,hn,hn2,hlen,hlt,o1,o2,o3,o4,o5,bO,q1,q2,hil,hz1,hz2,f1,f2,f3,f4,f5] at e; replace e:some _ = _:=e; subst e; (try dsimp only [goW]))
    | ((simp only [zAd,zA3,zA8,zAa,zAb,reduceIte]))
    | (refine HFz _ ft_ _ fun h2 P => ⟨rfl,?_⟩))
   have f9:=P.fit
   have nx2:=P.nx
   dsimp only at nx2
   have gx2:zA1 h2.ents (nH + 1 + 1 + 1 + 1 + 1 + 1 + 1 + 1 + 1 + 1 + 1 + 1 + 1 + 1 + 1 + 1) = some (.cells [.int .i64 r.num,.str r.nm,.int .i64 r.lab,.int .i64 0,.str [],.int .i64 (zBx r.key:Int),.bool false,.int .i64 r.oo]):=(P.fr (nH + 1 + 1 + 1 + 1 + 1 + 1 + 1 + 1 + 1 + 1 + 1 + 1 + 1 + 1 + 1 + 1) (by dsimp only; omega)).trans (by simp [zA1])
   have g42:zA1 h2.ents (hh.next + 6 + 1 + 1 + 1 + 1 + 1 + 1) = some (.cells [.int .i64 r.lab,.str r.t,.str r.key,.str r.nm,.int .u64 r.num,.int .i64 r.pk,.int .i64 r.oo]):=(P.fr (hh.next + 6 + 1 + 1 + 1 + 1 + 1 + 1) (by dsimp only; omega)).trans (by simp (disch:=omega) [zA1])
   have gm2:zA1 h2.ents pm = some (.cells [.str whole,Fv,O]):=(P.fr pm (by dsimp only; omega)).trans (by simp (disch:=omega) [zA1,gm])
   obtain ⟨hu2,hut2,hX2⟩:=fx4 f9
   have hY2:=fx5 f9 gx2
   have hk0:(zBx r.t:Int) = 0:=hz1
   repeat ((fail_if_success (show W tree.getF zH4 _ _)); first
    | refine st_ rfl ?_
    | ((first | refine W.regG ?_ | refine WoR.go ?_); generalize e:goR .. = r; simp (disch:=omega) [hX2,hY2,gx2,g42,gm2,hk0] at e; replace e:some _ = _:=e; subst e; (try dsimp only [goW]))
    | ((simp only [zAd,zA3,zA8,zAa,zAb,reduceIte])))
   refine tail_F (hh:=⟨_,_,_⟩) (L:=L) (n:=n) (whole:=whole) (O:=O) (r:=r) (acc:=acc) (Fv:=Fv) ?_ ro ha9 hF ?_ ?_ ?_ ?_ ?_ ?_ HO (fun v19 v20 v21 v22 n' j u c1 c2 c3 => ?_)
   · exact ⟨(Under.set hu2).le (by dsimp only; omega),hut2.le (by dsimp only; omega)⟩
   · dsimp only; rw [zA0 (by omega)]; exact gm2
   · exact hY2.1 _
   · dsimp only; rw [zA0 (by omega)]; exact g42
   · omega
   · omega
   · omega
   dsimp only at c1 c2 c3
   (simp only [zAd,zA3,zA8,zAa,zAb,reduceIte])
   repeat ((fail_if_success (show W tree.getF msgL _ _)); first
    | refine st_ rfl ?_
    | ((first | refine W.regG ?_ | refine WoR.go ?_); generalize e:goR .. = r; simp (disch:=omega) [hX,hil,hl9] at e; replace e:some _ = _:=e; subst e; (try dsimp only [goW]))
    | ((simp only [zAd,zA3,zA8,zAa,zAb,reduceIte])))
   show W tree.getF msgL (dropped true _ _) Q
   generalize e:dropped _ _ _ = r2
   simp only [dropped,if_pos] at e
   subst e
   refine hk _ _ _ _ _ _ _ _ _ _ _ _ _ _ _ _ _ _ (MI.next M (i:=j) (u:=u) ?_ ?_ ?_ ?_ ?_ (fun q q1 qn => ?_) ?_)
   · omega
   · omega
   · omega
   · exact Under.set ((Under.set hu2).le (by omega))
   · exact hut2.le (by omega)
   · rw [zA0 qn,zA0 (by omega),P.fr q (by dsimp only; omega)]; dsimp only; rw [zA7 (by omega),zA7 (by omega)]
   · exact zA6 (o:=.cells [.str whole,Fv,O]) ((zA0 (show pm ≠ _ by omega)).trans gm2)
 · have hz1:¬ (zBx r.t:Int) = 0:=by omega
   have hz2:((zBx r.t:Int) == 0) = false:=by simp [hz]
   have hkd:r.kind = zBx r.t:=by unfold RW.kind; rw [if_neg hz]
   have hty:r.ty = []:=by unfold RW.ty; rw [if_neg hz]
   repeat ((fail_if_success (show W tree.getF zH4 _ _)); first
    | refine st_ rfl ?_
    | ((first | refine W.regG ?_ | refine WoR.go ?_); generalize e:goR .. = r; simp (disch:=omega) [hX,g1,gm,hn,hn2,hlen,hlt,o1,o2,o3,o4,o5,bO,q1,q2,hil,hz1,hz2] at e; replace e:some _ = _:=e; subst e; (try dsimp only [goW]))
    | ((simp only [zAd,zA3,zA8,zAa,zAb,reduceIte])))
   refine tail_F (hh:=⟨_,_,_⟩) (L:=L) (n:=n) (whole:=whole) (O:=O) (r:=r) (acc:=acc) (Fv:=Fv) ?_ ro ha9 hF ?_ ?_ ?_ ?_ ?_ ?_ HO (fun v19 v20 v21 v22 n' j u c1 c2 c3 => ?_)
   · exact ft_
   · simp (disch:=omega) [zA1]; exact gm
   · rw [hkd,hty]; simp (disch:=omega) [zA1]
   · simp (disch:=omega) [zA1]
   · omega
   · omega
   · omega
   dsimp only at c1 c2 c3
   (simp only [zAd,zA3,zA8,zAa,zAb,reduceIte])
   repeat ((fail_if_success (show W tree.getF msgL _ _)); first
    | refine st_ rfl ?_
    | ((first | refine W.regG ?_ | refine WoR.go ?_); generalize e:goR .. = r; simp (disch:=omega) [hX,hil,hl9] at e; replace e:some _ = _:=e; subst e; (try dsimp only [goW]))
    | ((simp only [zAd,zA3,zA8,zAa,zAb,reduceIte])))
   show W tree.getF msgL (dropped true _ _) Q
   generalize e:dropped _ _ _ = r2
   simp only [dropped,if_pos] at e
   subst e
   refine hk _ _ _ _ _ _ _ _ _ _ _ _ _ _ _ _ _ _ (MI.next M (i:=j) (u:=u) ?_ ?_ ?_ ?_ ?_ (fun q q1 qn => ?_) ?_)
   · omega
   · omega
   · omega
   · exact Under.cons (by omega) (Under.cons (by omega) ((Under.set hu).le (by omega)))
   · exact hut.le (by omega)
   · rw [zA7 (by omega),zA7 (by omega),zA0 qn]
   · rw [zA7 (by omega),zA7 (by omega)]; exact zA6 gm
def zBo (l:List RW):List RW:=l.foldl (fun acc r => insR r acc) []
theorem zLa (r:RW):∀ l,(insR r l).length = l.length + 1
 | [] => rfl
 | x :: l => by unfold insR; split <;> simp [zLa r l]
theorem sortR_snoc (l:List RW) (r:RW):zBo (l ++ [r]) = insR r (zBo l):=by unfold zBo; rw [List.foldl_append]; rfl
theorem zD9 (l:List RW):(zBo l).length = l.length:=by
 unfold zBo
 suffices H:∀ (l acc:List RW),(l.foldl (fun acc r => insR r acc) acc).length = acc.length + l.length by simpa using H l []
 intro l
 induction l with
 | nil => intro acc; rfl
 | cons x l ih => intro acc; simp only [List.foldl_cons,List.length_cons]; rw [ih,zLa]; omega
theorem MI.up {h0:CHeap} {b1 pm p7:Nat} {NV:List CVal} {whole:B8} {O:CVal} {acc:List RW} {hh:CHeap} (M:MI h0 b1 pm p7 NV whole O acc hh) {n:Nat} (h:hh.next ≤ n):MI h0 b1 pm p7 NV whole O acc ⟨hh.ents,n,hh.tys⟩:=⟨⟨M.fit.1.le h,M.fit.2.le h⟩,Nat.le_trans M.nx h,M.g1,M.gm,M.g7,M.l1,M.lm,M.l7,M.n1,M.n2,M.fr⟩
theorem ms_all {h0:CHeap} {b1 pm p7:Nat} {FV O:CVal} {whole n:B8} {L:List CVal} {Ls:List RW} (hok:∀ r ∈ Ls,r.ok) (hd1:(Ls.map RW.num).Nodup) (hd2:(Ls.map RW.nm).Nodup) (hl9:Ls.length ≤ 100) (hL:L = Ls.map RW.v) (HO:PV1 O) (HV:PV1 FV) (HH:∀ r ∈ Ls,Pe 137 [O,.str r.nm] (.bool false)) (HFd:∀ r ∈ Ls,zBx r.t = 0 → ∀ (h:CHeap),Fit h → ∀ (K:KT),(∀ h',PG h h' → K (.tup [.str r.ty,.int .i64 r.kind,.int .i64 0]) h') → Wc tree.getF 173 [FV,.str [120],.str whole,.str r.t] h K) {v0 v23 v24 v25 v26 v27:CVal} {Q:QT}
    (hk:∀ (v3 v4 v5 v8 v9 v10 v11 v12 v13 v15 v16 v17 v18 v19 v20 v21 v22:CVal) h',MI h0 b1 pm p7 [.str whole,.int .i64 16,.str n,.imm .none 7 L,O,.nils,.nils,.nils,.nils,.str [],.nils,.str [120]] whole O (zBo Ls) h' → Q (.exit 0) ⟨[v0,.ptr b1 211812364 0,.int .i64 (Ls.length:Int),v3,v4,v5,.ptr pm 49283075 0,.ptr p7 49283075 0,v8,v9,v10,v11,v12,v13,FV,v15,v16,v17,v18,v19,v20,v21,v22,v23,v24,v25,v26,v27,.int .i64 0],h',[]⟩) :
    ∀ (rest:List RW) (i:Nat) (v3 v4 v5 v8 v9 v10 v11 v12 v13 v15 v16 v17 v18 v19 v20 v21 v22:CVal) (hh:CHeap),Ls.drop i = rest → i ≤ Ls.length → MI h0 b1 pm p7 [.str whole,.int .i64 16,.str n,.imm .none 7 L,O,.nils,.nils,.nils,.nils,.str [],.nils,.str [120]] whole O (zBo (Ls.take i)) hh → W tree.getF msgL ⟨[v0,.ptr b1 211812364 0,.int .i64 (i:Int),v3,v4,v5,.ptr pm 49283075 0,.ptr p7 49283075 0,v8,v9,v10,v11,v12,v13,FV,v15,v16,v17,v18,v19,v20,v21,v22,v23,v24,v25,v26,v27,.int .i64 0],hh,[]⟩ Q:=by
 intro rest
 induction rest with
 | nil =>
  intro i v3 v4 v5 v8 v9 v10 v11 v12 v13 v15 v16 v17 v18 v19 v20 v21 v22 hh h1 h2 M
  have hi:Ls.length ≤ i:=List.drop_eq_nil_iff.1 h1
  obtain rfl:i = Ls.length:=by omega
  rw [List.take_length] at M
  have g1:=M.g1
  have hlen:L.length = Ls.length:=by rw [hL,List.length_map]
  refine W.loop ?_
  have hZ:=j2_ g1 hlen
  try refine wk_ ?_
  exact hk _ _ _ _ _ _ _ _ _ _ _ _ _ _ _ _ _ _ (M.up (by omega))
 | cons r rest ih =>
  intro i v3 v4 v5 v8 v9 v10 v11 v12 v13 v15 v16 v17 v18 v19 v20 v21 v22 hh h1 h2 M
  obtain ⟨q1,q2,q3⟩:=zFv h1
  have hil:i < Ls.length:=by have:=congrArg List.length h1; simp at this; omega
  have hm:r ∈ Ls:=List.mem_of_getElem? q2
  have ht:Ls.take (i + 1) = Ls.take i ++ [r]:=by rw [List.take_add_one,q2]; rfl
  refine msg_one (Ls:=Ls) (r:=r) (acc:=zBo (Ls.take i)) M (hok r hm) HO HV (HH r hm) (HFd r hm) hL hl9 (by rw [zD9,List.length_take]; omega) q2 ?_ ?_
  · intro x hx
    rw [← List.take_append_drop i Ls,h1] at hd1 hd2
    rw [List.map_append,List.nodup_append] at hd1 hd2
    exact ⟨hd1.2.2 _ (List.mem_map_of_mem hx) _ (by simp),hd2.2.2 _ (List.mem_map_of_mem hx) _ (by simp)⟩
  · intro w3 w4 w5 w8 w9 w10 w11 w12 w13 w15 w16 w17 w18 w19 w20 w21 w22 h' M'
    rw [← sortR_snoc,← ht] at M'
    have:=ih (i + 1) w3 w4 w5 w8 w9 w10 w11 w12 w13 w15 w16 w17 w18 w19 w20 w21 w22 h' q3 (by omega) M'
    push_cast at this
    exact this
theorem message_S {FV O:CVal} {whole n:B8} {Ls:List RW} (hok:∀ r ∈ Ls,r.ok) (hd1:(Ls.map RW.num).Nodup) (hd2:(Ls.map RW.nm).Nodup) (hl9:Ls.length ≤ 100) (hO2:O = .nils ∨ O = .imm .none 1 [.str [99]]) (HV:PV1 FV) (HH:∀ r ∈ Ls,Pe 137 [O,.str r.nm] (.bool false)) (HFd:∀ r ∈ Ls,zBx r.t = 0 → ∀ (h:CHeap),Fit h → ∀ (K:KT),(∀ h',PG h h' → K (.tup [.str r.ty,.int .i64 r.kind,.int .i64 0]) h') → Wc tree.getF 173 [FV,.str [120],.str whole,.str r.t] h K) (hne:Ls ≠ []) {h:CHeap} (hf:Fit h) {K:KT}
    (hk:∀ h',PG h h' → K (.tup [.agg [.str whole,.imm .none 8 ((zBo Ls).map RW.pf),O],.int .i64 0]) h'):Wc tree.getF 126 [FV,.agg [.str whole,.int .i64 16,.str n,.imm .none 7 (Ls.map RW.v),O,.nils,.nils,.nils,.nils,.str [],.nils,.str [120]]] h K:=by
 have HO:PV1 O:=by rcases hO2 with rfl | rfl <;> exact ⟨rfl,rfl,rfl,rfl,rfl⟩
 obtain ⟨hu,hut,hX⟩:=fx4 hf
 obtain ⟨L,hL⟩:∃ L,L = Ls.map RW.v:=⟨_,rfl⟩
 rw [← hL]
 obtain ⟨o1,o2,o3,o4,o5⟩:=id HO
 obtain ⟨f1,f2,f3,f4,f5⟩:=id HV
 simp only [CVal.isUndef,CVal.whole,CVal.cells,CVal.strip,CVal.bare] at o1 o2 o3 o4 o5 f1 f2 f3 f4 f5
 refine mk_ 126 c126 (s_ ?_)
 repeat ((fail_if_success (show W tree.getF msgL _ _)); first
  | refine st_ rfl ?_
  | ((first | refine W.regG ?_ | refine WoR.go ?_); generalize e:goR .. = r; simp (disch:=omega) [hX,o1,o2,o3,o4,o5,f1,f2,f3,f4,f5] at e; replace e:some _ = _:=e; subst e; (try dsimp only [goW]))
  | ((simp only [zAd,zA3,zA8,zAa,zAb,reduceIte])))
 refine ms_all (h0:=h) (b1:=h.next) (n:=n) (whole:=whole) (O:=O) hok hd1 hd2 hl9 hL HO HV HH HFd ?_ Ls 0 _ _ _ _ _ _ _ _ _ _ _ _ _ _ _ _ _ _ rfl (Nat.zero_le _) ?_
 rotate_left
 · refine ⟨?_,by dsimp only; omega,by simp (disch:=omega) [zA1],⟨.nils,by simp [zA1],.inl ⟨rfl,rfl⟩⟩,by simp [zA1],by omega,by omega,by omega,by omega,by omega,fun q q1 => ?_⟩
   · exact ft_
   · dsimp only; rw [zA7 (by omega),zA7 (by omega),zA7 (by omega)]
 intro v3 v4 v5 v8 v9 v10 v11 v12 v13 v15 v16 v17 v18 v19 v20 v21 v22 h' M
 clear hu hut hX
 obtain ⟨hu,hut,hX⟩:=fx4 M.fit
 have g1:=M.g1
 obtain ⟨Fv,gm,hF⟩:=M.gm
 obtain ⟨ti,tu,rfl⟩:∃ i u,Fv = .imm (.own i u) 8 ((zBo Ls).map RW.pf):=by
  rcases hF with ⟨_,e⟩ | e
  · exact absurd (by have:=zD9 Ls; rw [e] at this; exact List.length_eq_zero_iff.1 this.symm) hne
  · exact e
 have g7:=M.g7
 have l1:=zA5 hu g1
 have lm:=zA5 hu gm
 have l7:=zA5 hu g7
 have nx:=M.nx
 have m1:=M.l1
 have m7:=M.l7
 have hY:=fx5 M.fit g7
 have zb:((zBo Ls).map RW.pf).map CVal.bare = (zBo Ls).map RW.pf:=by rw [List.map_map]; rfl
 generalize (zBo Ls).map RW.pf = AL at *
 rcases hO2 with rfl | rfl
 all_goals (
  have hZ:=j5_ hX hY g1 gm g7
  repeat (first
   | refine vk_ ?_
   | (refine W.loop ?_)
   | (show W tree.getF _ (dropped true _ _) _; generalize e:dropped _ _ _ = r; simp (disch:=omega) [hX,hY,g1,gm,g7] at e; subst e; refine W.loop ?_)
   | (refine rk_ ?_; skip))
  refine hk _ ⟨⟨zBz ((Under.set hu).le (by dsimp only; omega)),hut.le (by dsimp only; omega)⟩,by dsimp only; omega,fun q q1 => ?_⟩
  dsimp only
  rw [zFh q1,zA0 (by omega)]
  exact M.fr q q1)
theorem message_0 {FV O:CVal} {whole n:B8} (hO2:O = .nils ∨ O = .imm .none 1 [.str [99]]) (HV:PV1 FV) {h:CHeap} (hf:Fit h) {K:KT}
    (hk:∀ h',PG h h' → K (.tup [.agg [.str whole,.nils,O],.int .i64 0]) h'):Wc tree.getF 126 [FV,.agg [.str whole,.int .i64 16,.str n,.nils,O,.nils,.nils,.nils,.nils,.str [],.nils,.str [120]]] h K:=by
 obtain ⟨hu,hut,hX⟩:=fx4 hf
 obtain ⟨f1,f2,f3,f4,f5⟩:=id HV
 simp only [CVal.isUndef,CVal.whole,CVal.cells,CVal.strip,CVal.bare] at f1 f2 f3 f4 f5
 rcases hO2 with rfl | rfl
 all_goals (
  refine mk_ 126 c126 (s_ ?_)
  have hZ:=j6_ hX f1 f2 f3 f4 f5
  repeat (first
   | refine vk_ ?_
   | (refine W.loop ?_)
   | (show W tree.getF _ (dropped true _ _) _; generalize e:dropped _ _ _ = r; simp (disch:=omega) [hX,f1,f2,f3,f4,f5] at e; subst e; refine W.loop ?_)
   | (refine rk_ ?_; skip))
  refine hk _ ⟨⟨?_,hut.le (by dsimp only; omega)⟩,by dsimp only; omega,fun q q1 => rfl⟩
  exact hu.le (by dsimp only; omega))
def dgv (l:B8):Nat:=l.foldl (fun n b => n * 10 + (b.toNat - 48)) 0
theorem dg_inj1:allN 1000 (fun n => dgv (dg n) == n) = true:=by kernel_rfl
theorem dg_inj {a b:Nat} (ha:a < 1000) (hb:b < 1000) (e:dg a = dg b):a = b:=by
 have h1:=zJ6 dg_inj1 a ha
 have h2:=zJ6 dg_inj1 b hb
 simp only [beq_iff_eq] at h1 h2
 rw [← h1,← h2,e]
theorem zI0 {α β:Type} {f:α → β}:∀ {l:List α},(∀ x ∈ l,∀ y ∈ l,f x = f y → x = y) → l.Nodup → (l.map f).Nodup
 | [],_,_ => List.nodup_nil
 | a :: l,h,hn => by
  rw [List.nodup_cons] at hn
  rw [List.map_cons,List.nodup_cons]
  refine ⟨fun hm => ?_,zI0 (fun x hx y hy => h x (List.mem_cons_of_mem _ hx) y (List.mem_cons_of_mem _ hy)) hn.2⟩
  obtain ⟨y,hy,e⟩:=List.mem_map.1 hm
  have:=h y (List.mem_cons_of_mem _ hy) a (List.mem_cons_self ..) e
  exact hn.1 (this ▸ hy)
theorem BD.rs_ok {b:BD} {m:Nat} (h:b.ok m):∀ r ∈ b.rs,r.ok:=by
 obtain ⟨i,hi,B⟩:=h.b
 intro r hr
 rcases List.mem_append.1 hr with hr | hr
 · obtain ⟨d,hd,rfl⟩:=List.mem_map.1 hr; exact FD.rw_ok (B.f d hd).1
 · obtain ⟨d,hd,rfl⟩:=List.mem_map.1 hr; exact OD.rw_ok (B.o d hd).1
theorem FD.rw_num (d:FD):d.rw.num = d.num:=by obtain ⟨sh,t,n⟩:=d; cases sh <;> rfl
theorem FD.rw_nm (d:FD):d.rw.nm = 102 :: dg d.num:=by obtain ⟨sh,t,n⟩:=d; cases sh <;> rfl
theorem BD.rs_num {b:BD} {m:Nat} (h:b.ok m) (hm:m ≤ 7):(b.rs.map RW.num).Nodup:=by
 obtain ⟨i,hi,B⟩:=h.b
 have e:b.rs.map RW.num = b.fs.map (·.num) ++ b.os.map (·.num):=by
  simp only [BD.rs,List.map_append,List.map_map]
  congr 1
  exact List.map_congr_left fun d _ => d.rw_num
 rw [e,List.nodup_append]
 refine ⟨B.nf,B.no,?_⟩
 intro x hx y hy
 obtain ⟨d,hd,rfl⟩:=List.mem_map.1 hx
 obtain ⟨o,ho,rfl⟩:=List.mem_map.1 hy
 obtain ⟨_,k,hk,hN⟩:=B.f d hd
 obtain ⟨_,h1,_⟩:=B.o o ho
 rcases hN with e | e <;> omega
theorem BD.rs_nm {b:BD} {m:Nat} (h:b.ok m) (hm:m ≤ 7):(b.rs.map RW.nm).Nodup:=by
 obtain ⟨i,hi,B⟩:=h.b
 have e:b.rs.map RW.nm = (b.fs.map (·.num)).map (fun n => 102 :: dg n) ++ (b.os.map (·.num)).map (fun n => 111 :: dg n):=by
  simp only [BD.rs,List.map_append,List.map_map]
  congr 1
  exact List.map_congr_left fun d _ => d.rw_nm
 have hF:∀ x ∈ b.fs.map (·.num),x < 1000:=fun x hx => by obtain ⟨d,hd,rfl⟩:=List.mem_map.1 hx; exact (B.f d hd).1.2.2.1
 have hO:∀ x ∈ b.os.map (·.num),x < 1000:=fun x hx => by obtain ⟨d,hd,rfl⟩:=List.mem_map.1 hx; exact (B.o d hd).1.2.2
 rw [e,List.nodup_append]
 refine ⟨?_,?_,?_⟩
 · refine zI0 ?_ B.nf
   intro x hx y hy e
   injection e with _ e
   exact dg_inj (hF x hx) (hF y hy) e
 · refine zI0 ?_ B.no
   intro x hx y hy e
   injection e with _ e
   exact dg_inj (hO x hx) (hO y hy) e
 · intro x hx y hy
   obtain ⟨d,hd,rfl⟩:=List.mem_map.1 hx
   obtain ⟨o,ho,rfl⟩:=List.mem_map.1 hy
   intro e
   injection e with e _
   exact absurd e (by decide)
def lV8 (l:List RW):CVal:=match l with | [] => .nils | _ :: _ => .imm .none 8 (l.map RW.pf)
def oV1 (c:Bool):CVal:=if c = true then .imm .none 1 [.str [99]] else .nils
def mgV (whole:B8) (b:BD):CVal:=.agg [.str whole,lV8 (zBo b.rs),oV1 (!b.os.isEmpty)]
theorem fvP (a b:BD):PV1 (zAq a b):=⟨rfl,rfl,rfl,rfl,rfl⟩
theorem oV2 (c:Bool):oV1 c = .nils ∨ oV1 c = .imm .none 1 [.str [99]]:=by cases c; exact .inl rfl; exact .inr rfl
theorem msgB_I {a b c:BD} {m:Nat} {nv:B8} (hc:c.ok m) (hm:m ≤ 7) {h:CHeap} (hf:Fit h) {K:KT} (hk:∀ h',PG h h' → K (.tup [mgV [97,46,73] c,.int .i64 0]) h'):Wc tree.getF 126 [zAq a b,nmM [97,46,73] (msgV nv c.xs (!c.os.isEmpty))] h K:=by
 have hok:=BD.rs_ok hc
 have hlen:c.rs.length ≤ 100:=by
  have:=hc.len
  simp only [BD.rs,List.length_append,List.length_map]; omega
 unfold mgV at hk
 unfold nmM msgV
 rw [← BD.rs_v]
 dsimp only [List.cons_append,List.nil_append]
 by_cases he:c.rs = []
 · rw [he] at hk ⊢
   exact message_0 (oV2 _) (fvP a b) hf hk
 · have e7:lV7 (c.rs.map RW.v) = .imm .none 7 (c.rs.map RW.v):=by
    cases hr:c.rs with
    | nil => exact absurd hr he
    | cons x l => rfl
   have e8:lV8 (zBo c.rs) = .imm .none 8 ((zBo c.rs).map RW.pf):=by
    cases hr:zBo c.rs with
    | nil => exact absurd (by have:=zD9 c.rs; rw [hr] at this; exact List.length_eq_zero_iff.1 this.symm) he
    | cons x l => rfl
   rw [e7]
   rw [e8] at hk
   refine message_S hok (BD.rs_num hc hm) (BD.rs_nm hc hm) hlen (oV2 _) (fvP a b) (fun r hr => has_no (hok r hr).nm _) ?_ he hf hk
   intro r hr hz h hf K hk
   unfold RW.ty RW.kind at hk
   rw [if_pos hz,if_pos hz] at hk
   rcases (zFf r.t (hok r hr).t).2.1 hz with e | e | e
   · rw [e] at hk ⊢; exact find_IE hf hk
   · rw [e] at hk ⊢; exact find_II hf hk
   · rw [e] at hk ⊢; exact find_IM hf hk
theorem msgB_M {a b c:BD} {m:Nat} {nv:B8} (hc:c.ok m) (hm:m ≤ 7) {h:CHeap} (hf:Fit h) {K:KT} (hk:∀ h',PG h h' → K (.tup [mgV [97,46,77] c,.int .i64 0]) h'):Wc tree.getF 126 [zAq a b,nmM [97,46,77] (msgV nv c.xs (!c.os.isEmpty))] h K:=by
 have hok:=BD.rs_ok hc
 have hlen:c.rs.length ≤ 100:=by
  have:=hc.len
  simp only [BD.rs,List.length_append,List.length_map]; omega
 unfold mgV at hk
 unfold nmM msgV
 rw [← BD.rs_v]
 dsimp only [List.cons_append,List.nil_append]
 by_cases he:c.rs = []
 · rw [he] at hk ⊢
   exact message_0 (oV2 _) (fvP a b) hf hk
 · have e7:lV7 (c.rs.map RW.v) = .imm .none 7 (c.rs.map RW.v):=by
    cases hr:c.rs with
    | nil => exact absurd hr he
    | cons x l => rfl
   have e8:lV8 (zBo c.rs) = .imm .none 8 ((zBo c.rs).map RW.pf):=by
    cases hr:zBo c.rs with
    | nil => exact absurd (by have:=zD9 c.rs; rw [hr] at this; exact List.length_eq_zero_iff.1 this.symm) he
    | cons x l => rfl
   rw [e7]
   rw [e8] at hk
   refine message_S hok (BD.rs_num hc hm) (BD.rs_nm hc hm) hlen (oV2 _) (fvP a b) (fun r hr => has_no (hok r hr).nm _) ?_ he hf hk
   intro r hr hz h hf K hk
   unfold RW.ty RW.kind at hk
   rw [if_pos hz,if_pos hz] at hk
   rcases (zFf r.t (hok r hr).t).2.1 hz with e | e | e
   · rw [e] at hk ⊢; exact find_ME hf hk
   · rw [e] at hk ⊢; exact find_MI hf hk
   · rw [e] at hk ⊢; exact find_MM hf hk
def schV (a b:BD):CVal:=.agg [.imm .none 3 [mgV [97,46,73] a,mgV [97,46,77] b],.imm .none 2 [.agg [.str [97,46,69],.imm .none 2 [.agg [.str [65],.int .i64 0],.agg [.str [66],.int .i64 1],.agg [.str [67],.int .i64 (-1)]]]]]
theorem lV7P (l:List CVal):PV1 (lV7 l):=by cases l <;> exact ⟨rfl,rfl,rfl,rfl,rfl⟩
theorem lV8P (l:List RW):PV1 (lV8 l):=by cases l <;> exact ⟨rfl,rfl,rfl,rfl,rfl⟩
theorem oV1P (c:Bool):PV1 (if c = true then CVal.imm .none 1 [.str [99]] else .nils):=by cases c <;> exact ⟨rfl,rfl,rfl,rfl,rfl⟩
theorem schema_F {a b:BD} (ha:a.ok 4) (hb:b.ok 7) {h:CHeap} (hf:Fit h) {K:KT} (hk:∀ h',PG h h' → K (.tup [schV a b,.int .i64 0,.str []]) h'):Wc tree.getF 54 [zAq a b] h K:=by
 obtain ⟨hu,hut,hX⟩:=fx4 hf
 have AF:=@all_F a b
 have M1:=@msgB_I a b a 4 [73] ha (by omega)
 have M2:=@msgB_M a b b 7 [77] hb (by omega)
 unfold nmM msgV nmE at AF
 unfold nmM msgV at M1 M2
 unfold mgV oV1 at M1 M2
 unfold schV mgV oV1 at hk
 dsimp only [List.cons_append,List.nil_append] at AF M1 M2
 have PlA:=lV7P a.xs
 have PlB:=lV7P b.xs
 have PoA:=oV1P (!a.os.isEmpty)
 have PoB:=oV1P (!b.os.isEmpty)
 have PsA:=lV8P (zBo a.rs)
 have PsB:=lV8P (zBo b.rs)
 have PFV:=fvP a b
 generalize lV7 a.xs = lA at *
 generalize lV7 b.xs = lB at *
 generalize (if (!a.os.isEmpty) = true then CVal.imm .none 1 [.str [99]] else .nils) = oA at *
 generalize (if (!b.os.isEmpty) = true then CVal.imm .none 1 [.str [99]] else .nils) = oB at *
 generalize lV8 (zBo a.rs) = sA at *
 generalize lV8 (zBo b.rs) = sB at *
 generalize zAq a b = FV at *
 have lA0:lA.beq lA = true:=zBg _
 obtain ⟨lA1,lA2,lA3,lA4,lA5⟩:=PlA
 have lB0:lB.beq lB = true:=zBg _
 obtain ⟨lB1,lB2,lB3,lB4,lB5⟩:=PlB
 have oA0:oA.beq oA = true:=zBg _
 obtain ⟨oA1,oA2,oA3,oA4,oA5⟩:=PoA
 have oB0:oB.beq oB = true:=zBg _
 obtain ⟨oB1,oB2,oB3,oB4,oB5⟩:=PoB
 have sA0:sA.beq sA = true:=zBg _
 obtain ⟨sA1,sA2,sA3,sA4,sA5⟩:=PsA
 have sB0:sB.beq sB = true:=zBg _
 obtain ⟨sB1,sB2,sB3,sB4,sB5⟩:=PsB
 have FV0:FV.beq FV = true:=zBg _
 obtain ⟨FV1,FV2,FV3,FV4,FV5⟩:=PFV
 simp only [CVal.isUndef,CVal.whole,CVal.cells,CVal.strip,CVal.bare] at lA1 lA2 lA3 lA4 lA5 lB1 lB2 lB3 lB4 lB5 oA1 oA2 oA3 oA4 oA5 oB1 oB2 oB3 oB4 oB5 sA1 sA2 sA3 sA4 sA5 sB1 sB2 sB3 sB4 sB5 FV1 FV2 FV3 FV4 FV5
 refine mk_ 54 c54 (s_ ?_)
 have hZ:=j43_ hX lA0 lA1 lA2 lA3 lA4 lA5 lB0 lB1 lB2 lB3 lB4 lB5 oA0 oA1 oA2 oA3 oA4 oA5 oB0 oB1 oB2 oB3 oB4 oB5 sA0 sA1 sA2 sA3 sA4 sA5 sB0 sB1 sB2 sB3 sB4 sB5 FV0 FV1 FV2 FV3 FV4 FV5
 repeat (first
  | refine vk_ ?_
  | (refine W.loop ?_)
  | (show W tree.getF _ (dropped true _ _) _; generalize e:dropped _ _ _ = r; simp (disch:=omega) [hX,lA0,lA1,lA2,lA3,lA4,lA5,lB0,lB1,lB2,lB3,lB4,lB5,oA0,oA1,oA2,oA3,oA4,oA5,oB0,oB1,oB2,oB3,oB4,oB5,sA0,sA1,sA2,sA3,sA4,sA5,sB0,sB1,sB2,sB3,sB4,sB5,FV0,FV1,FV2,FV3,FV4,FV5] at e; subst e; refine W.loop ?_))
 refine AF ft_ fun h2 P => ⟨rfl,?_⟩
 have f2:=P.fit
 have n2:=P.nx
 dsimp only at n2
 clear hu hut hX
 obtain ⟨hu,hut,hX⟩:=fx4 f2
 have r2:zA1 h2.ents h.next = some (.cells [.nils,.nils]):=(P.fr _ (by dsimp only; omega)).trans (by simp [zA1])
 have hZ:=j44_ hX r2 lA0 lA1 lA2 lA3 lA4 lA5 lB0 lB1 lB2 lB3 lB4 lB5 oA0 oA1 oA2 oA3 oA4 oA5 oB0 oB1 oB2 oB3 oB4 oB5 sA0 sA1 sA2 sA3 sA4 sA5 sB0 sB1 sB2 sB3 sB4 sB5 FV0 FV1 FV2 FV3 FV4 FV5
 repeat (first
  | refine vk_ ?_
  | (refine W.loop ?_)
  | (show W tree.getF _ (dropped true _ _) _; generalize e:dropped _ _ _ = r; simp (disch:=omega) [hX,r2,lA0,lA1,lA2,lA3,lA4,lA5,lB0,lB1,lB2,lB3,lB4,lB5,oA0,oA1,oA2,oA3,oA4,oA5,oB0,oB1,oB2,oB3,oB4,oB5,sA0,sA1,sA2,sA3,sA4,sA5,sB0,sB1,sB2,sB3,sB4,sB5,FV0,FV1,FV2,FV3,FV4,FV5] at e; subst e; refine W.loop ?_))
 refine M1 ft_ fun h3 P3 => ⟨rfl,?_⟩
 have f3:=P3.fit
 have n3:=P3.nx
 dsimp only at n3
 clear hu hut hX
 obtain ⟨hu,hut,hX⟩:=fx4 f3
 have r3:zA1 h3.ents h.next = some (.cells [.nils,.nils]):=(P3.fr _ (by dsimp only; omega)).trans (by simp (disch:=omega) [zA1,r2])
 have r3s:zA1 h3.ents (h2.next + 1 + 4 + 1 + 3 + 3 + 4 + 1 + 3 + 11 + 3 + 3 + 3 + 4 + 1 + 3 + 11 + 3 + 3 + 11 + 3 + 3 + 3 + 4 + 3) = some (.cells [.nils,.nils]):=(P3.fr _ (by dsimp only; omega)).trans (by simp (disch:=omega) [zA1])
 have r3m:zA1 h3.ents (h2.next + 1 + 4 + 1 + 3 + 3 + 4 + 1 + 3 + 11 + 3 + 3 + 3 + 4 + 1 + 3 + 11 + 3 + 3 + 11 + 3 + 3 + 3 + 4 + 3 + 1 + 1 + 4 + 1 + 6 + 1) = some (.cells [.str [],.nils,.nils]):=(P3.fr _ (by dsimp only; omega)).trans (by simp (disch:=omega) [zA1])
 have y3s:=fx5 f3 r3s
 have y3m:=fx5 f3 r3m
 generalize hbs:(h2.next + 1 + 4 + 1 + 3 + 3 + 4 + 1 + 3 + 11 + 3 + 3 + 3 + 4 + 1 + 3 + 11 + 3 + 3 + 11 + 3 + 3 + 3 + 4 + 3) = bs at *
 have hbs1:h2.next < bs:=by omega
 have t1:∀ X,zA1 (zA2 h3.ents (bs + 1 + 1 + 4 + 1 + 6 + 1) X) bs = zA1 h3.ents bs:=fun X => zA0 (by omega)
 have t2:∀ X,zA1 (zA2 h3.ents bs X) (bs + 1 + 1 + 4 + 1 + 6 + 1) = zA1 h3.ents (bs + 1 + 1 + 4 + 1 + 6 + 1):=fun X => zA0 (by omega)
 have t3:∀ X Y,zA1 (zA2 (zA2 h3.ents (bs + 1 + 1 + 4 + 1 + 6 + 1) X) bs Y) bs = some Y:=fun X Y => zA6 ((t1 X).trans r3s)
 repeat (first
  | refine st_ rfl ?_
  | ((first | refine W.regG ?_ | refine WoR.go ?_); generalize e:goR .. = r; simp (disch:=omega) [hX,r3,r3s,r3m,y3s,y3m,t1,t2,t3,lA0,lA1,lA2,lA3,lA4,lA5,lB0,lB1,lB2,lB3,lB4,lB5,oA0,oA1,oA2,oA3,oA4,oA5,oB0,oB1,oB2,oB3,oB4,oB5,sA0,sA1,sA2,sA3,sA4,sA5,sB0,sB1,sB2,sB3,sB4,sB5,FV0,FV1,FV2,FV3,FV4,FV5] at e; replace e:some _ = _:=e; subst e; (try dsimp only [goW]))
  | (refine W.loop ?_)
  | (show W tree.getF _ (dropped true _ _) _; generalize e:dropped _ _ _ = r; simp (disch:=omega) [hX,r3,r3s,r3m,y3s,y3m,t1,t2,t3,lA0,lA1,lA2,lA3,lA4,lA5,lB0,lB1,lB2,lB3,lB4,lB5,oA0,oA1,oA2,oA3,oA4,oA5,oB0,oB1,oB2,oB3,oB4,oB5,sA0,sA1,sA2,sA3,sA4,sA5,sB0,sB1,sB2,sB3,sB4,sB5,FV0,FV1,FV2,FV3,FV4,FV5] at e; subst e; refine W.loop ?_)
  | ((simp only [zAd,zA3,zA8,zAa,zAb,reduceIte]))
  | (refine mk_ 127 c127 (s_ ?_))
  | ((first | (refine W.ret ?_; (try simp only [zAd,zA3,zA8,zAb,reduceIte]); refine endW.of (.inl rfl) rfl ?_) | refine endW.of (.inl rfl) rfl ?_ | refine endW.of (.inr rfl) rfl ?_); generalize e:zB4 .. = r; simp (disch:=omega) [hX,r3,r3s,r3m,y3s,y3m,t1,t2,t3,lA0,lA1,lA2,lA3,lA4,lA5,lB0,lB1,lB2,lB3,lB4,lB5,oA0,oA1,oA2,oA3,oA4,oA5,oB0,oB1,oB2,oB3,oB4,oB5,sA0,sA1,sA2,sA3,sA4,sA5,sB0,sB1,sB2,sB3,sB4,sB5,FV0,FV1,FV2,FV3,FV4,FV5] at e; subst e; refine ⟨rfl,?_⟩))
 generalize hE4:zAc _ (bs + 1 + 1) = E4
 have lbs:bs < h3.next:=by omega
 have lhn:h.next < bs:=by omega
 have fr4:∀ q,q < h2.next → zA1 E4 q = zA1 h2.ents q:=fun q q1 => by
  rw [← hE4,zCp (by omega),zA0 (by omega),zA0 (by omega),P3.fr q (by dsimp only; omega)]; dsimp only; rw [zA7 (by omega),zA7 (by omega)]
 have u4:Under E4 h3.next:=hE4 ▸ zC0 (Under.set (Under.set f3.1))
 have r4s:zA1 E4 bs = some (.cells [.imm .none 3 [(.agg [.str [97,46,73],sA,oA])],.nils]):=by rw [← hE4,zCp (by omega)]; exact t3 _ _
 have r4:zA1 E4 h.next = some (.cells [.nils,.nils]):=(fr4 _ (by omega)).trans r2
 generalize hn4:(h3.next + 6 + 2 + 1 + 14 + 13 + 2 + 3 + 4 + 1 + 6) = n4
 clear hu hut hX
 have f4:Fit ⟨E4,n4,h3.tys⟩:=⟨u4.le (by dsimp only; omega),f3.2.le (by dsimp only; omega)⟩
 obtain ⟨hu,hut,hX⟩:=fx4 f4
 dsimp only at hX
 have hZ:=j45_ hX r4 r4s lA0 lA1 lA2 lA3 lA4 lA5 lB0 lB1 lB2 lB3 lB4 lB5 oA0 oA1 oA2 oA3 oA4 oA5 oB0 oB1 oB2 oB3 oB4 oB5 sA0 sA1 sA2 sA3 sA4 sA5 sB0 sB1 sB2 sB3 sB4 sB5 FV0 FV1 FV2 FV3 FV4 FV5
 repeat (first
  | refine vk_ ?_
  | (refine W.loop ?_)
  | (show W tree.getF _ (dropped true _ _) _; generalize e:dropped _ _ _ = r; simp (disch:=omega) [hX,r4,r4s,lA0,lA1,lA2,lA3,lA4,lA5,lB0,lB1,lB2,lB3,lB4,lB5,oA0,oA1,oA2,oA3,oA4,oA5,oB0,oB1,oB2,oB3,oB4,oB5,sA0,sA1,sA2,sA3,sA4,sA5,sB0,sB1,sB2,sB3,sB4,sB5,FV0,FV1,FV2,FV3,FV4,FV5] at e; subst e; refine W.loop ?_))
 refine M2 ft_ fun h5 P5 => ⟨rfl,?_⟩
 have f5:=P5.fit
 have n5:=P5.nx
 dsimp only at n5
 clear hu hut hX
 obtain ⟨hu,hut,hX⟩:=fx4 f5
 have lb4:bs < n4:=by omega
 have r5:zA1 h5.ents h.next = some (.cells [.nils,.nils]):=(P5.fr _ (by dsimp only; omega)).trans (by simp (disch:=omega) [zA1,r4])
 have r5s:zA1 h5.ents bs = some (.cells [.imm .none 3 [(.agg [.str [97,46,73],sA,oA])],.nils]):=(P5.fr _ (by dsimp only; omega)).trans (by simp (disch:=omega) [zA1,r4s])
 have r5m:zA1 h5.ents (n4 + 1) = some (.cells [.str [],.nils,.nils]):=(P5.fr _ (by dsimp only; omega)).trans (by simp (disch:=omega) [zA1])
 have y5s:=fx5 f5 r5s
 have y5m:=fx5 f5 r5m
 have t51:∀ X,zA1 (zA2 h5.ents (n4 + 1) X) bs = zA1 h5.ents bs:=fun X => zA0 (by omega)
 have t53:∀ X Y,zA1 (zA2 (zA2 h5.ents (n4 + 1) X) bs Y) bs = some Y:=fun X Y => zA6 ((t51 X).trans r5s)
 repeat (first
  | refine st_ rfl ?_
  | ((first | refine W.regG ?_ | refine WoR.go ?_); generalize e:goR .. = r; simp (disch:=omega) [hX,r5,r5s,r5m,y5s,y5m,t51,t53,lA0,lA1,lA2,lA3,lA4,lA5,lB0,lB1,lB2,lB3,lB4,lB5,oA0,oA1,oA2,oA3,oA4,oA5,oB0,oB1,oB2,oB3,oB4,oB5,sA0,sA1,sA2,sA3,sA4,sA5,sB0,sB1,sB2,sB3,sB4,sB5,FV0,FV1,FV2,FV3,FV4,FV5] at e; replace e:some _ = _:=e; subst e; (try dsimp only [goW]))
  | (refine W.loop ?_)
  | (show W tree.getF _ (dropped true _ _) _; generalize e:dropped _ _ _ = r; simp (disch:=omega) [hX,r5,r5s,r5m,y5s,y5m,t51,t53,lA0,lA1,lA2,lA3,lA4,lA5,lB0,lB1,lB2,lB3,lB4,lB5,oA0,oA1,oA2,oA3,oA4,oA5,oB0,oB1,oB2,oB3,oB4,oB5,sA0,sA1,sA2,sA3,sA4,sA5,sB0,sB1,sB2,sB3,sB4,sB5,FV0,FV1,FV2,FV3,FV4,FV5] at e; subst e; refine W.loop ?_)
  | ((simp only [zAd,zA3,zA8,zAa,zAb,reduceIte]))
  | (refine mk_ 127 c127 (s_ ?_))
  | ((first | (refine W.ret ?_; (try simp only [zAd,zA3,zA8,zAb,reduceIte]); refine endW.of (.inl rfl) rfl ?_) | refine endW.of (.inl rfl) rfl ?_ | refine endW.of (.inr rfl) rfl ?_); generalize e:zB4 .. = r; simp (disch:=omega) [hX,r5,r5s,r5m,y5s,y5m,t51,t53,lA0,lA1,lA2,lA3,lA4,lA5,lB0,lB1,lB2,lB3,lB4,lB5,oA0,oA1,oA2,oA3,oA4,oA5,oB0,oB1,oB2,oB3,oB4,oB5,sA0,sA1,sA2,sA3,sA4,sA5,sB0,sB1,sB2,sB3,sB4,sB5,FV0,FV1,FV2,FV3,FV4,FV5] at e; subst e; refine ⟨rfl,?_⟩))
 generalize hE6:zAc _ (h3.next + 6 + 2 + 1 + 14 + 13 + 2 + 3) = E6
 have fr6:∀ q,q < h2.next → zA1 E6 q = zA1 h2.ents q:=fun q q1 => by
  rw [← hE6,zCp (by omega),zA0 (by omega),zA0 (by omega),P5.fr q (by dsimp only; omega)]; dsimp only; rw [zA7 (by omega)]; exact fr4 q q1
 have u6:Under E6 h5.next:=hE6 ▸ zC0 (Under.set (Under.set f5.1))
 have r6s:zA1 E6 bs = some (.cells [.imm .none 3 [(.agg [.str [97,46,73],sA,oA]),(.agg [.str [97,46,77],sB,oB])],.nils]):=by rw [← hE6,zCp (by omega)]; exact t53 _ _
 have r6:zA1 E6 h.next = some (.cells [.nils,.nils]):=(fr6 _ (by omega)).trans r2
 clear hu hut hX
 have f6:Fit ⟨E6,h5.next,h5.tys⟩:=⟨u6,f5.2⟩
 obtain ⟨hu,hut,hX⟩:=fx4 f6
 dsimp only at hX
 have y6s:=fx5 f6 r6s
 have y6:=fx5 f6 r6
 dsimp only at y6s y6
 have t6:∀ X,zA1 (zA2 E6 bs X) h.next = zA1 E6 h.next:=fun X => zA0 (by omega)
 have t6b:∀ X Y,zA1 (zA2 (zA2 E6 bs X) h.next Y) h.next = some Y:=fun X Y => zA6 ((t6 X).trans r6)
 repeat (first
  | refine st_ rfl ?_
  | ((first | refine W.regG ?_ | refine WoR.go ?_); generalize e:goR .. = r; simp (disch:=omega) [hX,r6,r6s,y6,y6s,t6,t6b,lA0,lA1,lA2,lA3,lA4,lA5,lB0,lB1,lB2,lB3,lB4,lB5,oA0,oA1,oA2,oA3,oA4,oA5,oB0,oB1,oB2,oB3,oB4,oB5,sA0,sA1,sA2,sA3,sA4,sA5,sB0,sB1,sB2,sB3,sB4,sB5,FV0,FV1,FV2,FV3,FV4,FV5] at e; replace e:some _ = _:=e; subst e; (try dsimp only [goW]))
  | (refine W.loop ?_)
  | (show W tree.getF _ (dropped true _ _) _; generalize e:dropped _ _ _ = r; simp (disch:=omega) [hX,r6,r6s,y6,y6s,t6,t6b,lA0,lA1,lA2,lA3,lA4,lA5,lB0,lB1,lB2,lB3,lB4,lB5,oA0,oA1,oA2,oA3,oA4,oA5,oB0,oB1,oB2,oB3,oB4,oB5,sA0,sA1,sA2,sA3,sA4,sA5,sB0,sB1,sB2,sB3,sB4,sB5,FV0,FV1,FV2,FV3,FV4,FV5] at e; subst e; refine W.loop ?_)
  | ((simp only [zAd,zA3,zA8,zAa,zAb,reduceIte]))
  | (refine mk_ 124 c124 (s_ ?_))
  | (refine mk_ 125 c125 (s_ ?_))
  | ((first | (refine W.ret ?_; (try simp only [zAd,zA3,zA8,zAb,reduceIte]); refine endW.of (.inl rfl) rfl ?_) | refine endW.of (.inl rfl) rfl ?_ | refine endW.of (.inr rfl) rfl ?_); generalize e:zB4 .. = r; simp (disch:=omega) [hX,r6,r6s,y6,y6s,t6,t6b,lA0,lA1,lA2,lA3,lA4,lA5,lB0,lB1,lB2,lB3,lB4,lB5,oA0,oA1,oA2,oA3,oA4,oA5,oB0,oB1,oB2,oB3,oB4,oB5,sA0,sA1,sA2,sA3,sA4,sA5,sB0,sB1,sB2,sB3,sB4,sB5,FV0,FV1,FV2,FV3,FV4,FV5] at e; subst e; refine ⟨rfl,?_⟩))
 (first | (refine W.ret ?_; (try simp only [zAd,zA3,zA8,zAb,reduceIte]); refine endW.of (.inl rfl) rfl ?_) | refine endW.of (.inl rfl) rfl ?_ | refine endW.of (.inr rfl) rfl ?_); generalize e:zB4 .. = r; simp (disch:=omega) [hX,r6,r6s,y6,y6s,t6,t6b,lA0,lA1,lA2,lA3,lA4,lA5,lB0,lB1,lB2,lB3,lB4,lB5,oA0,oA1,oA2,oA3,oA4,oA5,oB0,oB1,oB2,oB3,oB4,oB5,sA0,sA1,sA2,sA3,sA4,sA5,sB0,sB1,sB2,sB3,sB4,sB5,FV0,FV1,FV2,FV3,FV4,FV5] at e; subst e
 refine hk _ ⟨⟨?_,?_⟩,?_,fun q q1 => ?_⟩
 · dsimp only; exact zBz ((Under.set (Under.set u6)).le (by omega))
 · dsimp only; exact f5.2.le (by omega)
 · dsimp only; omega
 · dsimp only
   rw [zFh q1,zA0 (by omega),zA0 (by omega),fr6 q (by omega),P.fr q (by dsimp only; omega)]
   exact zA7 (by omega)
theorem cells8 (a0:Int) (a1:B8) (a2 a3:Int) (a4:B8) (a5:Int) (a6:Bool) (a7:Int):zGx [.int .i64 a0,.str a1,.int .i64 a2,.int .i64 a3,.str a4,.int .i64 a5,.bool a6,.int .i64 a7] [.int .i64 a0,.str a1,.int .i64 a2,.int .i64 a3,.str a4,.int .i64 a5,.bool a6,.int .i64 a7] [(.int,0),(.str,1),(.int,2),(.int,3),(.str,4),(.int,5),(.bool,6),(.int,7)] = some true:=by simp
theorem bgPF {K:KT} (hk:∀ n' ty,3 ≤ n' → zA9 ty n' → K (.bool true) ⟨[],n',ty⟩):Wc tree.getF 19 [] ⟨[],3,[]⟩ K:=wc_start (m:=1000000) (by kernel_rfl) hk
theorem BD.rs_le {c:BD} {m:Nat} (hc:c.ok m) (hm:m ≤ 7):c.rs.length ≤ 100:=by
 have:=hc.len
 simp only [BD.rs,List.length_append,List.length_map]; omega
abbrev bv (b:UInt8):CVal:=.int .u8 b.toNat
theorem gr_F {p n d o_:Nat} {h:CHeap} (hf:Fit h) (hg:zA1 h.ents p = some (.cells [.nilp,.nils])) (hn:n < 100000) (hn0:0 < n) {K:KT}
    (hk:∀ r n',h.next ≤ r → r < n' → K (.tup []) ⟨(r,.row 0 []) :: zA2 h.ents p (.cells [.ptr p 320864258 0,.ref r 0 1 0 0]),n',(r,5) :: h.tys⟩):Wc tree.getF 247 [.ptr p 320864258 0,.int .i64 (n:Int)] h K:=by
 obtain ⟨hu,hut,hX⟩:=fx4 hf
 have hgp:∀ x,zA1 (zA2 h.ents p x) p = some x:=fun x => zA6 hg
 have lp:=zA5 hu hg
 have hdc:∀ x m,h.next ≤ m → zAc (zA2 h.ents p x) m = zA2 h.ents p x:=fun x m hm => zAj (hu.set.le hm)
 refine Wc.mkG 247 c247 (by kernel_rfl) rfl ?_
 generalize e:zCq .. = r
 simp (disch:=omega) [c247] at e
 subst e
 repeat (first
  | refine st_ rfl ?_
  | ((first | refine W.regG ?_ | refine WoR.go ?_); generalize e:goR .. = r; simp (disch:=omega) [hX,hg,hgp,hn,hn0,zA7,zA0,zA4,hdc,c247,c273] at e; replace e:some _ = _:=e; subst e; (try dsimp only [goW]))
  | (refine Wc.mkG 273 c273 (by kernel_rfl) rfl ?_; generalize e:zCq .. = r; simp (disch:=omega) [c273] at e; subst e)
  | (refine Wc.primM (f:=272) (p:=(zCi [(320864258,0)])) (by kernel_rfl) ?_; generalize e:(zCi [(320864258,0)]) _ _ = r; simp (disch:=omega) [hX,hg,hgp,hn,hn0,zA7,zA0,zA4,hdc,c247,c273] at e; subst e; (try dsimp only); refine ⟨rfl,?_⟩)
  | (refine Wc.primM (f:=284) (p:=(zCt 5)) (by kernel_rfl) ?_; generalize e:(zCt 5) _ _ = r; simp (disch:=omega) [hX,hg,hgp,hn,hn0,zA7,zA0,zA4,hdc,c247,c273] at e; subst e; (try dsimp only); refine ⟨rfl,?_⟩)
  | ((first | (refine W.ret ?_; (try simp only [zAd,zA3,zA8,zAb,reduceIte]); refine endW.of (.inl rfl) rfl ?_) | refine endW.of (.inl rfl) rfl ?_ | refine endW.of (.inr rfl) rfl ?_); generalize e:zB4 .. = r; simp (disch:=omega) [hX,hg,hgp,hn,hn0,zA7,zA0,zA4,hdc,c247,c273] at e; subst e; refine ⟨rfl,?_⟩))
 (first | (refine W.ret ?_; (try simp only [zAd,zA3,zA8,zAb,reduceIte]); refine endW.of (.inl rfl) rfl ?_) | refine endW.of (.inl rfl) rfl ?_ | refine endW.of (.inr rfl) rfl ?_); generalize e:zB4 .. = r; simp (disch:=omega) [hX,hdc,c247] at e
 subst e
 refine hk _ _ ?_ ?_
 · omega
 · (try dsimp only); omega
theorem ws_F {p r v:Nat} {acc:B8} {y:UInt8} {ys:B8} (hal:acc.length < 100000) (hyl:ys.length < 100000) {h:CHeap} (hf:Fit h) (hg:zA1 h.ents p = some (.cells [.ptr p 320864258 0,.ref r v 1 0 acc.length])) (hr:zA1 h.ents r = some (.row v (acc.map bv))) (hty:zB1 h.tys r = some 5) (hpr:p ≠ r) {K:KT}
    (hk:∀ n',h.next ≤ n' → K (.tup [.int .i64 ((ys.length:Int) + 1),.nili]) ⟨zA2 (zA2 h.ents r (.row (v + 1) ((acc ++ y :: ys).map bv))) p (.cells [.ptr p 320864258 0,.ref r (v + 1) 1 0 (acc ++ y :: ys).length]),n',h.tys⟩):Wc tree.getF 248 [.ptr p 320864258 0,.str (y :: ys)] h K:=by
 obtain ⟨hu,hut,hX⟩:=fx4 hf
 have hgp:∀ x,zA1 (zA2 h.ents p x) p = some x:=fun x => zA6 hg
 have hgr:∀ x,zA1 (zA2 h.ents r x) r = some x:=fun x => zA6 hr
 have hgrp:∀ x,zA1 (zA2 h.ents r x) p = zA1 h.ents p:=fun x => zA0 hpr
 have lp:=zA5 hu hg
 have lr:=zA5 hu hr
 have htk:List.take acc.length (acc.map bv) = acc.map bv:=List.take_of_length_le (by simp)
 have hdc:∀ x y m,h.next ≤ m → zBf (zA2 (zA2 h.ents r x) p y) m = zA2 (zA2 h.ents r x) p y:=fun x y m hm => zCa ((hu.set.set).le hm)
 have hse:zA2 h.ents p (.cells [.ptr p 320864258 0,.ref r v 1 0 acc.length]) = h.ents:=zAe hg
 simp only [List.map_append,List.map_cons,List.length_append,List.length_cons] at hk
 have hbb:ys.map (CVal.bare ∘ fun b:UInt8 => CVal.int .u8 (b.toNat:Int)) = ys.map bv:=rfl
 refine Wc.mkG 248 c248 (by kernel_rfl) rfl ?_
 generalize e:zCq .. = r
 simp (disch:=omega) [c248] at e
 subst e
 repeat (first
  | refine st_ rfl ?_
  | ((first | refine W.regG ?_ | refine WoR.go ?_); generalize e:goR .. = r; simp (disch:=omega) [hX,hg,hr,hgp,hgr,hgrp,hty,hpr,htk,hdc,hse,hal,hyl,hbb,zD4,c248] at e; replace e:some _ = _:=e; subst e; (try dsimp only [goW]))
  | (refine Wc.primM (f:=272) (p:=(zCi [(320864258,0)])) (by kernel_rfl) ?_; generalize e:(zCi [(320864258,0)]) _ _ = r; simp (disch:=omega) [hX,hg,hr,hgp,hgr,hgrp,hty,hpr,htk,hdc,hse,hal,hyl,hbb,zD4,c248] at e; subst e; (try dsimp only); refine ⟨rfl,?_⟩))
 (first | (refine W.ret ?_; (try simp only [zAd,zA3,zA8,zAb,reduceIte]); refine endW.of (.inl rfl) rfl ?_) | refine endW.of (.inl rfl) rfl ?_ | refine endW.of (.inr rfl) rfl ?_); generalize e:zB4 .. = r0; simp (disch:=omega) [hX,hdc,c248] at e
 subst e
 refine hk _ ?_
 (try dsimp only); omega
theorem byteVals_bv:∀ x:B8,zD4 (x.map bv) = some x:=by
 intro x
 induction x with
 | nil => rfl
 | cons a x ih =>
  simp only [List.map_cons,bv] at ih ⊢
  have:=a.toNat_lt
  simp [zD4,ih,UInt8.ofNat_toNat]
  omega
theorem bs_F {p r v:Nat} {acc:B8} (hac:acc ≠ []) (hal:acc.length < 100000) {h:CHeap} (hg:zA1 h.ents p = some (.cells [.ptr p 320864258 0,.ref r v 1 0 acc.length])) (hr:zA1 h.ents r = some (.row v (acc.map bv))) (hty:zB1 h.tys r = some 5) {K:KT} (hk:K (.str acc) ⟨zA2 h.ents r (.frow v (acc.map bv)),h.next,h.tys⟩):Wc tree.getF 249 [.ptr p 320864258 0] h K:=by
 refine Wc.primM (f:=249) (p:=zEf 5) (by kernel_rfl) ?_
 generalize e:zEf 5 _ _ = r0
 have hpos:0 < acc.length:=List.length_pos_iff.2 hac
 have htk:List.take acc.length (acc.map bv) = acc.map bv:=List.take_of_length_le (by simp)
 simp (disch:=omega) [zEf,hg,hr,hty,cut,hpos,htk,byteVals_bv,CHeap.ty] at e
 subst e
 exact hk
theorem quo_ok {d:Int} (h1:1 ≤ d) (h2:d < 1000):(IntKind.i64.wrap (Int.tdiv 9223372036854775807 d) ≤ 1) = False:=by
 have e1:Int.tdiv 9223372036854775807 d = 9223372036854775807 / d:=Int.tdiv_eq_ediv_of_nonneg (by omega)
 have e2:2 ≤ 9223372036854775807 / d:=Int.le_ediv_of_mul_le (by omega) (by omega)
 have e3:9223372036854775807 / d ≤ 9223372036854775807:=Int.ediv_le_self _ (by omega)
 rw [e1]
 generalize 9223372036854775807 / d = q at e2 e3
 have e4:IntKind.i64.wrap q = q:=by simp [IntKind.wrap,IntKind.bits,IntKind.signed]; omega
 rw [e4]
 simp; omega
abbrev BE (p r v:Nat) (acc:B8) (E0:EE):EE:=(r,.row v (acc.map bv)) :: (p,.cells [.ptr p 320864258 0,.ref r v 1 0 acc.length]) :: E0
theorem ws_C {p r v nx n0:Nat} {acc:B8} {y:UInt8} {ys:B8} {E0:EE} {ty0:NN} (hE:Under E0 n0) (hT:zA9 ty0 n0) (hp:n0 ≤ p) (hpr:p < r) (hr:r < nx) (hal:acc.length < 100000) (hyl:ys.length < 100000) {K:KT}
    (hk:∀ n',nx ≤ n' → K (.tup [.int .i64 ((ys.length:Int) + 1),.nili]) ⟨BE p r (v + 1) (acc ++ y :: ys) E0,n',(r,5) :: ty0⟩):Wc tree.getF 248 [.ptr p 320864258 0,.str (y :: ys)] ⟨BE p r v acc E0,nx,(r,5) :: ty0⟩ K:=by
 have e1:(r == p) = false:=by simp; omega
 have hf:Fit ⟨BE p r v acc E0,nx,(r,5) :: ty0⟩:=⟨Under.cons (by (try dsimp only); omega) (Under.cons (by (try dsimp only); omega) (hE.le (by (try dsimp only); omega))),zA9.cons (by (try dsimp only); omega) (hT.le (by (try dsimp only); omega))⟩
 have e2:¬ r = p:=by omega
 refine ws_F hal hyl hf (v:=v) (r:=r) (acc:=acc) (by simp [zA1,e1,e2]) (by simp [zA1]) (by simp [zB1]) (by omega) fun n' g => ?_
 have:=hk n' g
 simp only [BE] at this
 simpa [zA2,e1,e2] using this
structure TyOk (h:CHeap) (n':Nat) (ty:NN):Prop where
 n:h.next ≤ n'
 u:zA9 ty n'
 k:∀ q,q < h.next → zB1 ty q = zB1 h.tys q
theorem zCx {p d:Nat} {e:Int} {s:B8}:Pe 70 [.ptr p d 0,.bool false,.int .i64 e,.str s] (.tup []):=by
 intro h hf K hk
 obtain ⟨hu,hut,hX⟩:=fx4 hf
 refine mk_ 70 c70 (s_ ?_)
 repeat (first
  | refine vx_ ?_
  | refine W.loop ?_
  | (refine dx_ ?_; refine W.loop ?_))
 refine rx_ ?_
 refine hk _ ?_; exact om_
theorem right_F {n:B8} {A O:CVal} {num:Nat} (PA:PV1 A) (PO:PV1 O) (h1:1 ≤ num) (h2:num < 1000):Pe 198 [.agg [.str n,A,O,.nils,.nils,.nils,.nils],.int .u64 (num:Int)] (.bool true):=by
 intro h hf K hk
 obtain ⟨hu,hut,hX⟩:=fx4 hf
 obtain ⟨a1,a2,a3,a4,a5⟩:=PA
 obtain ⟨b1,b2,b3,b4,b5⟩:=PO
 simp only [CVal.isUndef,CVal.whole,CVal.cells,CVal.strip,CVal.bare] at a1 a2 a3 a4 a5 b1 b2 b3 b4 b5
 refine mk_ 198 c198 (s_ ?_)
 have hZ:=j11_ hX a1 a2 a3 a4 a5 b1 b2 b3 b4 b5
 repeat (first
  | refine vk_ ?_
  | refine W.loop ?_
  | (refine dk_ ?_; refine W.loop ?_)
  | (refine mk_ 251 c251 (s_ ?_))
  | (refine mk_ 274 c274 (s_ ?_))
  | (refine rk_ ?_; refine ⟨rfl,?_⟩))
 refine rk_ ?_
 refine hk _ ?_; exact om_
theorem zIb {s:B8}:Pe 199 [.nils,.str s] (.bool false):=by
 intro h hf K hk
 obtain ⟨hu,hut,hX⟩:=fx4 hf
 refine mk_ 199 c199 (s_ ?_)
 repeat (first
  | refine vx_ ?_
  | refine W.loop ?_
  | (refine dx_ ?_; refine W.loop ?_)
  | (refine mk_ 253 c253 (s_ ?_))
  | (refine rx_ ?_; refine ⟨rfl,?_⟩))
 refine rx_ ?_
 refine hk _ ?_; exact om_
theorem cont_1 {s:B8} (hn:s ≠ [99]):Pe 199 [.imm .none 1 [.str [99]],.str s] (.bool false):=by
 intro h hf K hk
 obtain ⟨hu,hut,hX⟩:=fx4 hf
 have e1:(s == [99]) = false:=by simp [hn]
 have e2:(s = [99]) = False:=by simp [hn]
 refine mk_ 199 c199 (s_ ?_)
 have hZ:=j3_ hX e1 e2
 repeat (first
  | refine vk_ ?_
  | refine W.loop ?_
  | (refine dk_ ?_; refine W.loop ?_)
  | (refine mk_ 253 c253 (s_ ?_))
  | (refine rk_ ?_; refine ⟨rfl,?_⟩))
 refine rk_ ?_
 refine hk _ ?_; exact om_
theorem cast_F (k:Nat) (h1:1 ≤ k) (h2:k ≤ 17):Pe 84 [.int .i64 (k:Int)] (.int .i64 (wN k)):=by
 rcases (show k = 1 ∨ k = 2 ∨ k = 3 ∨ k = 4 ∨ k = 5 ∨ k = 6 ∨ k = 7 ∨ k = 8 ∨ k = 9 ∨ k = 10 ∨ k = 11 ∨ k = 12 ∨ k = 13 ∨ k = 14 ∨ k = 15 ∨ k = 16 ∨ k = 17 by omega) with rfl | rfl | rfl | rfl | rfl | rfl | rfl | rfl | rfl | rfl | rfl | rfl | rfl | rfl | rfl | rfl | rfl
 all_goals (
  intro h hf K hk
  obtain ⟨hu,hut,hX⟩:=fx4 hf
  refine mk_ 84 c84 (s_ ?_)
  repeat (first
   | refine vx_ ?_)
  refine rx_ ?_
  refine hk _ ?_; exact om_
 )
abbrev ixsL:CCode:=(.loop true (.seq (.R [.g (.bin .lss (.var 1) (.var 2))] [(3,0)]) (.seq (.cond (.var 3) .skip (.exit 0)) (.seq (.block 1 (.seq (.R [.v 1,.m (.loc 0)] [(5,1)]) (.seq (.R [.v 4,.v 0,.v 5,.i 1 1 0,.l 0,.h .eql 4 0] [(6,5)]) (.cond (.var 6) (.seq (.R [.v 5,.m (.loc 0)] [(7,1)]) .ret) .skip)))) (.R [.g (.bin .add (.var 1) (.k 1)),.m (.loc 0)] [(1,1)])))))
def idxS (s:B8):List (B8) → Nat → Int
 | [],_ => -1
 | x :: r,k => if x = s then (k:Int) else idxS s r (k + 1)
theorem ixs_go {l:List (B8)} (hl:l.length < 1000) {s:B8} {vL:CVal} (hL:vL = .imm .none 1 (l.map .str) ∨ vL = .imm .full 1 (l.map .str)) {hh:CHeap} (hf:Fit hh) {Q:QT}
    (hyes:∀ v1 v3 v5 v6 n' (k:Nat),idxS s l 0 = (k:Int) → hh.next ≤ n' → Q .ret ⟨[vL,v1,.int .i64 l.length,v3,.str s,v5,v6,.int .i64 (k:Nat)],⟨hh.ents,n',hh.tys⟩,[]⟩)
    (hno:idxS s l 0 = -1 → ∀ v1 v3 v5 v6 n',hh.next ≤ n' → Q (.exit 0) ⟨[vL,v1,.int .i64 l.length,v3,.str s,v5,v6,.int .i64 0],⟨hh.ents,n',hh.tys⟩,[]⟩) :
    ∀ (r:List (B8)) (k nx:Nat) (v3 v5 v6:CVal),l.drop k = r → k ≤ l.length → idxS s r k = idxS s l 0 → hh.next ≤ nx → W tree.getF ixsL ⟨[vL,.int .i64 (k:Nat),.int .i64 l.length,v3,.str s,v5,v6,.int .i64 0],⟨hh.ents,nx,hh.tys⟩,[]⟩ Q:=by
 intro r
 induction r with
 | nil =>
  intro k nx v3 v5 v6 h1 h2 h3 h4
  have hk:k = l.length:=by
   have:=congrArg List.length h1
   rw [List.length_drop] at this; simp at this; omega
  subst hk
  refine W.loop ?_
  repeat (first
   | refine v0_ ?_)
  exact hno h3.symm _ _ _ _ _ om_
 | cons x r ih =>
  intro k nx v3 v5 v6 h1 h2 h3 h4
  obtain ⟨hu,hut,hX⟩:=fx4 (show Fit ⟨hh.ents,nx,hh.tys⟩ from ⟨hf.1.le h4,hf.2.le h4⟩)
  dsimp only at hX hu hut
  have hkl:k < l.length:=by
   have:=congrArg List.length h1
   rw [List.length_drop] at this; simp at this; omega
  have hlt:(k:Int) < (l.length:Int):=by omega
  have hx:l[k]? = some x:=by rw [← Nat.add_zero k,← List.getElem?_drop,h1]; rfl
  have hn:nth (l.map CVal.str) k = .str x:=zCs CVal.str l k x hx
  have hn2:(l.map CVal.str)[k]? = some (.str x):=by rw [List.getElem?_map,hx]; rfl
  have hlen:(l.map CVal.str).length = l.length:=List.length_map ..
  have hd:l.drop (k + 1) = r:=by rw [← List.drop_drop,h1]; rfl
  have ih1:=fun nx v3 v5 v6 => ih (k + 1) nx v3 v5 v6 hd (by omega)
  push_cast at ih1
  rw [show idxS s (x :: r) k = (if x = s then (k:Int) else idxS s r (k + 1)) from rfl] at h3
  generalize l.map CVal.str = PF at *
  refine W.loop ?_
  by_cases he:x = s
  · rw [if_pos he] at h3
    subst he
    rcases hL with rfl | rfl
    all_goals (
     have hZ:=j5_ hX hlt hn hn2 hlen
     repeat (first
      | refine vk_ ?_)
     refine W.ret ?_
     simp only [zAd,zA3,zA8,zAb,reduceIte]
     exact hyes _ _ _ _ _ k h3.symm om_)
  · rw [if_neg he] at h3
    have e1:(s == x) = false:=by simp [Ne.symm he]
    have e2:(s = x) = False:=by simp [Ne.symm he]
    rcases hL with rfl | rfl
    all_goals (
     have hZ:=j7_ hX hlt hn hn2 hlen e1 e2
     repeat (first
      | refine vk_ ?_)
     refine dx_ ?_
     refine ih1 _ _ _ _ h3 ?_
     exact om_)
theorem ixs_F {l:List (B8)} (hl:l.length < 1000) {s:B8} {vL:CVal} (hL:vL = .imm .none 1 (l.map .str) ∨ vL = .imm .full 1 (l.map .str)):Pe 253 [vL,.str s] (.int .i64 (idxS s l 0)):=by
 intro h hf K hk
 obtain ⟨hu,hut,hX⟩:=fx4 hf
 have hlen:(l.map CVal.str).length = l.length:=List.length_map ..
 have G:=@ixs_go l hl s vL hL
 have HC:vL.lenOf = some l.length ∧ PV1 vL ∧ vL.isStr = false:=by rcases hL with rfl | rfl <;> exact ⟨by simp [CVal.lenOf],⟨rfl,rfl,rfl,rfl,rfl⟩,rfl⟩
 obtain ⟨a0,⟨a1,a2,a3,a4,a5⟩,a6⟩:=HC
 clear hL
 refine mk_ 253 c253 ?_
 simp only [CVal.isUndef,CVal.whole,CVal.cells,CVal.strip,CVal.bare,CVal.isStr] at a1 a2 a3 a4 a5 a6
 generalize e:zCq .. = r
 simp (disch:=omega) [a1,a2,a3,a4,a5] at e
 subst e
 repeat (first
  | refine st_ rfl ?_
  | ((first | refine W.regG ?_ | refine WoR.go ?_); generalize e:goR .. = r; simp (disch:=omega) [hX,a1,a2,a3,a4,a5,a6,-CVal.lenOf,a0] at e; replace e:some _ = _:=e; subst e; (try dsimp only [goW])))
 refine G (hh:=⟨_,_,_⟩) ?_ ?_ ?_ l 0 _ _ _ _ rfl (by omega) rfl om_
 · exact ft_
 · intro v1 v3 v5 v6 n' k hk2 hn'
   rw [hk2] at hk
   dsimp only at hn'
   simp only [zAd,zA3,zA8,zAb,reduceIte]
   refine rx_ ?_
   refine hk _ ?_; exact om_
 · intro hk2 v1 v3 v5 v6 n' hn'
   rw [hk2] at hk
   dsimp only at hn'
   repeat (first
    | refine vx_ ?_)
   refine rx_ ?_
   refine hk _ ?_; exact om_
theorem idx_kind:∀ t ∈ W18,idxS t K15 0 + 1 = (zBx t:Int):=by decide +kernel
theorem kind_W {t:B8} (ht:t ∈ W18):Pe 203 [.str t] (.int .i64 (zBx t:Int)):=by
 intro h hf K hk
 obtain ⟨hu,hut,hX⟩:=fx4 hf
 have e:=idx_kind t ht
 have IX:=@ixs_F K15 (by decide) t _ (.inr rfl)
 have hb:-1 ≤ idxS t K15 0 ∧ idxS t K15 0 < 20:=by
  have hk18:=(zFf t ht).1
  omega
 rw [← e] at hk
 generalize idxS t K15 0 = z at *
 refine mk_ 203 c203 (s_ ?_)
 repeat (first
  | refine vx_ ?_
  | (refine pe_ (IX) fun _ g => ⟨rfl,?_⟩; (try dsimp only at g)))
 refine rx_ ?_
 refine hk _ ?_; exact om_
theorem ws_P {x:B8} (hx:x ≠ []) {p r v nx n0:Nat} {acc:B8} {E0:EE} {ty0:NN} (hE:Under E0 n0) (hT:zA9 ty0 n0) (hp:n0 ≤ p) (hpr:p < r) (hr:r < nx) (hal:acc.length < 100000) (hyl:x.length < 100000) {K:KT}
    (hk:∀ n',nx ≤ n' → K (.tup [.int .i64 (x.length:Int),.nili]) ⟨BE p r (v + 1) (acc ++ x) E0,n',(r,5) :: ty0⟩):Wc tree.getF 248 [.ptr p 320864258 0,.str x] ⟨BE p r v acc E0,nx,(r,5) :: ty0⟩ K:=by
 cases x with
 | nil => exact absurd rfl hx
 | cons y ys => exact ws_C hE hT hp hpr hr hal (by simp at hyl; omega) (fun n' g => by have:=hk n' g; simpa using this)
theorem join2 {P Z:B8} (hP:P ≠ []) (hZ0:Z ≠ []) (hpl:P.length < 1000) (hnl:Z.length < 1000) {q:Nat} {h:CHeap} (hf:Fit h) (hg:zA1 h.ents q = some (.row 0 [.str P,.str Z])) {K:KT} (hk:∀ n' ty,TyOk h n' ty → K (.str (P ++ 46 :: Z)) ⟨h.ents,n',ty⟩):Wc tree.getF 194 [.ref q 0 1 0 2,.str [46]] h K:=by
 obtain ⟨hu,hut,hX⟩:=fx4 hf
 have lq:=zA5 hu hg
 have q1:=@quo_ok 1 (by omega) (by omega)
 have q2:(IntKind.i64.wrap 9223372036854775807 ≤ 1) = False:=by decide
 have w1:IntKind.i64.wrap 9223372036854775806 = 9223372036854775806:=by decide
 have w2:((9223372036854775806:Int) < (P.length:Int)) = False:=eq_false (by omega)
 have w3:IntKind.i64.wrap (9223372036854775807 - (1 + (P.length:Int))) = 9223372036854775807 - (1 + (P.length:Int)):=by simp [IntKind.wrap,IntKind.bits,IntKind.signed]; omega
 have w4:(9223372036854775807 - (1 + (P.length:Int)) < (Z.length:Int)) = False:=eq_false (by omega)
 have t1:IntKind.i64.wrap (1 + (P.length:Int)) = 1 + (P.length:Int):=by simp [IntKind.wrap,IntKind.bits,IntKind.signed]; omega
 have t2:IntKind.i64.wrap (1 + (P.length:Int) + (Z.length:Int)) = 1 + (P.length:Int) + (Z.length:Int):=by simp [IntKind.wrap,IntKind.bits,IntKind.signed]; omega
 have GR:∀ {p:Nat} {h:CHeap} (hf:Fit h) (hg:zA1 h.ents p = some (.cells [.nilp,.nils])) {K:KT} (hk:∀ r n',h.next ≤ r → r < n' → K (.tup []) ⟨(r,.row 0 []) :: zA2 h.ents p (.cells [.ptr p 320864258 0,.ref r 0 1 0 0]),n',(r,5) :: h.tys⟩),Wc tree.getF 247 [.ptr p 320864258 0,.int .i64 (1 + (P.length:Int) + (Z.length:Int))] h K:=fun {p h} hf hg {K} hk => by
  have:=gr_F (n:=1 + P.length + Z.length) (d:=0) (o_:=0) hf hg (by omega) (by omega) hk
  push_cast at this
  exact this
 refine mk_ 194 c194 (s_ ?_)
 have hZ:=j10_ hX hg q1 q2 w1 w2 w3 w4 t1 t2
 repeat (first
  | refine vk_ ?_
  | refine W.loop ?_
  | (refine dk_ ?_; refine W.loop ?_))
 refine GR ft_ s0_ fun r n1 g1 g2 => ⟨rfl,?_⟩
 (try dsimp only at g1 g2)
 simp only [zA2,beq_self_eq_true,reduceIte]
 generalize hA:(h.next + 1 + 2 + 2 + 2 + 1 + 3 + 7 + 9 + 3 + 1 + 3 + 5 + 5 + 2 + 1 + 3 + 5 + 5 + 2 + 1) = A at *
 have hAr:A < r:=by omega
 have hnA:h.next ≤ A:=by omega
 have hqA:q ≠ A:=by omega
 have hqr:q ≠ r:=by omega
 have hZ:=j2_ hX hg
 repeat (first
  | refine vk_ ?_
  | refine W.loop ?_
  | (refine dk_ ?_; refine W.loop ?_)
  | (refine ws_P (acc:=[]) (v:=0) (x:=P) hP hu hut hnA hAr (by omega) (by simp) (by omega) fun n2 g3 => ⟨rfl,?_⟩; (try dsimp only at g3))
  | (refine ws_P (acc:=P) (v:=1) (x:=[46]) (by simp) hu hut hnA hAr (by omega) (by omega) (by simp) fun n3 g4 => ⟨rfl,?_⟩; (try dsimp only at g4))
  | (refine ws_P (acc:=P ++ [46]) (v:=2) (x:=Z) hZ0 hu hut hnA hAr (by omega) (by simp; omega) (by omega) fun n4 g5 => ⟨rfl,?_⟩; (try dsimp only at g5))
  | (refine bs_F (acc:=P ++ 46 :: Z) (r:=r) (v:=3) (by simp) (by simp; omega) (by simp (disch:=omega) [zA1]) (by simp [zA1]) (by simp [zB1]) ?_; refine ⟨rfl,?_⟩))
 refine rk_ ?_
 refine hk _ _ ⟨om_,ut_,fun q2 hq2 => ?_⟩
 have hrq:(r == q2) = false:=by simp; omega
 simp [zB1,hrq]
def Pt (f:Nat) (ar:List CVal) (v:CVal):Prop:=∀ (h:CHeap),Fit h → ∀ (K:KT),(∀ n' ty,TyOk h n' ty → K v ⟨h.ents,n',ty⟩) → Wc tree.getF f ar h K
theorem pt_ {f:Nat} {ar:List CVal} {v:CVal} (H:Pt f ar v) {h:CHeap} {K:KT} (hk:∀ n2 ty,TyOk h n2 ty → K v ⟨h.ents,n2,ty⟩) (hf:Fit h:=by exact ft_):Wc tree.getF f ar h K:=H h hf K hk
theorem zGr {p n:B8} (hp:p ≠ []) (hn:n ≠ []) (hpl:p.length < 1000) (hnl:n.length < 1000):Pt 140 [.str p,.nils,.str n] (.str (p ++ 46 :: n)):=by
 intro h hf K hk
 obtain ⟨hu,hut,hX⟩:=fx4 hf
 have e1:(p == []) = false:=by simp [hp]
 have e2:(p = []) = False:=by simp [hp]
 have e3:(n == []) = false:=by simp [hn]
 have e4:(n = []) = False:=by simp [hn]
 have e5:p.isEmpty = false:=by simp [hp]
 have e6:n.isEmpty = false:=by simp [hn]
 have J:=fun {q:Nat} {h:CHeap} => @join2 p n hp hn hpl hnl q h
 have hT:∀ q,q < h.next → zB1 h.tys q = zB1 h.tys q:=fun _ _ => rfl
 refine mk_ 140 c140 (s_ ?_)
 have hZ:=j7_ hX e1 e2 e3 e4 e5 e6
 repeat (first
  | refine vk_ ?_
  | refine W.loop ?_
  | (refine dk_ ?_; refine W.loop ?_)
  | (refine J ft_ s0_ fun n3 ty3 T3 => ⟨rfl,?_⟩; have g3:=T3.n; have u3:=T3.u; (try dsimp only at g3 u3); have hT:=fun q (hq:q < h.next) => (T3.k q (by (try dsimp only); omega)).trans (hT q hq))
  | (refine mk_ 193 c193 (s_ ?_))
  | (refine mk_ 246 c246 (s_ ?_))
  | (refine mk_ 195 c195 (s_ ?_))
  | (refine mk_ 250 c250 (s_ ?_))
  | (refine mk_ 196 c196 (s_ ?_))
  | (refine rk_ ?_; refine ⟨rfl,?_⟩))
 refine rk_ ?_
 refine hk _ _ ⟨om_,ut_,hT⟩
theorem fnd_IE (a b:BD):Pt 255 [zAq a b,.str [120],.str [97,46,73],.str [69]] (.tup [.str [97,46,69],.int .i64 17,.int .i64 0]):=by
 intro h hf K hk
 obtain ⟨hu,hut,hX⟩:=fx4 hf
 unfold zAq zEz msF esF enV msgV
 have PlA:=lV7P a.xs
 have PlB:=lV7P b.xs
 have PoA:=oV1P (!a.os.isEmpty)
 have PoB:=oV1P (!b.os.isEmpty)
 generalize lV7 a.xs = lA at *
 generalize lV7 b.xs = lB at *
 generalize (if (!a.os.isEmpty) = true then CVal.imm .none 1 [.str [99]] else .nils) = oA at *
 generalize (if (!b.os.isEmpty) = true then CVal.imm .none 1 [.str [99]] else .nils) = oB at *
 obtain ⟨lA1,lA2,lA3,lA4,lA5⟩:=PlA
 obtain ⟨lB1,lB2,lB3,lB4,lB5⟩:=PlB
 obtain ⟨oA1,oA2,oA3,oA4,oA5⟩:=PoA
 obtain ⟨oB1,oB2,oB3,oB4,oB5⟩:=PoB
 simp only [CVal.isUndef,CVal.whole,CVal.cells,CVal.strip,CVal.bare] at lA1 lA2 lA3 lA4 lA5 lB1 lB2 lB3 lB4 lB5 oA1 oA2 oA3 oA4 oA5 oB1 oB2 oB3 oB4 oB5
 have hT:∀ q,q < h.next → zB1 h.tys q = zB1 h.tys q:=fun _ _ => rfl
 refine mk_ 255 c255 (s_ ?_)
 have hZ:=j21_ hX lA1 lA2 lA3 lA4 lA5 lB1 lB2 lB3 lB4 lB5 oA1 oA2 oA3 oA4 oA5 oB1 oB2 oB3 oB4 oB5
 repeat (first
  | refine vk_ ?_
  | refine W.loop ?_
  | (refine dk_ ?_; refine W.loop ?_)
  | (refine pt_ (zGr (by decide) (by decide) (by decide) (by decide)) fun n3 ty3 T3 => ⟨rfl,?_⟩; have g3:=T3.n; have u3:=T3.u; (try dsimp only at g3 u3); have hT:=fun q (hq:q < h.next) => (T3.k q (by (try dsimp only); omega)).trans (hT q hq))
  | (refine mk_ 275 c275 (s_ ?_))
  | (refine mk_ 285 c285 (s_ ?_))
  | (refine mk_ 286 c286 (s_ ?_))
  | (refine mk_ 199 c199 (s_ ?_))
  | (refine mk_ 253 c253 (s_ ?_))
  | (refine mk_ 287 c287 (s_ ?_))
  | (refine mk_ 60 c60 (s_ ?_))
  | (refine mk_ 276 c276 (s_ ?_))
  | (refine mk_ 277 c277 (s_ ?_))
  | (refine mk_ 288 c288 (s_ ?_))
  | (refine mk_ 289 c289 (s_ ?_))
  | (refine mk_ 291 c291 (s_ ?_))
  | (refine rk_ ?_; refine ⟨rfl,?_⟩))
 refine rk_ ?_
 refine hk _ _ ⟨om_,ut_,hT⟩
theorem fnd_II (a b:BD):Pt 255 [zAq a b,.str [120],.str [97,46,73],.str [73]] (.tup [.str [97,46,73],.int .i64 16,.int .i64 0]):=by
 intro h hf K hk
 obtain ⟨hu,hut,hX⟩:=fx4 hf
 unfold zAq zEz msF esF enV msgV
 have PlA:=lV7P a.xs
 have PlB:=lV7P b.xs
 have PoA:=oV1P (!a.os.isEmpty)
 have PoB:=oV1P (!b.os.isEmpty)
 generalize lV7 a.xs = lA at *
 generalize lV7 b.xs = lB at *
 generalize (if (!a.os.isEmpty) = true then CVal.imm .none 1 [.str [99]] else .nils) = oA at *
 generalize (if (!b.os.isEmpty) = true then CVal.imm .none 1 [.str [99]] else .nils) = oB at *
 obtain ⟨lA1,lA2,lA3,lA4,lA5⟩:=PlA
 obtain ⟨lB1,lB2,lB3,lB4,lB5⟩:=PlB
 obtain ⟨oA1,oA2,oA3,oA4,oA5⟩:=PoA
 obtain ⟨oB1,oB2,oB3,oB4,oB5⟩:=PoB
 simp only [CVal.isUndef,CVal.whole,CVal.cells,CVal.strip,CVal.bare] at lA1 lA2 lA3 lA4 lA5 lB1 lB2 lB3 lB4 lB5 oA1 oA2 oA3 oA4 oA5 oB1 oB2 oB3 oB4 oB5
 have hT:∀ q,q < h.next → zB1 h.tys q = zB1 h.tys q:=fun _ _ => rfl
 refine mk_ 255 c255 (s_ ?_)
 have hZ:=j21_ hX lA1 lA2 lA3 lA4 lA5 lB1 lB2 lB3 lB4 lB5 oA1 oA2 oA3 oA4 oA5 oB1 oB2 oB3 oB4 oB5
 repeat (first
  | refine vk_ ?_
  | refine W.loop ?_
  | (refine dk_ ?_; refine W.loop ?_)
  | (refine pt_ (zGr (by decide) (by decide) (by decide) (by decide)) fun n3 ty3 T3 => ⟨rfl,?_⟩; have g3:=T3.n; have u3:=T3.u; (try dsimp only at g3 u3); have hT:=fun q (hq:q < h.next) => (T3.k q (by (try dsimp only); omega)).trans (hT q hq))
  | (refine mk_ 275 c275 (s_ ?_))
  | (refine mk_ 285 c285 (s_ ?_))
  | (refine mk_ 286 c286 (s_ ?_))
  | (refine mk_ 199 c199 (s_ ?_))
  | (refine mk_ 253 c253 (s_ ?_))
  | (refine mk_ 287 c287 (s_ ?_))
  | (refine mk_ 60 c60 (s_ ?_))
  | (refine mk_ 276 c276 (s_ ?_))
  | (refine mk_ 277 c277 (s_ ?_))
  | (refine mk_ 288 c288 (s_ ?_))
  | (refine mk_ 289 c289 (s_ ?_))
  | (refine mk_ 291 c291 (s_ ?_))
  | (refine rk_ ?_; refine ⟨rfl,?_⟩))
 refine rk_ ?_
 refine hk _ _ ⟨om_,ut_,hT⟩
theorem fnd_IM (a b:BD):Pt 255 [zAq a b,.str [120],.str [97,46,73],.str [77]] (.tup [.str [97,46,77],.int .i64 16,.int .i64 0]):=by
 intro h hf K hk
 obtain ⟨hu,hut,hX⟩:=fx4 hf
 unfold zAq zEz msF esF enV msgV
 have PlA:=lV7P a.xs
 have PlB:=lV7P b.xs
 have PoA:=oV1P (!a.os.isEmpty)
 have PoB:=oV1P (!b.os.isEmpty)
 generalize lV7 a.xs = lA at *
 generalize lV7 b.xs = lB at *
 generalize (if (!a.os.isEmpty) = true then CVal.imm .none 1 [.str [99]] else .nils) = oA at *
 generalize (if (!b.os.isEmpty) = true then CVal.imm .none 1 [.str [99]] else .nils) = oB at *
 obtain ⟨lA1,lA2,lA3,lA4,lA5⟩:=PlA
 obtain ⟨lB1,lB2,lB3,lB4,lB5⟩:=PlB
 obtain ⟨oA1,oA2,oA3,oA4,oA5⟩:=PoA
 obtain ⟨oB1,oB2,oB3,oB4,oB5⟩:=PoB
 simp only [CVal.isUndef,CVal.whole,CVal.cells,CVal.strip,CVal.bare] at lA1 lA2 lA3 lA4 lA5 lB1 lB2 lB3 lB4 lB5 oA1 oA2 oA3 oA4 oA5 oB1 oB2 oB3 oB4 oB5
 have hT:∀ q,q < h.next → zB1 h.tys q = zB1 h.tys q:=fun _ _ => rfl
 refine mk_ 255 c255 (s_ ?_)
 have hZ:=j21_ hX lA1 lA2 lA3 lA4 lA5 lB1 lB2 lB3 lB4 lB5 oA1 oA2 oA3 oA4 oA5 oB1 oB2 oB3 oB4 oB5
 repeat (first
  | refine vk_ ?_
  | refine W.loop ?_
  | (refine dk_ ?_; refine W.loop ?_)
  | (refine pt_ (zGr (by decide) (by decide) (by decide) (by decide)) fun n3 ty3 T3 => ⟨rfl,?_⟩; have g3:=T3.n; have u3:=T3.u; (try dsimp only at g3 u3); have hT:=fun q (hq:q < h.next) => (T3.k q (by (try dsimp only); omega)).trans (hT q hq))
  | (refine mk_ 275 c275 (s_ ?_))
  | (refine mk_ 285 c285 (s_ ?_))
  | (refine mk_ 286 c286 (s_ ?_))
  | (refine mk_ 199 c199 (s_ ?_))
  | (refine mk_ 253 c253 (s_ ?_))
  | (refine mk_ 287 c287 (s_ ?_))
  | (refine mk_ 60 c60 (s_ ?_))
  | (refine mk_ 276 c276 (s_ ?_))
  | (refine mk_ 277 c277 (s_ ?_))
  | (refine mk_ 288 c288 (s_ ?_))
  | (refine mk_ 289 c289 (s_ ?_))
  | (refine mk_ 291 c291 (s_ ?_))
  | (refine rk_ ?_; refine ⟨rfl,?_⟩))
 refine rk_ ?_
 refine hk _ _ ⟨om_,ut_,hT⟩
theorem fnd_ME (a b:BD):Pt 255 [zAq a b,.str [120],.str [97,46,77],.str [69]] (.tup [.str [97,46,69],.int .i64 17,.int .i64 0]):=by
 intro h hf K hk
 obtain ⟨hu,hut,hX⟩:=fx4 hf
 unfold zAq zEz msF esF enV msgV
 have PlA:=lV7P a.xs
 have PlB:=lV7P b.xs
 have PoA:=oV1P (!a.os.isEmpty)
 have PoB:=oV1P (!b.os.isEmpty)
 generalize lV7 a.xs = lA at *
 generalize lV7 b.xs = lB at *
 generalize (if (!a.os.isEmpty) = true then CVal.imm .none 1 [.str [99]] else .nils) = oA at *
 generalize (if (!b.os.isEmpty) = true then CVal.imm .none 1 [.str [99]] else .nils) = oB at *
 obtain ⟨lA1,lA2,lA3,lA4,lA5⟩:=PlA
 obtain ⟨lB1,lB2,lB3,lB4,lB5⟩:=PlB
 obtain ⟨oA1,oA2,oA3,oA4,oA5⟩:=PoA
 obtain ⟨oB1,oB2,oB3,oB4,oB5⟩:=PoB
 simp only [CVal.isUndef,CVal.whole,CVal.cells,CVal.strip,CVal.bare] at lA1 lA2 lA3 lA4 lA5 lB1 lB2 lB3 lB4 lB5 oA1 oA2 oA3 oA4 oA5 oB1 oB2 oB3 oB4 oB5
 have hT:∀ q,q < h.next → zB1 h.tys q = zB1 h.tys q:=fun _ _ => rfl
 refine mk_ 255 c255 (s_ ?_)
 have hZ:=j21_ hX lA1 lA2 lA3 lA4 lA5 lB1 lB2 lB3 lB4 lB5 oA1 oA2 oA3 oA4 oA5 oB1 oB2 oB3 oB4 oB5
 repeat (first
  | refine vk_ ?_
  | refine W.loop ?_
  | (refine dk_ ?_; refine W.loop ?_)
  | (refine pt_ (zGr (by decide) (by decide) (by decide) (by decide)) fun n3 ty3 T3 => ⟨rfl,?_⟩; have g3:=T3.n; have u3:=T3.u; (try dsimp only at g3 u3); have hT:=fun q (hq:q < h.next) => (T3.k q (by (try dsimp only); omega)).trans (hT q hq))
  | (refine mk_ 275 c275 (s_ ?_))
  | (refine mk_ 285 c285 (s_ ?_))
  | (refine mk_ 286 c286 (s_ ?_))
  | (refine mk_ 199 c199 (s_ ?_))
  | (refine mk_ 253 c253 (s_ ?_))
  | (refine mk_ 287 c287 (s_ ?_))
  | (refine mk_ 60 c60 (s_ ?_))
  | (refine mk_ 276 c276 (s_ ?_))
  | (refine mk_ 277 c277 (s_ ?_))
  | (refine mk_ 288 c288 (s_ ?_))
  | (refine mk_ 289 c289 (s_ ?_))
  | (refine mk_ 291 c291 (s_ ?_))
  | (refine rk_ ?_; refine ⟨rfl,?_⟩))
 refine rk_ ?_
 refine hk _ _ ⟨om_,ut_,hT⟩
theorem fnd_MI (a b:BD):Pt 255 [zAq a b,.str [120],.str [97,46,77],.str [73]] (.tup [.str [97,46,73],.int .i64 16,.int .i64 0]):=by
 intro h hf K hk
 obtain ⟨hu,hut,hX⟩:=fx4 hf
 unfold zAq zEz msF esF enV msgV
 have PlA:=lV7P a.xs
 have PlB:=lV7P b.xs
 have PoA:=oV1P (!a.os.isEmpty)
 have PoB:=oV1P (!b.os.isEmpty)
 generalize lV7 a.xs = lA at *
 generalize lV7 b.xs = lB at *
 generalize (if (!a.os.isEmpty) = true then CVal.imm .none 1 [.str [99]] else .nils) = oA at *
 generalize (if (!b.os.isEmpty) = true then CVal.imm .none 1 [.str [99]] else .nils) = oB at *
 obtain ⟨lA1,lA2,lA3,lA4,lA5⟩:=PlA
 obtain ⟨lB1,lB2,lB3,lB4,lB5⟩:=PlB
 obtain ⟨oA1,oA2,oA3,oA4,oA5⟩:=PoA
 obtain ⟨oB1,oB2,oB3,oB4,oB5⟩:=PoB
 simp only [CVal.isUndef,CVal.whole,CVal.cells,CVal.strip,CVal.bare] at lA1 lA2 lA3 lA4 lA5 lB1 lB2 lB3 lB4 lB5 oA1 oA2 oA3 oA4 oA5 oB1 oB2 oB3 oB4 oB5
 have hT:∀ q,q < h.next → zB1 h.tys q = zB1 h.tys q:=fun _ _ => rfl
 refine mk_ 255 c255 (s_ ?_)
 have hZ:=j21_ hX lA1 lA2 lA3 lA4 lA5 lB1 lB2 lB3 lB4 lB5 oA1 oA2 oA3 oA4 oA5 oB1 oB2 oB3 oB4 oB5
 repeat (first
  | refine vk_ ?_
  | refine W.loop ?_
  | (refine dk_ ?_; refine W.loop ?_)
  | (refine pt_ (zGr (by decide) (by decide) (by decide) (by decide)) fun n3 ty3 T3 => ⟨rfl,?_⟩; have g3:=T3.n; have u3:=T3.u; (try dsimp only at g3 u3); have hT:=fun q (hq:q < h.next) => (T3.k q (by (try dsimp only); omega)).trans (hT q hq))
  | (refine mk_ 275 c275 (s_ ?_))
  | (refine mk_ 285 c285 (s_ ?_))
  | (refine mk_ 286 c286 (s_ ?_))
  | (refine mk_ 199 c199 (s_ ?_))
  | (refine mk_ 253 c253 (s_ ?_))
  | (refine mk_ 287 c287 (s_ ?_))
  | (refine mk_ 60 c60 (s_ ?_))
  | (refine mk_ 276 c276 (s_ ?_))
  | (refine mk_ 277 c277 (s_ ?_))
  | (refine mk_ 288 c288 (s_ ?_))
  | (refine mk_ 289 c289 (s_ ?_))
  | (refine mk_ 291 c291 (s_ ?_))
  | (refine rk_ ?_; refine ⟨rfl,?_⟩))
 refine rk_ ?_
 refine hk _ _ ⟨om_,ut_,hT⟩
theorem fnd_MM (a b:BD):Pt 255 [zAq a b,.str [120],.str [97,46,77],.str [77]] (.tup [.str [97,46,77],.int .i64 16,.int .i64 0]):=by
 intro h hf K hk
 obtain ⟨hu,hut,hX⟩:=fx4 hf
 unfold zAq zEz msF esF enV msgV
 have PlA:=lV7P a.xs
 have PlB:=lV7P b.xs
 have PoA:=oV1P (!a.os.isEmpty)
 have PoB:=oV1P (!b.os.isEmpty)
 generalize lV7 a.xs = lA at *
 generalize lV7 b.xs = lB at *
 generalize (if (!a.os.isEmpty) = true then CVal.imm .none 1 [.str [99]] else .nils) = oA at *
 generalize (if (!b.os.isEmpty) = true then CVal.imm .none 1 [.str [99]] else .nils) = oB at *
 obtain ⟨lA1,lA2,lA3,lA4,lA5⟩:=PlA
 obtain ⟨lB1,lB2,lB3,lB4,lB5⟩:=PlB
 obtain ⟨oA1,oA2,oA3,oA4,oA5⟩:=PoA
 obtain ⟨oB1,oB2,oB3,oB4,oB5⟩:=PoB
 simp only [CVal.isUndef,CVal.whole,CVal.cells,CVal.strip,CVal.bare] at lA1 lA2 lA3 lA4 lA5 lB1 lB2 lB3 lB4 lB5 oA1 oA2 oA3 oA4 oA5 oB1 oB2 oB3 oB4 oB5
 have hT:∀ q,q < h.next → zB1 h.tys q = zB1 h.tys q:=fun _ _ => rfl
 refine mk_ 255 c255 (s_ ?_)
 have hZ:=j21_ hX lA1 lA2 lA3 lA4 lA5 lB1 lB2 lB3 lB4 lB5 oA1 oA2 oA3 oA4 oA5 oB1 oB2 oB3 oB4 oB5
 repeat (first
  | refine vk_ ?_
  | refine W.loop ?_
  | (refine dk_ ?_; refine W.loop ?_)
  | (refine pt_ (zGr (by decide) (by decide) (by decide) (by decide)) fun n3 ty3 T3 => ⟨rfl,?_⟩; have g3:=T3.n; have u3:=T3.u; (try dsimp only at g3 u3); have hT:=fun q (hq:q < h.next) => (T3.k q (by (try dsimp only); omega)).trans (hT q hq))
  | (refine mk_ 275 c275 (s_ ?_))
  | (refine mk_ 285 c285 (s_ ?_))
  | (refine mk_ 286 c286 (s_ ?_))
  | (refine mk_ 199 c199 (s_ ?_))
  | (refine mk_ 253 c253 (s_ ?_))
  | (refine mk_ 287 c287 (s_ ?_))
  | (refine mk_ 60 c60 (s_ ?_))
  | (refine mk_ 276 c276 (s_ ?_))
  | (refine mk_ 277 c277 (s_ ?_))
  | (refine mk_ 288 c288 (s_ ?_))
  | (refine mk_ 289 c289 (s_ ?_))
  | (refine mk_ 291 c291 (s_ ?_))
  | (refine rk_ ?_; refine ⟨rfl,?_⟩))
 refine rk_ ?_
 refine hk _ _ ⟨om_,ut_,hT⟩
theorem fnd_F {a b:BD} {s t:B8} (hs:s = [97,46,73] ∨ s = [97,46,77]) (ht:t ∈ W18) (h0:zBx t = 0):Pt 255 [zAq a b,.str [120],.str s,.str t] (.tup [.str ([97,46] ++ t),.int .i64 (if t = [69] then 17 else 16),.int .i64 0]):=by
 rcases (zFf t ht).2.1 h0 with rfl | rfl | rfl <;> rcases hs with rfl | rfl
 · exact fnd_IE a b
 · exact fnd_ME a b
 · exact fnd_II a b
 · exact fnd_MI a b
 · exact fnd_IM a b
 · exact fnd_MM a b
def wrV (whole n:B8) (A O:CVal):CVal:=.agg [.str whole,.str [120],.str n,A,O,.nils,.nils,.nils,.nils,.str [],.nils,.bool false]
theorem kindP_F {a b:BD} {s n t:B8} {A O L:CVal} (PA:PV1 A) (PO:PV1 O) (hs:s = [97,46,73] ∨ s = [97,46,77]) (ht:t ∈ W18) {p d:Nat} {h:CHeap} (hf:Fit h) (hg:zA1 h.ents p = some (.cells [zAq a b,L,.int .i64 0,.str []])) {K:KT}
    (hk:∀ n' ty,TyOk h n' ty → K (.tup [.int .i64 ((if zBx t = 0 then (if t = [69] then 17 else 16) else zBx t:Nat):Int),.str (if zBx t = 0 then [97,46] ++ t else [])]) ⟨h.ents,n',ty⟩):Wc tree.getF 201 [.ptr p d 0,wrV s n A O,.str t] h K:=by
 obtain ⟨hu,hut,hX⟩:=fx4 hf
 have lp:=zA5 hu hg
 obtain ⟨a1,a2,a3,a4,a5⟩:=PA
 obtain ⟨b1,b2,b3,b4,b5⟩:=PO
 have KW:=kind_W ht
 have hT:∀ q,q < h.next → zB1 h.tys q = zB1 h.tys q:=fun _ _ => rfl
 unfold wrV
 simp only [CVal.isUndef,CVal.whole,CVal.cells,CVal.strip,CVal.bare] at a1 a2 a3 a4 a5 b1 b2 b3 b4 b5
 by_cases h0:zBx t = 0
 · have FD:=@fnd_F a b s t hs ht h0
   rw [if_pos h0,if_pos h0] at hk
   rw [h0] at KW
   have hc:(((if t = [69] then 17 else 16:Nat)):Int) = if t = [69] then 17 else 16:=by split <;> rfl
   rw [hc] at hk
   push_cast at KW
   obtain ⟨f1,f2,f3,f4,f5⟩:=fvP a b
   simp only [CVal.isUndef,CVal.whole,CVal.cells,CVal.strip,CVal.bare] at f1 f2 f3 f4 f5
   generalize zAq a b = FV at *
   refine mk_ 201 c201 (s_ ?_)
   have hZ:=j17_ hX hg a1 a2 a3 a4 a5 b1 b2 b3 b4 b5 f1 f2 f3 f4 f5
   repeat (first
    | refine vk_ ?_
    | (refine pe_ (KW) fun _ g => ⟨rfl,?_⟩; (try dsimp only at g))
    | (refine pt_ FD fun n3 ty3 T3 => ⟨rfl,?_⟩; have g3:=T3.n; have u3:=T3.u; (try dsimp only at g3 u3); have hT:=fun q (hq:q < h.next) => (T3.k q (by (try dsimp only); omega)).trans (hT q hq))
    | (refine pe_ (zCx) fun _ g4 => ⟨rfl,?_⟩; (try dsimp only at g4)))
   refine rk_ ?_
   show K (.tup [.int .i64 (if t = [69] then 17 else 16),.str ([97,46] ++ t)]) _
   refine hk _ _ ⟨?_,?_,hT⟩
   · exact om_
   · exact ut_
 · have hne:((zBx t:Nat):Int) ≠ 0:=by omega
   rw [if_neg h0,if_neg h0] at hk
   generalize zBx t = kn at *
   refine mk_ 201 c201 (s_ ?_)
   have hZ:=j12_ hX hg a1 a2 a3 a4 a5 b1 b2 b3 b4 b5
   repeat (first
    | refine vk_ ?_
    | (refine pe_ (KW) fun _ g => ⟨rfl,?_⟩; (try dsimp only at g)))
   refine rk_ ?_
   refine hk _ _ ⟨om_,ut_,hT⟩
abbrev ixfL:CCode:=(.loop true (.seq (.R [.g (.bin .lss (.var 1) (.var 2))] [(3,0)]) (.seq (.cond (.var 3) .skip (.exit 0)) (.seq (.block 1 (.seq (.R [.v 1,.m (.loc 0)] [(5,1)]) (.seq (.R [.v 4,.v 0,.v 5,.i 7 1 0,.z 7 0,.g (.callv false (.loc 4) [(.loc 0)])] [(6,5)]) (.cond (.var 6) (.seq (.R [.v 5,.m (.loc 0)] [(7,1)]) .ret) .skip)))) (.R [.g (.bin .add (.var 1) (.k 1)),.m (.loc 0)] [(1,1)])))))
theorem ixf_go {Ps:List RW} (hl:Ps.length ≤ 100) {r:RW} (hd:∀ x ∈ Ps,x.num ≠ r.num ∧ x.nm ≠ r.nm) {q d:Nat} {hh:CHeap} (hf:Fit hh) (hg:zA1 hh.ents q = some (.cells [.int .i64 r.lab,.str r.t,.str r.key,.str r.nm,.int .u64 r.num,.int .i64 r.pk,.int .i64 r.oo])) {Q:QT}
    (hno:∀ v1 v3 v5 v6 n',hh.next ≤ n' → Q (.exit 0) ⟨[.imm .none 7 (Ps.map RW.v),v1,.int .i64 Ps.length,v3,.fn (.func 197) [] [.ptr q d 0],v5,v6,.int .i64 0],⟨hh.ents,n',hh.tys⟩,[]⟩) :
    ∀ (m k nx:Nat) (v3 v5 v6:CVal),k + m = Ps.length → hh.next ≤ nx → W tree.getF ixfL ⟨[.imm .none 7 (Ps.map RW.v),.int .i64 (k:Nat),.int .i64 Ps.length,v3,.fn (.func 197) [] [.ptr q d 0],v5,v6,.int .i64 0],⟨hh.ents,nx,hh.tys⟩,[]⟩ Q:=by
 intro m
 induction m with
 | zero =>
  intro k nx v3 v5 v6 h1 h3
  obtain rfl:k = Ps.length:=by omega
  refine W.loop ?_
  repeat (first
   | refine v0_ ?_)
  refine hno _ _ _ _ _ ?_; exact om_
 | succ m ih =>
  intro k nx v3 v5 v6 h1 h3
  obtain ⟨hu,hut,hX⟩:=fx4 (show Fit ⟨hh.ents,nx,hh.tys⟩ from ⟨hf.1.le h3,hf.2.le h3⟩)
  dsimp only at hX hu hut
  have hlt:(k:Int) < (Ps.length:Int):=by omega
  have lq:=zA5 hu hg
  have hkl:k < Ps.length:=by omega
  obtain ⟨x,hx⟩:∃ x,Ps[k]? = some x:=⟨_,List.getElem?_eq_getElem hkl⟩
  obtain ⟨d1,d2⟩:=hd x (List.mem_of_getElem? hx)
  have hn:nth (Ps.map RW.v) k = x.v:=zCs RW.v Ps k x hx
  have hn2:(Ps.map RW.v)[k]? = some x.v:=by rw [List.getElem?_map,hx]; rfl
  have hlen:(Ps.map RW.v).length = Ps.length:=List.length_map ..
  have e1:((x.num:Int) = (r.num:Int)) = False:=by simp only [eq_iff_iff,iff_false]; omega
  have e2:(x.nm == r.nm) = false:=by simp [d2]
  have e3:(x.nm = r.nm) = False:=by simp [d2]
  have ih1:=fun nx v3 v5 v6 => ih (k + 1) nx v3 v5 v6 (by omega)
  push_cast at ih1
  generalize hPF:Ps.map RW.v = PF at *
  unfold RW.v ffV at hn hn2
  refine W.loop ?_
  have hZ:=j9_ hX hg hlt hn hn2 hlen e1 e2 e3
  repeat (first
   | refine vk_ ?_
   | (refine mk_ 197 c197 (s_ ?_))
   | (refine rk_ ?_; refine ⟨rfl,?_⟩))
  refine dx_ ?_
  refine ih1 _ _ _ _ ?_; exact om_
theorem cf_no {Ps:List RW} (hl:Ps.length ≤ 100) {r:RW} (hd:∀ x ∈ Ps,x.num ≠ r.num ∧ x.nm ≠ r.nm) {q d:Nat} {h:CHeap} (hf:Fit h) (hg:zA1 h.ents q = some (.cells [.int .i64 r.lab,.str r.t,.str r.key,.str r.nm,.int .u64 r.num,.int .i64 r.pk,.int .i64 r.oo])) {K:KT} (hk:∀ n',h.next ≤ n' → K (.bool false) ⟨h.ents,n',h.tys⟩):Wc tree.getF 200 [.imm .none 7 (Ps.map RW.v),.fn (.func 197) [] [.ptr q d 0]] h K:=by
 obtain ⟨hu,hut,hX⟩:=fx4 hf
 have hlen:(Ps.map RW.v).length = Ps.length:=List.length_map ..
 have G:=@ixf_go Ps hl r hd q d
 generalize hPF:Ps.map RW.v = PF at *
 refine mk_ 200 c200 (s_ ?_)
 have hZ:=j2_ hX hlen
 repeat (first
  | refine vk_ ?_
  | (refine mk_ 254 c254 (s_ ?_))
  | (refine rk_ ?_; refine ⟨rfl,?_⟩))
 refine G (hh:=⟨_,_,_⟩) ft_ hg ?_ Ps.length 0 _ _ _ _ (by omega) om_
 intro v1 v3 v5 v6 n' hn'
 dsimp only at hn'
 have hZ:=j2_ hX hlen
 repeat (first
  | refine vk_ ?_
  | (refine mk_ 254 c254 (s_ ?_))
  | (refine rk_ ?_; refine ⟨rfl,?_⟩))
 refine rx_ ?_
 refine hk _ ?_; exact om_
theorem number_F (k:Nat) (h1:1 ≤ k) (h2:k ≤ 17):Pe 202 [.int .i64 (k:Int)] (.bool (wN k != 2)):=by
 intro h hf K hk
 obtain ⟨hu,hut,hX⟩:=fx4 hf
 have CW:=cast_F k h1 h2
 have w0:wN k = 0 ∨ wN k = 1 ∨ wN k = 5 ∨ wN k = 2:=by unfold wN; split <;> (try split) <;> (try split) <;> simp
 generalize wN k = w at *
 rcases w0 with rfl | rfl | rfl | rfl
 all_goals (
  refine mk_ 202 c202 (s_ ?_)
  repeat (first
   | refine vx_ ?_
   | (refine pe_ (CW) fun _ g => ⟨rfl,?_⟩; (try dsimp only at g)))
  refine rx_ ?_
  refine hk _ ?_; exact om_)
theorem RW.kind_b {r:RW} (h:r.t ∈ W18):1 ≤ r.kind ∧ r.kind ≤ 17:=by
 have:=(zFf r.t h).1
 unfold RW.kind
 split
 · split <;> omega
 · omega
theorem pfield_F {a b:BD} {s n:B8} {Ls:List RW} (hl:Ls.length ≤ 100) {i:Nat} {r:RW} (hr:Ls[i]? = some r) (hok:r.ok) (hk0:r.lab ≠ 3 → r.key = []) (hk3:r.lab = 3 → r.key ∈ W18) (hd:∀ x ∈ Ls.take i,x.num ≠ r.num ∧ x.nm ≠ r.nm) {O L:CVal} (hO:O = .nils ∨ O = .imm .none 1 [.str [99]]) (hs:s = [97,46,73] ∨ s = [97,46,77]) {p d:Nat} {h:CHeap} (hf:Fit h) (hg:zA1 h.ents p = some (.cells [zAq a b,L,.int .i64 0,.str []])) {K:KT}
    (hk:∀ n' ty,TyOk h n' ty → K r.pf ⟨h.ents,n',ty⟩):Wc tree.getF 144 [.ptr p d 0,wrV s n (.imm .none 7 (Ls.map RW.v)) O,.int .i64 (i:Nat)] h K:=by
 obtain ⟨hu,hut,hX⟩:=fx4 hf
 have hT:∀ q,q < h.next → zB1 h.tys q = zB1 h.tys q:=fun _ _ => rfl
 have lp:=zA5 hu hg
 have PO:PV1 O:=by rcases hO with rfl | rfl <;> exact ⟨rfl,rfl,rfl,rfl,rfl⟩
 obtain ⟨b1,b2,b3,b4,b5⟩:=id PO
 simp only [CVal.isUndef,CVal.whole,CVal.cells,CVal.strip,CVal.bare] at b1 b2 b3 b4 b5
 have hil:i < Ls.length:=(List.getElem?_eq_some_iff.1 hr).1
 have hlt:(i:Int) < (Ls.length:Int):=by omega
 have hle:i ≤ Ls.length:=by omega
 have hn:nth (Ls.map RW.v) i = r.v:=zCs RW.v Ls i r hr
 have hn2:(Ls.map RW.v)[i]? = some r.v:=by rw [List.getElem?_map,hr]; rfl
 have hlen:(Ls.map RW.v).length = Ls.length:=List.length_map ..
 have CF:=fun {q d:Nat} {h:CHeap} => @cf_no (Ls.take i) (by rw [List.length_take]; omega) r hd q d h
 rw [List.map_take] at CF
 have RI:=@right_F n (.imm .none 7 (Ls.map RW.v)) O r.num ⟨rfl,rfl,rfl,rfl,rfl⟩ PO hok.num1 hok.num2
 have KP:=fun {h:CHeap} => @kindP_F a b s n r.t (.imm .none 7 (Ls.map RW.v)) O L ⟨rfl,rfl,rfl,rfl,rfl⟩ PO hs hok.t p d h
 have KB:=RW.kind_b hok.t
 have NF:=number_F r.kind KB.1 KB.2
 have CO:Pe 199 [O,.str r.nm] (.bool false):=by
  rcases hO with rfl | rfl
  · exact zIb
  · exact cont_1 hok.nm
 have hlab:=hok.lab
 have hpk:=hok.pk
 have hpk2:=hok.pk2
 have hKW:r.lab = 3 → Pe 203 [.str r.key] (.int .i64 (zBx r.key:Int)):=fun e => kind_W (hk3 e)
 have hnum:=hok.num2
 have hKe:(if zBx r.t = 0 then (if r.t = [69] then 17 else 16) else zBx r.t) = r.kind:=rfl
 have hTe:(if zBx r.t = 0 then [97,46] ++ r.t else []) = r.ty:=rfl
 rw [hKe,hTe] at KP
 unfold RW.pf RW.pkd at hk
 unfold wrV at *
 have e17:r.kind ≤ 17:=KB.2
 clear hok hd hr hk3 KB hO hKe hTe
 generalize r.kind = kd at *
 generalize r.ty = ty0 at *
 generalize Ls.map RW.v = PF at *
 unfold RW.v ffV at hn hn2
 obtain ⟨lab,t,key,nm,num,pk,oo⟩:=r
 dsimp only at *
 have S:(lab ≠ 2 ∧ pk = 0) ∨ (lab = 2 ∧ ((pk = 0 ∧ wN kd = 2) ∨ ((pk = 0 ∨ pk = 1 ∨ pk = 2) ∧ wN kd ≠ 2))):=by
  by_cases h2:lab = 2
  · by_cases h3:wN kd = 2
    · by_cases h4:pk = 0
      · exact .inr ⟨h2,.inl ⟨h4,h3⟩⟩
      · exact absurd h3 (hpk2 h4).2
    · exact .inr ⟨h2,.inr ⟨by omega,h3⟩⟩
  · by_cases h4:pk = 0
    · exact .inl ⟨h2,h4⟩
    · exact absurd (hpk2 h4).1 h2
 have NFt:wN kd ≠ 2 → Pe 202 [.int .i64 (kd:Int)] (.bool true):=fun e => (show (wN kd != 2) = true by simpa using e) ▸ NF
 have NFf:wN kd = 2 → Pe 202 [.int .i64 (kd:Int)] (.bool false):=fun e => (show (wN kd != 2) = false by simpa using e) ▸ NF
 have S2:(lab = 0 ∧ pk = 0) ∨ (lab = 1 ∧ pk = 0) ∨ (lab = 3 ∧ pk = 0) ∨ (lab = 2 ∧ pk = 0 ∧ wN kd = 2) ∨ (lab = 2 ∧ pk = 0 ∧ wN kd ≠ 2) ∨ (lab = 2 ∧ pk = 1 ∧ wN kd ≠ 2) ∨ (lab = 2 ∧ pk = 2 ∧ wN kd ≠ 2):=by
  omega
 clear S NF
 rcases S2 with ⟨rfl,rfl⟩ | ⟨rfl,rfl⟩ | ⟨rfl,rfl⟩ | ⟨rfl,rfl,hw⟩ | ⟨rfl,rfl,hw⟩ | ⟨rfl,rfl,hw⟩ | ⟨rfl,rfl,hw⟩
 · obtain rfl:=hk0 (by omega)
   refine mk_ 144 c144 (s_ ?_)
   have hZ:=j12_ hX hg hn hn2 hlen hlt hle b1 b2 b3 b4 b5
   repeat (first
    | refine vk_ ?_
    | (refine pe_ (RI) fun _ g => ⟨rfl,?_⟩; (try dsimp only at g))
    | (refine pe_ (zCx) fun _ g4 => ⟨rfl,?_⟩; (try dsimp only at g4))
    | (refine pe_ (zIb) fun _ g5 => ⟨rfl,?_⟩; (try dsimp only at g5))
    | (refine CF ft_ sd_ fun n6 g6 => ⟨rfl,?_⟩; (try dsimp only at g6))
    | (refine pe_ (CO) fun _ g7 => ⟨rfl,?_⟩; (try dsimp only at g7))
    | (refine KP ft_ sd_ fun n3 ty3 T3 => ⟨rfl,?_⟩; have g3:=T3.n; have u3:=T3.u; (try dsimp only at g3 u3); have hT:=fun q (hq:q < h.next) => (T3.k q (by (try dsimp only); omega)).trans (hT q hq))
    | (refine pe_ (NN) fun _ g8 => ⟨rfl,?_⟩; (try dsimp only at g8))
    | (refine pe_ (KW) fun _ g9 => ⟨rfl,?_⟩; (try dsimp only at g9)))
   refine rk_ ?_
   refine hk _ _ ⟨?_,?_,hT⟩
   · exact om_
   · exact ut_
 · obtain rfl:=hk0 (by omega)
   refine mk_ 144 c144 (s_ ?_)
   have hZ:=j12_ hX hg hn hn2 hlen hlt hle b1 b2 b3 b4 b5
   repeat (first
    | refine vk_ ?_
    | (refine pe_ (RI) fun _ g => ⟨rfl,?_⟩; (try dsimp only at g))
    | (refine pe_ (zCx) fun _ g4 => ⟨rfl,?_⟩; (try dsimp only at g4))
    | (refine pe_ (zIb) fun _ g5 => ⟨rfl,?_⟩; (try dsimp only at g5))
    | (refine CF ft_ sd_ fun n6 g6 => ⟨rfl,?_⟩; (try dsimp only at g6))
    | (refine pe_ (CO) fun _ g7 => ⟨rfl,?_⟩; (try dsimp only at g7))
    | (refine KP ft_ sd_ fun n3 ty3 T3 => ⟨rfl,?_⟩; have g3:=T3.n; have u3:=T3.u; (try dsimp only at g3 u3); have hT:=fun q (hq:q < h.next) => (T3.k q (by (try dsimp only); omega)).trans (hT q hq))
    | (refine pe_ (NN) fun _ g8 => ⟨rfl,?_⟩; (try dsimp only at g8))
    | (refine pe_ (KW) fun _ g9 => ⟨rfl,?_⟩; (try dsimp only at g9)))
   refine rk_ ?_
   refine hk _ _ ⟨?_,?_,hT⟩
   · exact om_
   · exact ut_
 · have KW:=hKW rfl
   refine mk_ 144 c144 (s_ ?_)
   have hZ:=j12_ hX hg hn hn2 hlen hlt hle b1 b2 b3 b4 b5
   repeat (first
    | refine vk_ ?_
    | (refine pe_ (RI) fun _ g => ⟨rfl,?_⟩; (try dsimp only at g))
    | (refine pe_ (zCx) fun _ g4 => ⟨rfl,?_⟩; (try dsimp only at g4))
    | (refine pe_ (zIb) fun _ g5 => ⟨rfl,?_⟩; (try dsimp only at g5))
    | (refine CF ft_ sd_ fun n6 g6 => ⟨rfl,?_⟩; (try dsimp only at g6))
    | (refine pe_ (CO) fun _ g7 => ⟨rfl,?_⟩; (try dsimp only at g7))
    | (refine KP ft_ sd_ fun n3 ty3 T3 => ⟨rfl,?_⟩; have g3:=T3.n; have u3:=T3.u; (try dsimp only at g3 u3); have hT:=fun q (hq:q < h.next) => (T3.k q (by (try dsimp only); omega)).trans (hT q hq))
    | (refine pe_ (NN) fun _ g8 => ⟨rfl,?_⟩; (try dsimp only at g8))
    | (refine pe_ (KW) fun _ g9 => ⟨rfl,?_⟩; (try dsimp only at g9)))
   refine rk_ ?_
   refine hk _ _ ⟨?_,?_,hT⟩
   · exact om_
   · exact ut_
 · obtain rfl:=hk0 (by omega)
   have NN:=NFf hw
   rw [hw] at hk
   refine mk_ 144 c144 (s_ ?_)
   have hZ:=j12_ hX hg hn hn2 hlen hlt hle b1 b2 b3 b4 b5
   repeat (first
    | refine vk_ ?_
    | (refine pe_ (RI) fun _ g => ⟨rfl,?_⟩; (try dsimp only at g))
    | (refine pe_ (zCx) fun _ g4 => ⟨rfl,?_⟩; (try dsimp only at g4))
    | (refine pe_ (zIb) fun _ g5 => ⟨rfl,?_⟩; (try dsimp only at g5))
    | (refine CF ft_ sd_ fun n6 g6 => ⟨rfl,?_⟩; (try dsimp only at g6))
    | (refine pe_ (CO) fun _ g7 => ⟨rfl,?_⟩; (try dsimp only at g7))
    | (refine KP ft_ sd_ fun n3 ty3 T3 => ⟨rfl,?_⟩; have g3:=T3.n; have u3:=T3.u; (try dsimp only at g3 u3); have hT:=fun q (hq:q < h.next) => (T3.k q (by (try dsimp only); omega)).trans (hT q hq))
    | (refine pe_ (NN) fun _ g8 => ⟨rfl,?_⟩; (try dsimp only at g8))
    | (refine pe_ (KW) fun _ g9 => ⟨rfl,?_⟩; (try dsimp only at g9)))
   refine rk_ ?_
   refine hk _ _ ⟨?_,?_,hT⟩
   · exact om_
   · exact ut_
 · obtain rfl:=hk0 (by omega)
   have NN:=NFt hw
   have hw2:(wN kd != 2) = true:=by simpa using hw
   rw [hw2] at hk
   refine mk_ 144 c144 (s_ ?_)
   have hZ:=j12_ hX hg hn hn2 hlen hlt hle b1 b2 b3 b4 b5
   repeat (first
    | refine vk_ ?_
    | (refine pe_ (RI) fun _ g => ⟨rfl,?_⟩; (try dsimp only at g))
    | (refine pe_ (zCx) fun _ g4 => ⟨rfl,?_⟩; (try dsimp only at g4))
    | (refine pe_ (zIb) fun _ g5 => ⟨rfl,?_⟩; (try dsimp only at g5))
    | (refine CF ft_ sd_ fun n6 g6 => ⟨rfl,?_⟩; (try dsimp only at g6))
    | (refine pe_ (CO) fun _ g7 => ⟨rfl,?_⟩; (try dsimp only at g7))
    | (refine KP ft_ sd_ fun n3 ty3 T3 => ⟨rfl,?_⟩; have g3:=T3.n; have u3:=T3.u; (try dsimp only at g3 u3); have hT:=fun q (hq:q < h.next) => (T3.k q (by (try dsimp only); omega)).trans (hT q hq))
    | (refine pe_ (NN) fun _ g8 => ⟨rfl,?_⟩; (try dsimp only at g8))
    | (refine pe_ (KW) fun _ g9 => ⟨rfl,?_⟩; (try dsimp only at g9)))
   refine rk_ ?_
   refine hk _ _ ⟨?_,?_,hT⟩
   · exact om_
   · exact ut_
 · obtain rfl:=hk0 (by omega)
   have NN:=NFt hw
   have hw2:(wN kd != 2) = true:=by simpa using hw
   rw [hw2] at hk
   refine mk_ 144 c144 (s_ ?_)
   have hZ:=j12_ hX hg hn hn2 hlen hlt hle b1 b2 b3 b4 b5
   repeat (first
    | refine vk_ ?_
    | (refine pe_ (RI) fun _ g => ⟨rfl,?_⟩; (try dsimp only at g))
    | (refine pe_ (zCx) fun _ g4 => ⟨rfl,?_⟩; (try dsimp only at g4))
    | (refine pe_ (zIb) fun _ g5 => ⟨rfl,?_⟩; (try dsimp only at g5))
    | (refine CF ft_ sd_ fun n6 g6 => ⟨rfl,?_⟩; (try dsimp only at g6))
    | (refine pe_ (CO) fun _ g7 => ⟨rfl,?_⟩; (try dsimp only at g7))
    | (refine KP ft_ sd_ fun n3 ty3 T3 => ⟨rfl,?_⟩; have g3:=T3.n; have u3:=T3.u; (try dsimp only at g3 u3); have hT:=fun q (hq:q < h.next) => (T3.k q (by (try dsimp only); omega)).trans (hT q hq))
    | (refine pe_ (NN) fun _ g8 => ⟨rfl,?_⟩; (try dsimp only at g8))
    | (refine pe_ (KW) fun _ g9 => ⟨rfl,?_⟩; (try dsimp only at g9)))
   refine rk_ ?_
   refine hk _ _ ⟨?_,?_,hT⟩
   · exact om_
   · exact ut_
 · obtain rfl:=hk0 (by omega)
   have NN:=NFt hw
   have hw2:(wN kd != 2) = true:=by simpa using hw
   rw [hw2] at hk
   refine mk_ 144 c144 (s_ ?_)
   have hZ:=j12_ hX hg hn hn2 hlen hlt hle b1 b2 b3 b4 b5
   repeat (first
    | refine vk_ ?_
    | (refine pe_ (RI) fun _ g => ⟨rfl,?_⟩; (try dsimp only at g))
    | (refine pe_ (zCx) fun _ g4 => ⟨rfl,?_⟩; (try dsimp only at g4))
    | (refine pe_ (zIb) fun _ g5 => ⟨rfl,?_⟩; (try dsimp only at g5))
    | (refine CF ft_ sd_ fun n6 g6 => ⟨rfl,?_⟩; (try dsimp only at g6))
    | (refine pe_ (CO) fun _ g7 => ⟨rfl,?_⟩; (try dsimp only at g7))
    | (refine KP ft_ sd_ fun n3 ty3 T3 => ⟨rfl,?_⟩; have g3:=T3.n; have u3:=T3.u; (try dsimp only at g3 u3); have hT:=fun q (hq:q < h.next) => (T3.k q (by (try dsimp only); omega)).trans (hT q hq))
    | (refine pe_ (NN) fun _ g8 => ⟨rfl,?_⟩; (try dsimp only at g8))
    | (refine pe_ (KW) fun _ g9 => ⟨rfl,?_⟩; (try dsimp only at g9)))
   refine rk_ ?_
   refine hk _ _ ⟨?_,?_,hT⟩
   · exact om_
   · exact ut_
abbrev isoL:CCode:=(.loop true (.seq (.seq (.R [.v 1,.v 2,.h .lss 1 0] [(3,2)]) (.cond (.var 3) .skip (.exit 0))) (.seq (.block 1 (.seq (.R [.v 1,.m (.loc 0)] [(4,1)]) (.block 2 (.loop true (.seq (.seq (.R [.v 4,.v 0,.h .gtr 1 0,.m (.loc 0),.Q (.v 5) 0 true,.Q (.v 6) 1 true,.Q (.v 4) 2 true,.Q (.i 8 1 0) 3 true,.q (.load (some 8) (.loc 0)) 4 true,.Q (.v 6) 5 true,.Q (.v 4) 6 true,.Q (.x .sub 0 (.k 1)) 7 true,.Q (.i 8 2 0) 8 true,.q (.load (some 8) (.loc 0)) 9 true,.q (.callv false (.loc 9) [(.loc 5),(.loc 0)]) 10 true,.Q (.x .lss 0 (.k 0)) 11 true,.p 12 0] [(7,16)]) (.cond (.var 7) .skip (.exit 2))) (.seq (.block 3 (.R [.v 6,.v 4,.v 6,.v 4,.x .sub 0 (.k 1),.v 6,.v 4,.x .sub 0 (.k 1),.i 8 2 0,.z 8 0,.v 6,.v 4,.i 8 1 0,.z 8 0,.i 8 13 12,.s 8 0 5,.i 8 13 11,.s 8 0 3] [])) (.R [.v 4,.x .sub 0 (.k 1),.m (.loc 0)] [(4,2)]))))))) (.R [.v 1,.x .add 0 (.k 1),.m (.loc 0)] [(1,2)]))))
abbrev isiL:CCode:=(.loop true (.seq (.seq (.R [.v 4,.v 0,.h .gtr 1 0,.m (.loc 0),.Q (.v 5) 0 true,.Q (.v 6) 1 true,.Q (.v 4) 2 true,.Q (.i 8 1 0) 3 true,.q (.load (some 8) (.loc 0)) 4 true,.Q (.v 6) 5 true,.Q (.v 4) 6 true,.Q (.x .sub 0 (.k 1)) 7 true,.Q (.i 8 2 0) 8 true,.q (.load (some 8) (.loc 0)) 9 true,.q (.callv false (.loc 9) [(.loc 5),(.loc 0)]) 10 true,.Q (.x .lss 0 (.k 0)) 11 true,.p 12 0] [(7,16)]) (.cond (.var 7) .skip (.exit 2))) (.seq (.block 3 (.R [.v 6,.v 4,.v 6,.v 4,.x .sub 0 (.k 1),.v 6,.v 4,.x .sub 0 (.k 1),.i 8 2 0,.z 8 0,.v 6,.v 4,.i 8 1 0,.z 8 0,.i 8 13 12,.s 8 0 5,.i 8 13 11,.s 8 0 3] [])) (.R [.v 4,.x .sub 0 (.k 1),.m (.loc 0)] [(4,2)]))))
theorem cmp_lt {x y:RW} (h1:x.num < y.num):Pe 146 [x.pf,y.pf] (.int .i64 (-1)):=by
 intro h hf K hk
 obtain ⟨hu,hut,hX⟩:=fx4 hf
 unfold RW.pf
 have g1:(x.num:Int) < (y.num:Int):=by omega
 refine mk_ 146 c146 (s_ ?_)
 repeat (first
  | refine vx_ ?_
  | refine W.loop ?_
  | (refine dx_ ?_; refine W.loop ?_)
  | (refine mk_ 116 c116 (s_ ?_))
  | (refine mk_ 165 c165 (s_ ?_))
  | (refine rx_ ?_; refine ⟨rfl,?_⟩))
 refine rx_ ?_
 refine hk _ ?_; exact om_
theorem cmp_gt {x y:RW} (h1:y.num < x.num):Pe 146 [x.pf,y.pf] (.int .i64 1):=by
 intro h hf K hk
 obtain ⟨hu,hut,hX⟩:=fx4 hf
 unfold RW.pf
 have g1:(y.num:Int) < (x.num:Int):=by omega
 refine mk_ 146 c146 (s_ ?_)
 repeat (first
  | refine vx_ ?_
  | refine W.loop ?_
  | (refine dx_ ?_; refine W.loop ?_)
  | (refine mk_ 116 c116 (s_ ?_))
  | (refine mk_ 165 c165 (s_ ?_))
  | (refine rx_ ?_; refine ⟨rfl,?_⟩))
 refine rx_ ?_
 refine hk _ ?_; exact om_
theorem zHu (w v:CVal):∀ (A B:List CVal),zC1 (A ++ v :: B) A.length w = A ++ w :: B
 | [],B => rfl
 | a :: A,B => by simp [zC1,zHu w v A B]
def bub (x:RW):List RW → List RW → List RW
 | [],B => x :: B
 | y :: ra,B => if x.num < y.num then bub x ra (y :: B) else ra.reverse ++ y :: x :: B
theorem is_in {x:RW} {n R vr:Nat} {i:Int} (hn:n ≤ 100) {Q:QT} :
    ∀ (ra B:List RW) (E:EE) (nx:Nat) (ty:NN) (v3 v7:CVal),Fit ⟨E,nx,ty⟩ → zA1 E R = some (.row vr ((ra.reverse ++ x :: B).map RW.pf)) → (ra.reverse ++ x :: B).length = n → (∀ y ∈ ra,y.num ≠ x.num) →
    (∀ (v4 v7:CVal) (nx':Nat),nx ≤ nx' → Q (.exit 2) ⟨[.int .i64 0,.int .i64 i,.int .i64 (n:Nat),v3,v4,.fn (.func 146) [] [],.ref R vr 8 0 n,v7],⟨zA2 E R (.row vr ((bub x ra B).map RW.pf)),nx',ty⟩,[]⟩) → W tree.getF isiL ⟨[.int .i64 0,.int .i64 i,.int .i64 (n:Nat),v3,.int .i64 (ra.length:Nat),.fn (.func 146) [] [],.ref R vr 8 0 n,v7],⟨E,nx,ty⟩,[]⟩ Q:=by
 intro ra
 induction ra with
 | nil =>
  intro B E nx ty v3 v7 hf hg hln hd hk
  refine W.loop ?_
  repeat (first
   | refine v0_ ?_)
  have hs:zA2 E R (.row vr ((bub x [] B).map RW.pf)) = E:=zAe hg
  rw [hs] at hk
  refine hk _ _ _ ?_; exact om_
 | cons y ra ih =>
  intro B E nx ty v3 v7 hf hg hln hd hk
  obtain ⟨hu,hut,hX⟩:=fx4 hf
  dsimp only at hX hu hut
  have hj:ra.length < 100:=by simp at hln; omega
  have hrv:(y :: ra).reverse ++ x :: B = ra.reverse ++ y :: x :: B:=by simp
  rw [hrv] at hg hln
  have n1:nth ((ra.reverse ++ y :: x :: B).map RW.pf) (ra.length + 1) = x.pf:=by rw [zIe]; simp
  have n2:nth ((ra.reverse ++ y :: x :: B).map RW.pf) ra.length = y.pf:=by rw [zIe]; simp
  have hlen:((ra.reverse ++ y :: x :: B).map RW.pf).length = n:=by rw [List.length_map]; exact hln
  have hd1:=hd y (List.mem_cons_self ..)
  have hln2:ra.length + 2 + B.length = n:=by simp at hln; omega
  have z1:((ra.length:Int) + 1).toNat = ra.length + 1:=by omega
  have z2:(ra.length:Int) + 1 - 1 = (ra.length:Int):=by omega
  have z3:((y :: ra).length:Int) = (ra.length:Int) + 1:=by simp
  rw [z3]
  refine W.loop ?_
  by_cases hc:x.num < y.num
  · have C:=cmp_lt hc
    have hs1:zC1 ((ra.reverse ++ y :: x :: B).map RW.pf) (ra.length + 1) y.pf = (ra.reverse ++ y :: y :: B).map RW.pf:=by
     have:=zHu y.pf x.pf (((ra.reverse ++ [y])).map RW.pf) (B.map RW.pf)
     simpa using this
    have hs2:zC1 ((ra.reverse ++ y :: y :: B).map RW.pf) ra.length x.pf = (ra.reverse ++ x :: y :: B).map RW.pf:=by
     have:=zHu x.pf y.pf (ra.reverse.map RW.pf) ((y :: B).map RW.pf)
     simpa using this
    have n3:nth ((ra.reverse ++ y :: y :: B).map RW.pf) ra.length = y.pf:=by rw [zIe]; simp
    have hl3:((ra.reverse ++ y :: y :: B).map RW.pf).length = n:=by rw [List.length_map]; simp at hln ⊢; omega
    have hb:bub x (y :: ra) B = bub x ra (y :: B):=by show (if x.num < y.num then _ else _) = _; rw [if_pos hc]
    have ih1:=fun E nx ty v3 v7 => ih (y :: B) E nx ty v3 v7
    rw [hb] at hk
    have hY:=fx5 hf hg
    dsimp only at hY
    have hln3:(ra.reverse ++ x :: y :: B).length = n:=by simp at hln ⊢; omega
    generalize hPF:(ra.reverse ++ y :: x :: B).map RW.pf = PF at *
    generalize hPF1:(ra.reverse ++ y :: y :: B).map RW.pf = PF1 at *
    generalize hPF2:(ra.reverse ++ x :: y :: B).map RW.pf = PF2 at *
    unfold RW.pf at n1 n2 n3 C hs1 hs2
    have hZ:=j12_ hX hg hY n1 n2 n3 hs1 hs2 hlen hl3 z1 z2
    repeat (first
     | refine vk_ ?_
     | (refine pe_ (C) fun _ g => ⟨rfl,?_⟩; (try dsimp only at g)))
    refine dk_ ?_
    refine ih1 _ _ _ _ _ ⟨?_,?_⟩ (zA6 hg) hln3 (fun z hz => hd z (List.mem_cons_of_mem _ hz)) (fun v4 v7 nx' g => ?_)
    · exact hu.set.le om_
    · exact hut.le om_
    · rw [zA4]
      refine hk _ _ _ ?_; exact om_
  · have C:=cmp_gt (x:=x) (y:=y) (by omega)
    generalize hPF:(ra.reverse ++ y :: x :: B).map RW.pf = PF at *
    unfold RW.pf at n1 n2 C
    have hZ:=j7_ hX hg n1 n2 hlen z1 z2
    repeat (first
     | refine vk_ ?_
     | (refine pe_ (C) fun _ g => ⟨rfl,?_⟩; (try dsimp only at g)))
    have hb:bub x (y :: ra) B = ra.reverse ++ y :: x :: B:=by show (if x.num < y.num then _ else _) = _; rw [if_neg hc]
    rw [hb,hPF,zAe hg] at hk
    refine hk _ _ _ ?_; exact om_
theorem zJt (r:RW):∀ l:List RW,(insR r l).Perm (r :: l)
 | [] => List.Perm.refl _
 | x :: l => by
  unfold insR
  split
  · exact ((zJt r l).cons x).trans (List.Perm.swap r x l)
  · exact List.Perm.refl _
theorem bub_app (x:RW):∀ (ra B D:List RW),bub x ra (B ++ D) = bub x ra B ++ D
 | [],B,D => rfl
 | y :: ra,B,D => by
  show (if x.num < y.num then bub x ra (y :: (B ++ D)) else ra.reverse ++ y :: x :: (B ++ D)) = (if x.num < y.num then bub x ra (y :: B) else ra.reverse ++ y :: x :: B) ++ D
  split
  · exact bub_app x ra (y :: B) D
  · simp
theorem insR_pass (x:RW):∀ (A B:List RW),(∀ a ∈ A,a.num < x.num) → insR x (A ++ B) = A ++ insR x B
 | [],B,_ => rfl
 | a :: A,B,h => by
  show (if a.num < x.num then a :: insR x (A ++ B) else x :: a :: (A ++ B)) = _
  rw [if_pos (h a (by simp)),insR_pass x A B (fun b hb => h b (by simp [hb]))]; rfl
theorem bub_ins (x:RW):∀ (ra B:List RW),(ra.reverse.Pairwise fun a b => a.num < b.num) → (∀ y ∈ ra,y.num ≠ x.num) → (∀ b ∈ B,x.num < b.num) → bub x ra B = insR x (ra.reverse ++ B)
 | [],B,_,_,hB => by
  cases B with
  | nil => rfl
  | cons b B =>
   show x :: b :: B = (if b.num < x.num then b :: insR x B else x :: b :: B)
   rw [if_neg (by have:=hB b (by simp); omega)]
 | y :: ra,B,hp,hd,hB => by
  show (if x.num < y.num then bub x ra (y :: B) else ra.reverse ++ y :: x :: B) = _
  have hr:(y :: ra).reverse = ra.reverse ++ [y]:=by simp
  rw [hr] at hp ⊢
  obtain ⟨p1,p2,p3⟩:=List.pairwise_append.1 hp
  split
  · rename_i hc
    rw [bub_ins x ra (y :: B) p1 (fun z hz => hd z (by simp [hz])) (fun b hb => by
     rcases List.mem_cons.1 hb with rfl | hb
     · exact hc
     · exact hB b hb)]
    simp
  · rename_i hc
    have hy:y.num < x.num:=by have:=hd y (by simp); omega
    rw [insR_pass x (ra.reverse ++ [y]) B (fun a ha => by
     rcases List.mem_append.1 ha with ha | ha
     · have:=p3 a ha y (by simp); omega
     · simp at ha; subst ha; exact hy)]
    have:insR x B = x :: B:=by
     cases B with
     | nil => rfl
     | cons b B =>
      show (if b.num < x.num then b :: insR x B else x :: b :: B) = _
      rw [if_neg (by have:=hB b (by simp); omega)]
    rw [this]; simp
theorem insR_pw (x:RW):∀ l:List RW,(l.Pairwise fun a b => a.num < b.num) → (∀ y ∈ l,y.num ≠ x.num) → ((insR x l).Pairwise fun a b => a.num < b.num)
 | [],_,_ => by simp [insR]
 | a :: l,hp,hd => by
  obtain ⟨p1,p2⟩:=List.pairwise_cons.1 hp
  show List.Pairwise _ (if a.num < x.num then a :: insR x l else x :: a :: l)
  split
  · rename_i hc
    refine List.pairwise_cons.2 ⟨fun b hb => ?_,insR_pw x l p2 (fun y hy => hd y (by simp [hy]))⟩
    rcases List.mem_cons.1 ((zJt x l).mem_iff.1 hb) with rfl | hb
    · exact hc
    · exact p1 b hb
  · rename_i hc
    have hx:x.num < a.num:=by have:=hd a (by simp); omega
    refine List.pairwise_cons.2 ⟨fun b hb => ?_,hp⟩
    rcases List.mem_cons.1 hb with rfl | hb
    · exact hx
    · have:=p1 b hb; omega
theorem is_out {n R vr:Nat} (hn:n ≤ 100) {Q:QT} :
    ∀ (D S:List RW) (E:EE) (nx:Nat) (ty:NN) (v3 v4 v7:CVal),Fit ⟨E,nx,ty⟩ → zA1 E R = some (.row vr ((S ++ D).map RW.pf)) → (S ++ D).length = n → ((S ++ D).map RW.num).Nodup → (S.Pairwise fun a b => a.num < b.num) →
    (∀ (v1 v3 v4 v7:CVal) (nx':Nat),nx ≤ nx' → Q (.exit 0) ⟨[.int .i64 0,v1,.int .i64 (n:Nat),v3,v4,.fn (.func 146) [] [],.ref R vr 8 0 n,v7],⟨zA2 E R (.row vr ((D.foldl (fun acc r => insR r acc) S).map RW.pf)),nx',ty⟩,[]⟩) → W tree.getF isoL ⟨[.int .i64 0,.int .i64 (S.length:Nat),.int .i64 (n:Nat),v3,v4,.fn (.func 146) [] [],.ref R vr 8 0 n,v7],⟨E,nx,ty⟩,[]⟩ Q:=by
 intro D
 induction D with
 | nil =>
  intro S E nx ty v3 v4 v7 hf hg hln hd hp hk
  have e0:S.length = n:=by simpa using hln
  have hg2:zA1 E R = some (.row vr (S.map RW.pf)):=by simpa using hg
  have hs:zA2 E R (.row vr ((([]:List RW).foldl (fun acc r => insR r acc) S).map RW.pf)) = E:=zAe hg2
  rw [hs] at hk
  rw [e0]
  refine W.loop ?_
  repeat (first
   | refine v0_ ?_)
  refine hk _ _ _ _ _ ?_; exact om_
 | cons x D ih =>
  intro S E nx ty v3 v4 v7 hf hg hln hd hp hk
  obtain ⟨hu,hut,hX⟩:=fx4 hf
  dsimp only at hX hu hut
  have hlt:(S.length:Int) < (n:Int):=by simp at hln; omega
  have hSn:S.length < 100:=by omega
  have hdx:∀ y ∈ S.reverse,y.num ≠ x.num:=fun y hy e => by
   rw [List.map_append,List.nodup_append] at hd
   exact hd.2.2 y.num (List.mem_map.2 ⟨y,List.mem_reverse.1 hy,rfl⟩) x.num (by simp) e
  have hb:bub x S.reverse D = insR x S ++ D:=by
   have h1:=bub_app x S.reverse [] D
   rw [List.nil_append] at h1
   rw [h1,bub_ins x S.reverse [] (by rw [List.reverse_reverse]; exact hp) hdx (by simp)]
   simp
  have hpw:=insR_pw x S hp (fun y hy => hdx y (List.mem_reverse.2 hy))
  have hP:((insR x S) ++ D).Perm (S ++ x :: D):=((zJt x S).append_right D).trans List.perm_middle.symm
  have hd2:((insR x S ++ D).map RW.num).Nodup:=(hP.map RW.num).nodup_iff.2 hd
  have hl2:(insR x S ++ D).length = n:=hP.length_eq.trans hln
  have hi1:(insR x S).length = S.length + 1:=zLa x S
  have hY:=fx5 hf hg
  dsimp only at hY
  refine W.loop ?_
  have hZ:=j2_ hX hlt
  repeat ((fail_if_success (show W tree.getF isiL _ _)); first
   | refine st_ rfl ?_
   | ((first | refine W.regG ?_ | refine WoR.go ?_); generalize e:goR .. = r; simp (disch:=omega) [hZ] at e; replace e:some _ = _:=e; subst e; (try dsimp only [goW])))
  have hrl:S.reverse.length = S.length:=List.length_reverse ..
  rw [← hrl]
  refine is_in hn S.reverse D _ _ _ _ _ ⟨hu.le om_,hut.le om_⟩ (by rw [List.reverse_reverse]; exact hg) (by rw [List.reverse_reverse]; exact hln) hdx (fun v4 v7 nx' g => ?_)
  rw [hb,hrl]
  have hZ:=j2_ hX hY
  repeat (first
   | refine vk_ ?_)
  refine dk_ ?_
  have e1:((S.length:Int) + 1) = ((insR x S).length:Int):=by rw [hi1]; push_cast; rfl
  rw [e1]
  refine ih (insR x S) _ _ _ _ _ _ ⟨hu.set.le om_,hut.le om_⟩ (by rw [List.map_append]; exact zA6 hg) hl2 hd2 hpw (fun v1 v3 v4 v7 nx'' g2 => ?_)
  rw [zA4]
  refine hk _ _ _ _ _ ?_; exact om_
theorem isort_F {Ls:List RW} (hne:Ls ≠ []) (hl:Ls.length ≤ 19) (hd:(Ls.map RW.num).Nodup) {R vr:Nat} {h:CHeap} (hf:Fit h) (hg:zA1 h.ents R = some (.row vr (Ls.map RW.pf))) {K:KT} (hk:∀ n',h.next ≤ n' → K (.tup []) ⟨zA2 h.ents R (.row vr ((zBo Ls).map RW.pf)),n',h.tys⟩):Wc tree.getF 145 [.ref R vr 8 0 Ls.length,.fn (.func 146) [] []] h K:=by
 obtain ⟨hu,hut,hX⟩:=fx4 hf
 have hY:=fx5 hf hg
 have lR:=zA5 hu hg
 obtain ⟨x,D,rfl⟩:∃ x D,Ls = x :: D:=by cases Ls with | nil => exact absurd rfl hne | cons x D => exact ⟨x,D,rfl⟩
 have IO:=fun {Q} => @is_out (x :: D).length R vr (by omega) Q D [x] h.ents
 generalize hn:(x :: D).length = n at *
 have hlt:(n:Int) < 20:=by omega
 refine mk_ 145 c145 (s_ ?_)
 have hZ:=j2_ hX hlt
 repeat ((fail_if_success (show W tree.getF isoL _ _)); first
  | refine st_ rfl ?_
  | ((first | refine W.regG ?_ | refine WoR.go ?_); generalize e:goR .. = r; simp (disch:=omega) [hZ] at e; replace e:some _ = _:=e; subst e; (try dsimp only [goW]))
  | refine W.loop ?_
  | (refine dk_ ?_; refine W.loop ?_)
  | (simp only [zAd,zA3,zA8,zAa,zAb,reduceIte])
  | (refine mk_ 204 c204 (s_ ?_))
  | (refine mk_ 256 c256 (s_ ?_))
  | (refine rk_ ?_; refine ⟨rfl,?_⟩))
 refine IO _ h.tys _ _ _ ⟨hu.le om_,hut.le om_⟩ hg hn hd (by simp) (fun v1 v3 v4 v7 nx' g => ?_)
 have es:D.foldl (fun acc r => insR r acc) [x] = zBo (x :: D):=rfl
 rw [es]
 (try simp only [zAd,zA3,zA8,zAa,zAb,reduceIte])
 generalize hSP:(zBo (x :: D)).map RW.pf = SP at *
 try dsimp only at g
 have hZ:=j3_ hX hY hlt
 repeat (first
  | refine vk_ ?_
  | refine W.loop ?_
  | (refine dk_ ?_; refine W.loop ?_)
  | (refine mk_ 204 c204 (s_ ?_))
  | (refine rk_ ?_; refine ⟨rfl,?_⟩))
 refine rk_ ?_
 refine hk _ ?_; exact om_
theorem twice_0  : Pe 142 [.nils] (.bool false):=by
 intro h hf K hk
 obtain ⟨hu,hut,hX⟩:=fx4 hf
 refine mk_ 142 c142 (s_ ?_)
 repeat (first
  | refine vx_ ?_
  | refine W.loop ?_
  | (refine dx_ ?_; refine W.loop ?_))
 refine rx_ ?_
 refine hk _ ?_; exact om_
theorem twice_1  : Pe 142 [.imm .none 1 [.str [99]]] (.bool false):=by
 intro h hf K hk
 obtain ⟨hu,hut,hX⟩:=fx4 hf
 refine mk_ 142 c142 (s_ ?_)
 repeat (first
  | refine vx_ ?_
  | refine W.loop ?_
  | (refine dx_ ?_; refine W.loop ?_))
 refine rx_ ?_
 refine hk _ ?_; exact om_
end Go.Proofs.YtcokdlfmnhjngaaGreat.IrE
