/- What the functions of the law 'PvalMerges' do: part 3 of 9. -/
import Derived.Test.YtafeofghkhhhkaaGreatLx2
namespace Go.Proofs.YtafeofghkhhhkaaGreat.IrM
open Go Go.CI
set_option maxRecDepth 100000
set_option maxHeartbeats 4000000
set_option linter.unusedVariables false
set_option linter.unusedSimpArgs false
attribute [local irreducible] W Wo Wc WoR
def FL (k:Nat) (e:EE) (F:CVal) (xs:List CVal) (fi:Option Nat):Prop :=
 (F=.nils/\xs=[]/\fi=none)\/∃ i u,F=.imm (.own i u) k xs/\xs≠[]/\zA1 e i=some (.tok u)/\fi=some i
def ffV (lab:Int) (t key nm:B8) (num pk oo:Int):CVal:=.agg [.int .i64 lab,.str t,.str key,.str nm,.int .u64 num,.int .i64 pk,.int .i64 oo]
structure RS (h:CHeap) (p m:Nat) (Ls:List CVal) (j2:Int) (mc:CVal->CObj) (xs:List CVal) (fi:Option Nat) (h':CHeap):Prop where
 fit:Fit h'
 nx:h.next<=h'.next
 ty:h'.tys=h.tys
 gp:zA1 h'.ents p=some (pp Ls j2)
 gm:∃ F fi2,zA1 h'.ents m=some (mc F)/\FL 7 h'.ents F xs fi2/\(fi2=fi\/fi=none/\∃ i,fi2=some i/\h.next<=i)
 fr:∀ q,q<h.next->q≠p->q≠m->fi≠some q->zA1 h'.ents q=zA1 h.ents q
theorem RS.mk0 {h:CHeap} {p m:Nat} {Ls:List CVal} {j j2:Int} {mc:CVal->CObj} {o:CObj} {x:CVal} {id n2:Nat} (hf:Fit h) (hg:zA1 h.ents p=some (pp Ls j)) (hm:zA1 h.ents m=some o) (hpm:p≠m) (hid:h.next<=id) (hn:id<n2):RS h p m Ls j2 mc [x] none ⟨(id,.tok 0)::zA2 (zA2 h.ents p (pp Ls j2)) m (mc (.imm (.own id 0) 7 [x])),n2,h.tys⟩ where
 fit:=⟨Under.cons hn (hf.1.set.set.le (by dsimp only;omega)),hf.2.le (by dsimp only;omega)⟩
 nx:=by dsimp only;omega
 ty:=rfl
 gp:=by
  have:=zA3 hf.1 hg
  dsimp only
  rw [zA6 (by omega),zA0 hpm,zA4 hg]
 gm:=by
  have:=zA3 hf.1 hm
  refine ⟨_,some id,?_,.inr ⟨id,0,rfl,by simp,by simp [zA1],rfl⟩,.inr ⟨rfl,id,rfl,hid⟩⟩
  dsimp only
  rw [zA6 (by omega),zA4 (by rw [zA0 (Ne.symm hpm)];exact hm)]
 fr:=fun q q1 q2 q3 _=>by dsimp only;rw [zA6 (by omega),zA0 q3,zA0 q2]
theorem RS.mk1 {h:CHeap} {p m i u:Nat} {Ls:List CVal} {j j2:Int} {mc:CVal->CObj} {o:CObj} {x:CVal} {xs:List CVal} {n2:Nat} (hf:Fit h) (hg:zA1 h.ents p=some (pp Ls j)) (hm:zA1 h.ents m=some o) (hi:zA1 h.ents i=some (.tok u)) (hpm:p≠m) (hip:i≠p) (him:i≠m) (hn:h.next<=n2):RS h p m Ls j2 mc (xs++[x]) (some i) ⟨zA2 (zA2 (zA2 h.ents p (pp Ls j2)) i (.tok (u+1))) m (mc (.imm (.own i (u+1)) 7 (xs++[x]))),n2,h.tys⟩ where
 fit:=⟨hf.1.set.set.set.le hn,hf.2.le hn⟩
 nx:=hn
 ty:=rfl
 gp:=by dsimp only;rw [zA0 hpm,zA0 (Ne.symm hip),zA4 hg]
 gm:=by
  refine ⟨_,some i,?_,.inr ⟨i,u+1,rfl,by simp,?_,rfl⟩,.inl rfl⟩
  . dsimp only;rw [zA4 (by rw [zA0 (Ne.symm him),zA0 (Ne.symm hpm)];exact hm)]
  . dsimp only;rw [zA0 him,zA4 (by rw [zA0 hip];exact hi)]
 fr:=fun q q1 q2 q3 q4=>by
  have q5:q≠i:=fun e=>q4 (by rw [e])
  dsimp only;rw [zA0 q3,zA0 q5,zA0 q2]
theorem zMd {h:CHeap} {p d m dm:Nat} {Ls:List CVal} {j:Int} (hf:Fit h) (hg:zA1 h.ents p=some (pp Ls j)) {N F O M2 E2 N2 R2:CVal} {xs:List CVal} {fi:Option Nat} (hm:zA1 h.ents m=some (.cells [N,F,O,M2,E2,N2,R2])) (hpm:p≠m) (hF:FL 7 h.ents F xs fi) (hxl:xs.length<1000) {t nmv:B8} {num:Int} (lab oo:Int) (key:B8) (A0:At Ls (j) 1 t 0) (A1:At Ls (j+1) 1 nmv 0) (A2:At Ls (j+1+1) 4 [61] 0) (A3:At Ls (j+1+1+1) 2 [] num) (A4:At Ls (j+1+1+1+1) 4 [59] 0) (hns:∀ b ∈ nmv,b≠46) (hnn:nmv≠[]) (hnl:nmv.length<1000) {K:KT}
    (hk:∀ h',RS h p m Ls (j+1+1+1+1+1) (fun F=>.cells [N,F,O,M2,E2,N2,R2]) (xs++[ffV lab t key nmv num 0 oo]) fi h'->K (.tup []) h'):Wc TF 182 [.ptr p d 0,.ptr m dm 0,ffV lab [] key [] 0 0 oo] h K:=by
 obtain ⟨hu,hut,hX⟩:=fx4 hf
 have hY:=fx5 hf hg
 have lp:=zA3 hu hg
 have lm:=zA3 hu hm
 have hmp:m≠p:=Ne.symm hpm
 have hY2:=fx5 hf hm
 have jz:=A0.z
 have jm:=A4.m
 have hD:∀ x y n,h.next<=n->zA5 (zA2 (zA2 h.ents p x) m y) n=zA2 (zA2 h.ents p x) m y:=fun x y n hn=>zAa (hu.set.set.le hn)
 have hD3:∀ x i z y n,h.next<=n->zA5 (zA2 (zA2 (zA2 h.ents p x) i z) m y) n=zA2 (zA2 (zA2 h.ents p x) i z) m y:=fun x i z y n hn=>zAa (hu.set.set.set.le hn)
 unfold ffV at hk ⊢
 rcases hF with ⟨rfl,rfl,rfl⟩ | ⟨i,u,rfl,hxn,hi,rfl⟩
 . refine mk_ 182 c182 ?_
   generalize e:zEm .. = r
   simp (disch:=omega) [c182] at e
   subst e
   have hZ:=j9_ hX hY hY2 hg hm hpm hmp jz jm
   repeat (first
    | refine wn_ ?_
    | ((first | refine zAs ft_ sn_ A0 ?_ | refine zAs ft_ sn_ A1 ?_ | refine zAs ft_ sn_ A2 ?_ | refine zAs ft_ sn_ A3 ?_ | refine zAs ft_ sn_ A4 ?_ | refine zAf ft_ sn_ A0 ?_ | refine zAf ft_ sn_ A1 ?_ | refine zAf ft_ sn_ A2 ?_ | refine zAf ft_ sn_ A3 ?_ | refine zAf ft_ sn_ A4 ?_ | refine zAu ft_ sn_ A0 ?_ | refine zAu ft_ sn_ A1 ?_ | refine zAu ft_ sn_ A2 ?_ | refine zAu ft_ sn_ A3 ?_ | refine zAu ft_ sn_ A4 ?_ | refine zAn ft_ sn_ A0 ?_ | refine zAn ft_ sn_ A1 ?_ | refine zAn ft_ sn_ A2 ?_ | refine zAn ft_ sn_ A3 ?_ | refine zAn ft_ sn_ A4 ?_ | refine zAr ft_ sn_ A0 _ rfl ?_ | refine zAr ft_ sn_ A1 _ rfl ?_ | refine zAr ft_ sn_ A2 _ rfl ?_ | refine zAr ft_ sn_ A3 _ rfl ?_ | refine zAr ft_ sn_ A4 _ rfl ?_ | refine zAj ft_ sn_ A0 _ ?_ | refine zAj ft_ sn_ A1 _ ?_ | refine zAj ft_ sn_ A2 _ ?_ | refine zAj ft_ sn_ A3 _ ?_ | refine zAj ft_ sn_ A4 _ ?_ | refine zCz ft_ sn_ A1 hns hnn hnl ?_);intro n3 g3;refine ⟨rfl,?_⟩;(try dsimp only at g3)))
   have hZ:=j8_ hX hY hY2 hD hg hm hpm hmp
   refine rk_ ?_
   dsimp only
   refine hk _ (RS.mk0 (mc:=fun F=>.cells [N,F,O,M2,E2,N2,R2]) hf hg hm hpm ?_ ?_) <;> (exact om_)
 . have hip:i≠p:=fun e=>by subst e;rw [hg] at hi;cases hi
   have him:i≠m:=fun e=>by subst e;rw [hm] at hi;cases hi
   have hpi:p≠i:=Ne.symm hip
   have hmi:m≠i:=Ne.symm him
   have li:=zA3 hu hi
   have hY3:=fx5 hf hi
   refine mk_ 182 c182 (s_ ?_)
   have hZ:=j18_ hX hY hY2 hY3 hD hD3 hg hm hi hpm hmp hip him hpi hmi jz jm hxl
   repeat (first
    | refine wn_ ?_
    | ((first | refine zAs ft_ sn_ A0 ?_ | refine zAs ft_ sn_ A1 ?_ | refine zAs ft_ sn_ A2 ?_ | refine zAs ft_ sn_ A3 ?_ | refine zAs ft_ sn_ A4 ?_ | refine zAf ft_ sn_ A0 ?_ | refine zAf ft_ sn_ A1 ?_ | refine zAf ft_ sn_ A2 ?_ | refine zAf ft_ sn_ A3 ?_ | refine zAf ft_ sn_ A4 ?_ | refine zAu ft_ sn_ A0 ?_ | refine zAu ft_ sn_ A1 ?_ | refine zAu ft_ sn_ A2 ?_ | refine zAu ft_ sn_ A3 ?_ | refine zAu ft_ sn_ A4 ?_ | refine zAn ft_ sn_ A0 ?_ | refine zAn ft_ sn_ A1 ?_ | refine zAn ft_ sn_ A2 ?_ | refine zAn ft_ sn_ A3 ?_ | refine zAn ft_ sn_ A4 ?_ | refine zAr ft_ sn_ A0 _ rfl ?_ | refine zAr ft_ sn_ A1 _ rfl ?_ | refine zAr ft_ sn_ A2 _ rfl ?_ | refine zAr ft_ sn_ A3 _ rfl ?_ | refine zAr ft_ sn_ A4 _ rfl ?_ | refine zAj ft_ sn_ A0 _ ?_ | refine zAj ft_ sn_ A1 _ ?_ | refine zAj ft_ sn_ A2 _ ?_ | refine zAj ft_ sn_ A3 _ ?_ | refine zAj ft_ sn_ A4 _ ?_ | refine zCz ft_ sn_ A1 hns hnn hnl ?_);intro n3 g3;refine ⟨rfl,?_⟩;(try dsimp only at g3)))
   have hZ:=j18_ hX hY hY2 hY3 hD hD3 hg hm hi hpm hmp hip him hpi hmi jz jm hxl
   refine rk_ ?_
   dsimp only
   refine hk _ (RS.mk1 (mc:=fun F=>.cells [N,F,O,M2,E2,N2,R2]) hf hg hm hi hpm hip him ?_);exact om_
theorem zZp {h:CHeap} {p d m dm:Nat} {Ls:List CVal} {j:Int} (hf:Fit h) (hg:zA1 h.ents p=some (pp Ls j)) {N F O M2 E2 N2 R2:CVal} {xs:List CVal} {fi:Option Nat} (hm:zA1 h.ents m=some (.cells [N,F,O,M2,E2,N2,R2])) (hpm:p≠m) (hF:FL 7 h.ents F xs fi) (hxl:xs.length<1000) {t nmv:B8} {num:Int} (lab oo:Int) (key:B8) (A0:At Ls (j) 1 t 0) (A1:At Ls (j+1) 1 nmv 0) (A2:At Ls (j+1+1) 4 [61] 0) (A3:At Ls (j+1+1+1) 2 [] num) (A4:At Ls (j+1+1+1+1) 4 [91] 0) (A5:At Ls (j+1+1+1+1+1) 1 [112,97,99,107,101,100] 0) (A6:At Ls (j+1+1+1+1+1+1) 4 [61] 0) (A7:At Ls (j+1+1+1+1+1+1+1) 1 [102,97,108,115,101] 0) (A8:At Ls (j+1+1+1+1+1+1+1+1) 4 [93] 0) (A9:At Ls (j+1+1+1+1+1+1+1+1+1) 4 [59] 0) (hns:∀ b ∈ nmv,b≠46) (hnn:nmv≠[]) (hnl:nmv.length<1000) {K:KT}
    (hk:∀ h',RS h p m Ls (j+1+1+1+1+1+1+1+1+1+1) (fun F=>.cells [N,F,O,M2,E2,N2,R2]) (xs++[ffV lab t key nmv num 2 oo]) fi h'->K (.tup []) h'):Wc TF 182 [.ptr p d 0,.ptr m dm 0,ffV lab [] key [] 0 0 oo] h K:=by
 obtain ⟨hu,hut,hX⟩:=fx4 hf
 have hY:=fx5 hf hg
 have lp:=zA3 hu hg
 have lm:=zA3 hu hm
 have hmp:m≠p:=Ne.symm hpm
 have hY2:=fx5 hf hm
 have jz:=A0.z
 have jm:=A9.m
 have hD:∀ x y n,h.next<=n->zA5 (zA2 (zA2 h.ents p x) m y) n=zA2 (zA2 h.ents p x) m y:=fun x y n hn=>zAa (hu.set.set.le hn)
 have hD3:∀ x i z y n,h.next<=n->zA5 (zA2 (zA2 (zA2 h.ents p x) i z) m y) n=zA2 (zA2 (zA2 h.ents p x) i z) m y:=fun x i z y n hn=>zAa (hu.set.set.set.le hn)
 unfold ffV at hk ⊢
 rcases hF with ⟨rfl,rfl,rfl⟩ | ⟨i,u,rfl,hxn,hi,rfl⟩
 . refine mk_ 182 c182 ?_
   generalize e:zEm .. = r
   simp (disch:=omega) [c182] at e
   subst e
   have hZ:=j9_ hX hY hY2 hg hm hpm hmp jz jm
   repeat (first
    | refine wn_ ?_
    | ((first | refine zAs ft_ sn_ A0 ?_ | refine zAs ft_ sn_ A1 ?_ | refine zAs ft_ sn_ A2 ?_ | refine zAs ft_ sn_ A3 ?_ | refine zAs ft_ sn_ A4 ?_ | refine zAs ft_ sn_ A5 ?_ | refine zAs ft_ sn_ A6 ?_ | refine zAs ft_ sn_ A7 ?_ | refine zAs ft_ sn_ A8 ?_ | refine zAs ft_ sn_ A9 ?_ | refine zAf ft_ sn_ A0 ?_ | refine zAf ft_ sn_ A1 ?_ | refine zAf ft_ sn_ A2 ?_ | refine zAf ft_ sn_ A3 ?_ | refine zAf ft_ sn_ A4 ?_ | refine zAf ft_ sn_ A5 ?_ | refine zAf ft_ sn_ A6 ?_ | refine zAf ft_ sn_ A7 ?_ | refine zAf ft_ sn_ A8 ?_ | refine zAf ft_ sn_ A9 ?_ | refine zAu ft_ sn_ A0 ?_ | refine zAu ft_ sn_ A1 ?_ | refine zAu ft_ sn_ A2 ?_ | refine zAu ft_ sn_ A3 ?_ | refine zAu ft_ sn_ A4 ?_ | refine zAu ft_ sn_ A5 ?_ | refine zAu ft_ sn_ A6 ?_ | refine zAu ft_ sn_ A7 ?_ | refine zAu ft_ sn_ A8 ?_ | refine zAu ft_ sn_ A9 ?_ | refine zAn ft_ sn_ A0 ?_ | refine zAn ft_ sn_ A1 ?_ | refine zAn ft_ sn_ A2 ?_ | refine zAn ft_ sn_ A3 ?_ | refine zAn ft_ sn_ A4 ?_ | refine zAn ft_ sn_ A5 ?_ | refine zAn ft_ sn_ A6 ?_ | refine zAn ft_ sn_ A7 ?_ | refine zAn ft_ sn_ A8 ?_ | refine zAn ft_ sn_ A9 ?_ | refine zAr ft_ sn_ A0 _ rfl ?_ | refine zAr ft_ sn_ A1 _ rfl ?_ | refine zAr ft_ sn_ A2 _ rfl ?_ | refine zAr ft_ sn_ A3 _ rfl ?_ | refine zAr ft_ sn_ A4 _ rfl ?_ | refine zAr ft_ sn_ A5 _ rfl ?_ | refine zAr ft_ sn_ A6 _ rfl ?_ | refine zAr ft_ sn_ A7 _ rfl ?_ | refine zAr ft_ sn_ A8 _ rfl ?_ | refine zAr ft_ sn_ A9 _ rfl ?_ | refine zAj ft_ sn_ A0 _ ?_ | refine zAj ft_ sn_ A1 _ ?_ | refine zAj ft_ sn_ A2 _ ?_ | refine zAj ft_ sn_ A3 _ ?_ | refine zAj ft_ sn_ A4 _ ?_ | refine zAj ft_ sn_ A5 _ ?_ | refine zAj ft_ sn_ A6 _ ?_ | refine zAj ft_ sn_ A7 _ ?_ | refine zAj ft_ sn_ A8 _ ?_ | refine zAj ft_ sn_ A9 _ ?_ | refine zCz ft_ sn_ A1 hns hnn hnl ?_);intro n3 g3;refine ⟨rfl,?_⟩;(try dsimp only at g3)))
   have hZ:=j8_ hX hY hY2 hD hg hm hpm hmp
   refine rk_ ?_
   dsimp only
   refine hk _ (RS.mk0 (mc:=fun F=>.cells [N,F,O,M2,E2,N2,R2]) hf hg hm hpm ?_ ?_) <;> (exact om_)
 . have hip:i≠p:=fun e=>by subst e;rw [hg] at hi;cases hi
   have him:i≠m:=fun e=>by subst e;rw [hm] at hi;cases hi
   have hpi:p≠i:=Ne.symm hip
   have hmi:m≠i:=Ne.symm him
   have li:=zA3 hu hi
   have hY3:=fx5 hf hi
   refine mk_ 182 c182 (s_ ?_)
   have hZ:=j18_ hX hY hY2 hY3 hD hD3 hg hm hi hpm hmp hip him hpi hmi jz jm hxl
   repeat (first
    | refine wn_ ?_
    | ((first | refine zAs ft_ sn_ A0 ?_ | refine zAs ft_ sn_ A1 ?_ | refine zAs ft_ sn_ A2 ?_ | refine zAs ft_ sn_ A3 ?_ | refine zAs ft_ sn_ A4 ?_ | refine zAs ft_ sn_ A5 ?_ | refine zAs ft_ sn_ A6 ?_ | refine zAs ft_ sn_ A7 ?_ | refine zAs ft_ sn_ A8 ?_ | refine zAs ft_ sn_ A9 ?_ | refine zAf ft_ sn_ A0 ?_ | refine zAf ft_ sn_ A1 ?_ | refine zAf ft_ sn_ A2 ?_ | refine zAf ft_ sn_ A3 ?_ | refine zAf ft_ sn_ A4 ?_ | refine zAf ft_ sn_ A5 ?_ | refine zAf ft_ sn_ A6 ?_ | refine zAf ft_ sn_ A7 ?_ | refine zAf ft_ sn_ A8 ?_ | refine zAf ft_ sn_ A9 ?_ | refine zAu ft_ sn_ A0 ?_ | refine zAu ft_ sn_ A1 ?_ | refine zAu ft_ sn_ A2 ?_ | refine zAu ft_ sn_ A3 ?_ | refine zAu ft_ sn_ A4 ?_ | refine zAu ft_ sn_ A5 ?_ | refine zAu ft_ sn_ A6 ?_ | refine zAu ft_ sn_ A7 ?_ | refine zAu ft_ sn_ A8 ?_ | refine zAu ft_ sn_ A9 ?_ | refine zAn ft_ sn_ A0 ?_ | refine zAn ft_ sn_ A1 ?_ | refine zAn ft_ sn_ A2 ?_ | refine zAn ft_ sn_ A3 ?_ | refine zAn ft_ sn_ A4 ?_ | refine zAn ft_ sn_ A5 ?_ | refine zAn ft_ sn_ A6 ?_ | refine zAn ft_ sn_ A7 ?_ | refine zAn ft_ sn_ A8 ?_ | refine zAn ft_ sn_ A9 ?_ | refine zAr ft_ sn_ A0 _ rfl ?_ | refine zAr ft_ sn_ A1 _ rfl ?_ | refine zAr ft_ sn_ A2 _ rfl ?_ | refine zAr ft_ sn_ A3 _ rfl ?_ | refine zAr ft_ sn_ A4 _ rfl ?_ | refine zAr ft_ sn_ A5 _ rfl ?_ | refine zAr ft_ sn_ A6 _ rfl ?_ | refine zAr ft_ sn_ A7 _ rfl ?_ | refine zAr ft_ sn_ A8 _ rfl ?_ | refine zAr ft_ sn_ A9 _ rfl ?_ | refine zAj ft_ sn_ A0 _ ?_ | refine zAj ft_ sn_ A1 _ ?_ | refine zAj ft_ sn_ A2 _ ?_ | refine zAj ft_ sn_ A3 _ ?_ | refine zAj ft_ sn_ A4 _ ?_ | refine zAj ft_ sn_ A5 _ ?_ | refine zAj ft_ sn_ A6 _ ?_ | refine zAj ft_ sn_ A7 _ ?_ | refine zAj ft_ sn_ A8 _ ?_ | refine zAj ft_ sn_ A9 _ ?_ | refine zCz ft_ sn_ A1 hns hnn hnl ?_);intro n3 g3;refine ⟨rfl,?_⟩;(try dsimp only at g3)))
   have hZ:=j18_ hX hY hY2 hY3 hD hD3 hg hm hi hpm hmp hip him hpi hmi jz jm hxl
   refine rk_ ?_
   dsimp only
   refine hk _ (RS.mk1 (mc:=fun F=>.cells [N,F,O,M2,E2,N2,R2]) hf hg hm hi hpm hip him ?_);exact om_
theorem zXa {h:CHeap} {p d m dm:Nat} {Ls:List CVal} {j:Int} (hf:Fit h) (hg:zA1 h.ents p=some (pp Ls j)) {N F O M2 E2 N2 R2:CVal} {xs:List CVal} {fi:Option Nat} (hm:zA1 h.ents m=some (.cells [N,F,O,M2,E2,N2,R2])) (hpm:p≠m) (hF:FL 7 h.ents F xs fi) (hxl:xs.length<1000) {t nmv:B8} {num:Int} (lab oo:Int) (key:B8) (A0:At Ls (j) 1 t 0) (A1:At Ls (j+1) 1 nmv 0) (A2:At Ls (j+1+1) 4 [61] 0) (A3:At Ls (j+1+1+1) 2 [] num) (A4:At Ls (j+1+1+1+1) 4 [91] 0) (A5:At Ls (j+1+1+1+1+1) 1 [112,97,99,107,101,100] 0) (A6:At Ls (j+1+1+1+1+1+1) 4 [61] 0) (A7:At Ls (j+1+1+1+1+1+1+1) 1 [116,114,117,101] 0) (A8:At Ls (j+1+1+1+1+1+1+1+1) 4 [93] 0) (A9:At Ls (j+1+1+1+1+1+1+1+1+1) 4 [59] 0) (hns:∀ b ∈ nmv,b≠46) (hnn:nmv≠[]) (hnl:nmv.length<1000) {K:KT}
    (hk:∀ h',RS h p m Ls (j+1+1+1+1+1+1+1+1+1+1) (fun F=>.cells [N,F,O,M2,E2,N2,R2]) (xs++[ffV lab t key nmv num 1 oo]) fi h'->K (.tup []) h'):Wc TF 182 [.ptr p d 0,.ptr m dm 0,ffV lab [] key [] 0 0 oo] h K:=by
 obtain ⟨hu,hut,hX⟩:=fx4 hf
 have hY:=fx5 hf hg
 have lp:=zA3 hu hg
 have lm:=zA3 hu hm
 have hmp:m≠p:=Ne.symm hpm
 have hY2:=fx5 hf hm
 have jz:=A0.z
 have jm:=A9.m
 have hD:∀ x y n,h.next<=n->zA5 (zA2 (zA2 h.ents p x) m y) n=zA2 (zA2 h.ents p x) m y:=fun x y n hn=>zAa (hu.set.set.le hn)
 have hD3:∀ x i z y n,h.next<=n->zA5 (zA2 (zA2 (zA2 h.ents p x) i z) m y) n=zA2 (zA2 (zA2 h.ents p x) i z) m y:=fun x i z y n hn=>zAa (hu.set.set.set.le hn)
 unfold ffV at hk ⊢
 rcases hF with ⟨rfl,rfl,rfl⟩ | ⟨i,u,rfl,hxn,hi,rfl⟩
 . refine mk_ 182 c182 ?_
   generalize e:zEm .. = r
   simp (disch:=omega) [c182] at e
   subst e
   have hZ:=j9_ hX hY hY2 hg hm hpm hmp jz jm
   repeat (first
    | refine wn_ ?_
    | ((first | refine zAs ft_ sn_ A0 ?_ | refine zAs ft_ sn_ A1 ?_ | refine zAs ft_ sn_ A2 ?_ | refine zAs ft_ sn_ A3 ?_ | refine zAs ft_ sn_ A4 ?_ | refine zAs ft_ sn_ A5 ?_ | refine zAs ft_ sn_ A6 ?_ | refine zAs ft_ sn_ A7 ?_ | refine zAs ft_ sn_ A8 ?_ | refine zAs ft_ sn_ A9 ?_ | refine zAf ft_ sn_ A0 ?_ | refine zAf ft_ sn_ A1 ?_ | refine zAf ft_ sn_ A2 ?_ | refine zAf ft_ sn_ A3 ?_ | refine zAf ft_ sn_ A4 ?_ | refine zAf ft_ sn_ A5 ?_ | refine zAf ft_ sn_ A6 ?_ | refine zAf ft_ sn_ A7 ?_ | refine zAf ft_ sn_ A8 ?_ | refine zAf ft_ sn_ A9 ?_ | refine zAu ft_ sn_ A0 ?_ | refine zAu ft_ sn_ A1 ?_ | refine zAu ft_ sn_ A2 ?_ | refine zAu ft_ sn_ A3 ?_ | refine zAu ft_ sn_ A4 ?_ | refine zAu ft_ sn_ A5 ?_ | refine zAu ft_ sn_ A6 ?_ | refine zAu ft_ sn_ A7 ?_ | refine zAu ft_ sn_ A8 ?_ | refine zAu ft_ sn_ A9 ?_ | refine zAn ft_ sn_ A0 ?_ | refine zAn ft_ sn_ A1 ?_ | refine zAn ft_ sn_ A2 ?_ | refine zAn ft_ sn_ A3 ?_ | refine zAn ft_ sn_ A4 ?_ | refine zAn ft_ sn_ A5 ?_ | refine zAn ft_ sn_ A6 ?_ | refine zAn ft_ sn_ A7 ?_ | refine zAn ft_ sn_ A8 ?_ | refine zAn ft_ sn_ A9 ?_ | refine zAr ft_ sn_ A0 _ rfl ?_ | refine zAr ft_ sn_ A1 _ rfl ?_ | refine zAr ft_ sn_ A2 _ rfl ?_ | refine zAr ft_ sn_ A3 _ rfl ?_ | refine zAr ft_ sn_ A4 _ rfl ?_ | refine zAr ft_ sn_ A5 _ rfl ?_ | refine zAr ft_ sn_ A6 _ rfl ?_ | refine zAr ft_ sn_ A7 _ rfl ?_ | refine zAr ft_ sn_ A8 _ rfl ?_ | refine zAr ft_ sn_ A9 _ rfl ?_ | refine zAj ft_ sn_ A0 _ ?_ | refine zAj ft_ sn_ A1 _ ?_ | refine zAj ft_ sn_ A2 _ ?_ | refine zAj ft_ sn_ A3 _ ?_ | refine zAj ft_ sn_ A4 _ ?_ | refine zAj ft_ sn_ A5 _ ?_ | refine zAj ft_ sn_ A6 _ ?_ | refine zAj ft_ sn_ A7 _ ?_ | refine zAj ft_ sn_ A8 _ ?_ | refine zAj ft_ sn_ A9 _ ?_ | refine zCz ft_ sn_ A1 hns hnn hnl ?_);intro n3 g3;refine ⟨rfl,?_⟩;(try dsimp only at g3)))
   have hZ:=j8_ hX hY hY2 hD hg hm hpm hmp
   refine rk_ ?_
   dsimp only
   refine hk _ (RS.mk0 (mc:=fun F=>.cells [N,F,O,M2,E2,N2,R2]) hf hg hm hpm ?_ ?_) <;> (exact om_)
 . have hip:i≠p:=fun e=>by subst e;rw [hg] at hi;cases hi
   have him:i≠m:=fun e=>by subst e;rw [hm] at hi;cases hi
   have hpi:p≠i:=Ne.symm hip
   have hmi:m≠i:=Ne.symm him
   have li:=zA3 hu hi
   have hY3:=fx5 hf hi
   refine mk_ 182 c182 (s_ ?_)
   have hZ:=j18_ hX hY hY2 hY3 hD hD3 hg hm hi hpm hmp hip him hpi hmi jz jm hxl
   repeat (first
    | refine wn_ ?_
    | ((first | refine zAs ft_ sn_ A0 ?_ | refine zAs ft_ sn_ A1 ?_ | refine zAs ft_ sn_ A2 ?_ | refine zAs ft_ sn_ A3 ?_ | refine zAs ft_ sn_ A4 ?_ | refine zAs ft_ sn_ A5 ?_ | refine zAs ft_ sn_ A6 ?_ | refine zAs ft_ sn_ A7 ?_ | refine zAs ft_ sn_ A8 ?_ | refine zAs ft_ sn_ A9 ?_ | refine zAf ft_ sn_ A0 ?_ | refine zAf ft_ sn_ A1 ?_ | refine zAf ft_ sn_ A2 ?_ | refine zAf ft_ sn_ A3 ?_ | refine zAf ft_ sn_ A4 ?_ | refine zAf ft_ sn_ A5 ?_ | refine zAf ft_ sn_ A6 ?_ | refine zAf ft_ sn_ A7 ?_ | refine zAf ft_ sn_ A8 ?_ | refine zAf ft_ sn_ A9 ?_ | refine zAu ft_ sn_ A0 ?_ | refine zAu ft_ sn_ A1 ?_ | refine zAu ft_ sn_ A2 ?_ | refine zAu ft_ sn_ A3 ?_ | refine zAu ft_ sn_ A4 ?_ | refine zAu ft_ sn_ A5 ?_ | refine zAu ft_ sn_ A6 ?_ | refine zAu ft_ sn_ A7 ?_ | refine zAu ft_ sn_ A8 ?_ | refine zAu ft_ sn_ A9 ?_ | refine zAn ft_ sn_ A0 ?_ | refine zAn ft_ sn_ A1 ?_ | refine zAn ft_ sn_ A2 ?_ | refine zAn ft_ sn_ A3 ?_ | refine zAn ft_ sn_ A4 ?_ | refine zAn ft_ sn_ A5 ?_ | refine zAn ft_ sn_ A6 ?_ | refine zAn ft_ sn_ A7 ?_ | refine zAn ft_ sn_ A8 ?_ | refine zAn ft_ sn_ A9 ?_ | refine zAr ft_ sn_ A0 _ rfl ?_ | refine zAr ft_ sn_ A1 _ rfl ?_ | refine zAr ft_ sn_ A2 _ rfl ?_ | refine zAr ft_ sn_ A3 _ rfl ?_ | refine zAr ft_ sn_ A4 _ rfl ?_ | refine zAr ft_ sn_ A5 _ rfl ?_ | refine zAr ft_ sn_ A6 _ rfl ?_ | refine zAr ft_ sn_ A7 _ rfl ?_ | refine zAr ft_ sn_ A8 _ rfl ?_ | refine zAr ft_ sn_ A9 _ rfl ?_ | refine zAj ft_ sn_ A0 _ ?_ | refine zAj ft_ sn_ A1 _ ?_ | refine zAj ft_ sn_ A2 _ ?_ | refine zAj ft_ sn_ A3 _ ?_ | refine zAj ft_ sn_ A4 _ ?_ | refine zAj ft_ sn_ A5 _ ?_ | refine zAj ft_ sn_ A6 _ ?_ | refine zAj ft_ sn_ A7 _ ?_ | refine zAj ft_ sn_ A8 _ ?_ | refine zAj ft_ sn_ A9 _ ?_ | refine zCz ft_ sn_ A1 hns hnn hnl ?_);intro n3 g3;refine ⟨rfl,?_⟩;(try dsimp only at g3)))
   have hZ:=j18_ hX hY hY2 hY3 hD hD3 hg hm hi hpm hmp hip him hpi hmi jz jm hxl
   refine rk_ ?_
   dsimp only
   refine hk _ (RS.mk1 (mc:=fun F=>.cells [N,F,O,M2,E2,N2,R2]) hf hg hm hi hpm hip him ?_);exact om_
theorem zDs:∀ {l:EE} {m q:Nat},q<m->zA1 (zA5 l m) q=zA1 l q
 | [],_,_,_=>rfl
 | (i,o)::r,m,q,h=>by
  simp only [zA5]
  split
  . rename_i hi
    have h1:(i == q)=false:=by simp;omega
    cases o <;> simp [zA1,h1,zDs h] <;> (intro h9;omega)
  . rfl
theorem zCo:∀ {l:EE} {m n:Nat},Under l n->Under (zA5 l m) n
 | [],_,_,h=>h
 | (i,o)::r,m,n,h=>by
  have hr:Under r n:=fun x hx=>h x (List.mem_cons_of_mem _ hx)
  have h0:i<n:=h (i,o) (by simp)
  simp only [zA5]
  split
  . cases o <;> first | exact zCo hr | exact Under.cons h0 (zCo hr)
  . exact h
theorem zNo:∀ {l:EE} {m q u:Nat},zA1 l q=some (.tok u)->zA1 (zA5 l m) q=some (.tok u)
 | [],_,_,_,h=>by cases h
 | (i,o)::r,m,q,u,h=>by
  simp only [zA5]
  split
  . rename_i hi
    by_cases hq:i=q
    . subst hq
      simp [zA1] at h
      subst h
      simp [zA1]
    . have h1:(i == q)=false:=by simp [hq]
      have h2:zA1 r q=some (.tok u):=by simpa [zA1,h1,hq] using h
      cases o <;> simp [zA1,h1,hq,zNo h2]
  . exact h
theorem FL.keep {k:Nat} {e e':EE} {F:CVal} {xs:List CVal} {fi:Option Nat} (H:FL k e F xs fi) (hk:∀ i u,fi=some i->zA1 e i=some (.tok u)->zA1 e' i=some (.tok u)):FL k e' F xs fi:=by
 rcases H with H | ⟨i,u,a,b,c,d⟩
 . exact .inl H
 . exact .inr ⟨i,u,a,b,hk i u d c,d⟩
theorem RS.drop {h hA h2:CHeap} {p m:Nat} {Ls:List CVal} {j2:Int} {mc:CVal->CObj} {xs:List CVal} {fi:Option Nat} {n2:Nat} (R:RS hA p m Ls j2 mc xs fi h2) (hn:h.next<=hA.next) (hty:hA.tys=h.tys) (lp:p<h.next) (lm:m<h.next) (hA1:∀ q,q<h.next->q≠p->zA1 hA.ents q=zA1 h.ents q) (hn2:h2.next<=n2):RS h p m Ls j2 mc xs fi ⟨zA5 h2.ents h.next,n2,h2.tys⟩ where
 fit:=⟨(zCo R.fit.1).le hn2,R.fit.2.le hn2⟩
 nx:=by have:=R.nx;dsimp only;omega
 ty:=by dsimp only;rw [R.ty,hty]
 gp:=by dsimp only;rw [zDs lp];exact R.gp
 gm:=by
  obtain ⟨F,f2,g1,g2,g3⟩:=R.gm
  refine ⟨F,f2,by dsimp only;rw [zDs lm];exact g1,g2.keep fun i u _ hi=>zNo hi,?_⟩
  rcases g3 with g3 | ⟨g3,i,g4,g5⟩
  . exact .inl g3
  . exact .inr ⟨g3,i,g4,by omega⟩
 fr:=fun q q1 q2 q3 q4=>by
  dsimp only
  rw [zDs q1,R.fr q (by omega) q2 q3 q4,hA1 q q1 q2]
theorem zT2 {h:CHeap} {p d m dm:Nat} {Ls:List CVal} {j:Int} (hf:Fit h) (hg:zA1 h.ents p=some (pp Ls j)) {N F O M2 E2 N2 R2:CVal} {xs:List CVal} {fi:Option Nat} (hm:zA1 h.ents m=some (.cells [N,F,O,M2,E2,N2,R2])) (hpm:p≠m) (hF:FL 7 h.ents F xs fi) (hxl:xs.length<1000) {t nmv:B8} {num:Int} (A0:At Ls (j) 1 t 0) (A1:At Ls (j+1) 1 nmv 0) (A2:At Ls (j+1+1) 4 [61] 0) (A3:At Ls (j+1+1+1) 2 [] num) (A4:At Ls (j+1+1+1+1) 4 [59] 0) (hns:∀ b ∈ nmv,b≠46) (hnn:nmv≠[]) (hnl:nmv.length<1000) (hkw:∀ w,w ∈ [[109,97,112],[111,112,116,105,111,110,97,108],[114,101,112,101,97,116,101,100]]->(t == w)=false) {K:KT}
    (hk:∀ h',RS h p m Ls (j+1+1+1+1+1) (fun F=>.cells [N,F,O,M2,E2,N2,R2]) (xs++[ffV 0 t [] nmv num 0 0]) fi h'->K (.tup []) h'):Wc TF 170 [.ptr p d 0,.ptr m dm 0] h K:=by
 obtain ⟨hu,hut,hX⟩:=fx4 hf
 have hY:=fx5 hf hg
 have lp:=zA3 hu hg
 have lm:=zA3 hu hm
 have hmp:m≠p:=Ne.symm hpm
 have jz:=A0.z
 have jm:=A4.m
 have k1:((1:Int) == 1 && t == [109,97,112])=false:=by rw [hkw _ (by simp)];rfl
 have k2:((1:Int) == 1 && t == [111,112,116,105,111,110,97,108])=false:=by rw [hkw _ (by simp)];rfl
 have k3:((1:Int) == 1 && t == [114,101,112,101,97,116,101,100])=false:=by rw [hkw _ (by simp)];rfl
 refine mk_ 170 c170 (s_ ?_)
 have hZ:=j8_ hX hY hg hm hpm hmp jz jm
 repeat (first
  | refine wn_ ?_
  | ((first | refine zAr ft_ sn_ A0 _ k1 ?_ | refine zAr ft_ sn_ A0 _ k2 ?_ | refine zAr ft_ sn_ A0 _ k3 ?_);intro n3 g3;refine ⟨rfl,?_⟩;(try dsimp only at g3)))
 refine zMd (p:=p) (m:=m) (N:=N) (F:=F) (O:=O) (M2:=M2) (E2:=E2) (N2:=N2) (R2:=R2) ?_ ?_ ?_ hpm (hF.keep ?_) hxl 0 0 [] A0 A1 A2 A3 A4 hns hnn hnl (fun h2 R=>⟨rfl,?_⟩)
 . exact ft_
 . simp (disch:=omega) [zA1,zA2,hg,hY,hm,hpm,hmp,zA0]
 . simp (disch:=omega) [zA1,zA2,hg,hY,hm,hpm,hmp,zA0]
 . intro i u hfi hi
   have li:=zA3 hu hi
   have hip:i≠p:=fun e=>by subst e;rw [hg] at hi;cases hi
   simp (disch:=omega) [zA1,hi,hip,zA0]
 . have hu2:=R.fit.1
   have hZ:=j3_ hX jz jm
   try refine wk_ ?_
   refine rx_ ?_
   refine hk _ (R.drop ?_ rfl lp lm ?_ ?_)
   . exact om_
   . intro q q1 q2
     dsimp only
     simp (disch:=omega) [zA1,zA0,q2]
   . exact om_
theorem zTu {h:CHeap} {p d m dm:Nat} {Ls:List CVal} {j:Int} (hf:Fit h) (hg:zA1 h.ents p=some (pp Ls j)) {N F O M2 E2 N2 R2:CVal} {xs:List CVal} {fi:Option Nat} (hm:zA1 h.ents m=some (.cells [N,F,O,M2,E2,N2,R2])) (hpm:p≠m) (hF:FL 7 h.ents F xs fi) (hxl:xs.length<1000) {t nmv:B8} {num:Int} (A0:At Ls (j) 1 [111,112,116,105,111,110,97,108] 0) (A1:At Ls (j+1) 1 t 0) (A2:At Ls (j+1+1) 1 nmv 0) (A3:At Ls (j+1+1+1) 4 [61] 0) (A4:At Ls (j+1+1+1+1) 2 [] num) (A5:At Ls (j+1+1+1+1+1) 4 [59] 0) (hns:∀ b ∈ nmv,b≠46) (hnn:nmv≠[]) (hnl:nmv.length<1000) (hkw:∀ w,w ∈ [[109,97,112],[111,112,116,105,111,110,97,108],[114,101,112,101,97,116,101,100]]->(t == w)=false) {K:KT}
    (hk:∀ h',RS h p m Ls (j+1+1+1+1+1+1) (fun F=>.cells [N,F,O,M2,E2,N2,R2]) (xs++[ffV 1 t [] nmv num 0 0]) fi h'->K (.tup []) h'):Wc TF 170 [.ptr p d 0,.ptr m dm 0] h K:=by
 obtain ⟨hu,hut,hX⟩:=fx4 hf
 have hY:=fx5 hf hg
 have lp:=zA3 hu hg
 have lm:=zA3 hu hm
 have hmp:m≠p:=Ne.symm hpm
 have jz:=A0.z
 have jm:=A5.m
 have k1:((1:Int) == 1 && t == [109,97,112])=false:=by rw [hkw _ (by simp)];rfl
 have k2:((1:Int) == 1 && t == [111,112,116,105,111,110,97,108])=false:=by rw [hkw _ (by simp)];rfl
 have k3:((1:Int) == 1 && t == [114,101,112,101,97,116,101,100])=false:=by rw [hkw _ (by simp)];rfl
 refine mk_ 170 c170 (s_ ?_)
 have hZ:=j8_ hX hY hg hm hpm hmp jz jm
 repeat (first
  | refine wn_ ?_
  | ((first | refine zAn ft_ sn_ A0 ?_ | refine zAr ft_ sn_ A0 _ rfl ?_);intro n3 g3;refine ⟨rfl,?_⟩;(try dsimp only at g3)))
 refine zMd (p:=p) (m:=m) (N:=N) (F:=F) (O:=O) (M2:=M2) (E2:=E2) (N2:=N2) (R2:=R2) ?_ ?_ ?_ hpm (hF.keep ?_) hxl 1 0 [] A1 A2 A3 A4 A5 hns hnn hnl (fun h2 R=>⟨rfl,?_⟩)
 . exact ft_
 . simp (disch:=omega) [zA1,zA2,hg,hY,hm,hpm,hmp,zA0]
 . simp (disch:=omega) [zA1,zA2,hg,hY,hm,hpm,hmp,zA0]
 . intro i u hfi hi
   have li:=zA3 hu hi
   have hip:i≠p:=fun e=>by subst e;rw [hg] at hi;cases hi
   simp (disch:=omega) [zA1,hi,hip,zA0]
 . have hu2:=R.fit.1
   have hZ:=j3_ hX jz jm
   try refine wk_ ?_
   refine rx_ ?_
   refine hk _ (R.drop ?_ rfl lp lm ?_ ?_)
   . exact om_
   . intro q q1 q2
     dsimp only
     simp (disch:=omega) [zA1,zA0,q2]
   . exact om_
theorem zTi {h:CHeap} {p d m dm:Nat} {Ls:List CVal} {j:Int} (hf:Fit h) (hg:zA1 h.ents p=some (pp Ls j)) {N F O M2 E2 N2 R2:CVal} {xs:List CVal} {fi:Option Nat} (hm:zA1 h.ents m=some (.cells [N,F,O,M2,E2,N2,R2])) (hpm:p≠m) (hF:FL 7 h.ents F xs fi) (hxl:xs.length<1000) {t nmv:B8} {num:Int} (A0:At Ls (j) 1 [114,101,112,101,97,116,101,100] 0) (A1:At Ls (j+1) 1 t 0) (A2:At Ls (j+1+1) 1 nmv 0) (A3:At Ls (j+1+1+1) 4 [61] 0) (A4:At Ls (j+1+1+1+1) 2 [] num) (A5:At Ls (j+1+1+1+1+1) 4 [59] 0) (hns:∀ b ∈ nmv,b≠46) (hnn:nmv≠[]) (hnl:nmv.length<1000) (hkw:∀ w,w ∈ [[109,97,112],[111,112,116,105,111,110,97,108],[114,101,112,101,97,116,101,100]]->(t == w)=false) {K:KT}
    (hk:∀ h',RS h p m Ls (j+1+1+1+1+1+1) (fun F=>.cells [N,F,O,M2,E2,N2,R2]) (xs++[ffV 2 t [] nmv num 0 0]) fi h'->K (.tup []) h'):Wc TF 170 [.ptr p d 0,.ptr m dm 0] h K:=by
 obtain ⟨hu,hut,hX⟩:=fx4 hf
 have hY:=fx5 hf hg
 have lp:=zA3 hu hg
 have lm:=zA3 hu hm
 have hmp:m≠p:=Ne.symm hpm
 have jz:=A0.z
 have jm:=A5.m
 have k1:((1:Int) == 1 && t == [109,97,112])=false:=by rw [hkw _ (by simp)];rfl
 have k2:((1:Int) == 1 && t == [111,112,116,105,111,110,97,108])=false:=by rw [hkw _ (by simp)];rfl
 have k3:((1:Int) == 1 && t == [114,101,112,101,97,116,101,100])=false:=by rw [hkw _ (by simp)];rfl
 refine mk_ 170 c170 (s_ ?_)
 have hZ:=j8_ hX hY hg hm hpm hmp jz jm
 repeat (first
  | refine wn_ ?_
  | ((first | refine zAn ft_ sn_ A0 ?_ | refine zAr ft_ sn_ A0 _ rfl ?_);intro n3 g3;refine ⟨rfl,?_⟩;(try dsimp only at g3)))
 refine zMd (p:=p) (m:=m) (N:=N) (F:=F) (O:=O) (M2:=M2) (E2:=E2) (N2:=N2) (R2:=R2) ?_ ?_ ?_ hpm (hF.keep ?_) hxl 2 0 [] A1 A2 A3 A4 A5 hns hnn hnl (fun h2 R=>⟨rfl,?_⟩)
 . exact ft_
 . simp (disch:=omega) [zA1,zA2,hg,hY,hm,hpm,hmp,zA0]
 . simp (disch:=omega) [zA1,zA2,hg,hY,hm,hpm,hmp,zA0]
 . intro i u hfi hi
   have li:=zA3 hu hi
   have hip:i≠p:=fun e=>by subst e;rw [hg] at hi;cases hi
   simp (disch:=omega) [zA1,hi,hip,zA0]
 . have hu2:=R.fit.1
   have hZ:=j3_ hX jz jm
   try refine wk_ ?_
   refine rx_ ?_
   refine hk _ (R.drop ?_ rfl lp lm ?_ ?_)
   . exact om_
   . intro q q1 q2
     dsimp only
     simp (disch:=omega) [zA1,zA0,q2]
   . exact om_
theorem zTe {h:CHeap} {p d m dm:Nat} {Ls:List CVal} {j:Int} (hf:Fit h) (hg:zA1 h.ents p=some (pp Ls j)) {N F O M2 E2 N2 R2:CVal} {xs:List CVal} {fi:Option Nat} (hm:zA1 h.ents m=some (.cells [N,F,O,M2,E2,N2,R2])) (hpm:p≠m) (hF:FL 7 h.ents F xs fi) (hxl:xs.length<1000) {t nmv:B8} {num:Int} (A0:At Ls (j) 1 [114,101,112,101,97,116,101,100] 0) (A1:At Ls (j+1) 1 t 0) (A2:At Ls (j+1+1) 1 nmv 0) (A3:At Ls (j+1+1+1) 4 [61] 0) (A4:At Ls (j+1+1+1+1) 2 [] num) (A5:At Ls (j+1+1+1+1+1) 4 [91] 0) (A6:At Ls (j+1+1+1+1+1+1) 1 [112,97,99,107,101,100] 0) (A7:At Ls (j+1+1+1+1+1+1+1) 4 [61] 0) (A8:At Ls (j+1+1+1+1+1+1+1+1) 1 [102,97,108,115,101] 0) (A9:At Ls (j+1+1+1+1+1+1+1+1+1) 4 [93] 0) (A10:At Ls (j+1+1+1+1+1+1+1+1+1+1) 4 [59] 0) (hns:∀ b ∈ nmv,b≠46) (hnn:nmv≠[]) (hnl:nmv.length<1000) (hkw:∀ w,w ∈ [[109,97,112],[111,112,116,105,111,110,97,108],[114,101,112,101,97,116,101,100]]->(t == w)=false) {K:KT}
    (hk:∀ h',RS h p m Ls (j+1+1+1+1+1+1+1+1+1+1+1) (fun F=>.cells [N,F,O,M2,E2,N2,R2]) (xs++[ffV 2 t [] nmv num 2 0]) fi h'->K (.tup []) h'):Wc TF 170 [.ptr p d 0,.ptr m dm 0] h K:=by
 obtain ⟨hu,hut,hX⟩:=fx4 hf
 have hY:=fx5 hf hg
 have lp:=zA3 hu hg
 have lm:=zA3 hu hm
 have hmp:m≠p:=Ne.symm hpm
 have jz:=A0.z
 have jm:=A10.m
 have k1:((1:Int) == 1 && t == [109,97,112])=false:=by rw [hkw _ (by simp)];rfl
 have k2:((1:Int) == 1 && t == [111,112,116,105,111,110,97,108])=false:=by rw [hkw _ (by simp)];rfl
 have k3:((1:Int) == 1 && t == [114,101,112,101,97,116,101,100])=false:=by rw [hkw _ (by simp)];rfl
 refine mk_ 170 c170 (s_ ?_)
 have hZ:=j8_ hX hY hg hm hpm hmp jz jm
 repeat (first
  | refine wn_ ?_
  | ((first | refine zAn ft_ sn_ A0 ?_ | refine zAr ft_ sn_ A0 _ rfl ?_);intro n3 g3;refine ⟨rfl,?_⟩;(try dsimp only at g3)))
 refine zZp (p:=p) (m:=m) (N:=N) (F:=F) (O:=O) (M2:=M2) (E2:=E2) (N2:=N2) (R2:=R2) ?_ ?_ ?_ hpm (hF.keep ?_) hxl 2 0 [] A1 A2 A3 A4 A5 A6 A7 A8 A9 A10 hns hnn hnl (fun h2 R=>⟨rfl,?_⟩)
 . exact ft_
 . simp (disch:=omega) [zA1,zA2,hg,hY,hm,hpm,hmp,zA0]
 . simp (disch:=omega) [zA1,zA2,hg,hY,hm,hpm,hmp,zA0]
 . intro i u hfi hi
   have li:=zA3 hu hi
   have hip:i≠p:=fun e=>by subst e;rw [hg] at hi;cases hi
   simp (disch:=omega) [zA1,hi,hip,zA0]
 . have hu2:=R.fit.1
   have hZ:=j3_ hX jz jm
   try refine wk_ ?_
   refine rx_ ?_
   refine hk _ (R.drop ?_ rfl lp lm ?_ ?_)
   . exact om_
   . intro q q1 q2
     dsimp only
     simp (disch:=omega) [zA1,zA0,q2]
   . exact om_
theorem zTo {h:CHeap} {p d m dm:Nat} {Ls:List CVal} {j:Int} (hf:Fit h) (hg:zA1 h.ents p=some (pp Ls j)) {N F O M2 E2 N2 R2:CVal} {xs:List CVal} {fi:Option Nat} (hm:zA1 h.ents m=some (.cells [N,F,O,M2,E2,N2,R2])) (hpm:p≠m) (hF:FL 7 h.ents F xs fi) (hxl:xs.length<1000) {t nmv:B8} {num:Int} (A0:At Ls (j) 1 [114,101,112,101,97,116,101,100] 0) (A1:At Ls (j+1) 1 t 0) (A2:At Ls (j+1+1) 1 nmv 0) (A3:At Ls (j+1+1+1) 4 [61] 0) (A4:At Ls (j+1+1+1+1) 2 [] num) (A5:At Ls (j+1+1+1+1+1) 4 [91] 0) (A6:At Ls (j+1+1+1+1+1+1) 1 [112,97,99,107,101,100] 0) (A7:At Ls (j+1+1+1+1+1+1+1) 4 [61] 0) (A8:At Ls (j+1+1+1+1+1+1+1+1) 1 [116,114,117,101] 0) (A9:At Ls (j+1+1+1+1+1+1+1+1+1) 4 [93] 0) (A10:At Ls (j+1+1+1+1+1+1+1+1+1+1) 4 [59] 0) (hns:∀ b ∈ nmv,b≠46) (hnn:nmv≠[]) (hnl:nmv.length<1000) (hkw:∀ w,w ∈ [[109,97,112],[111,112,116,105,111,110,97,108],[114,101,112,101,97,116,101,100]]->(t == w)=false) {K:KT}
    (hk:∀ h',RS h p m Ls (j+1+1+1+1+1+1+1+1+1+1+1) (fun F=>.cells [N,F,O,M2,E2,N2,R2]) (xs++[ffV 2 t [] nmv num 1 0]) fi h'->K (.tup []) h'):Wc TF 170 [.ptr p d 0,.ptr m dm 0] h K:=by
 obtain ⟨hu,hut,hX⟩:=fx4 hf
 have hY:=fx5 hf hg
 have lp:=zA3 hu hg
 have lm:=zA3 hu hm
 have hmp:m≠p:=Ne.symm hpm
 have jz:=A0.z
 have jm:=A10.m
 have k1:((1:Int) == 1 && t == [109,97,112])=false:=by rw [hkw _ (by simp)];rfl
 have k2:((1:Int) == 1 && t == [111,112,116,105,111,110,97,108])=false:=by rw [hkw _ (by simp)];rfl
 have k3:((1:Int) == 1 && t == [114,101,112,101,97,116,101,100])=false:=by rw [hkw _ (by simp)];rfl
 refine mk_ 170 c170 (s_ ?_)
 have hZ:=j8_ hX hY hg hm hpm hmp jz jm
 repeat (first
  | refine wn_ ?_
  | ((first | refine zAn ft_ sn_ A0 ?_ | refine zAr ft_ sn_ A0 _ rfl ?_);intro n3 g3;refine ⟨rfl,?_⟩;(try dsimp only at g3)))
 refine zXa (p:=p) (m:=m) (N:=N) (F:=F) (O:=O) (M2:=M2) (E2:=E2) (N2:=N2) (R2:=R2) ?_ ?_ ?_ hpm (hF.keep ?_) hxl 2 0 [] A1 A2 A3 A4 A5 A6 A7 A8 A9 A10 hns hnn hnl (fun h2 R=>⟨rfl,?_⟩)
 . exact ft_
 . simp (disch:=omega) [zA1,zA2,hg,hY,hm,hpm,hmp,zA0]
 . simp (disch:=omega) [zA1,zA2,hg,hY,hm,hpm,hmp,zA0]
 . intro i u hfi hi
   have li:=zA3 hu hi
   have hip:i≠p:=fun e=>by subst e;rw [hg] at hi;cases hi
   simp (disch:=omega) [zA1,hi,hip,zA0]
 . have hu2:=R.fit.1
   have hZ:=j3_ hX jz jm
   try refine wk_ ?_
   refine rx_ ?_
   refine hk _ (R.drop ?_ rfl lp lm ?_ ?_)
   . exact om_
   . intro q q1 q2
     dsimp only
     simp (disch:=omega) [zA1,zA0,q2]
   . exact om_
def K15:List (B8):=[[100,111,117,98,108,101],[102,108,111,97,116],[105,110,116,51,50],[105,110,116,54,52],[117,105,110,116,51,50],[117,105,110,116,54,52],[115,105,110,116,51,50],[115,105,110,116,54,52],[102,105,120,101,100,51,50],[102,105,120,101,100,54,52],[115,102,105,120,101,100,51,50],[115,102,105,120,101,100,54,52],[98,111,111,108],[115,116,114,105,110,103],[98,121,116,101,115]]
def zSa (s:B8):List (B8)->Nat->Nat
 | [],_=>0
 | x::r,i=>if x == s then i+1 else zSa s r (i+1)
def zAi (s:B8):Nat:=zSa s K15 0
theorem zVm {g1:Tag} (s:B8) {h:CHeap} (hf:Fit h) {Q:QT}
    (hk0:∀ (v2 v4:CVal) n' (i:Int),h.next<=n'->zAi s=0->Q (.exit 0) ⟨[.int .i64 i,.imm g1 1 (K15.map CVal.str),v2,.str s,v4,.int .i64 0],⟨h.ents,n',h.tys⟩,[]⟩)
    (hk1:∀ (v2 v4:CVal) n' (i:Nat),h.next<=n'->zAi s=i+1->Q .ret ⟨[.int .i64 (i:Int),.imm g1 1 (K15.map CVal.str),v2,.str s,v4,.int .i64 ((i:Int)+1)],⟨h.ents,n',h.tys⟩,[]⟩) :
    ∀ (r:List (B8)) (i nx:Nat) (v2 v4:CVal),K15.drop i=r->zAi s=zSa s r i->h.next<=nx->W TF kdL ⟨[.int .i64 (i:Int),.imm g1 1 (K15.map CVal.str),v2,.str s,v4,.int .i64 0],⟨h.ents,nx,h.tys⟩,[]⟩ Q:=by
 have l15:K15.length=15:=rfl
 have l15m:(K15.map CVal.str).length=15:=rfl
 intro r
 induction r with
 | nil =>
  intro i nx v2 v4 h1 h2 h3
  have hi:15<=i:=by have:=List.drop_eq_nil_iff.1 h1;omega
  have hge:¬ (i:Int)<15:=by omega
  have hge2:(15:Int)<=(i:Int):=by omega
  refine W.loop ?_
  repeat (first
   | refine st_ rfl ?_
   | ((first | refine W.regG ?_ | refine WoR.go ?_);generalize e:goR .. = r;simp (disch:=omega) [List.length_map,l15,l15m,hge,hge2] at e;replace e:some _=_:=e;subst e;(try dsimp only [goW])))
  refine hk0 _ _ _ _ ?_ h2;exact om_
 | cons x r ih =>
  intro i nx v2 v4 h1 h2 h3
  obtain ⟨hu,hut,hX⟩:=fx4 (show Fit ⟨h.ents,nx,h.tys⟩ from ⟨hf.1.le h3,hf.2.le h3⟩)
  dsimp only at hX
  obtain ⟨q1,q2,q3⟩:=zFk h1
  have hn:=zCc CVal.str K15 i x q2
  have hlt:(i:Int)<15:=by omega
  have hi:i<15:=by omega
  simp only [zSa] at h2
  by_cases e:x=s
  . subst e
    rw [if_pos (by simp)] at h2
    generalize hK:K15.map CVal.str=KS at *
    refine W.loop ?_
    have hZ:=j5_ hX l15m hlt hn hi
    try refine wk_ ?_
    refine W.ret ?_
    (try simp only [zB3,zA9,zAe,zAo,reduceIte])
    refine hk1 _ _ _ _ ?_ h2;exact om_
  . have e2:(x == s)=false:=bn_ e
    rw [if_neg (by simp [e])] at h2
    have ih1:=fun nx v2 v4 (h:_<=nx)=>ih (i+1) nx v2 v4 q3 h2 h
    push_cast at ih1
    generalize hK:K15.map CVal.str=KS at *
    refine W.loop ?_
    have hZ:=j7_ hX l15m hlt hn hi e2 e
    try refine wk_ ?_
    rw [<- hK] at *
    refine dx_ ?_
    refine ih1 _ _ _ ?_;exact om_
theorem zQr (s:B8):Pe 130 [.str s] (.int .i64 (zAi s:Int)):=by
 intro h hf K hk
 obtain ⟨hu,hut,hX⟩:=fx4 hf
 refine mk_ 130 c130 (s_ ?_)
 repeat ((fail_if_success (show W TF kdL _ _));first
  | refine st_ rfl ?_
  | refine wsx_ ?_)
 refine zVm s hf (fun v2 v4 n' i g e=>?_) (fun v2 v4 n' i g e=>?_) K15 0 _ _ _ rfl rfl ?_
 . (try simp only [zB3,zA9,zAe,zAo,reduceIte])
   rw [e] at hk
   repeat (first
    | refine wx_ ?_
    | (refine rx_ ?_;refine hk _ ?_;exact om_))
 . (try simp only [zB3,zA9,zAe,zAo,reduceIte])
   rw [e] at hk
   push_cast at hk
   refine endW.of (.inl rfl) rfl ?_;generalize e:zCa .. = r;simp (disch:=omega) [hX] at e;subst e
   refine hk _ ?_;exact om_
 . exact om_
theorem zV8:∀ t ∈ K6,(zAi t == 0)=false/\(zAi t == 1)=false/\(zAi t == 2)=false/\(zAi t == 15)=false:=by decide +kernel
theorem zWw {h:CHeap} {p d m dm:Nat} {Ls:List CVal} {j:Int} (hf:Fit h) (hg:zA1 h.ents p=some (pp Ls j)) {N F O M2 E2 N2 R2:CVal} {xs:List CVal} {fi:Option Nat} (hm:zA1 h.ents m=some (.cells [N,F,O,M2,E2,N2,R2])) (hpm:p≠m) (hF:FL 7 h.ents F xs fi) (hxl:xs.length<1000) {key t nmv:B8} {num:Int} (A0:At Ls (j) 1 [109,97,112] 0) (A1:At Ls (j+1) 4 [60] 0) (A2:At Ls (j+1+1) 1 key 0) (A3:At Ls (j+1+1+1) 4 [44] 0) (A4:At Ls (j+1+1+1+1) 1 t 0) (A5:At Ls (j+1+1+1+1+1) 4 [62] 0) (A6:At Ls (j+1+1+1+1+1+1) 1 nmv 0) (A7:At Ls (j+1+1+1+1+1+1+1) 4 [61] 0) (A8:At Ls (j+1+1+1+1+1+1+1+1) 2 [] num) (A9:At Ls (j+1+1+1+1+1+1+1+1+1) 4 [59] 0) (hns:∀ b ∈ nmv,b≠46) (hnn:nmv≠[]) (hnl:nmv.length<1000) (hkey:key ∈ K6) {K:KT}
    (hk:∀ h',RS h p m Ls (j+1+1+1+1+1+1+1+1+1+1) (fun F=>.cells [N,F,O,M2,E2,N2,R2]) (xs++[ffV 3 t key nmv num 0 0]) fi h'->K (.tup []) h'):Wc TF 170 [.ptr p d 0,.ptr m dm 0] h K:=by
 obtain ⟨hu,hut,hX⟩:=fx4 hf
 have hY:=fx5 hf hg
 have lp:=zA3 hu hg
 have lm:=zA3 hu hm
 have hmp:m≠p:=Ne.symm hpm
 have hY2:=fx5 hf hm
 have jz:=A0.z
 have jm:=A9.m
 have KF:=zQr key
 obtain ⟨c0,c1,c2,c3⟩:=zV8 key hkey
 generalize zAi key=kn at *
 have b0:((kn:Int) == 0)=false:=by simpa using c0
 have b1 : ((kn : Int) == 1) = false := by have : kn ≠ 1 := by simpa using c1
                                           exact bn_ om_
 have b2 : ((kn : Int) == 2) = false := by have : kn ≠ 2 := by simpa using c2
                                           exact bn_ om_
 have b3 : ((kn : Int) == 15) = false := by have : kn ≠ 15 := by simpa using c3
                                            exact bn_ om_
 have d0:¬ kn=0:=by simpa using c0
 have d1:¬ (kn:Int)=1:=by simpa using b1
 have d2:¬ (kn:Int)=2:=by simpa using b2
 have d3:¬ (kn:Int)=15:=by simpa using b3
 obtain ⟨z2,m2,l2,a2,v2⟩:=id A2
 have hD:∀ x y n,h.next<=n->zA5 (zA2 (zA2 h.ents p x) m y) n=zA2 (zA2 h.ents p x) m y:=fun x y n hn=>zAa (hu.set.set.le hn)
 have hD3:∀ x i z y n,h.next<=n->zA5 (zA2 (zA2 (zA2 h.ents p x) i z) m y) n=zA2 (zA2 (zA2 h.ents p x) i z) m y:=fun x i z y n hn=>zAa (hu.set.set.set.le hn)
 unfold ffV at hk
 rcases hF with ⟨rfl,rfl,rfl⟩ | ⟨i,u,rfl,hxn,hi,rfl⟩
 . refine mk_ 170 c170 ?_
   generalize e:zEm .. = r
   simp (disch:=omega) [c170] at e
   subst e
   have hZ:=j17_ hX hY hY2 hg hm hpm hmp jz jm b0 b1 b2 b3 d0 d1 d2 d3
   repeat (first
    | refine wn_ ?_
    | ((first | refine zAn ft_ sn_ A0 ?_ | refine zAs ft_ sn_ A2 ?_ | refine zAs ft_ sn_ A4 ?_ | refine zAf ft_ sn_ A1 ?_ | refine zAf ft_ sn_ A3 ?_ | refine zAf ft_ sn_ A5 ?_ | refine zAf ft_ sn_ A7 ?_ | refine zAf ft_ sn_ A9 ?_ | refine zAu ft_ sn_ A8 ?_ | refine zCz ft_ sn_ A6 hns hnn hnl ?_);intro n3 g3;refine ⟨rfl,?_⟩;(try dsimp only at g3))
    | (refine zD3 ft_ sn_ z2 l2 v2 fun n4 g4=>⟨rfl,?_⟩;(try dsimp only at g4);(try simp only [tkv]))
    | (refine pe_ KF fun n5 g5=>⟨rfl,?_⟩))
   (refine W.ret ?_;(try simp only [zB3,zA9,zAe,zAo,reduceIte]);refine endW.of (.inl rfl) rfl ?_);generalize e:zCa .. = r;simp (disch:=omega) [hX,hY,hY2,hD,hg,hm,hpm,hmp] at e;subst e
   dsimp only
   refine hk _ (RS.mk0 (mc:=fun F=>.cells [N,F,O,M2,E2,N2,R2]) hf hg hm hpm ?_ ?_) <;> (exact om_)
 . have hip:i≠p:=fun e=>by subst e;rw [hg] at hi;cases hi
   have him:i≠m:=fun e=>by subst e;rw [hm] at hi;cases hi
   have hpi:p≠i:=Ne.symm hip
   have hmi:m≠i:=Ne.symm him
   have li:=zA3 hu hi
   have hY3:=fx5 hf hi
   refine mk_ 170 c170 (s_ ?_)
   have hZ:=j26_ hX hY hY2 hY3 hD hD3 hg hm hi hpm hmp hip him hpi hmi jz jm hxl b0 b1 b2 b3 d0 d1 d2 d3
   repeat (first
    | refine wn_ ?_
    | ((first | refine zAn ft_ sn_ A0 ?_ | refine zAs ft_ sn_ A2 ?_ | refine zAs ft_ sn_ A4 ?_ | refine zAf ft_ sn_ A1 ?_ | refine zAf ft_ sn_ A3 ?_ | refine zAf ft_ sn_ A5 ?_ | refine zAf ft_ sn_ A7 ?_ | refine zAf ft_ sn_ A9 ?_ | refine zAu ft_ sn_ A8 ?_ | refine zCz ft_ sn_ A6 hns hnn hnl ?_);intro n3 g3;refine ⟨rfl,?_⟩;(try dsimp only at g3))
    | (refine zD3 ft_ sn_ z2 l2 v2 fun n4 g4=>⟨rfl,?_⟩;(try dsimp only at g4);(try simp only [tkv]))
    | (refine pe_ KF fun n5 g5=>⟨rfl,?_⟩))
   (refine W.ret ?_;(try simp only [zB3,zA9,zAe,zAo,reduceIte]);refine endW.of (.inl rfl) rfl ?_);generalize e:zCa .. = r;simp (disch:=omega) [hX,hY,hY2,hY3,hD,hD3,hg,hm,hi,hpm,hmp,hip,him,hpi,hmi,zA0,jz,jm,hxl,b0,b1,b2,b3,d0,d1,d2,d3] at e;subst e
   dsimp only
   refine hk _ (RS.mk1 (mc:=fun F=>.cells [N,F,O,M2,E2,N2,R2]) hf hg hm hi hpm hip him ?_);exact om_
structure Toks (Ls:List CVal) (j:Int) (ks:List Kw):Prop where
 z:0<=j
 m:j+ks.length<5000
 l:j+ks.length<=(Ls.length:Int)
 v:∀ (c:Nat) k tx n,ks[c]? = some (k,tx,n)->∃ a,nth Ls (j+c).toNat=tkv (k:Int) tx (n:Int) a
theorem Toks.at {Ls:List CVal} {j j2 k2 n2:Int} {ks:List Kw} (H:Toks Ls j ks) (c:Nat) {k n:Nat} {tx:B8} (h:ks[c]? = some (k,tx,n)) (e:j2=j+c) (ek:k2=(k:Int)) (en:n2=(n:Int)):At Ls j2 k2 tx n2:=by
 subst e ek en
 have hc:=(gs_ h).1
 have:=H.z
 have:=H.m
 have:=H.l
 exact ⟨by omega,by omega,by omega,H.v c k tx n h⟩
theorem Toks.left {Ls:List CVal} {j:Int} {a b:List Kw} (H:Toks Ls j (a++b)):Toks Ls j a where
 z:=H.z
 m:=by have:=H.m;simp at this;omega
 l:=by have:=H.l;simp at this;omega
 v:=fun c k tx n h=>H.v c k tx n (by rw [List.getElem?_append_left (gs_ h).1];exact h)
theorem Toks.right {Ls:List CVal} {j:Int} {a b:List Kw} (H:Toks Ls j (a++b)):Toks Ls (j+a.length) b where
 z:=by have:=H.z;omega
 m:=by have:=H.m;simp at this;omega
 l:=by have:=H.l;simp at this;omega
 v:=fun c k tx n h=>by
  obtain ⟨x,hx⟩:=H.v (a.length+c) k tx n (by rw [List.getElem?_append_right (by omega)];simpa using h)
  exact ⟨x,by rw [show j+(a.length:Int)+(c:Int)=j+((a.length+c:Nat):Int) by omega];exact hx⟩
def FD.v (d:FD):CVal:=match d.sh with
 | .one=>ffV 0 d.t [] (102::dg d.num) d.num 0 0
 | .opt=>ffV 1 d.t [] (102::dg d.num) d.num 0 0
 | .rep k=>ffV 2 d.t [] (102::dg d.num) d.num (match k with | 0=>0 | 1=>2 | _=>1) 0
 | .map key=>ffV 3 d.t key (102::dg d.num) d.num 0 0
theorem zYc:∀ t ∈ W18,∀ w,w ∈ [[109,97,112],[111,112,116,105,111,110,97,108],[114,101,112,101,97,116,101,100]]->(t == w)=false:=by decide +kernel
theorem zYx:allN 1000 (fun n=>(dg n).all (fun b=>b != 46))=true:=by kernel_rfl
theorem zQy {c:UInt8} {n:Nat} (hc:c≠46) (h:n<1000):∀ b ∈ c::dg n,b≠46:=by
 intro b hb
 rcases List.mem_cons.1 hb with rfl | hb
 . exact hc
 . have:=List.all_eq_true.1 (zJa zYx n h) b hb
   simpa using this
theorem zSe {h:CHeap} {p d m dm:Nat} {Ls:List CVal} {j:Int} (hf:Fit h) (hg:zA1 h.ents p=some (pp Ls j)) {N F O M2 E2 N2 R2:CVal} {xs:List CVal} {fi:Option Nat} (hm:zA1 h.ents m=some (.cells [N,F,O,M2,E2,N2,R2])) (hpm:p≠m) (hF:FL 7 h.ents F xs fi) (hxl:xs.length<1000) {d0:FD} (hd:d0.ok) (HT:Toks Ls j d0.ks) {K:KT}
    (hk:∀ h',RS h p m Ls (j+d0.ks.length) (fun F=>.cells [N,F,O,M2,E2,N2,R2]) (xs++[d0.v]) fi h'->K (.tup []) h'):Wc TF 170 [.ptr p d 0,.ptr m dm 0] h K:=by
 obtain ⟨ht,h1,h2,h3⟩:=hd
 have hkw:=zYc _ ht
 have hns:=zQy (c:=102) (by decide) h2
 have hnl:(102::dg d0.num).length<1000:=by have:=zGy d0.num;simp;omega
 have hk3:∀ j2,j2=j+d0.ks.length->∀ h',RS h p m Ls j2 (fun F=>.cells [N,F,O,M2,E2,N2,R2]) (xs++[d0.v]) fi h'->K (.tup []) h':=fun j2 e h' R=>hk h' (e ▸ R)
 clear hk
 obtain ⟨sh,t,num⟩:=d0
 simp only [FD.ks,FD.mid,FD.v] at *
 cases sh with
 | one=>exact zT2 hf hg hm hpm hF hxl (HT.at 0 rfl (by omega) (by rfl) (by rfl)) (HT.at 1 rfl (by omega) (by rfl) (by rfl)) (HT.at 2 rfl (by omega) (by rfl) (by rfl)) (HT.at 3 rfl (by omega) (by rfl) (by rfl)) (HT.at 4 rfl (by omega) (by rfl) (by rfl)) hns (by simp) hnl hkw (fun h' R=>hk3 _ (by simp [pkK];omega) h' R)
 | opt=>exact zTu hf hg hm hpm hF hxl (HT.at 0 rfl (by omega) (by rfl) (by rfl)) (HT.at 1 rfl (by omega) (by rfl) (by rfl)) (HT.at 2 rfl (by omega) (by rfl) (by rfl)) (HT.at 3 rfl (by omega) (by rfl) (by rfl)) (HT.at 4 rfl (by omega) (by rfl) (by rfl)) (HT.at 5 rfl (by omega) (by rfl) (by rfl)) hns (by simp) hnl hkw (fun h' R=>hk3 _ (by simp [pkK];omega) h' R)
 | rep k =>
  rcases (show k=0\/k=1\/k=2 by have:=h3.1;omega) with rfl | rfl | rfl
  . exact zTi hf hg hm hpm hF hxl (HT.at 0 rfl (by omega) (by rfl) (by rfl)) (HT.at 1 rfl (by omega) (by rfl) (by rfl)) (HT.at 2 rfl (by omega) (by rfl) (by rfl)) (HT.at 3 rfl (by omega) (by rfl) (by rfl)) (HT.at 4 rfl (by omega) (by rfl) (by rfl)) (HT.at 5 rfl (by omega) (by rfl) (by rfl)) hns (by simp) hnl hkw (fun h' R=>hk3 _ (by simp [pkK];omega) h' R)
  . exact zTe hf hg hm hpm hF hxl (HT.at 0 rfl (by omega) (by rfl) (by rfl)) (HT.at 1 rfl (by omega) (by rfl) (by rfl)) (HT.at 2 rfl (by omega) (by rfl) (by rfl)) (HT.at 3 rfl (by omega) (by rfl) (by rfl)) (HT.at 4 rfl (by omega) (by rfl) (by rfl)) (HT.at 5 rfl (by omega) (by rfl) (by rfl)) (HT.at 6 rfl (by omega) (by rfl) (by rfl)) (HT.at 7 rfl (by omega) (by rfl) (by rfl)) (HT.at 8 rfl (by omega) (by rfl) (by rfl)) (HT.at 9 rfl (by omega) (by rfl) (by rfl)) (HT.at 10 rfl (by omega) (by rfl) (by rfl)) hns (by simp) hnl hkw (fun h' R=>hk3 _ (by simp [pkK];omega) h' R)
  . exact zTo hf hg hm hpm hF hxl (HT.at 0 rfl (by omega) (by rfl) (by rfl)) (HT.at 1 rfl (by omega) (by rfl) (by rfl)) (HT.at 2 rfl (by omega) (by rfl) (by rfl)) (HT.at 3 rfl (by omega) (by rfl) (by rfl)) (HT.at 4 rfl (by omega) (by rfl) (by rfl)) (HT.at 5 rfl (by omega) (by rfl) (by rfl)) (HT.at 6 rfl (by omega) (by rfl) (by rfl)) (HT.at 7 rfl (by omega) (by rfl) (by rfl)) (HT.at 8 rfl (by omega) (by rfl) (by rfl)) (HT.at 9 rfl (by omega) (by rfl) (by rfl)) (HT.at 10 rfl (by omega) (by rfl) (by rfl)) hns (by simp) hnl hkw (fun h' R=>hk3 _ (by simp [pkK];omega) h' R)
 | map key=>exact zWw hf hg hm hpm hF hxl (HT.at 0 rfl (by omega) (by rfl) (by rfl)) (HT.at 1 rfl (by omega) (by rfl) (by rfl)) (HT.at 2 rfl (by omega) (by rfl) (by rfl)) (HT.at 3 rfl (by omega) (by rfl) (by rfl)) (HT.at 4 rfl (by omega) (by rfl) (by rfl)) (HT.at 5 rfl (by omega) (by rfl) (by rfl)) (HT.at 6 rfl (by omega) (by rfl) (by rfl)) (HT.at 7 rfl (by omega) (by rfl) (by rfl)) (HT.at 8 rfl (by omega) (by rfl) (by rfl)) (HT.at 9 rfl (by omega) (by rfl) (by rfl)) hns (by simp) hnl h3 (fun h' R=>hk3 _ (by simp [pkK];omega) h' R)
theorem zNf {h:CHeap} {p d m dm:Nat} {Ls:List CVal} {j:Int} (hf:Fit h) (hg:zA1 h.ents p=some (pp Ls j)) {N F O M2 E2 N2 R2:CVal} {xs:List CVal} {fi:Option Nat} (hm:zA1 h.ents m=some (.cells [N,F,O,M2,E2,N2,R2])) (hpm:p≠m) (hF:FL 7 h.ents F xs fi) (hxl:xs.length<30) {tx:B8} {n:Int} (A:At Ls j 1 tx n) {K:KT} (hk:∀ n',h.next<=n'->K (.tup []) ⟨h.ents,n',h.tys⟩):Wc TF 169 [.ptr p d 0,.ptr m dm 0] h K:=by
 obtain ⟨hu,hut,hX⟩:=fx4 hf
 have hY:=fx5 hf hg
 have lp:=zA3 hu hg
 have hmp:m≠p:=Ne.symm hpm
 obtain ⟨z2,m2,l2,a2,v2⟩:=id A
 rcases hF with ⟨rfl,rfl,rfl⟩ | ⟨i,u,rfl,hxn,hi,rfl⟩
 . refine mk_ 169 c169 ?_
   generalize e:zEm .. = r
   simp (disch:=omega) [c169] at e
   subst e
   have hZ:=j6_ hX hY hg hm hpm hmp
   repeat (first
    | refine wk_ ?_
    | (refine zD3 ft_ sn_ z2 l2 v2 fun n4 g4=>⟨rfl,?_⟩;(try dsimp only at g4);(try simp only [tkv]))
    | (refine zH8 (Ls:=Ls) (j:=j) ?_ ?_ 0 (by decide) fun n5 g5=>⟨rfl,?_⟩;exact ft_;exact sn_;(try dsimp only at g5))
    | (refine rk_ ?_;refine hk _ ?_;exact om_))
 . refine mk_ 169 c169 ?_
   generalize e:zEm .. = r
   simp (disch:=omega) [c169] at e
   subst e
   have hZ:=j6_ hX hY hg hm hpm hmp
   repeat (first
    | refine wk_ ?_
    | (refine zD3 ft_ sn_ z2 l2 v2 fun n4 g4=>⟨rfl,?_⟩;(try dsimp only at g4);(try simp only [tkv]))
    | (refine zH8 (Ls:=Ls) (j:=j) ?_ ?_ (xs.length:Int) (by omega) fun n5 g5=>⟨rfl,?_⟩;exact ft_;exact sn_;(try dsimp only at g5))
    | (refine rk_ ?_;refine hk _ ?_;exact om_))
theorem FD.first {d:FD} (hd:d.ok):∃ tx r,d.ks=(1,tx,0)::r/\∀ w,w ∈ [[109,101,115,115,97,103,101],[101,110,117,109],[111,110,101,111,102],[114,101,115,101,114,118,101,100]]->(tx == w)=false:=by
 have hw:∀ t ∈ W18,∀ w,w ∈ [[109,101,115,115,97,103,101],[101,110,117,109],[111,110,101,111,102],[114,101,115,101,114,118,101,100]]->(t == w)=false:=by decide +kernel
 have ht:=hw _ hd.1
 unfold FD.ks
 cases d.sh with
 | one=>exact ⟨_,_,rfl,ht⟩
 | opt=>exact ⟨_,_,rfl,by decide +kernel⟩
 | rep k=>exact ⟨_,_,rfl,by decide +kernel⟩
 | map key=>exact ⟨_,_,rfl,by decide +kernel⟩
structure MS (h0:CHeap) (p m r:Nat) (Ls:List CVal) (j:Int) (nmv:B8) (xs:List CVal) (O:CVal) (hh:CHeap):Prop where
 fit:Fit hh
 nx:h0.next<=hh.next
 ty:hh.tys=h0.tys
 gp:zA1 hh.ents p=some (pp Ls j)
 gm:∃ F fi,zA1 hh.ents m=some (.cells [.str nmv,F,O,.nils,.nils,.nils,.nils])/\FL 7 hh.ents F xs fi/\∀ i,fi=some i->h0.next<=i
 gr:zA1 hh.ents r=some (.cells [.str [],.nils,.nils,.nils,.nils,.nils,.nils])
 lp:p<h0.next
 lm:h0.next<=m
 lr:h0.next<=r
 mr:m≠r
 fr:∀ q,q<h0.next->q≠p->zA1 hh.ents q=zA1 h0.ents q
theorem MS.step {h0:CHeap} {p m r:Nat} {Ls:List CVal} {j j2:Int} {nmv:B8} {xs xs2:List CVal} {O:CVal} {hh h2:CHeap} {fi:Option Nat} {F:CVal} (S:MS h0 p m r Ls j nmv xs O hh) (gm:zA1 hh.ents m=some (.cells [.str nmv,F,O,.nils,.nils,.nils,.nils])) (hF:FL 7 hh.ents F xs fi) (hi:∀ i,fi=some i->h0.next<=i) (R:RS hh p m Ls j2 (fun F=>.cells [.str nmv,F,O,.nils,.nils,.nils,.nils]) xs2 fi h2):MS h0 p m r Ls j2 nmv xs2 O h2 where
 fit:=R.fit
 nx:=by have:=R.nx;have:=S.nx;omega
 ty:=by rw [R.ty,S.ty]
 gp:=R.gp
 gm:=by
  obtain ⟨F2,f2,g1,g2,g3⟩:=R.gm
  refine ⟨F2,f2,g1,g2,fun i e=>?_⟩
  rcases g3 with g3 | ⟨_,i2,g4,g5⟩
  . exact hi i (g3 ▸ e)
  . rw [g4] at e;cases e;have:=S.nx;omega
 gr:=by
  have lr:=zA3 S.fit.1 S.gr
  rw [R.fr r lr (by have:=S.lp;have:=S.lr;omega) (Ne.symm S.mr) (fun e=>?_)]
  . exact S.gr
  . rcases hF with ⟨_,_,h3⟩ | ⟨i,u,_,_,h3,h4⟩
    . rw [h3] at e;cases e
    . rw [h4] at e;cases e;rw [S.gr] at h3;cases h3
 lp:=S.lp
 lm:=S.lm
 lr:=S.lr
 mr:=S.mr
 fr:=fun q q1 q2=>by
  have:=S.nx
  rw [R.fr q (by omega) q2 (by have:=S.lm;omega) (fun e=>by have:=hi q e;omega)]
  exact S.fr q q1 q2
theorem zb7 {h0 hh:CHeap} {p m r d dm:Nat} {Ls:List CVal} {j:Int} {nmv:B8} {xs:List CVal} (S:MS h0 p m r Ls j nmv xs .nils hh) (hxl:xs.length<30) {x:FD} (hx:x.ok) (HT:Toks Ls j x.ks) (v3:CVal) (v1 v4 v5 v6 v8 v9 v10 v11 v12:CVal) {Q:QT}
    (hk:∀ (v1 v4 v5 v6 v8 v9 v10 v11 v12:CVal) h',MS h0 p m r Ls (j+x.ks.length) nmv (xs++[x.v]) .nils h'->W TF msL ⟨[.int .i64 1,v1,.ptr p d 0,v3,v4,v5,v6,.ptr m dm 0,v8,v9,v10,v11,v12],h',[]⟩ Q):W TF msL ⟨[.int .i64 1,v1,.ptr p d 0,v3,v4,v5,v6,.ptr m dm 0,v8,v9,v10,v11,v12],hh,[]⟩ Q:=by
 have hf:=S.fit
 have hg:=S.gp
 obtain ⟨F,fi,hm,hF,hi⟩:=S.gm
 have hpm:p≠m:=by have:=S.lp;have:=S.lm;omega
 obtain ⟨hu,hut,hX⟩:=fx4 hf
 have hY:=fx5 hf hg
 have lp:=zA3 hu hg
 have lm:=zA3 hu hm
 have hmp:m≠p:=Ne.symm hpm
 obtain ⟨tx,ks2,hks,hkw⟩:=FD.first hx
 have A0:At Ls j 1 tx 0:=HT.at 0 (by rw [hks];rfl) (by omega) rfl rfl
 have w1:=hkw [109,101,115,115,97,103,101] (by simp)
 have w2:=hkw [101,110,117,109] (by simp)
 have w3:=hkw [111,110,101,111,102] (by simp)
 have w4:=hkw [114,101,115,101,114,118,101,100] (by simp)
 refine W.loop ?_
 have hZ:=j10_ hX hY hg hm hpm hmp w1 w2 w3 w4
 repeat (first
  | refine wk_ ?_
  | ((first | refine zAj ft_ sn_ A0 [125] ?_ | refine zAj ft_ sn_ A0 [59] ?_ | refine zBg ft_ sn_ A0 [109,101,115,115,97,103,101] ?_ | refine zBg ft_ sn_ A0 [101,110,117,109] ?_ | refine zBg ft_ sn_ A0 [111,110,101,111,102] ?_ | refine zBg ft_ sn_ A0 [114,101,115,101,114,118,101,100] ?_);intro n3 g3;refine ⟨rfl,?_⟩;(try dsimp only at g3))
  | (refine zNf (F:=F) (fi:=fi) (N:=.str nmv) (O:=.nils) (M2:=.nils) (E2:=.nils) (N2:=.nils) (R2:=.nils) ?_ ?_ ?_ hpm (hF.keep ?_) hxl A0 fun n4 g4=>⟨rfl,?_⟩;exact ft_;exact sn_;exact sn_;(focus (exact fun i u _ h9=>h9));(try dsimp only at g4)))
 refine zSe (p:=p) (m:=m) (F:=F) (fi:=fi) (N:=.str nmv) (O:=.nils) (M2:=.nils) (E2:=.nils) (N2:=.nils) (R2:=.nils) ?_ ?_ ?_ hpm (hF.keep ?_) om_ hx HT (fun h2 R=>⟨rfl,?_⟩)
 . exact ft_
 . simp (disch:=omega) [zA1,zA2,hg,hY,hm,hpm,hmp,zA0]
 . simp (disch:=omega) [zA1,zA2,hg,hY,hm,hpm,hmp,zA0]
 . exact fun i u _ h9=>h9
 . have hu2:=R.fit.1
   try refine wx_ ?_
   refine dx_ ?_
   have R2:=R.drop (h:=hh) (n2:=h2.next) om_ rfl lp lm (fun q _ _=>rfl) (Nat.le_refl _)
   exact hk _ _ _ _ _ _ _ _ _ _ (S.step hm hF hi R2)
theorem zLr {h0:CHeap} {p m r d dm:Nat} {Ls:List CVal} {nmv:B8} (v3:CVal) {Q:QT} :
    ∀ (fs:List FD) (j:Int) (xs:List CVal) (rest:List Kw) (v1 v4 v5 v6 v8 v9 v10 v11 v12:CVal) (hh:CHeap),(∀ x ∈ fs,x.ok)->xs.length+fs.length<=30->Toks Ls j (fsK fs++rest)->MS h0 p m r Ls j nmv xs .nils hh ->
    (∀ (v1 v4 v5 v6 v8 v9 v10 v11 v12:CVal) h',MS h0 p m r Ls (j+(fsK fs).length) nmv (xs++fs.map FD.v) .nils h'->W TF msL ⟨[.int .i64 1,v1,.ptr p d 0,v3,v4,v5,v6,.ptr m dm 0,v8,v9,v10,v11,v12],h',[]⟩ Q)->W TF msL ⟨[.int .i64 1,v1,.ptr p d 0,v3,v4,v5,v6,.ptr m dm 0,v8,v9,v10,v11,v12],hh,[]⟩ Q:=by
 intro fs
 induction fs with
 | nil =>
  intro j xs rest v1 v4 v5 v6 v8 v9 v10 v11 v12 hh _ _ _ S hk
  have:=hk v1 v4 v5 v6 v8 v9 v10 v11 v12 hh
  simp only [fsK,List.flatMap_nil,List.length_nil,List.map_nil,List.append_nil] at this
  exact this (by simpa using S)
 | cons x fs ih =>
  intro j xs rest v1 v4 v5 v6 v8 v9 v10 v11 v12 hh hok hl HT S hk
  have e:fsK (x::fs)=x.ks++fsK fs:=by simp [fsK]
  rw [e,List.append_assoc] at HT
  simp only [List.length_cons] at hl
  refine zb7 S (by omega) (hok x (by simp)) HT.left v3 _ _ _ _ _ _ _ _ _ fun w1 w4 w5 w6 w8 w9 w10 w11 w12 h' S'=>?_
  refine ih _ _ rest w1 w4 w5 w6 w8 w9 w10 w11 w12 h' (fun y hy=>hok y (by simp [hy])) (by simp;omega) HT.right S' fun u1 u4 u5 u6 u8 u9 u10 u11 u12 h2 S2=>hk _ _ _ _ _ _ _ _ _ h2 ?_
  rw [e]
  simp only [List.length_append,List.map_cons]
  have e2:j+((x.ks.length+(fsK fs).length:Nat):Int)=j+(x.ks.length:Int)+((fsK fs).length:Int):=by omega
  rw [e2]
  simpa using S2
def OD.v (d:OD):CVal:=ffV 0 d.t [] (111::dg d.num) d.num 0 1
theorem zUj:∀ t ∈ W18,∀ w,w ∈ [[111,112,116,105,111,110,97,108],[114,101,112,101,97,116,101,100],[109,97,112],[109,101,115,115,97,103,101],[101,110,117,109],[111,110,101,111,102],[114,101,115,101,114,118,101,100]]->(t == w)=false:=by decide +kernel
theorem zT3 {h0 hh:CHeap} {p m r d dm:Nat} {Ls:List CVal} {j:Int} {nmv:B8} {xs:List CVal} {O:CVal} {g1:Tag} {t1:Tag} (hO:O=.imm t1 1 [.str [99]]) (S:MS h0 p m r Ls j nmv xs O hh) (hxl:xs.length<30) {x:OD} (hx:x.ok) (HT:Toks Ls j x.ks) {n:Nat} (hnn:n<50) (v2 v4 v5 v7 v8 v9:CVal) {Q:QT}
    (hk:∀ (v2 v4 v5 v7 v8 v9:CVal) h',MS h0 p m r Ls (j+x.ks.length) nmv (xs++[x.v]) O h'->W TF onL ⟨[.ptr p d 0,.ptr m dm 0,v2,.int .i64 1,v4,v5,.imm g1 1 [.str [111,112,116,105,111,110,97,108],.str [114,101,112,101,97,116,101,100],.str [109,97,112],.str [109,101,115,115,97,103,101],.str [101,110,117,109],.str [111,110,101,111,102],.str [114,101,115,101,114,118,101,100]],v7,v8,v9],h',[]⟩ Q):W TF onL ⟨[.ptr p d 0,.ptr m dm 0,v2,.int .i64 0,v4,v5,.imm g1 1 [.str [111,112,116,105,111,110,97,108],.str [114,101,112,101,97,116,101,100],.str [109,97,112],.str [109,101,115,115,97,103,101],.str [101,110,117,109],.str [111,110,101,111,102],.str [114,101,115,101,114,118,101,100]],v7,v8,v9],hh,[]⟩ Q:=by
 have hf:=S.fit
 have hg:=S.gp
 obtain ⟨F,fi,hm,hF,hi⟩:=S.gm
 have hpm:p≠m:=by have:=S.lp;have:=S.lm;omega
 obtain ⟨hu,hut,hX⟩:=fx4 hf
 have hY:=fx5 hf hg
 have lp:=zA3 hu hg
 have lm:=zA3 hu hm
 have hmp:m≠p:=Ne.symm hpm
 obtain ⟨t,num⟩:=x
 obtain ⟨ht,h1,h2⟩:=hx
 simp only [OD.ks,OD.v] at *
 have hw:=zUj t ht
 have w0:=hw [111,112,116,105,111,110,97,108] (by simp)
 have w1:=hw [114,101,112,101,97,116,101,100] (by simp)
 have w2:=hw [109,97,112] (by simp)
 have w3:=hw [109,101,115,115,97,103,101] (by simp)
 have w4:=hw [101,110,117,109] (by simp)
 have w5:=hw [111,110,101,111,102] (by simp)
 have w6:=hw [114,101,115,101,114,118,101,100] (by simp)
 have A0:At Ls (j) 1 t 0:=HT.at 0 rfl om_ (by rfl) (by rfl)
 have A1:At Ls (j+1) 1 (111::dg num) 0:=HT.at 1 rfl om_ (by rfl) (by rfl)
 have A2:At Ls (j+1+1) 4 [61] 0:=HT.at 2 rfl om_ (by rfl) (by rfl)
 have A3:At Ls (j+1+1+1) 2 [] num:=HT.at 3 rfl om_ (by rfl) (by rfl)
 have A4:At Ls (j+1+1+1+1) 4 [59] 0:=HT.at 4 rfl om_ (by rfl) (by rfl)
 have hns:=zQy (c:=111) (by decide) h2
 have hnl:(111::dg num).length<1000:=by have:=zGy num;simp;omega
 subst hO
 refine W.loop ?_
 have hZ:=j13_ hX hY hg hm hpm hmp w0 w1 w2 w3 w4 w5 w6
 repeat (first
  | refine wk_ ?_
  | ((first | refine zAj ft_ sn_ A0 [125] ?_ | refine zBg ft_ sn_ A0 _ ?_);intro n3 g3;refine ⟨rfl,?_⟩;(try dsimp only at g3))
  | (refine zNf (F:=F) (fi:=fi) (N:=.str nmv) (O:=.imm t1 1 [.str [99]]) (M2:=.nils) (E2:=.nils) (N2:=.nils) (R2:=.nils) ?_ ?_ ?_ hpm (hF.keep ?_) hxl A0 fun n4 g4=>⟨rfl,?_⟩;exact ft_;exact sn_;exact sn_;(focus (exact fun i u _ h9=>h9));(try dsimp only at g4))
  | (refine W.loop ?_)
  | (show W TF _ (dropped true _ _) _;generalize e:dropped _ _ _=r;simp (disch:=omega) [hX,hY,hg,hm,hpm,hmp,w0,w1,w2,w3,w4,w5,w6] at e;subst e;refine W.loop ?_))
 refine zMd (p:=p) (m:=m) (F:=F) (fi:=fi) (N:=.str nmv) (O:=.imm t1 1 [.str [99]]) (M2:=.nils) (E2:=.nils) (N2:=.nils) (R2:=.nils) ?_ ?_ ?_ hpm (hF.keep ?_) (by omega) 0 1 [] A0 A1 A2 A3 A4 hns (by simp) hnl (fun h2 R=>⟨rfl,?_⟩)
 . exact ft_
 . simp (disch:=omega) [zA1,zA2,hg,hY,hm,hpm,hmp,zA0]
 . simp (disch:=omega) [zA1,zA2,hg,hY,hm,hpm,hmp,zA0]
 . exact fun i u _ h9=>h9
 . have hu2:=R.fit.1
   try refine wx_ ?_
   refine dx_ ?_
   have R2:=R.drop (h:=hh) (n2:=h2.next+3) om_ rfl lp lm (fun q _ _=>rfl) om_
   refine hk _ _ _ _ _ _ _ (S.step hm hF hi ?_)
   have e5:j+1+1+1+1+1=j+(([nm t,nm (111::dg num),sg 61,nu num,sg 59]:List Kw).length:Int):=by simp;omega
   rw [<- e5];exact R2
theorem za4 {h0 hh:CHeap} {p m r d dm:Nat} {Ls:List CVal} {j:Int} {nmv:B8} {xs:List CVal} {O:CVal} {g1:Tag} {t1:Tag} (hO:O=.imm t1 1 [.str [99]]) (S:MS h0 p m r Ls j nmv xs O hh) (hxl:xs.length<30) {x:OD} (hx:x.ok) (HT:Toks Ls j x.ks) {n:Nat} (hn:0<n) (hnn:n<50) (v2 v4 v5 v7 v8 v9:CVal) {Q:QT}
    (hk:∀ (v2 v4 v5 v7 v8 v9:CVal) h',MS h0 p m r Ls (j+x.ks.length) nmv (xs++[x.v]) O h'->W TF onL ⟨[.ptr p d 0,.ptr m dm 0,v2,.int .i64 ((n:Int)+1),v4,v5,.imm g1 1 [.str [111,112,116,105,111,110,97,108],.str [114,101,112,101,97,116,101,100],.str [109,97,112],.str [109,101,115,115,97,103,101],.str [101,110,117,109],.str [111,110,101,111,102],.str [114,101,115,101,114,118,101,100]],v7,v8,v9],h',[]⟩ Q):W TF onL ⟨[.ptr p d 0,.ptr m dm 0,v2,.int .i64 (n:Int),v4,v5,.imm g1 1 [.str [111,112,116,105,111,110,97,108],.str [114,101,112,101,97,116,101,100],.str [109,97,112],.str [109,101,115,115,97,103,101],.str [101,110,117,109],.str [111,110,101,111,102],.str [114,101,115,101,114,118,101,100]],v7,v8,v9],hh,[]⟩ Q:=by
 have hf:=S.fit
 have hg:=S.gp
 obtain ⟨F,fi,hm,hF,hi⟩:=S.gm
 have hpm:p≠m:=by have:=S.lp;have:=S.lm;omega
 obtain ⟨hu,hut,hX⟩:=fx4 hf
 have hY:=fx5 hf hg
 have lp:=zA3 hu hg
 have lm:=zA3 hu hm
 have hmp:m≠p:=Ne.symm hpm
 obtain ⟨t,num⟩:=x
 obtain ⟨ht,h1,h2⟩:=hx
 simp only [OD.ks,OD.v] at *
 have hw:=zUj t ht
 have w0:=hw [111,112,116,105,111,110,97,108] (by simp)
 have w1:=hw [114,101,112,101,97,116,101,100] (by simp)
 have w2:=hw [109,97,112] (by simp)
 have w3:=hw [109,101,115,115,97,103,101] (by simp)
 have w4:=hw [101,110,117,109] (by simp)
 have w5:=hw [111,110,101,111,102] (by simp)
 have w6:=hw [114,101,115,101,114,118,101,100] (by simp)
 have A0:At Ls (j) 1 t 0:=HT.at 0 rfl om_ (by rfl) (by rfl)
 have A1:At Ls (j+1) 1 (111::dg num) 0:=HT.at 1 rfl om_ (by rfl) (by rfl)
 have A2:At Ls (j+1+1) 4 [61] 0:=HT.at 2 rfl om_ (by rfl) (by rfl)
 have A3:At Ls (j+1+1+1) 2 [] num:=HT.at 3 rfl om_ (by rfl) (by rfl)
 have A4:At Ls (j+1+1+1+1) 4 [59] 0:=HT.at 4 rfl om_ (by rfl) (by rfl)
 have hns:=zQy (c:=111) (by decide) h2
 have hnl:(111::dg num).length<1000:=by have:=zGy num;simp;omega
 have hn1:(0:Int)<(n:Int):=by omega
 have hn2:((n:Int) == 0)=false:=bn_ om_
 have hn3:¬ n=0:=by omega
 subst hO
 refine W.loop ?_
 have hZ:=j17_ hX hY hg hm hpm hmp w0 w1 w2 w3 w4 w5 w6 hn1 hn2 hn3 hnn
 repeat (first
  | refine wk_ ?_
  | ((first | refine zAj ft_ sn_ A0 [125] ?_ | refine zBg ft_ sn_ A0 _ ?_);intro n3 g3;refine ⟨rfl,?_⟩;(try dsimp only at g3))
  | (refine zNf (F:=F) (fi:=fi) (N:=.str nmv) (O:=.imm t1 1 [.str [99]]) (M2:=.nils) (E2:=.nils) (N2:=.nils) (R2:=.nils) ?_ ?_ ?_ hpm (hF.keep ?_) hxl A0 fun n4 g4=>⟨rfl,?_⟩;exact ft_;exact sn_;exact sn_;(focus (exact fun i u _ h9=>h9));(try dsimp only at g4))
  | (refine W.loop ?_)
  | (show W TF _ (dropped true _ _) _;generalize e:dropped _ _ _=r;simp (disch:=omega) [hX,hY,hg,hm,hpm,hmp,w0,w1,w2,w3,w4,w5,w6,hn1,hn2,hn3,hnn] at e;subst e;refine W.loop ?_))
 refine zMd (p:=p) (m:=m) (F:=F) (fi:=fi) (N:=.str nmv) (O:=.imm t1 1 [.str [99]]) (M2:=.nils) (E2:=.nils) (N2:=.nils) (R2:=.nils) ?_ ?_ ?_ hpm (hF.keep ?_) (by omega) 0 1 [] A0 A1 A2 A3 A4 hns (by simp) hnl (fun h2 R=>⟨rfl,?_⟩)
 . exact ft_
 . simp (disch:=omega) [zA1,zA2,hg,hY,hm,hpm,hmp,zA0]
 . simp (disch:=omega) [zA1,zA2,hg,hY,hm,hpm,hmp,zA0]
 . exact fun i u _ h9=>h9
 . have hu2:=R.fit.1
   have hZ:=j2_ hX hnn
   try refine wk_ ?_
   refine dx_ ?_
   have R2:=R.drop (h:=hh) (n2:=h2.next+3) om_ rfl lp lm (fun q _ _=>rfl) om_
   refine hk _ _ _ _ _ _ _ (S.step hm hF hi ?_)
   have e5:j+1+1+1+1+1=j+(([nm t,nm (111::dg num),sg 61,nu num,sg 59]:List Kw).length:Int):=by simp;omega
   rw [<- e5];exact R2
theorem zF8:∀ {l:EE} {m q:Nat},q<m->zA1 (zBe l m) q=zA1 l q
 | [],_,_,_=>rfl
 | (i,o)::r,m,q,h=>by
  simp only [zBe]
  split
  . have h1:(i == q)=false:=by simp;omega
    have h2:¬ i=q:=by omega
    simp [zA1,h1,h2,zF8 h]
  . rfl
theorem zBy:∀ {l:EE} {m n:Nat},Under l n->Under (zBe l m) n
 | [],_,_,h=>h
 | (i,o)::r,m,n,h=>by
  have hr:Under r n:=fun x hx=>h x (List.mem_cons_of_mem _ hx)
  simp only [zBe]
  split
  . exact zBy hr
  . exact h
def LV (F:CVal) (xs:List CVal):Prop:=(F=.nils/\xs=[])\/∃ i u,F=.imm (.own i u) 7 xs/\xs≠[]
theorem FL.lv {e:EE} {F:CVal} {xs:List CVal} {fi:Option Nat} (h:FL 7 e F xs fi):LV F xs:=by
 rcases h with ⟨a,b,_⟩ | ⟨i,u,a,b,_,_⟩
 . exact .inl ⟨a,b⟩
 . exact .inr ⟨_,_,a,b⟩
structure ME (h0:CHeap) (p m r:Nat) (Ls:List CVal) (j:Int) (nmv:B8) (xs:List CVal) (O:CVal) (hh:CHeap):Prop where
 fit:Fit hh
 nx:h0.next<=hh.next
 ty:hh.tys=h0.tys
 gp:zA1 hh.ents p=some (pp Ls j)
 gm:∃ F,zA1 hh.ents m=some (.cells [.str nmv,F,O,.nils,.nils,.nils,.nils])/\LV F xs
 gr:zA1 hh.ents r=some (.cells [.str [],.nils,.nils,.nils,.nils,.nils,.nils])
 lp:p<h0.next
 lm:h0.next<=m
 lr:h0.next<=r
 mr:m≠r
 fr:∀ q,q<h0.next->q≠p->zA1 hh.ents q=zA1 h0.ents q
theorem MS.me {h0 hh:CHeap} {p m r:Nat} {Ls:List CVal} {j:Int} {nmv:B8} {xs:List CVal} {O:CVal} (S:MS h0 p m r Ls j nmv xs O hh):ME h0 p m r Ls j nmv xs O hh :=
 ⟨S.fit,S.nx,S.ty,S.gp,by obtain ⟨F,fi,a,b,_⟩:=S.gm;exact ⟨F,a,b.lv⟩,S.gr,S.lp,S.lm,S.lr,S.mr,S.fr⟩
theorem ME.drop {h0 hh:CHeap} {p m r n n2:Nat} {Ls:List CVal} {j j2:Int} {nmv:B8} {xs:List CVal} {O:CVal} (S:ME h0 p m r Ls j nmv xs O hh) (hn:h0.next<=n) (lm:m<n) (lr:r<n) (hn2:hh.next<=n2):ME h0 p m r Ls j2 nmv xs O ⟨zBe (zA2 hh.ents p (pp Ls j2)) n,n2,hh.tys⟩ where
 fit:=⟨(zBy S.fit.1.set).le hn2,S.fit.2.le hn2⟩
 nx:=by have:=S.nx;dsimp only;omega
 ty:=S.ty
 gp:=by have:=S.lp;dsimp only;rw [zF8 (by omega)];exact zA4 S.gp
 gm:=by
  obtain ⟨F,a,b⟩:=S.gm
  have:=S.lp;have:=S.lm
  exact ⟨F,by dsimp only;rw [zF8 lm,zA0 (by omega)];exact a,b⟩
 gr:=by
  have:=S.lp;have:=S.lr
  dsimp only;rw [zF8 lr,zA0 (by omega)];exact S.gr
 lp:=S.lp
 lm:=S.lm
 lr:=S.lr
 mr:=S.mr
 fr:=fun q q1 q2=>by dsimp only;rw [zF8 (by omega),zA0 q2];exact S.fr q q1 q2
theorem MS.mkO {h0 hh:CHeap} {p m r io n2:Nat} {Ls:List CVal} {j j2:Int} {nmv:B8} {xs:List CVal} {O O1 F:CVal} {fi:Option Nat} (S:MS h0 p m r Ls j nmv xs O hh) (hm:zA1 hh.ents m=some (.cells [.str nmv,F,O,.nils,.nils,.nils,.nils])) (hF:FL 7 hh.ents F xs fi) (hi:∀ i,fi=some i->h0.next<=i) (hio:hh.next<=io) (hn:io<n2) :
    MS h0 p m r Ls j2 nmv xs O1 ⟨(io,.tok 0)::zA2 (zA2 hh.ents p (pp Ls j2)) m (.cells [.str nmv,F,O1,.nils,.nils,.nils,.nils]),n2,hh.tys⟩ where
 fit:=⟨Under.cons hn (S.fit.1.set.set.le (by dsimp only;omega)),S.fit.2.le (by dsimp only;omega)⟩
 nx:=by have:=S.nx;dsimp only;omega
 ty:=S.ty
 gp:=by
  have:=zA3 S.fit.1 S.gp
  have:=S.lp;have:=S.lm
  dsimp only;rw [zA6 (by omega),zA0 (by omega),zA4 S.gp]
 gm:=by
  have l1:=zA3 S.fit.1 hm
  have:=S.lp;have:=S.lm
  refine ⟨F,fi,?_,hF.keep fun i u e h9=>?_,hi⟩
  . dsimp only;rw [zA6 (by omega),zA4 (by rw [zA0 (by omega)];exact hm)]
  . have l2:=zA3 S.fit.1 h9
    have i1:i≠p:=fun e=>by subst e;rw [S.gp] at h9;cases h9
    have i2:i≠m:=fun e=>by subst e;rw [hm] at h9;cases h9
    dsimp only;rw [zA6 (by omega),zA0 i2,zA0 i1];exact h9
 gr:=by
  have l1:=zA3 S.fit.1 S.gr
  have:=S.lp;have:=S.lr
  dsimp only;rw [zA6 (by omega),zA0 (Ne.symm S.mr),zA0 (by omega)];exact S.gr
 lp:=S.lp
 lm:=S.lm
 lr:=S.lr
 mr:=S.mr
 fr:=fun q q1 q2=>by
  have:=S.nx;have:=S.lm
  dsimp only;rw [zA6 (by omega),zA0 (by omega),zA0 q2];exact S.fr q q1 q2
theorem zZe {hh:CHeap} {p m d dm:Nat} {Ls:List CVal} {j:Int} {g1:Tag} (hf:Fit hh) (hg:zA1 hh.ents p=some (pp Ls j)) (A0:At Ls j 4 [125] 0) {n:Nat} (hn:0<n) (hnn:n<50) (v2 v4 v5 v7 v8 v9:CVal) {Q:QT}
    (hk:∀ (v2 v4 v5 v7 v8 v9:CVal) n',hh.next<=n'->Q (.exit 0) ⟨[.ptr p d 0,.ptr m dm 0,v2,.int .i64 (n:Int),v4,v5,.imm g1 1 [.str [111,112,116,105,111,110,97,108],.str [114,101,112,101,97,116,101,100],.str [109,97,112],.str [109,101,115,115,97,103,101],.str [101,110,117,109],.str [111,110,101,111,102],.str [114,101,115,101,114,118,101,100]],v7,v8,v9],⟨hh.ents,n',hh.tys⟩,[]⟩):W TF onL ⟨[.ptr p d 0,.ptr m dm 0,v2,.int .i64 (n:Int),v4,v5,.imm g1 1 [.str [111,112,116,105,111,110,97,108],.str [114,101,112,101,97,116,101,100],.str [109,97,112],.str [109,101,115,115,97,103,101],.str [101,110,117,109],.str [111,110,101,111,102],.str [114,101,115,101,114,118,101,100]],v7,v8,v9],hh,[]⟩ Q:=by
 obtain ⟨hu,hut,hX⟩:=fx4 hf
 have hY:=fx5 hf hg
 have lp:=zA3 hu hg
 have hn1:(0:Int)<(n:Int):=by omega
 have hn2:((n:Int) == 0)=false:=bn_ om_
 have hn3:¬ n=0:=by omega
 refine W.loop ?_
 have hZ:=j6_ hX hY hg hn1 hn2 hn3
 repeat (first
  | refine wk_ ?_
  | (refine zAj ft_ sd_ A0 [125] fun n3 g3=>⟨rfl,?_⟩;(try dsimp only at g3)))
 refine hk _ _ _ _ _ _ _ ?_;exact om_
theorem zWl {h0:CHeap} {p m r d dm:Nat} {Ls:List CVal} {nmv:B8} {O:CVal} {g1:Tag} {t1:Tag} (hO:O=.imm t1 1 [.str [99]]) {Q:QT} :
    ∀ (os:List OD) (j:Int) (xs:List CVal) (n:Nat) (v2 v4 v5 v7 v8 v9:CVal) (hh:CHeap),(∀ x ∈ os,x.ok)->xs.length+os.length<=30->0<n->n+os.length<50->Toks Ls j (osK os++[sg 125])->MS h0 p m r Ls j nmv xs O hh ->
    (∀ (v2 v4 v5 v7 v8 v9:CVal) n' h',MS h0 p m r Ls (j+(osK os).length) nmv (xs++os.map OD.v) O h'->Q (.exit 0) ⟨[.ptr p d 0,.ptr m dm 0,v2,.int .i64 n',v4,v5,.imm g1 1 [.str [111,112,116,105,111,110,97,108],.str [114,101,112,101,97,116,101,100],.str [109,97,112],.str [109,101,115,115,97,103,101],.str [101,110,117,109],.str [111,110,101,111,102],.str [114,101,115,101,114,118,101,100]],v7,v8,v9],h',[]⟩)->W TF onL ⟨[.ptr p d 0,.ptr m dm 0,v2,.int .i64 (n:Int),v4,v5,.imm g1 1 [.str [111,112,116,105,111,110,97,108],.str [114,101,112,101,97,116,101,100],.str [109,97,112],.str [109,101,115,115,97,103,101],.str [101,110,117,109],.str [111,110,101,111,102],.str [114,101,115,101,114,118,101,100]],v7,v8,v9],hh,[]⟩ Q:=by
 intro os
 induction os with
 | nil =>
  intro j xs n v2 v4 v5 v7 v8 v9 hh _ _ hn hnn HT S hk
  have A0:At Ls j 4 [125] 0:=HT.at 0 rfl om_ (by rfl) (by rfl)
  refine zZe S.fit S.gp A0 hn (by simpa using hnn) _ _ _ _ _ _ fun w2 w4 w5 w7 w8 w9 n' g=>?_
  refine hk _ _ _ _ _ _ _ _ ?_
  simp only [osK,List.flatMap_nil,List.length_nil,List.map_nil,List.append_nil]
  have e:j+((0:Nat):Int)=j:=by omega
  rw [e]
  exact ⟨⟨S.fit.1.le g,S.fit.2.le g⟩,by have:=S.nx;dsimp only;omega,S.ty,S.gp,S.gm,S.gr,S.lp,S.lm,S.lr,S.mr,S.fr⟩
 | cons x os ih =>
  intro j xs n v2 v4 v5 v7 v8 v9 hh hok hl hn hnn HT S hk
  have e:osK (x::os)=x.ks++osK os:=by simp [osK]
  rw [e,List.append_assoc] at HT
  simp only [List.length_cons] at hl hnn
  refine za4 hO S (by omega) (hok x (by simp)) HT.left hn (by omega) _ _ _ _ _ _ fun w2 w4 w5 w7 w8 w9 h' S'=>?_
  have ih1:=ih _ _ (n+1) w2 w4 w5 w7 w8 w9 h' (fun y hy=>hok y (by simp [hy])) (by simp;omega) (by omega) (by omega) HT.right S' fun u2 u4 u5 u7 u8 u9 n' h2 S2=>hk _ _ _ _ _ _ n' h2 ?_
  . push_cast at ih1;exact ih1
  . rw [e]
    simp only [List.length_append,List.map_cons]
    have e2:j+((x.ks.length+(osK os).length:Nat):Int)=j+(x.ks.length:Int)+((osK os).length:Int):=by omega
    rw [e2]
    simpa using S2
theorem MS.bump {h0 hh:CHeap} {p m r n:Nat} {Ls:List CVal} {j:Int} {nmv:B8} {xs:List CVal} {O:CVal} (S:MS h0 p m r Ls j nmv xs O hh) (g:hh.next<=n):MS h0 p m r Ls j nmv xs O ⟨hh.ents,n,hh.tys⟩ :=
 ⟨⟨S.fit.1.le g,S.fit.2.le g⟩,by have:=S.nx;dsimp only;omega,S.ty,S.gp,S.gm,S.gr,S.lp,S.lm,S.lr,S.mr,S.fr⟩
theorem zEw {p m:Nat} (h:p≠m) {b c:CObj}:∀ l:EE,zA2 (zA2 l m c) p b=zA2 (zA2 l p b) m c
 | []=>rfl
 | (i,o)::r=>by
  by_cases h1:i=m
  . subst h1
    have h2:¬ i=p:=Ne.symm h
    simp [zA2,h2]
  . by_cases h2:i=p
    . subst h2;simp [zA2,h1]
    . simp [zA2,h1,h2,zEw h r]
theorem zQx {p m:Nat} (h:p≠m) {a b c:CObj} {l:EE}:zA2 (zA2 (zA2 l p a) m c) p b=zA2 (zA2 l p b) m c:=by
 rw [zEw h,zA8]
theorem zar {h0 h:CHeap} {p m r d dm:Nat} {Ls:List CVal} {j:Int} {nmv:B8} {xs:List CVal} (S:MS h0 p m r Ls j nmv xs .nils h) {os:List OD} (hos:os≠[]) (hok:∀ x ∈ os,x.ok) (hxl:xs.length+os.length<=30) (HT:Toks Ls j ([nm [111,110,101,111,102],nm [99],sg 123]++(osK os++[sg 125]))) {K:KT}
    (hk:∀ h' t u,ME h0 p m r Ls (j+3+(osK os).length+1) nmv (xs++os.map OD.v) (.imm (.own t u) 1 [.str [99]]) h'->K (.tup []) h'):Wc TF 167 [.ptr p d 0,.ptr m dm 0] h K:=by
 have hf:=S.fit
 have hg:=S.gp
 obtain ⟨F,fi,hm,hF,hi⟩:=S.gm
 have hpm:p≠m:=by have:=S.lp;have:=S.lm;omega
 obtain ⟨hu,hut,hX⟩:=fx4 hf
 have hY:=fx5 hf hg
 have lp:=zA3 hu hg
 have lm:=zA3 hu hm
 have lr:=zA3 hu S.gr
 have hmp:m≠p:=Ne.symm hpm
 have hY2:=fx5 hf hm
 have A0:At Ls (j) 1 [111,110,101,111,102] 0:=HT.at 0 rfl om_ (by rfl) (by rfl)
 have A1:At Ls (j+1) 1 [99] 0:=HT.at 1 rfl om_ (by rfl) (by rfl)
 have A2:At Ls (j+1+1) 4 [123] 0:=HT.at 2 rfl om_ (by rfl) (by rfl)
 have HT2:Toks Ls (j+1+1+1) (osK os++[sg 125]):=by have:=HT.right;rw [show j+(([nm [111,110,101,111,102],nm [99],sg 123]:List Kw).length:Int)=j+1+1+1 by simp;omega] at this;exact this
 have hns:∀ b ∈ ([99]:B8),b≠46:=by decide
 have jz:=A0.z
 have jm:=A2.m
 refine mk_ 167 c167 (s_ ?_)
 have hZ:=j9_ hX hY hY2 hg hm hpm hmp jz jm
 repeat ((fail_if_success (show W TF onL _ _));first
  | refine st_ rfl ?_
  | refine wsn_ ?_
  | (refine zH8 (Ls:=Ls) (j:=j) ?_ ?_ 0 (by decide) fun n5 g5=>⟨rfl,?_⟩;exact ft_;(focus ((simp (disch:=omega) [zA1,zA2,hg,hY,hm,hpm,hmp,zA0]);done));(try dsimp only at g5))
  | (refine zCz ?_ ?_ A1 hns (by simp) (by simp) fun n3 g3=>⟨rfl,?_⟩;exact ft_;(focus ((simp (disch:=omega) [zA1,zA2,hg,hY,hm,hpm,hmp,zA0]);done));(try dsimp only at g3))
  | (refine zAf ?_ ?_ A2 fun n6 g6=>⟨rfl,?_⟩;exact ft_;(focus ((simp (disch:=omega) [zA1,zA2,hg,hY,hm,hpm,hmp,zA0]);done));(try dsimp only at g6)))
 cases os with
 | nil=>exact absurd rfl hos
 | cons x os =>
  have e:osK (x::os)=x.ks++osK os:=by simp [osK]
  rw [e,List.append_assoc] at HT2
  simp only [List.length_cons] at hxl
  rw [zQx hpm]
  refine zT3 (h0:=h0) (r:=r) rfl (S.mkO (io:=n5+8+1+1+1+1+1+1+1+1) hm hF hi ?_ ?_) (by omega) (hok x (by simp)) HT2.left (n:=0) (by omega) _ _ _ _ _ _ fun w2 w4 w5 w7 w8 w9 h' S'=>?_
  . exact om_
  . exact om_
  have L:=zWl (d:=d) (dm:=dm) (g1:=.full) rfl (Q:=fun x st'=>zMo TF (.R [.v 0,.g (.call false 150 [.loc 0,(.const (.str [125]))])] []) (endW c167 h.next K) (zB3 0 x) st') os _ _ 1 w2 w4 w5 w7 w8 w9 h' (fun y hy=>hok y (by simp [hy])) (by simp;omega) (by omega) (by omega) HT2.right S' ?_
  . push_cast at L;exact L
  intro u2 u4 u5 u7 u8 u9 n' h2 S2
  (try simp only [zB3,zA9,zAe,zAo,reduceIte])
  have f2:=S2.fit
  have g2:=S2.gp
  obtain ⟨hu,hut,hX⟩:=fx4 f2
  have hY:=fx5 f2 g2
  have AZ:At Ls (j+1+1+1+(x.ks.length:Int)+((osK os).length:Int)) 4 [125] 0:=by
   have:=HT2.right.right
   exact this.at 0 rfl om_ (by rfl) (by rfl)
  have jz2:=AZ.z
  have jm2:=AZ.m
  have hZ:=j5_ hX hY g2 jz2 jm2
  repeat (first
   | refine wk_ ?_
   | (refine zAf ft_ sd_ AZ fun n7 g7=>⟨rfl,?_⟩;(try dsimp only at g7)))
  have hZ:=j4_ hX hY jz2 jm2
  refine rk_ ?_
  dsimp only
  rw [show j+3+((osK (x::os)).length:Int)+1=j+1+1+1+(x.ks.length:Int)+((osK os).length:Int)+1 by rw [e];simp;omega,show xs++List.map OD.v (x::os)=xs++[x.v]++List.map OD.v os by simp] at hk
  refine hk _ _ _ (ME.drop S2.me ?_ lm lr ?_)
  . have:=S.nx;omega
  . exact om_
theorem ME.bump {h0 hh:CHeap} {p m r n:Nat} {Ls:List CVal} {j:Int} {nmv:B8} {xs:List CVal} {O:CVal} (S:ME h0 p m r Ls j nmv xs O hh) (g:hh.next<=n):ME h0 p m r Ls j nmv xs O ⟨hh.ents,n,hh.tys⟩ :=
 ⟨⟨S.fit.1.le g,S.fit.2.le g⟩,by have:=S.nx;dsimp only;omega,S.ty,S.gp,S.gm,S.gr,S.lp,S.lm,S.lr,S.mr,S.fr⟩
theorem ME.dropC {h0 hh:CHeap} {p m r n n2:Nat} {Ls:List CVal} {j:Int} {nmv:B8} {xs:List CVal} {O:CVal} (S:ME h0 p m r Ls j nmv xs O hh) (hn:h0.next<=n) (lm:m<n) (lr:r<n) (hn2:hh.next<=n2):ME h0 p m r Ls j nmv xs O ⟨zA5 hh.ents n,n2,hh.tys⟩ where
 fit:=⟨(zCo S.fit.1).le hn2,S.fit.2.le hn2⟩
 nx:=by have:=S.nx;dsimp only;omega
 ty:=S.ty
 gp:=by have:=S.lp;dsimp only;rw [zDs (by omega)];exact S.gp
 gm:=by
  obtain ⟨F,a,b⟩:=S.gm
  exact ⟨F,by dsimp only;rw [zDs lm];exact a,b⟩
 gr:=by dsimp only;rw [zDs lr];exact S.gr
 lp:=S.lp
 lm:=S.lm
 lr:=S.lr
 mr:=S.mr
 fr:=fun q q1 q2=>by dsimp only;rw [zDs (by omega)];exact S.fr q q1 q2
theorem zPy {hh:CHeap} {p m d dm:Nat} {Ls:List CVal} {j:Int} (hf:Fit hh) (hg:zA1 hh.ents p=some (pp Ls j)) (A0:At Ls j 4 [125] 0) (v3:CVal) (v1 v4 v5 v6 v8 v9 v10 v11 v12:CVal) {Q:QT}
    (hk:∀ (v1 v4 v5 v6 v8 v9 v10 v11 v12:CVal) n',hh.next<=n'->Q (.exit 0) ⟨[.int .i64 1,v1,.ptr p d 0,v3,v4,v5,v6,.ptr m dm 0,v8,v9,v10,v11,v12],⟨hh.ents,n',hh.tys⟩,[]⟩):W TF msL ⟨[.int .i64 1,v1,.ptr p d 0,v3,v4,v5,v6,.ptr m dm 0,v8,v9,v10,v11,v12],hh,[]⟩ Q:=by
 obtain ⟨hu,hut,hX⟩:=fx4 hf
 have hY:=fx5 hf hg
 have lp:=zA3 hu hg
 refine W.loop ?_
 have hZ:=j3_ hX hY hg
 repeat (first
  | refine wk_ ?_
  | (refine zAj ft_ sd_ A0 [125] fun n3 g3=>⟨rfl,?_⟩;(try dsimp only at g3)))
 refine hk _ _ _ _ _ _ _ _ _ _ ?_;exact om_
theorem zZ3 {h0 hh:CHeap} {p m r d dm:Nat} {Ls:List CVal} {j:Int} {nmv:B8} {xs:List CVal} (S:MS h0 p m r Ls j nmv xs .nils hh) {os:List OD} (hos:os≠[]) (hok:∀ x ∈ os,x.ok) (hxl:xs.length+os.length<=30) (HT:Toks Ls j ([nm [111,110,101,111,102],nm [99],sg 123]++(osK os++[sg 125]))) (v3:CVal) (v1 v4 v5 v6 v8 v9 v10 v11 v12:CVal) {Q:QT}
    (hk:∀ (v1 v4 v5 v6 v8 v9 v10 v11 v12:CVal) h' t u,ME h0 p m r Ls (j+3+(osK os).length+1) nmv (xs++os.map OD.v) (.imm (.own t u) 1 [.str [99]]) h'->W TF msL ⟨[.int .i64 1,v1,.ptr p d 0,v3,v4,v5,v6,.ptr m dm 0,v8,v9,v10,v11,v12],h',[]⟩ Q):W TF msL ⟨[.int .i64 1,v1,.ptr p d 0,v3,v4,v5,v6,.ptr m dm 0,v8,v9,v10,v11,v12],hh,[]⟩ Q:=by
 have hf:=S.fit
 have hg:=S.gp
 obtain ⟨hu,hut,hX⟩:=fx4 hf
 have hY:=fx5 hf hg
 have lp:=zA3 hu hg
 have A0:At Ls (j) 1 [111,110,101,111,102] 0:=HT.at 0 rfl om_ (by rfl) (by rfl)
 have lr:=zA3 hu S.gr
 have lm:m<hh.next:=by obtain ⟨F,fi,hm,_⟩:=S.gm;exact zA3 hu hm
 refine W.loop ?_
 have hZ:=j3_ hX hY hg
 repeat (first
  | refine wk_ ?_
  | ((first | refine zAj ft_ sd_ A0 [125] ?_ | refine zAj ft_ sd_ A0 [59] ?_ | refine zBg ft_ sd_ A0 [109,101,115,115,97,103,101] ?_ | refine zBg ft_ sd_ A0 [101,110,117,109] ?_ | refine zBg ft_ sd_ A0 [111,110,101,111,102] ?_);intro n3 g3;refine ⟨rfl,?_⟩;(try dsimp only at g3)))
 refine zar (h0:=h0) (r:=r) (S.bump ?_) hos hok hxl HT (fun h2 t u E=>⟨rfl,?_⟩)
 . exact om_
 . have hu2:=E.fit.1
   try refine wx_ ?_
   refine dx_ ?_
   refine hk _ _ _ _ _ _ _ _ _ _ t u (E.dropC ?_ lm lr ?_)
   . have:=S.nx;omega
   . exact om_
end Go.Proofs.YtafeofghkhhhkaaGreat.IrM
