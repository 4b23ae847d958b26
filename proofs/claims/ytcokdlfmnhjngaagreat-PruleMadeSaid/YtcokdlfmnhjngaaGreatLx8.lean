/- What the functions of the law 'PruleMade' do: part 8 of 8. -/
import Derived.Test.YtcokdlfmnhjngaaGreatLx7
namespace Go.Proofs.YtcokdlfmnhjngaaGreat.IrE
open Go Go.CI
set_option maxRecDepth 100000
set_option maxHeartbeats 4000000
set_option linter.unusedVariables false
set_option linter.unusedSimpArgs false
attribute [local irreducible] W Wo Wc WoR
abbrev pmL:CCode:=(.loop true (.seq (.R [.g (.bin .lss (.var 2) (.var 3))] [(4,0)]) (.seq (.cond (.var 4) .skip (.exit 0)) (.seq (.block 1 (.seq (.R [.v 2,.m (.loc 0)] [(7,1)]) (.region [.k 1 5,.l 0,.v 6,.y 12 1,.v 7,.c 144 [(.loc 2),(.loc 1),(.loc 0)],.g (.lit .imm true [(.int .i64 0),(.str []),(.int .i64 0),(.int .i64 0),(.str []),(.int .i64 0),(.bool false),(.int .i64 0)] 1 [(0,(.loc 0))]),.g (.append .ref 0 8 (.loc 5) (.loc 0)),.k 1 5,.s 1 0 1] [] [(1,0,1)] []))) (.R [.g (.bin .add (.var 2) (.k 1)),.m (.loc 0)] [(2,1)])))))
structure PMI (h0:CHeap) (B M TT:Nat) (wc:List CVal) (s:B8) (OV:CVal) (acc:List CVal) (hh:CHeap):Prop where
 fit:Fit hh
 nx:h0.next ≤ hh.next
 fr:∀ q,q < h0.next → zA1 hh.ents q = zA1 h0.ents q
 gb:zA1 hh.ents B = some (.cells wc)
 gm:(zA1 hh.ents M = some (.cells [.str s,.nils,OV]) ∧ acc = []) ∨ ∃ R v,zA1 hh.ents M = some (.cells [.str s,.ref R v 8 0 acc.length,OV]) ∧ zA1 hh.ents R = some (.row v acc) ∧ zB1 hh.tys R = none ∧ h0.next ≤ R ∧ R ≠ B ∧ R ≠ M ∧ R ≠ TT
 lb:h0.next ≤ B
 lm:h0.next ≤ M
 bm:B ≠ M
 gt:zA1 hh.ents TT = some (.cells [.str [],.nils,.nils])
 lt:h0.next ≤ TT
 tm:TT ≠ M
theorem pm_step {a b:BD} {s n:B8} {Ls:List RW} (hl:Ls.length ≤ 19) {k:Nat} {r:RW} (hr:Ls[k]? = some r) (hok:r.ok) (hk0:r.lab ≠ 3 → r.key = []) (hk3:r.lab = 3 → r.key ∈ W18) (hd:∀ x ∈ Ls.take k,x.num ≠ r.num ∧ x.nm ≠ r.nm) {O OV L:CVal} (hO:O = .nils ∨ O = .imm .none 1 [.str [99]]) (hOV:PV1 OV ∨ ∃ i v,OV = .imm (.own i v) 1 [.str [99]]) (hs:s = [97,46,73] ∨ s = [97,46,77]) {p d B M TT:Nat} {h0:CHeap} (lp:p < h0.next) (hg:zA1 h0.ents p = some (.cells [zAq a b,L,.int .i64 0,.str []])) {v0 v4 v7 v8:CVal} {acc:List CVal} {hh:CHeap} (P:PMI h0 B M TT [.str s,.str [120],.str n,.imm .none 7 (Ls.map RW.v),O,.nils,.nils,.nils,.nils,.str [],.nils,.bool false] s OV acc hh) (hal:acc.length = k) {Q:QT}
    (hk:∀ v4 v7 h',PMI h0 B M TT [.str s,.str [120],.str n,.imm .none 7 (Ls.map RW.v),O,.nils,.nils,.nils,.nils,.str [],.nils,.bool false] s OV (acc ++ [r.pf]) h' → W tree.getF pmL ⟨[v0,.ptr B 160432140 0,.int .i64 ((k:Nat) + 1),.int .i64 Ls.length,v4,.ptr M 49283075 0,.ptr p d 0,v7,v8],h',[]⟩ Q):W tree.getF pmL ⟨[v0,.ptr B 160432140 0,.int .i64 (k:Nat),.int .i64 Ls.length,v4,.ptr M 49283075 0,.ptr p d 0,v7,v8],hh,[]⟩ Q:=by
 have hf:=P.fit
 obtain ⟨hu,hut,hX⟩:=fx4 hf
 have hkl:k < Ls.length:=(List.getElem?_eq_some_iff.1 hr).1
 have hlt:(k:Int) < (Ls.length:Int):=by omega
 have PO:PV1 O:=by rcases hO with rfl | rfl <;> exact ⟨rfl,rfl,rfl,rfl,rfl⟩
 obtain ⟨o1,o2,o3,o4,o5⟩:=PO
 simp only [CVal.isUndef,CVal.whole,CVal.cells,CVal.strip,CVal.bare] at o1 o2 o3 o4 o5
 have gp:zA1 hh.ents p = some (.cells [zAq a b,L,.int .i64 0,.str []]):=(P.fr p lp).trans hg
 have PFD:=fun {h:CHeap} => @pfield_F a b s n Ls (by omega) k r hr hok hk0 hk3 hd O L hO hs p d h
 have gb:=P.gb
 unfold wrV at PFD
 have hpf:r.pf.cells.length = 8:=rfl
 generalize hPF:Ls.map RW.v = PF at *
 have lB:=zA5 hu gb
 have nx:=P.nx
 rcases P.gm with ⟨gm,rfl⟩ | ⟨R,v,gm,gR,hRt,hR1,hR2,hR3,hR4⟩
 · have lM:=zA5 hu gm
   have bm:=P.bm
   have mb:M ≠ B:=Ne.symm bm
   unfold RW.pf at PFD hk
   have hYM:=fx5 hf gm
   refine W.loop ?_
   have hZ:=j11_ hX gb gm gp hlt hYM o1 o2 o3 o4 o5
   repeat (first
    | refine vk_ ?_
    | (refine PFD ft_ sd_ fun n3 ty3 T3 => ⟨rfl,?_⟩; have g3:=T3.n; have u3:=T3.u; (try dsimp only at g3 u3)))
   refine dk_ ?_
   refine hk _ _ _ ⟨⟨?_,?_⟩,?_,fun q q1 => ?_,?_,.inr ⟨hh.next + 1 + 2 + 1 + 1 + 1 + 1 + 1 + 1 + 1,0,?_,?_,?_,?_,?_,?_,?_⟩,P.lb,P.lm,P.bm,?_,P.lt,P.tm⟩
   · exact Under.cons om_ (hu.set.le om_)
   · exact u3.le om_
   · exact om_
   · dsimp only; rw [zA7 (by omega),zA0 (by have:=P.lm; omega)]; exact P.fr q q1
   · dsimp only; rw [zA7 (by omega),zA0 bm]; exact gb
   · dsimp only; rw [zA7 (by omega)]; exact zA6 gm
   · simp [zA1]
   · exact (T3.k _ (by (try dsimp only); omega)).trans (hX.2.2.2 _ (by omega))
   · omega
   · omega
   · omega
   · have:=zA5 hu P.gt; omega
   · dsimp only; rw [zA7 (by have:=zA5 hu P.gt; omega),zA0 P.tm]; exact P.gt
 · have lM:=zA5 hu gm
   have lR:=zA5 hu gR
   have bm:=P.bm
   have mb:M ≠ B:=Ne.symm bm
   unfold RW.pf at PFD hk
   have hYM:=fx5 hf gm
   have hYR:=fx5 hf gR
   have sM:∀ x,zA1 (zA2 hh.ents R x) M = some (.cells [.str s,.ref R v 8 0 acc.length,OV]):=fun x => (zA0 (Ne.symm hR3)).trans gm
   have hac:List.take acc.length acc = acc:=List.take_length ..
   refine W.loop ?_
   have hZ:=j15_ hX gb gm gp gR hlt hYR hYM sM hac o1 o2 o3 o4 o5
   repeat (first
    | refine vk_ ?_
    | (refine PFD ft_ sd_ fun n3 ty3 T3 => ⟨rfl,?_⟩; have g3:=T3.n; have u3:=T3.u; have hRt3:=(T3.k R (by (try dsimp only); omega)).trans hRt; have hZ:=And.intro hRt3 hZ; (try dsimp only at g3 u3)))
   refine dk_ ?_
   have lT:=zA5 hu P.gt
   have hRM:R ≠ M:=hR3
   refine hk _ _ _ ⟨⟨?_,?_⟩,?_,fun q q1 => ?_,?_,.inr ⟨R,v + 1,?_,?_,?_,?_,?_,?_,?_⟩,P.lb,P.lm,P.bm,?_,P.lt,P.tm⟩
   · exact (zC0 hu.set.set).le om_
   · exact u3.le om_
   · exact om_
   · dsimp only; rw [zCp (by omega),zA0 (by have:=P.lm; omega),zA0 (by omega)]; exact P.fr q q1
   · dsimp only; rw [zCp lB,zA0 bm,zA0 (Ne.symm hR2)]; exact gb
   · dsimp only; rw [zCp lM,zA6 (sM _)]; simp
   · dsimp only; rw [zCp lR,zA0 hR3]; exact zA6 gR
   · exact hRt3
   · exact hR1
   · exact hR2
   · exact hR3
   · exact hR4
   · dsimp only; rw [zCp lT,zA0 P.tm,zA0 (Ne.symm hR4)]; exact P.gt
theorem PMI.up {h0:CHeap} {B M TT:Nat} {wc:List CVal} {s:B8} {OV:CVal} {acc:List CVal} {hh:CHeap} (P:PMI h0 B M TT wc s OV acc hh) {n:Nat} (g:hh.next ≤ n):PMI h0 B M TT wc s OV acc ⟨hh.ents,n,hh.tys⟩ :=
 ⟨⟨P.fit.1.le g,P.fit.2.le g⟩,by have:=P.nx; dsimp only; omega,P.fr,P.gb,P.gm,P.lb,P.lm,P.bm,P.gt,P.lt,P.tm⟩
theorem nd_take {α:Type} {f:RW → α} {Ls:List RW} (h:(Ls.map f).Nodup) {k:Nat} {r:RW} (hr:Ls[k]? = some r):∀ x ∈ Ls.take k,f x ≠ f r:=by
 intro x hx e
 obtain ⟨hk,hrr⟩:=List.getElem?_eq_some_iff.1 hr
 have e1:Ls = Ls.take k ++ r :: Ls.drop (k + 1):=by
  conv => lhs; rw [← List.take_append_drop k Ls]
  rw [List.drop_eq_getElem_cons hk,hrr]
 rw [e1,List.map_append,List.nodup_append] at h
 exact h.2.2 (f x) (List.mem_map.2 ⟨x,by simpa using hx,rfl⟩) (f r) (by simp) e
theorem pm_go {a b:BD} {s n:B8} {Ls:List RW} (hl:Ls.length ≤ 19) (hokA:∀ r ∈ Ls,r.ok ∧ (r.lab ≠ 3 → r.key = []) ∧ (r.lab = 3 → r.key ∈ W18)) (hnum:(Ls.map RW.num).Nodup) (hnm:(Ls.map RW.nm).Nodup) {O OV L:CVal} (hO:O = .nils ∨ O = .imm .none 1 [.str [99]]) (hOV:PV1 OV ∨ ∃ i v,OV = .imm (.own i v) 1 [.str [99]]) (hs:s = [97,46,73] ∨ s = [97,46,77]) {p d B M TT:Nat} {h0:CHeap} (lp:p < h0.next) (hg:zA1 h0.ents p = some (.cells [zAq a b,L,.int .i64 0,.str []])) {v0 v8:CVal} {Q:QT}
    (hk:∀ v4 v7 h',PMI h0 B M TT [.str s,.str [120],.str n,.imm .none 7 (Ls.map RW.v),O,.nils,.nils,.nils,.nils,.str [],.nils,.bool false] s OV (Ls.map RW.pf) h' → Q (.exit 0) ⟨[v0,.ptr B 160432140 0,.int .i64 Ls.length,.int .i64 Ls.length,v4,.ptr M 49283075 0,.ptr p d 0,v7,v8],h',[]⟩) :
    ∀ (m k:Nat) (v4 v7:CVal) (hh:CHeap),k + m = Ls.length → PMI h0 B M TT [.str s,.str [120],.str n,.imm .none 7 (Ls.map RW.v),O,.nils,.nils,.nils,.nils,.str [],.nils,.bool false] s OV ((Ls.take k).map RW.pf) hh → W tree.getF pmL ⟨[v0,.ptr B 160432140 0,.int .i64 (k:Nat),.int .i64 Ls.length,v4,.ptr M 49283075 0,.ptr p d 0,v7,v8],hh,[]⟩ Q:=by
 intro m
 induction m with
 | zero =>
  intro k v4 v7 hh h1 P
  obtain rfl:k = Ls.length:=by omega
  rw [List.take_length] at P
  refine W.loop ?_
  repeat (first
   | refine v0_ ?_)
  exact hk _ _ _ (P.up om_)
 | succ m ih =>
  intro k v4 v7 hh h1 P
  have hkl:k < Ls.length:=by omega
  obtain ⟨r,hr⟩:∃ r,Ls[k]? = some r:=⟨_,List.getElem?_eq_getElem hkl⟩
  obtain ⟨q1,q2,q3⟩:=hokA r (List.mem_of_getElem? hr)
  refine pm_step hl hr q1 q2 q3 (fun x hx => ⟨nd_take hnum hr x hx,nd_take hnm hr x hx⟩) hO hOV hs lp hg P (by rw [List.length_map,List.length_take]; omega) (fun v4 v7 h' P' => ?_)
  have e:(Ls.take k).map RW.pf ++ [r.pf] = (Ls.take (k + 1)).map RW.pf:=by rw [List.take_add_one,hr]; simp
  rw [e] at P'
  have:=ih (k + 1) v4 v7 h' (by omega) P'
  push_cast at this
  exact this
theorem pmsg_0 {a b:BD} {s n:B8} {Ls:List RW} (hl:Ls.length ≤ 19) (hokA:∀ r ∈ Ls,r.ok ∧ (r.lab ≠ 3 → r.key = []) ∧ (r.lab = 3 → r.key ∈ W18)) (hnum:(Ls.map RW.num).Nodup) (hnm:(Ls.map RW.nm).Nodup) (hne:Ls ≠ []) {L:CVal} (hs:s = [97,46,73] ∨ s = [97,46,77]) {p d:Nat} {h:CHeap} (hf:Fit h) (hg:zA1 h.ents p = some (.cells [zAq a b,L,.int .i64 0,.str []])) {K:KT}
    (hk:∀ h',PG h h' → K (.agg [.str s,.imm .none 8 ((zBo Ls).map RW.pf),.nils]) h'):Wc tree.getF 74 [.ptr p d 0,wrV s n (.imm .none 7 (Ls.map RW.v)) (.nils)] h K:=by
 obtain ⟨hu,hut,hX⟩:=fx4 hf
 have lp:=zA5 hu hg
 have hlen:(Ls.map RW.v).length = Ls.length:=List.length_map ..
 have GO:=fun {OV} => @pm_go a b s n Ls hl hokA hnum hnm (.nils) OV L (by simp) 
 unfold wrV
 generalize hPF:Ls.map RW.v = PF at *
 refine mk_ 74 c74 (s_ ?_)
 have hZ:=j2_ hX hlen
 repeat ((fail_if_success (show W tree.getF pmL _ _)); first
  | refine st_ rfl ?_
  | ((first | refine W.regG ?_ | refine WoR.go ?_); generalize e:goR .. = r; simp (disch:=omega) [hZ] at e; replace e:some _ = _:=e; subst e; (try dsimp only [goW]))
  | (simp only [zAd,zA3,zA8,zAa,zAb,reduceIte])
  | (refine mk_ 60 c60 (s_ ?_))
  | (refine rk_ ?_; refine ⟨rfl,?_⟩))
 refine GO (TT:=h.next + 1) (OV:=.nils) (.inl ⟨rfl,rfl,rfl,rfl,rfl⟩) hs lp hg (fun v4 v7 h1 P => ?_) Ls.length 0 _ _ _ (by omega) ⟨ft_,?_,fun q q1 => ?_,?_,.inl ⟨?_,rfl⟩,?_,?_,?_,?_,?_,?_⟩
 rotate_left
 · exact om_
 · dsimp only; rw [zA7 (by omega),zA7 (by omega),zA7 (by omega)]
 · simp (disch:=omega) [zA1]
 · simp (disch:=omega) [zA1]
 · omega
 · omega
 · omega
 · simp (disch:=omega) [zA1]
 · omega
 · omega
 rcases P.gm with ⟨_,e0⟩ | ⟨R,v,gm,gR,hRt,hR1,hR2,hR3,hR4⟩
 · exact absurd (List.map_eq_nil_iff.1 e0) hne
 have f1:=P.fit
 have n1:=P.nx
 have gb:=P.gb
 have gt:=P.gt
 have fr:=P.fr
 have tm:=P.tm
 rw [List.length_map] at gm
 clear hu hut hX P GO
 obtain ⟨hu,hut,hX⟩:=fx4 f1
 have sM:=fun x => (zA0 (l:=h1.ents) (m:=R) (x:=x) (Ne.symm hR3)).trans gm
 have sT0:=fun x => (zA0 (l:=h1.ents) (m:=R) (x:=x) (Ne.symm hR4)).trans gt
 have hY:=fx5 f1 gR
 have IS:=fun {h:CHeap} => @isort_F Ls hne hl hnum R v h
 generalize hSP:(zBo Ls).map RW.pf = SP at *
 have hZ:=j7_ hX gm gb gR sM sT0 hY
 repeat (first
  | refine vk_ ?_
  | (refine pe_ (twice_0) fun _ g => ⟨rfl,?_⟩; (try dsimp only at g))
  | (refine pe_ (zCx) fun _ g4 => ⟨rfl,?_⟩; (try dsimp only at g4)))
 refine IS ft_ (by exact gR) fun n5 g5 => ⟨rfl,?_⟩
 dsimp only at g5 ⊢
 have hE:∃ E,E = zA2 h1.ents R (.row v SP):=⟨_,rfl⟩
 obtain ⟨E2,hE2⟩:=hE
 have gm2:=sM (.row v SP)
 have gt2:=sT0 (.row v SP)
 have gR2:=hY.1 (.row v SP)
 rw [← hE2] at gm2 gt2 gR2
 have f2:Fit ⟨E2,n5,h1.tys⟩:=by rw [hE2]; exact ⟨Under.le (Under.set hu) om_,hut.le om_⟩
 have k2:∀ q,q < h.next → zA1 E2 q = zA1 h.ents q:=fun q q1 => by rw [hE2,zA0 (by omega)]; exact fr q q1
 rw [← hE2]
 clear hZ hu hut hX hY sM sT0 gm gb gR gt IS
 obtain ⟨hu,hut,hX⟩:=fx4 f2
 have hY:=fx5 f2 gt2
 have sR:=fun x => (zA0 (l:=E2) (m:=h.next + 1) (x:=x) (by omega)).trans gR2
 dsimp only at hX hY hu hut
 have hZ:=j6_ hX gm2 gt2 gR2 hY sR
 repeat (first
  | refine vk_ ?_)
 refine rk_ ?_
 have hspl:SP.length = Ls.length:=by rw [← hSP,List.length_map,zD9]
 rw [← hspl,if_pos (Nat.le_refl _),List.take_length]
 simp only [Option.map_some,Function.comp]
 refine hk _ ⟨⟨zEl (Under.le (Under.set hu) (by (try dsimp only); omega)),hut.le (by (try dsimp only); omega)⟩,(by (try dsimp only); omega),fun q q1 => ?_⟩
 (try dsimp only)
 rw [zLl q1,zA0 (by omega)]
 exact k2 q q1
theorem pmsg_1 {a b:BD} {s n:B8} {Ls:List RW} (hl:Ls.length ≤ 19) (hokA:∀ r ∈ Ls,r.ok ∧ (r.lab ≠ 3 → r.key = []) ∧ (r.lab = 3 → r.key ∈ W18)) (hnum:(Ls.map RW.num).Nodup) (hnm:(Ls.map RW.nm).Nodup) (hne:Ls ≠ []) {L:CVal} (hs:s = [97,46,73] ∨ s = [97,46,77]) {p d:Nat} {h:CHeap} (hf:Fit h) (hg:zA1 h.ents p = some (.cells [zAq a b,L,.int .i64 0,.str []])) {K:KT}
    (hk:∀ h',PG h h' → K (.agg [.str s,.imm .none 8 ((zBo Ls).map RW.pf),.imm .none 1 [.str [99]]]) h'):Wc tree.getF 74 [.ptr p d 0,wrV s n (.imm .none 7 (Ls.map RW.v)) (.imm .none 1 [.str [99]])] h K:=by
 obtain ⟨hu,hut,hX⟩:=fx4 hf
 have lp:=zA5 hu hg
 have hlen:(Ls.map RW.v).length = Ls.length:=List.length_map ..
 have GO:=fun {OV} => @pm_go a b s n Ls hl hokA hnum hnm (.imm .none 1 [.str [99]]) OV L (by simp) 
 unfold wrV
 generalize hPF:Ls.map RW.v = PF at *
 refine mk_ 74 c74 (s_ ?_)
 have hZ:=j2_ hX hlen
 repeat ((fail_if_success (show W tree.getF pmL _ _)); first
  | refine st_ rfl ?_
  | ((first | refine W.regG ?_ | refine WoR.go ?_); generalize e:goR .. = r; simp (disch:=omega) [hZ] at e; replace e:some _ = _:=e; subst e; (try dsimp only [goW]))
  | (simp only [zAd,zA3,zA8,zAa,zAb,reduceIte])
  | (refine mk_ 60 c60 (s_ ?_))
  | (refine rk_ ?_; refine ⟨rfl,?_⟩))
 refine GO (TT:=h.next + 1) (OV:=.imm (.own (h.next + 2 + 9 + 1 + 2 + 1 + 1) 0) 1 [.str [99]]) (.inr ⟨_,_,rfl⟩) hs lp hg (fun v4 v7 h1 P => ?_) Ls.length 0 _ _ _ (by omega) ⟨ft_,?_,fun q q1 => ?_,?_,.inl ⟨?_,rfl⟩,?_,?_,?_,?_,?_,?_⟩
 rotate_left
 · exact om_
 · dsimp only; rw [zA7 (by omega),zA7 (by omega),zA7 (by omega),zA7 (by omega)]
 · simp (disch:=omega) [zA1]
 · simp (disch:=omega) [zA1]
 · omega
 · omega
 · omega
 · simp (disch:=omega) [zA1]
 · omega
 · omega
 rcases P.gm with ⟨_,e0⟩ | ⟨R,v,gm,gR,hRt,hR1,hR2,hR3,hR4⟩
 · exact absurd (List.map_eq_nil_iff.1 e0) hne
 have f1:=P.fit
 have n1:=P.nx
 have gb:=P.gb
 have gt:=P.gt
 have fr:=P.fr
 have tm:=P.tm
 rw [List.length_map] at gm
 clear hu hut hX P GO
 obtain ⟨hu,hut,hX⟩:=fx4 f1
 have sM:=fun x => (zA0 (l:=h1.ents) (m:=R) (x:=x) (Ne.symm hR3)).trans gm
 have sT0:=fun x => (zA0 (l:=h1.ents) (m:=R) (x:=x) (Ne.symm hR4)).trans gt
 have hY:=fx5 f1 gR
 have IS:=fun {h:CHeap} => @isort_F Ls hne hl hnum R v h
 generalize hSP:(zBo Ls).map RW.pf = SP at *
 have hZ:=j7_ hX gm gb gR sM sT0 hY
 repeat (first
  | refine vk_ ?_
  | (refine pe_ (twice_1) fun _ g => ⟨rfl,?_⟩; (try dsimp only at g))
  | (refine pe_ (zCx) fun _ g4 => ⟨rfl,?_⟩; (try dsimp only at g4)))
 refine IS ft_ (by exact gR) fun n5 g5 => ⟨rfl,?_⟩
 dsimp only at g5 ⊢
 have hE:∃ E,E = zA2 h1.ents R (.row v SP):=⟨_,rfl⟩
 obtain ⟨E2,hE2⟩:=hE
 have gm2:=sM (.row v SP)
 have gt2:=sT0 (.row v SP)
 have gR2:=hY.1 (.row v SP)
 rw [← hE2] at gm2 gt2 gR2
 have f2:Fit ⟨E2,n5,h1.tys⟩:=by rw [hE2]; exact ⟨Under.le (Under.set hu) om_,hut.le om_⟩
 have k2:∀ q,q < h.next → zA1 E2 q = zA1 h.ents q:=fun q q1 => by rw [hE2,zA0 (by omega)]; exact fr q q1
 rw [← hE2]
 clear hZ hu hut hX hY sM sT0 gm gb gR gt IS
 obtain ⟨hu,hut,hX⟩:=fx4 f2
 have hY:=fx5 f2 gt2
 have sR:=fun x => (zA0 (l:=E2) (m:=h.next + 1) (x:=x) (by omega)).trans gR2
 dsimp only at hX hY hu hut
 have hZ:=j6_ hX gm2 gt2 gR2 hY sR
 repeat (first
  | refine vk_ ?_)
 refine rk_ ?_
 have hspl:SP.length = Ls.length:=by rw [← hSP,List.length_map,zD9]
 rw [← hspl,if_pos (Nat.le_refl _),List.take_length]
 simp only [Option.map_some,Function.comp]
 refine hk _ ⟨⟨zEl (Under.le (Under.set hu) (by (try dsimp only); omega)),hut.le (by (try dsimp only); omega)⟩,(by (try dsimp only); omega),fun q q1 => ?_⟩
 (try dsimp only)
 rw [zLl q1,zA0 (by omega)]
 exact k2 q q1
theorem isort_n:Pe 145 [.nils,.fn (.func 146) [] []] (.tup []):=by
 intro h hf K hk
 obtain ⟨hu,hut,hX⟩:=fx4 hf
 refine mk_ 145 c145 (s_ ?_)
 repeat (first
  | refine vx_ ?_
  | refine W.loop ?_
  | (refine dx_ ?_; refine W.loop ?_)
  | (refine mk_ 204 c204 (s_ ?_))
  | (refine mk_ 256 c256 (s_ ?_))
  | (refine rx_ ?_; refine ⟨rfl,?_⟩))
 refine rx_ ?_
 refine hk _ ?_; exact om_
theorem pmsg_e0 {a b:BD} {s n:B8} {L:CVal} {p d:Nat} {h:CHeap} (hf:Fit h) (hg:zA1 h.ents p = some (.cells [zAq a b,L,.int .i64 0,.str []])) {K:KT}
    (hk:∀ h',PG h h' → K (.agg [.str s,.nils,.nils]) h'):Wc tree.getF 74 [.ptr p d 0,wrV s n .nils (.nils)] h K:=by
 obtain ⟨hu,hut,hX⟩:=fx4 hf
 have lp:=zA5 hu hg
 unfold wrV
 refine mk_ 74 c74 (s_ ?_)
 repeat (first
  | refine vx_ ?_
  | refine W.loop ?_
  | (refine dx_ ?_; refine W.loop ?_)
  | (refine pe_ (twice_0) fun _ g => ⟨rfl,?_⟩; (try dsimp only at g))
  | (refine pe_ (zCx) fun _ g4 => ⟨rfl,?_⟩; (try dsimp only at g4))
  | (refine pe_ isort_n fun _ g5 => ⟨rfl,?_⟩; (try dsimp only at g5))
  | (refine mk_ 60 c60 (s_ ?_))
  | (refine rx_ ?_; refine ⟨rfl,?_⟩))
 refine rx_ ?_
 refine hk _ ⟨⟨zEl (hu.le om_),hut.le om_⟩,om_,fun q q1 => zLl q1⟩
theorem pmsg_e1 {a b:BD} {s n:B8} {L:CVal} {p d:Nat} {h:CHeap} (hf:Fit h) (hg:zA1 h.ents p = some (.cells [zAq a b,L,.int .i64 0,.str []])) {K:KT}
    (hk:∀ h',PG h h' → K (.agg [.str s,.nils,.imm .none 1 [.str [99]]]) h'):Wc tree.getF 74 [.ptr p d 0,wrV s n .nils (.imm .none 1 [.str [99]])] h K:=by
 obtain ⟨hu,hut,hX⟩:=fx4 hf
 have lp:=zA5 hu hg
 unfold wrV
 refine mk_ 74 c74 (s_ ?_)
 repeat (first
  | refine vx_ ?_
  | refine W.loop ?_
  | (refine dx_ ?_; refine W.loop ?_)
  | (refine pe_ (twice_1) fun _ g => ⟨rfl,?_⟩; (try dsimp only at g))
  | (refine pe_ (zCx) fun _ g4 => ⟨rfl,?_⟩; (try dsimp only at g4))
  | (refine pe_ isort_n fun _ g5 => ⟨rfl,?_⟩; (try dsimp only at g5))
  | (refine mk_ 60 c60 (s_ ?_))
  | (refine rx_ ?_; refine ⟨rfl,?_⟩))
 refine rx_ ?_
 refine hk _ ⟨⟨zEl (hu.le om_),hut.le om_⟩,om_,fun q q1 => zLl q1⟩
theorem K6_W:∀ t ∈ K6,t ∈ W18:=by decide
theorem FD.rw_key {d:FD} (h:d.ok):(d.rw.lab ≠ 3 → d.rw.key = []) ∧ (d.rw.lab = 3 → d.rw.key ∈ W18):=by
 obtain ⟨sh,t,num⟩:=d
 obtain ⟨h1,h2,h3,h4⟩:=h
 cases sh with
 | map key => exact ⟨fun e => absurd rfl e,fun _ => K6_W _ h4⟩
 | one => exact ⟨fun _ => rfl,fun e => by cases e⟩
 | opt => exact ⟨fun _ => rfl,fun e => by cases e⟩
 | rep k => exact ⟨fun _ => rfl,fun e => by cases e⟩
theorem BD.rs_key {b:BD} {m:Nat} (h:b.ok m):∀ r ∈ b.rs,r.ok ∧ (r.lab ≠ 3 → r.key = []) ∧ (r.lab = 3 → r.key ∈ W18):=by
 obtain ⟨i,hi,B⟩:=id h
 intro r hr
 refine ⟨BD.rs_ok h r hr,?_⟩
 rcases List.mem_append.1 hr with hr | hr
 · obtain ⟨d,hd,rfl⟩:=List.mem_map.1 hr; exact FD.rw_key (B.f d hd).1
 · obtain ⟨d,hd,rfl⟩:=List.mem_map.1 hr; exact ⟨fun _ => rfl,fun e => by cases e⟩
theorem pmB {a b c:BD} {m:Nat} {s n:B8} {L:CVal} (hc:c.ok m) (hm:m ≤ 7) (hs:s = [97,46,73] ∨ s = [97,46,77]) {p d:Nat} {h:CHeap} (hf:Fit h) (hg:zA1 h.ents p = some (.cells [zAq a b,L,.int .i64 0,.str []])) {K:KT}
    (hk:∀ h',PG h h' → K (mgV s c) h'):Wc tree.getF 74 [.ptr p d 0,wrV s n (lV7 c.xs) (if !c.os.isEmpty then .imm .none 1 [.str [99]] else .nils)] h K:=by
 have hlen:c.rs.length ≤ 19:=by
  have:=hc.len
  simp only [BD.rs,List.length_append,List.length_map]; omega
 unfold mgV oV1 at hk
 rw [← BD.rs_v]
 by_cases he:c.rs = []
 · rw [he] at hk ⊢
   cases hO:(!c.os.isEmpty) with
   | false => rw [hO] at hk; exact pmsg_e0 hf hg hk
   | true => rw [hO] at hk; exact pmsg_e1 hf hg hk
 · have e7:lV7 (c.rs.map RW.v) = .imm .none 7 (c.rs.map RW.v):=by
    cases hr:c.rs with
    | nil => exact absurd hr he
    | cons x l => rfl
   have e8:lV8 (zBo c.rs) = .imm .none 8 ((zBo c.rs).map RW.pf):=by
    cases hr:zBo c.rs with
    | nil => exact absurd (by have:=zD9 c.rs; rw [hr] at this; exact List.length_eq_zero_iff.1 this.symm) he
    | cons x l => rfl
   rw [e7]
   rw [e8] at hk
   cases hO:(!c.os.isEmpty) with
   | false => rw [hO] at hk; exact pmsg_0 hlen (BD.rs_key hc) (BD.rs_num hc hm) (BD.rs_nm hc hm) he hs hf hg hk
   | true => rw [hO] at hk; exact pmsg_1 hlen (BD.rs_key hc) (BD.rs_num hc hm) (BD.rs_nm hc hm) he hs hf hg hk
def wE:CVal:=.agg [.str [97,46,69],.str [120],.str [],.nils,.nils,.nils,.nils,.nils,.nils,.str [69],.imm .none 2 [.agg [.str [65],.int .i64 0],.agg [.str [66],.int .i64 1],.agg [.str [67],.int .i64 (-1)]],.bool true]
def aV (t:Tag) (a b:BD):CVal:=.imm t 12 [wrV [97,46,73] [73] (lV7 a.xs) (oV1 (!a.os.isEmpty)),wrV [97,46,77] [77] (lV7 b.xs) (oV1 (!b.os.isEmpty)),wE]
theorem wl_ {p n:B8} {h:CHeap} {K:KT} (hf:Fit h) (hp:p ≠ []:=by simp) (hn:n ≠ []:=by simp) (hpl:p.length < 1000:=by simp) (hnl:n.length < 1000:=by simp) {v:CVal} (hv:v = .str (p ++ 46 :: n):=by rfl) (hk:∀ n' ty,TyOk h n' ty → K v ⟨h.ents,n',ty⟩):Wc tree.getF 140 [.str p,.nils,.str n] h K:=by subst hv; exact zGr hp hn hpl hnl h hf K hk
theorem gath_F {a b:BD} {p d:Nat} {h:CHeap} (hf:Fit h) (hg:zA1 h.ents p = some (.cells [zAq a b,.nils,.int .i64 0,.str []])) {K:KT}
    (hk:∀ i v n' ty,h.next ≤ n' → zA9 ty n' → K (.tup []) ⟨zA2 h.ents p (.cells [zAq a b,aV (.own i v) a b,.int .i64 0,.str []]),n',ty⟩) :
    Wc tree.getF 69 [.ptr p d 0,.str [120],.str [97],.nils,.imm .none 7 [msgV [73] a.xs (!a.os.isEmpty),msgV [77] b.xs (!b.os.isEmpty)],.imm .none 2 [enV]] h K:=by
 obtain ⟨hu,hut,hX⟩:=fx4 hf
 have lp:=zA5 hu hg
 have hY:=fx5 hf hg
 unfold msgV enV
 have e1:∀ c:Bool,(if c = true then CVal.imm .none 1 [.str [99]] else .nils) = oV1 c:=fun c => rfl
 rw [e1,e1]
 unfold aV wrV wE at hk
 obtain ⟨a1,a2,a3,a4,a5⟩:=lV7P a.xs
 obtain ⟨b1,b2,b3,b4,b5⟩:=lV7P b.xs
 obtain ⟨c1,c2,c3,c4,c5⟩:=oV1P (!a.os.isEmpty)
 obtain ⟨d1,d2,d3,d4,d5⟩:=oV1P (!b.os.isEmpty)
 rw [e1] at c1 c2 c3 c4 c5 d1 d2 d3 d4 d5
 generalize lV7 a.xs = XA at *
 generalize lV7 b.xs = XB at *
 generalize oV1 (!a.os.isEmpty) = OA at *
 generalize oV1 (!b.os.isEmpty) = OB at *
 generalize zAq a b = FV at *
 simp only [CVal.isUndef,CVal.whole,CVal.cells,CVal.strip,CVal.bare] at a1 a2 a3 a4 a5 b1 b2 b3 b4 b5 c1 c2 c3 c4 c5 d1 d2 d3 d4 d5
 have lb0:∀ x:CVal,x.beq x = true:=fun x => zBg x
 refine mk_ 69 c69 (s_ ?_)
 have hP:=j20_ a1 a2 a3 a4 a5 b1 b2 b3 b4 b5 c1 c2 c3 c4 c5 d1 d2 d3 d4 d5
 have hZ:=j5_ hX hg hY hP lb0
 repeat (first
  | refine vk_ ?_
  | refine W.loop ?_
  | (refine dk_ ?_; refine W.loop ?_)
  | ((refine wl_ ft_ (hk:=fun n3 ty3 T3 => ⟨rfl,?_⟩); have g3:=T3.n; have u3:=T3.u; (try dsimp only at g3 u3)))
  | (refine mk_ 60 c60 (s_ ?_))
  | (refine mk_ 69 c69 (s_ ?_))
  | (refine rk_ ?_; refine ⟨rfl,?_⟩))
 refine rk_ ?_
 exact hk _ _ _ _ (by omega) (u3.le (by omega))
theorem penum_F {FV L:CVal} {p d:Nat} {h:CHeap} (hf:Fit h) (hg:zA1 h.ents p = some (.cells [FV,L,.int .i64 0,.str []])) {K:KT}
    (hk:∀ h',PG h h' → K (.agg [.str [97,46,69],.imm .none 2 [.agg [.str [65],.int .i64 0],.agg [.str [66],.int .i64 1],.agg [.str [67],.int .i64 (-1)]]]) h'):Wc tree.getF 73 [.ptr p d 0,wE] h K:=by
 obtain ⟨hu,hut,hX⟩:=fx4 hf
 have lp:=zA5 hu hg
 unfold wE
 refine mk_ 73 c73 (s_ ?_)
 have hZ:=j2_ hX hg
 repeat (first
  | refine vk_ ?_
  | refine W.loop ?_
  | (refine dk_ ?_; refine W.loop ?_)
  | (refine pe_ (zCx) fun _ g4 => ⟨rfl,?_⟩; (try dsimp only at g4))
  | (refine mk_ 66 c66 (s_ ?_))
  | (refine mk_ 142 c142 (s_ ?_))
  | (refine mk_ 143 c143 (s_ ?_))
  | (refine rk_ ?_; refine ⟨rfl,?_⟩))
 refine rk_ ?_
 refine hk _ ⟨⟨?_,hut.le (by dsimp only; omega)⟩,by dsimp only; omega,fun q q1 => rfl⟩
 exact hu.le (by dsimp only; omega)
theorem pschema_F {a b:BD} (ha:a.ok 4) (hb:b.ok 7) {h:CHeap} (hf:Fit h) {K:KT} (hk:∀ h',PG h h' → K (.tup [schV a b,.int .i64 0,.str []]) h'):Wc tree.getF 28 [zAq a b] h K:=by
 obtain ⟨hu,hut,hX⟩:=fx4 hf
 have e1:∀ c:Bool,(if c = true then CVal.imm .none 1 [.str [99]] else .nils) = oV1 c:=fun c => rfl
 have GA:=fun {p d:Nat} {h:CHeap} => @gath_F a b p d h
 have M1:=fun {L:CVal} {p d:Nat} {h:CHeap} => @pmB a b a 4 [97,46,73] [73] L ha (by omega) (.inl rfl) p d h
 have M2:=fun {L:CVal} {p d:Nat} {h:CHeap} => @pmB a b b 7 [97,46,77] [77] L hb (by omega) (.inr rfl) p d h
 have EF:=fun {FV L:CVal} {p d:Nat} {h:CHeap} => @penum_F FV L p d h
 unfold msgV enV aV at GA
 unfold wrV wE at GA
 unfold wrV at M1 M2
 unfold wE at EF
 unfold mgV at M1 M2
 unfold schV mgV at hk
 simp only [e1] at GA M1 M2
 have PlA:=lV7P a.xs
 have PlB:=lV7P b.xs
 have PoA:=oV1P (!a.os.isEmpty)
 have PoB:=oV1P (!b.os.isEmpty)
 rw [e1] at PoA PoB
 have PsA:=lV8P (zBo a.rs)
 have PsB:=lV8P (zBo b.rs)
 have FVe:zAq a b = .imm .none 6 [.agg [.str [120],.str [97],.nils,.imm .none 7 [.agg [.str [73],lV7 a.xs,oV1 (!a.os.isEmpty),.nils,.nils,.nils,.nils],.agg [.str [77],lV7 b.xs,oV1 (!b.os.isEmpty),.nils,.nils,.nils,.nils]],.imm .none 2 [.agg [.str [69],.imm .none 2 [.agg [.str [65],.int .i64 0],.agg [.str [66],.int .i64 1],.agg [.str [67],.int .i64 (-1)]]]],.imm .none 1 [.str [120]]]]:=rfl
 rw [FVe] at GA M1 M2 ⊢
 clear FVe
 generalize lV7 a.xs = lA at *
 generalize lV7 b.xs = lB at *
 generalize oV1 (!a.os.isEmpty) = oA at *
 generalize oV1 (!b.os.isEmpty) = oB at *
 generalize lV8 (zBo a.rs) = sA at *
 generalize lV8 (zBo b.rs) = sB at *
 have lb0:∀ x:CVal,x.beq x = true:=fun x => zBg x
 obtain ⟨lA1,lA2,lA3,lA4,lA5⟩:=PlA
 obtain ⟨lB1,lB2,lB3,lB4,lB5⟩:=PlB
 obtain ⟨oA1,oA2,oA3,oA4,oA5⟩:=PoA
 obtain ⟨oB1,oB2,oB3,oB4,oB5⟩:=PoB
 obtain ⟨sA1,sA2,sA3,sA4,sA5⟩:=PsA
 obtain ⟨sB1,sB2,sB3,sB4,sB5⟩:=PsB
 simp only [CVal.isUndef,CVal.whole,CVal.cells,CVal.strip,CVal.bare] at lA1 lA2 lA3 lA4 lA5 lB1 lB2 lB3 lB4 lB5 oA1 oA2 oA3 oA4 oA5 oB1 oB2 oB3 oB4 oB5 sA1 sA2 sA3 sA4 sA5 sB1 sB2 sB3 sB4 sB5
 have hP:=j20_ lA1 lA2 lA3 lA4 lA5 lB1 lB2 lB3 lB4 lB5 oA1 oA2 oA3 oA4 oA5 oB1 oB2 oB3 oB4 oB5
 have hQ:=j11_ lb0 sA1 sA2 sA3 sA4 sA5 sB1 sB2 sB3 sB4 sB5
 refine mk_ 28 c28 (s_ ?_)
 have hZ:=j3_ hX hP hQ
 repeat (first
  | refine vk_ ?_
  | refine W.loop ?_
  | (refine dk_ ?_; refine W.loop ?_))
 refine GA ft_ (by simp (disch:=omega) [zA1]) fun i v n3 ty3 g3 u3 => ⟨rfl,?_⟩
 dsimp only at g3
 repeat (first
  | refine vk_ ?_
  | refine W.loop ?_
  | (refine dk_ ?_; refine W.loop ?_)
  | (refine pe_ (zCx) fun _ g4 => ⟨rfl,?_⟩; (try dsimp only at g4))
  | (refine mk_ 71 c71 (s_ ?_))
  | (refine mk_ 72 c72 (s_ ?_))
  | (refine mk_ 141 c141 (s_ ?_))
  | (refine rk_ ?_; refine ⟨rfl,?_⟩))
 rename_i xl
 refine M1 ft_ (by simp (disch:=omega) [zA1]; rfl) fun h4 P4 => ⟨rfl,?_⟩
 have f4:=P4.fit
 have n4:=P4.nx
 have r4:=P4.fr h.next (by dsimp only; omega)
 have r4m:=P4.fr (h.next + 3 + 1 + 1) (by dsimp only; omega)
 simp (disch:=omega) [zA1] at r4 r4m
 have k4:∀ q,q < h.next → zA1 h4.ents q = zA1 h.ents q:=fun q q1 => (P4.fr q (by dsimp only; omega)).trans (by dsimp only; rw [zA7 (by omega),zA7 (by omega),zA7 (by omega)])
 dsimp only at n4
 clear hu hut hX P4 hZ
 obtain ⟨hu,hut,hX⟩:=fx4 f4
 have hY:=fx5 f4 r4
 have t4:=fun x => (zA0 (l:=h4.ents) (m:=h.next) (n:=h.next + 3 + 1 + 1) (x:=x) (by omega)).trans r4m
 have hZ:=j7_ hX hP hQ r4 r4m hY t4
 repeat (first
  | refine vk_ ?_
  | refine W.loop ?_
  | (refine dk_ ?_; refine W.loop ?_)
  | (refine pe_ (zCx) fun _ g4 => ⟨rfl,?_⟩; (try dsimp only at g4))
  | (refine mk_ 71 c71 (s_ ?_))
  | (refine mk_ 72 c72 (s_ ?_))
  | (refine mk_ 141 c141 (s_ ?_))
  | (refine rk_ ?_; refine ⟨rfl,?_⟩))
 generalize hw:xl + 2 + 1 + 6 + 6 = w0 at n4 ⊢
 generalize hE5:zAc _ w0 = E5
 have c5:=fun q (q1:q < w0) => (congrArg (zA1 · q) hE5).symm.trans (zCp q1)
 have r5:=(c5 h.next (by omega)).trans (hY.1 _)
 have r5m:=(c5 (h.next + 3 + 1 + 1) (by omega)).trans (t4 _)
 have k5:=fun q (q1:q < h.next) => ((c5 q (by omega)).trans (zA0 (by omega))).trans (k4 q q1)
 have f5:Fit ⟨E5,h4.next + 2 + 1,h4.tys⟩:=⟨hE5 ▸ zC0 (Under.le (Under.set f4.1) (by dsimp only; omega)),f4.2.le (by dsimp only; omega)⟩
 try dsimp only at r5
 try dsimp only at r5m
 try dsimp only at k5
 clear hE5 c5 hZ hX hY hu hut t4 r4 r4m k4
 obtain ⟨hu,hut,hX⟩:=fx4 f5
 dsimp only at hu hut hX
 have hZ:=j5_ hX hP hQ r5 r5m
 repeat (first
  | refine vk_ ?_
  | refine W.loop ?_
  | (refine dk_ ?_; refine W.loop ?_))
 refine M2 ft_ (by simp (disch:=omega) [zA1,r5m]; rfl) fun h6 P6 => ⟨rfl,?_⟩
 have f6:=P6.fit
 have n6:=P6.nx
 have r6:=P6.fr h.next (by dsimp only; omega)
 have r6m:=P6.fr (h.next + 3 + 1 + 1) (by dsimp only; omega)
 have r6t:=P6.fr (w0 + 1 + 4 + 6 + 3 + 1 + 1 + 1 + 1 + 1 + 1) (by dsimp only; omega)
 simp (disch:=omega) [zA1,r5,r5m] at r6 r6m r6t
 have k6:∀ q,q < h.next → zA1 h6.ents q = zA1 h.ents q:=fun q q1 => (P6.fr q (by dsimp only; omega)).trans (by dsimp only; rw [zA7 (by omega),zA7 (by omega)]; exact k5 q q1)
 dsimp only at n6
 generalize hw6:w0 + 1 + 4 + 6 + 3 + 1 + 1 + 1 + 1 + 1 + 1 = t0 at *
 clear hu hut hX P6 hZ
 obtain ⟨hu,hut,hX⟩:=fx4 f6
 have hY:=fx5 f6 r6t
 have t6:=fun x => (zA0 (l:=h6.ents) (m:=t0) (n:=h.next) (x:=x) (by omega)).trans r6
 have t6m:=fun x y => ((zA0 (l:=zA2 h6.ents t0 x) (m:=h.next) (n:=h.next + 3 + 1 + 1) (x:=y) (by omega)).trans (zA0 (by omega))).trans r6m
 have t6t:=fun x y => (zA0 (l:=zA2 h6.ents t0 x) (m:=h.next) (n:=t0) (x:=y) (by omega)).trans (hY.1 x)
 have t6b:=fun x y => zA6 (x:=y) (t6 x)
 have hZ:=j12_ hX hP hQ r5 r6 r6m r6t hY t6 t6m t6t t6b
 repeat (first
  | refine vk_ ?_
  | refine W.loop ?_
  | (refine dk_ ?_; refine W.loop ?_))
 generalize hE7:zAc _ (h4.next + 2) = E7
 have c7:=fun q (q1:q < h4.next + 2) => (congrArg (zA1 · q) hE7).symm.trans (zCp q1)
 have r7:=(c7 h.next (by omega)).trans (t6b _ _)
 have r7m:=(c7 (h.next + 3 + 1 + 1) (by omega)).trans (t6m _ _)
 have k7:=fun q (q1:q < h.next) => ((c7 q (by omega)).trans ((zA0 (by omega)).trans (zA0 (by omega)))).trans (k6 q q1)
 have f7:Fit ⟨E7,h6.next + 2 + 1,h6.tys⟩:=⟨hE7 ▸ zC0 (Under.le (Under.set (Under.set f6.1)) (by dsimp only; omega)),f6.2.le (by dsimp only; omega)⟩
 try dsimp only at r7
 try dsimp only at r7m
 try dsimp only at k7
 clear hE7 c7 hZ hX hY hu hut t6 t6m t6t t6b r6 r6m r6t k6 r5 r5m k5
 obtain ⟨hu,hut,hX⟩:=fx4 f7
 dsimp only at hu hut hX
 have hZ:=j5_ hX hP hQ r7 r7m
 repeat (first
  | refine vk_ ?_
  | refine W.loop ?_
  | (refine dk_ ?_; refine W.loop ?_))
 refine EF ft_ (by simp (disch:=omega) [zA1,r7m]; exact ⟨rfl,rfl⟩) fun h8 P8 => ⟨rfl,?_⟩
 have f8:=P8.fit
 have n8:=P8.nx
 have r8:=P8.fr h.next (by dsimp only; omega)
 have r8m:=P8.fr (h.next + 3 + 1 + 1) (by dsimp only; omega)
 simp (disch:=omega) [zA1,r7,r7m] at r8 r8m
 have k8:∀ q,q < h.next → zA1 h8.ents q = zA1 h.ents q:=fun q q1 => (P8.fr q (by dsimp only; omega)).trans (by dsimp only; rw [zA7 (by omega)]; exact k7 q q1)
 dsimp only at n8
 clear hu hut hX P8 hZ
 obtain ⟨hu,hut,hX⟩:=fx4 f8
 have hY:=fx5 f8 r8
 have t8:=fun x => (zA0 (l:=h8.ents) (m:=h.next) (n:=h.next + 3 + 1 + 1) (x:=x) (by omega)).trans r8m
 have hZ:=j8_ hX hP hQ r7 r8 r8m hY t8
 repeat (first
  | refine vk_ ?_
  | refine W.loop ?_
  | (refine dk_ ?_; refine W.loop ?_))
 generalize hE9:zAc _ (h6.next + 2) = E9
 have c9:=fun q (q1:q < h6.next + 2) => (congrArg (zA1 · q) hE9).symm.trans (zCp q1)
 have r9:=(c9 h.next (by omega)).trans (hY.1 _)
 have r9m:=(c9 (h.next + 3 + 1 + 1) (by omega)).trans (t8 _)
 have k9:=fun q (q1:q < h.next) => ((c9 q (by omega)).trans (zA0 (by omega))).trans (k8 q q1)
 have f9:Fit ⟨E9,h8.next + 2 + 1,h8.tys⟩:=⟨hE9 ▸ zC0 (Under.le (Under.set f8.1) (by dsimp only; omega)),f8.2.le (by dsimp only; omega)⟩
 try dsimp only at r9
 try dsimp only at r9m
 try dsimp only at k9
 clear hE9 c9 hZ hX hY hu hut t8 r8 r8m k8 r7 r7m k7
 obtain ⟨hu,hut,hX⟩:=fx4 f9
 dsimp only at hu hut hX
 have hY:=fx5 f9 r9
 have hZ:=j6_ hX hP hQ r9 r9m hY
 repeat (first
  | refine vk_ ?_
  | refine W.loop ?_
  | (refine dk_ ?_; refine W.loop ?_)
  | (refine mk_ 75 c75 (s_ ?_))
  | (refine mk_ 78 c78 (s_ ?_))
  | (refine mk_ 147 c147 (s_ ?_))
  | (refine mk_ 150 c150 (s_ ?_))
  | (refine mk_ 205 c205 (s_ ?_))
  | (refine mk_ 215 c215 (s_ ?_))
  | (refine mk_ 148 c148 (s_ ?_))
  | (refine mk_ 213 c213 (s_ ?_))
  | (refine mk_ 214 c214 (s_ ?_))
  | (refine mk_ 76 c76 (s_ ?_))
  | (refine mk_ 77 c77 (s_ ?_))
  | (refine mk_ 79 c79 (s_ ?_))
  | (refine mk_ 149 c149 (s_ ?_))
  | (refine rk_ ?_; refine ⟨rfl,?_⟩))
 refine rk_ ?_
 try simp only [Option.map_some,Function.comp]
 refine hk _ ⟨⟨?_,hut.le (by (try dsimp only); omega)⟩,(by (try dsimp only); omega),fun q q1 => ?_⟩
 · (try dsimp only); first | exact zBz (Under.le (Under.set hu) (by omega)) | exact zEl (Under.le (Under.set hu) (by omega)) | exact zBz (Under.cons (by omega) (Under.le (Under.set hu) (by omega)))
 · (try dsimp only); first | exact (zFh q1).trans ((zA0 (by omega)).trans (k9 q q1)) | exact (zLl q1).trans ((zA0 (by omega)).trans (k9 q q1)) | exact (zFh q1).trans ((zA7 (by omega)).trans ((zA0 (by omega)).trans (k9 q q1)))
theorem from_F (a b:BD):Pe 29 [zAq a b] (zAq a b):=by
 intro h hf K hk
 obtain ⟨hu,hut,hX⟩:=fx4 hf
 have e1:∀ c:Bool,(if c = true then CVal.imm .none 1 [.str [99]] else .nils) = oV1 c:=fun c => rfl
 have FVe:zAq a b = .imm .none 6 [.agg [.str [120],.str [97],.nils,.imm .none 7 [.agg [.str [73],lV7 a.xs,oV1 (!a.os.isEmpty),.nils,.nils,.nils,.nils],.agg [.str [77],lV7 b.xs,oV1 (!b.os.isEmpty),.nils,.nils,.nils,.nils]],.imm .none 2 [.agg [.str [69],.imm .none 2 [.agg [.str [65],.int .i64 0],.agg [.str [66],.int .i64 1],.agg [.str [67],.int .i64 (-1)]]]],.imm .none 1 [.str [120]]]]:=rfl
 rw [FVe] at hk ⊢
 clear FVe
 have PlA:=lV7P a.xs
 have PlB:=lV7P b.xs
 have PoA:=oV1P (!a.os.isEmpty)
 have PoB:=oV1P (!b.os.isEmpty)
 rw [e1] at PoA PoB
 generalize lV7 a.xs = lA at *
 generalize lV7 b.xs = lB at *
 generalize oV1 (!a.os.isEmpty) = oA at *
 generalize oV1 (!b.os.isEmpty) = oB at *
 have lb0:∀ x:CVal,x.beq x = true:=fun x => zBg x
 obtain ⟨lA1,lA2,lA3,lA4,lA5⟩:=PlA
 obtain ⟨lB1,lB2,lB3,lB4,lB5⟩:=PlB
 obtain ⟨oA1,oA2,oA3,oA4,oA5⟩:=PoA
 obtain ⟨oB1,oB2,oB3,oB4,oB5⟩:=PoB
 simp only [CVal.isUndef,CVal.whole,CVal.cells,CVal.strip,CVal.bare] at lA1 lA2 lA3 lA4 lA5 lB1 lB2 lB3 lB4 lB5 oA1 oA2 oA3 oA4 oA5 oB1 oB2 oB3 oB4 oB5
 have hP:=j20_ lA1 lA2 lA3 lA4 lA5 lB1 lB2 lB3 lB4 lB5 oA1 oA2 oA3 oA4 oA5 oB1 oB2 oB3 oB4 oB5
 refine mk_ 29 c29 (s_ ?_)
 have hZ:=j3_ hX hP lb0
 repeat (first
  | refine vk_ ?_
  | refine W.loop ?_
  | (refine dk_ ?_; refine W.loop ?_))
 refine rk_ ?_
 exact hk _ (by omega)
abbrev ssL:CCode:=(.loop true (.seq (.seq (.R [.v 10,.k 1 7,.l 0,.j 0,.h .lss 3 0] [(11,4)]) (.cond (.var 11) .skip (.exit 2))) (.seq (.block 3 (.seq (.R [.k 1 7,.l 0,.v 10,.i 8 1 0,.z 8 0,.k 1 8,.l 0,.v 10,.i 8 1 0,.z 8 0,.g (.extl (.aeq true [(.int,0),(.str,1),(.int,2),(.int,3),(.str,4),(.int,5),(.bool,6),(.int,7)]) [(.loc 5),(.loc 0)])] [(12,10)]) (.cond (.var 12) (.seq (.R [.m (.b false)] [(13,0)]) .ret) .skip))) (.R [.v 10,.x .add 0 (.k 1),.m (.loc 0)] [(10,2)]))))
theorem ss_go {sc:B8} {Ls:List RW} (hl:Ls.length ≤ 100) {O:CVal} (HO:PV1 O) {hh:CHeap} (hf:Fit hh) {p7 p8:Nat} (g7:zA1 hh.ents p7 = some (.cells [.str sc,lV8 Ls,O])) (g8:zA1 hh.ents p8 = some (.cells [.str sc,lV8 Ls,O])) {v0 v1 v2 v3 v4 v5 v6 v9 v13:CVal} {Q:QT}
    (hk:∀ (v10 v11 v12:CVal) (n':Nat),hh.next ≤ n' → Q (.exit 2) ⟨[v0,v1,v2,v3,v4,v5,v6,.ptr p7 49283075 0,.ptr p8 49283075 0,v9,v10,v11,v12,v13],⟨hh.ents,n',hh.tys⟩,[]⟩) :
    ∀ (m k nx:Nat) (v11 v12:CVal),k + m = Ls.length → hh.next ≤ nx → W tree.getF ssL ⟨[v0,v1,v2,v3,v4,v5,v6,.ptr p7 49283075 0,.ptr p8 49283075 0,v9,.int .i64 (k:Nat),v11,v12,v13],⟨hh.ents,nx,hh.tys⟩,[]⟩ Q:=by
 obtain ⟨f1,f2,f3,f4,f5⟩:=id HO
 simp only [CVal.isUndef,CVal.whole,CVal.cells,CVal.strip,CVal.bare] at f1 f2 f3 f4 f5
 have hlen:(Ls.map RW.pf).length = Ls.length:=List.length_map ..
 intro m
 induction m with
 | zero =>
  intro k nx v11 v12 h1 h2
  obtain rfl:k = Ls.length:=by omega
  have HL:(lV8 Ls = .nils ∧ Ls.length = 0) ∨ (lV8 Ls = .imm .none 8 (Ls.map RW.pf) ∧ Ls.length = Ls.length):=by cases Ls with | nil => exact .inl ⟨rfl,rfl⟩ | cons => exact .inr ⟨rfl,rfl⟩
  rcases HL with ⟨e8,e0⟩ | ⟨e8,e0⟩
  all_goals (
   rw [e8] at g7 g8
   refine W.loop ?_
   have hZ:=j4_ g7 g8 hlen e0
   try refine wk_ ?_
   refine hk _ _ _ _ ?_; exact om_)
 | succ m ih =>
  intro k nx v11 v12 h1 h2
  obtain ⟨hu,hut,hX⟩:=fx4 (show Fit ⟨hh.ents,nx,hh.tys⟩ from ⟨hf.1.le h2,hf.2.le h2⟩)
  dsimp only at hX hu hut
  have hlt:(k:Int) < (Ls.length:Int):=by omega
  obtain ⟨r,hr⟩:∃ r,Ls[k]? = some r:=⟨Ls[k]'(by omega),List.getElem?_eq_getElem (by omega)⟩
  have e8:lV8 Ls = .imm .none 8 (Ls.map RW.pf):=by cases Ls with | nil => simp at hr | cons => rfl
  have hn:nth (Ls.map RW.pf) k = r.pf:=zCs RW.pf Ls k r hr
  have hn2:(Ls.map RW.pf)[k]? = some r.pf:=by rw [List.getElem?_map,hr]; rfl
  have hce:=cells8
  have ih1:=fun nx v11 v12 (h:_ ≤ nx) => ih (k + 1) nx v11 v12 (by omega) h
  push_cast at ih1
  clear ih
  rw [e8] at g7 g8
  clear e8
  generalize Ls.map RW.pf = PF at *
  unfold RW.pf at hn hn2
  refine W.loop ?_
  repeat (first
   | refine st_ rfl ?_
   | ((first | refine W.regG ?_ | refine WoR.go ?_); generalize e:goR .. = r; simp (disch:=omega) [hX,g7,g8,hlt,hn,hn2,hlen,f1,f2,f3,f4,f5,-zGx,hce] at e; replace e:some _ = _:=e; subst e; (try dsimp only [goW]))
   | (simp only [zAd,zA3,zA8,zAa,zAb,reduceIte]))
  show W tree.getF ssL (dropped true _ _) Q; generalize e:dropped _ _ _ = r; simp (disch:=omega) [hX] at e; subst e
  exact ih1 _ _ _ (by omega)
theorem st_oo (c:Bool):Pe 129 [oV1 c,oV1 c] (.bool true):=by
 intro h hf K hk
 obtain ⟨hu,hut,hX⟩:=fx4 hf
 cases c <;> unfold oV1
 all_goals (
  refine mk_ 129 c129 (s_ ?_)
  repeat (first
   | refine vx_ ?_
   | refine W.loop ?_
   | (refine dx_ ?_; refine W.loop ?_))
  refine rx_ ?_
  refine hk _ ?_; exact om_)
theorem same_F {a b:BD} (ha:(zBo a.rs).length ≤ 100) (hb:(zBo b.rs).length ≤ 100) {h:CHeap} (hf:Fit h) {K:KT} (hk:∀ h',PG h h' → K (.bool true) h'):Wc tree.getF 55 [schV a b,schV a b] h K:=by
 obtain ⟨hu,hut,hX⟩:=fx4 hf
 unfold schV mgV
 have PoA:PV1 (oV1 (!a.os.isEmpty)):=oV1P _
 have PoB:PV1 (oV1 (!b.os.isEmpty)):=oV1P _
 have qA:∀ n,n = 129 → Pe n [oV1 (!a.os.isEmpty),oV1 (!a.os.isEmpty)] (.bool true):=fun n e => e ▸ st_oo _
 have qB:∀ n,n = 129 → Pe n [oV1 (!b.os.isEmpty),oV1 (!b.os.isEmpty)] (.bool true):=fun n e => e ▸ st_oo _
 have PsA:=lV8P (zBo a.rs)
 have PsB:=lV8P (zBo b.rs)
 have GO:=@ss_go
 generalize zBo a.rs = RA at *
 generalize zBo b.rs = RB at *
 generalize oV1 (!a.os.isEmpty) = oA at *
 generalize oV1 (!b.os.isEmpty) = oB at *
 have lb0:∀ x:CVal,x.beq x = true:=fun x => zBg x
 have ls0:∀ l:List CVal,beqs l l = true:=fun l => by have:=zBg (CVal.agg l); simpa using this
 have HA:(lV8 RA = .nils ∧ RA.length = 0) ∨ (lV8 RA = .imm .none 8 (RA.map RW.pf) ∧ RA.length = RA.length):=by cases RA with | nil => exact .inl ⟨rfl,rfl⟩ | cons => exact .inr ⟨rfl,rfl⟩
 have HB:(lV8 RB = .nils ∧ RB.length = 0) ∨ (lV8 RB = .imm .none 8 (RB.map RW.pf) ∧ RB.length = RB.length):=by cases RB with | nil => exact .inl ⟨rfl,rfl⟩ | cons => exact .inr ⟨rfl,rfl⟩
 obtain ⟨c1,c2,c3,c4,c5⟩:=id PoA
 obtain ⟨d1,d2,d3,d4,d5⟩:=id PoB
 simp only [CVal.isUndef,CVal.whole,CVal.cells,CVal.strip,CVal.bare] at c1 c2 c3 c4 c5 d1 d2 d3 d4 d5
 have hP:=j10_ c1 c2 c3 c4 c5 d1 d2 d3 d4 d5
 rcases HA with ⟨eA,nA⟩ | ⟨eA,nA⟩ <;> rcases HB with ⟨eB,nB⟩ | ⟨eB,nB⟩
 all_goals (
  rw [eA,eB]
  refine mk_ 55 c55 (s_ ?_)
  have hZ:=j4_ hX hP lb0 ls0
  repeat ((fail_if_success (show W tree.getF ssL _ _)); first
   | refine st_ rfl ?_
   | ((first | refine W.regG ?_ | refine WoR.go ?_); generalize e:goR .. = r; simp (disch:=omega) [hZ] at e; replace e:some _ = _:=e; subst e; (try dsimp only [goW]))
   | refine W.loop ?_
   | (refine dk_ ?_; refine W.loop ?_)
   | (simp only [zAd,zA3,zA8,zAa,zAb,reduceIte])
   | (refine pe_ (qA _ rfl) fun _ g => ⟨rfl,?_⟩; (try dsimp only at g))
   | (refine pe_ (qB _ rfl) fun _ g => ⟨rfl,?_⟩; (try dsimp only at g))
   | (refine mk_ 128 c128 (s_ ?_))
   | (refine mk_ 129 c129 (s_ ?_))
   | (refine rk_ ?_; refine ⟨rfl,?_⟩))
  refine ss_go (hh:=⟨_,_,_⟩) (sc:=[97,46,73]) (Ls:=RA) (by assumption) PoA ft_ (by rw [eA]; dsimp only; simp (disch:=omega) [zA1]) (by rw [eA]; dsimp only; simp (disch:=omega) [zA1]) (fun v10 v11 v12 n1 g1 => ?_) RA.length 0 _ _ _ (by omega) (Nat.le_refl _)
  dsimp only at g1
  have hZ:=j4_ hX hP lb0 ls0
  repeat ((fail_if_success (show W tree.getF ssL _ _)); first
   | refine st_ rfl ?_
   | ((first | refine W.regG ?_ | refine WoR.go ?_); generalize e:goR .. = r; simp (disch:=omega) [hZ] at e; replace e:some _ = _:=e; subst e; (try dsimp only [goW]))
   | refine W.loop ?_
   | (refine dk_ ?_; refine W.loop ?_)
   | (simp only [zAd,zA3,zA8,zAa,zAb,reduceIte])
   | (refine pe_ (qA _ rfl) fun _ g => ⟨rfl,?_⟩; (try dsimp only at g))
   | (refine pe_ (qB _ rfl) fun _ g => ⟨rfl,?_⟩; (try dsimp only at g))
   | (refine mk_ 128 c128 (s_ ?_))
   | (refine mk_ 129 c129 (s_ ?_))
   | (refine rk_ ?_; refine ⟨rfl,?_⟩))
  refine ss_go (hh:=⟨_,_,_⟩) (sc:=[97,46,77]) (Ls:=RB) (by assumption) PoB ft_ (by rw [eB]; dsimp only; simp (disch:=omega) [zA1]) (by rw [eB]; dsimp only; simp (disch:=omega) [zA1]) (fun v10 v11 v12 n2 g2 => ?_) RB.length 0 _ _ _ (by omega) (Nat.le_refl _)
  dsimp only at g2
  have hZ:=j4_ hX hP lb0 ls0
  repeat (first
   | refine vk_ ?_
   | refine W.loop ?_
   | (refine dk_ ?_; refine W.loop ?_))
  refine rk_ ?_
  refine hk _ ⟨⟨?_,?_⟩,?_,fun q q1 => ?_⟩
  · exact hu.le (by dsimp only; omega)
  · exact hut.le (by dsimp only; omega)
  · dsimp only; omega
  · rfl)
theorem alike_F {a b:BD} (ha:a.ok 4) (hb:b.ok 7) {h:CHeap} (hf:Fit h) {K:KT} (hk:∀ h',PG h h' → K (.bool true) h'):Wc tree.getF 20 [srcL (zF3 a b)] h K:=by
 obtain ⟨hu,hut,hX⟩:=fx4 hf
 have LF:=@load_F a b ha hb
 have RF:=from_F a b
 have PF:=@pschema_F a b ha hb
 have SF:=@schema_F a b ha hb
 have la:(zBo a.rs).length ≤ 100:=by rw [zD9]; exact BD.rs_le ha (by omega)
 have lb:(zBo b.rs).length ≤ 100:=by rw [zD9]; exact BD.rs_le hb (by omega)
 have MF:=fun {h:CHeap} => @same_F a b la lb h
 have PFV:=fvP a b
 unfold srcL at LF ⊢
 unfold schV at PF SF MF
 generalize zAq a b = FV at *
 generalize mgV [97,46,73] a = mA at *
 generalize mgV [97,46,77] b = mB at *
 generalize zF3 a b = txt at *
 obtain ⟨f1,f2,f3,f4,f5⟩:=PFV
 simp only [CVal.isUndef,CVal.whole,CVal.cells,CVal.strip,CVal.bare] at f1 f2 f3 f4 f5
 have mA0:mA.beq mA = true:=zBg _
 have mB0:mB.beq mB = true:=zBg _
 have hP:=j7_ f1 f2 f3 f4 f5 mA0 mB0
 refine mk_ 20 c20 (s_ ?_)
 have hZ:=j2_ hX hP
 repeat (first
  | refine vk_ ?_)
 refine LF (h:=⟨_,_,_⟩) ft_ fun h2 P2 => ⟨rfl,?_⟩
 have g2:=P2.fit
 have n2:=P2.nx
 have k2:=P2.fr
 dsimp only at n2 k2
 clear hu hut hX hZ
 obtain ⟨hu,hut,hX⟩:=fx4 g2
 have hZ:=j2_ hX hP
 repeat (first
  | refine vk_ ?_
  | (refine pe_ (RF) fun _ g => ⟨f1,?_⟩; (try dsimp only at g)))
 refine PF (h:=⟨_,_,_⟩) ft_ fun h3 P3 => ⟨rfl,?_⟩
 have g3:=P3.fit
 have n3:=P3.nx
 have k3:=P3.fr
 dsimp only at n3 k3
 have Z3:∀ q,h2.next ≤ q → q < h2.next + 13 → zA1 h3.ents q = none:=fun q a b => (k3 q (by omega)).trans (hX.2.2.1 q a)
 clear hu hut hX hZ
 obtain ⟨hu,hut,hX⟩:=fx4 g3
 have hZ:=j3_ hX hP Z3
 repeat (first
  | refine vk_ ?_)
 refine SF (h:=⟨_,_,_⟩) ft_ fun h4 P4 => ⟨rfl,?_⟩
 have g4:=P4.fit
 have n4:=P4.nx
 have k4:=P4.fr
 dsimp only at n4 k4
 have r4:=k4 (h2.next + 9) (by omega)
 simp (disch:=omega) [zA1] at r4
 have Z4:∀ q,h3.next ≤ q → q < h3.next + 10 → zA1 h4.ents q = none:=fun q a b => (k4 q (by omega)).trans (by simp (disch:=omega) [zA1,hX])
 clear hu hut hX hZ
 obtain ⟨hu,hut,hX⟩:=fx4 g4
 have hZ:=j4_ hX hP Z4 r4
 repeat (first
  | refine vk_ ?_)
 refine MF (h:=⟨_,_,_⟩) ft_ fun h5 P5 => ⟨rfl,?_⟩
 have g5:=P5.fit
 have n5:=P5.nx
 have k5:=P5.fr
 dsimp only at n5 k5
 have hX4:=hX
 clear hu hut hX hZ
 obtain ⟨hu,hut,hX⟩:=fx4 g5
 have hZ:=j2_ hX hP
 repeat (first
  | refine vk_ ?_)
 refine rk_ ?_
 refine hk _ ⟨⟨?_,?_⟩,?_,fun q q1 => ?_⟩
 · dsimp only; exact zBz (hu.le (by omega))
 · dsimp only; exact hut.le (by omega)
 · dsimp only; omega
 · dsimp only
   rw [zFh q1,k5 q (by omega),zA7 (by omega),k4 q (by omega),zA7 (by omega),k3 q (by omega),k2 q (by omega)]
theorem text_1 {p d nx:Nat} {ty:NN} {L:CVal} (hp:p < nx) (hut:zA9 ty nx) (hL:Nums L) {K:KT} (hk:∀ n' j a b,a.ok 4 → b.ok 7 → nx ≤ n' → K (.str (zF3 a b)) ⟨[(p,.cells [L,.int .i64 j])],n',ty⟩):Wc tree.getF 21 [.ptr p d 0,.bool false] ⟨[(p,.cells [L,.int .i64 0])],nx,ty⟩ K:=by
 have e0:∀ j,[(p,CObj.cells [L,.int .i64 j])] = zA2 [(p,pk L 0)] p (pk L j):=fun j => by simp [zA2]
 rw [e0]
 refine text_F _ _ _ p d L (pk L 0) (Under.cons hp Under.nil) hut (by simp [zA1]) hL 0 (by omega) (by omega) _ (fun n2 j2 v c1 c2 c3 Rv => ?_)
 obtain ⟨a,b,ha,hb,rfl⟩:=Rv
 rw [← e0]
 exact hk _ _ a b ha hb (by assumption)
theorem mlaw_long {L:CVal} {n:Nat} (hn:120 < n) (HL:PV1 L) (hl1:L.lenOf = some n) (hl2:L.isStr = false):Wc tree.getF 6 [L] zDu fun v _ => v = .bool true:=by
 have hN0:zDu = ⟨[],0,[]⟩:=rfl
 obtain ⟨l1,l2,l3,l4,l5⟩:=id HL
 simp only [CVal.isUndef,CVal.whole,CVal.cells,CVal.strip,CVal.bare,CVal.isStr] at l1 l2 l3 l4 l5 hl2
 have hn2:(120:Int) < (n:Int):=by omega
 refine mk_ 6 c6 ?_
 generalize e:zCq .. = r
 simp (disch:=omega) [hN0,l1,l2,l3,l4,l5] at e
 subst e
 repeat (first
  | refine st_ rfl ?_
  | ((first | refine W.regG ?_ | refine WoR.go ?_); generalize e:goR .. = r; simp (disch:=omega) [l1,l2,l3,l4,l5,hl2,-CVal.lenOf,hl1,hn2] at e; replace e:some _ = _:=e; subst e; (try dsimp only [goW]))
  | ((simp only [zAd,zA3,zA8,zAa,zAb,reduceIte])))
 refine bgPF fun n1 ty1 hn1 hut1 => ⟨rfl,?_⟩
 obtain ⟨hu,hut,hX⟩:=fx4 (h:=⟨[],n1,ty1⟩) ⟨Under.nil,hut1⟩
 repeat (first
  | refine st_ rfl ?_
  | ((first | refine W.regG ?_ | refine WoR.go ?_); generalize e:goR .. = r; simp (disch:=omega) [hX,l1,l2,l3,l4,l5,hl2,-CVal.lenOf,hl1,hn2,c10] at e; replace e:some _ = _:=e; subst e; (try dsimp only [goW]))
  | ((simp only [zAd,zA3,zA8,zAa,zAb,reduceIte]))
  | (refine Wc.mkG 10 c10 (by kernel_rfl) rfl ?_; generalize e:zCq .. = r; simp (disch:=omega) [c10] at e; subst e)
  | ((first | (refine W.ret ?_; (try simp only [zAd,zA3,zA8,zAb,reduceIte]); refine endW.of (.inl rfl) rfl ?_) | refine endW.of (.inl rfl) rfl ?_ | refine endW.of (.inr rfl) rfl ?_); generalize e:zB4 .. = r; simp (disch:=omega) [hX,l1,l2,l3,l4,l5,hl2,-CVal.lenOf,hl1,hn2,c10] at e; subst e; refine ⟨rfl,?_⟩))
 refine rx_ ?_
 rfl
theorem mlaw_mid {L:CVal} {n:Nat} (hn:n ≤ 120) (hL:Nums L) (HL:PV1 L) (hl1:L.lenOf = some n) (hl2:L.isStr = false):Wc tree.getF 6 [L] zDu fun v _ => v = .bool true:=by
 have hN0:zDu = ⟨[],0,[]⟩:=rfl
 obtain ⟨l1,l2,l3,l4,l5⟩:=id HL
 simp only [CVal.isUndef,CVal.whole,CVal.cells,CVal.strip,CVal.bare,CVal.isStr] at l1 l2 l3 l4 l5 hl2
 have hn2:¬ (n:Int) > 120:=by omega
 refine mk_ 6 c6 ?_
 generalize e:zCq .. = r
 simp (disch:=omega) [hN0,l1,l2,l3,l4,l5] at e
 subst e
 repeat (first
  | refine st_ rfl ?_
  | ((first | refine W.regG ?_ | refine WoR.go ?_); generalize e:goR .. = r; simp (disch:=omega) [l1,l2,l3,l4,l5,hl2,-CVal.lenOf,hl1,hn2] at e; replace e:some _ = _:=e; subst e; (try dsimp only [goW]))
  | ((simp only [zAd,zA3,zA8,zAa,zAb,reduceIte])))
 refine bgPF fun n1 ty1 hn1 hut1 => ⟨rfl,?_⟩
 obtain ⟨hu,hut,hX⟩:=fx4 (h:=⟨[],n1,ty1⟩) ⟨Under.nil,hut1⟩
 repeat (first
  | refine st_ rfl ?_
  | ((first | refine W.regG ?_ | refine WoR.go ?_); generalize e:goR .. = r; simp (disch:=omega) [hX,l1,l2,l3,l4,l5,hl2,-CVal.lenOf,hl1,hn2,c10] at e; replace e:some _ = _:=e; subst e; (try dsimp only [goW]))
  | ((simp only [zAd,zA3,zA8,zAa,zAb,reduceIte]))
  | (refine Wc.mkG 10 c10 (by kernel_rfl) rfl ?_; generalize e:zCq .. = r; simp (disch:=omega) [c10] at e; subst e)
  | ((first | (refine W.ret ?_; (try simp only [zAd,zA3,zA8,zAb,reduceIte]); refine endW.of (.inl rfl) rfl ?_) | refine endW.of (.inl rfl) rfl ?_ | refine endW.of (.inr rfl) rfl ?_); generalize e:zB4 .. = r; simp (disch:=omega) [hX,l1,l2,l3,l4,l5,hl2,-CVal.lenOf,hl1,hn2,c10] at e; subst e; refine ⟨rfl,?_⟩))
 refine text_1 (by omega) (hut1.le (by omega)) hL fun n2 j2 a b ha hb c1 => ⟨rfl,?_⟩
 have AF:=@alike_F a b ha hb
 unfold srcL at AF
 generalize zF3 a b = txt at *
 clear hu hut hX
 obtain ⟨hu,hut,hX⟩:=fx4 (h:=⟨[],n2,ty1⟩) ⟨Under.nil,hut1.le (by dsimp only; omega)⟩
 repeat (first
  | refine st_ rfl ?_
  | ((first | refine W.regG ?_ | refine WoR.go ?_); generalize e:goR .. = r; simp (disch:=omega) [hX,l1,l2,l3,l4,l5,hl2,-CVal.lenOf,hl1,hn2] at e; replace e:some _ = _:=e; subst e; (try dsimp only [goW]))
  | ((simp only [zAd,zA3,zA8,zAa,zAb,reduceIte])))
 refine AF ft_ fun h3 P3 => ⟨rfl,?_⟩
 have g3:=P3.fit
 clear hu hut hX
 obtain ⟨hu,hut,hX⟩:=fx4 g3
 repeat (first
  | refine st_ rfl ?_
  | ((first | refine W.regG ?_ | refine WoR.go ?_); generalize e:goR .. = r; simp (disch:=omega) [hX,l1,l2,l3,l4,l5,hl2,-CVal.lenOf,hl1,hn2] at e; replace e:some _ = _:=e; subst e; (try dsimp only [goW]))
  | ((simp only [zAd,zA3,zA8,zAa,zAb,reduceIte])))
 refine rx_ ?_
 rfl
theorem law (c:CVal) (xs:List Int) (hc:c = .nils ∧ xs = [] ∨ c = .imm .none 1 (xs.map (CVal.int .u8))) (hw:∀ x ∈ xs,0 ≤ x ∧ x < 256):Wc tree.getF 6 [c] zDu fun v _ => v = .bool true:=by
 have HL:PV1 c:=by rcases hc with ⟨rfl,_⟩ | rfl <;> exact ⟨rfl,rfl,rfl,rfl,rfl⟩
 have h1:c.lenOf = some xs.length:=by rcases hc with ⟨rfl,rfl⟩ | rfl <;> simp [CVal.lenOf]
 have h2:c.isStr = false:=by rcases hc with ⟨rfl,_⟩ | rfl <;> rfl
 rcases Nat.lt_or_ge 120 xs.length with h3 | h3
 · exact mlaw_long h3 HL h1 h2
 · refine mlaw_mid h3 ?_ HL h1 h2
   rcases hc with ⟨rfl,_⟩ | rfl
   · exact .inl rfl
   · exact .inr ⟨xs,rfl,by omega,hw⟩
end Go.Proofs.YtcokdlfmnhjngaaGreat.IrE
