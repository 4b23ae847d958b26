/- What the functions of the law 'PruleMade' do: part 6 of 8. -/
import Derived.Test.YtcokdlfmnhjngaaGreatLx5
namespace Go.Proofs.YtcokdlfmnhjngaaGreat.IrE
open Go Go.CI
set_option maxRecDepth 100000
set_option maxHeartbeats 4000000
set_option linter.unusedVariables false
set_option linter.unusedSimpArgs false
attribute [local irreducible] W Wo Wc WoR
def enV:CVal:=.agg [.str [69],.imm .none 2 [.agg [.str [65],.int .i64 0],.agg [.str [66],.int .i64 1],.agg [.str [67],.int .i64 (-1)]]]
theorem QS.addE {h0 hh h2:CHeap} {p f r id nA n2:Nat} {Ls:List CVal} {j j2:Int} {x:CVal} (S:QS h0 p f r Ls j [] [] hh) (gf:zA1 hh.ents f = some (.cells [.str [97],.nils,.nils,.nils])) (P:PF ⟨hh.ents,nA,hh.tys⟩ p Ls j2 h2) (hA:hh.next ≤ nA) (hid:hh.next ≤ id) (hn2:h2.next ≤ n2) (hn:id < n2) :
    QS h0 p f r Ls j2 [] [x] ⟨(id,.tok 0) :: zAc (zA2 h2.ents f (.cells [.str [97],.nils,.nils,.imm (.own id 0) 2 [x]])) hh.next,n2,h2.tys⟩:=by
 have e0:(id,CObj.tok 0) :: zAc (zA2 h2.ents f (.cells [.str [97],.nils,.nils,.imm (.own id 0) 2 [x]])) hh.next = zAc ((id,.tok 0) :: zA2 h2.ents f (.cells [.str [97],.nils,.nils,.imm (.own id 0) 2 [x]])) hh.next:=by simp [zAc,hid]
 rw [e0]
 have l1:=zA5 S.fit.1 S.gp
 have l2:=zA5 S.fit.1 gf
 have l3:=zA5 S.fit.1 S.gr
 have nx:=P.nx
 have F2:zA1 h2.ents f = some (.cells [.str [97],.nils,.nils,.nils]):=by rw [P.fr f (by dsimp only; omega) (Ne.symm S.pf)]; exact gf
 have key:∀ q,q < hh.next → q ≠ f → zA1 (zAc ((id,.tok 0) :: zA2 h2.ents f (.cells [.str [97],.nils,.nils,.imm (.own id 0) 2 [x]])) hh.next) q = zA1 h2.ents q:=fun q q1 q2 => by
  rw [zCp q1,zA7 (by omega),zA0 q2]
 have keyF:zA1 (zAc ((id,.tok 0) :: zA2 h2.ents f (.cells [.str [97],.nils,.nils,.imm (.own id 0) 2 [x]])) hh.next) f = some (.cells [.str [97],.nils,.nils,.imm (.own id 0) 2 [x]]):=by
  rw [zCp l2,zA7 (by omega)]; exact zA6 F2
 dsimp only at nx
 refine ⟨⟨zC0 (Under.cons hn (P.fit.1.set.le hn2)),P.fit.2.le hn2⟩,by have:=S.nx; dsimp only; omega,?_,⟨.nils,_,none,some id,keyF,.inl ⟨rfl,rfl,rfl⟩,.inr ⟨id,0,rfl,by simp,dc_tok (by simp [zA1]),rfl⟩,(fun i e => by cases e),(fun i e => by cases e; have:=S.nx; omega)⟩,?_,S.lp,S.lf,S.lr,S.pf,S.pr,S.fr_,fun q q1 => ?_⟩
 · dsimp only; rw [key p l1 S.pf]; exact P.gp
 · dsimp only; rw [key r l3 (Ne.symm S.fr_),P.fr r (by dsimp only; omega) (Ne.symm S.pr)]; exact S.gr
 · have:=S.nx; have:=S.lp; have:=S.lf
   dsimp only; rw [key q (by omega) (by omega),P.fr q (by dsimp only; omega) (by omega)]; exact S.fr q q1
theorem qs_enum {h0 hh:CHeap} {p f r d:Nat} {Ls:List CVal} {j:Int} (S:QS h0 p f r Ls j [] [] hh) (HT:Toks Ls j enK) (v0 v1 v2 v3 v5 v7 v8:CVal) (v9 v10 v11 v13 v14 v16 v17 v18 v19 v20 v21 v22:CVal) {Q:QT}
    (hk:∀ (v9 v10 v11 v13 v14 v16 v17 v18 v19 v20 v21 v22:CVal) h',QS h0 p f r Ls (j + 1 + 1 + 1 + 1 + 1 + 1 + 1 + 1 + 1 + 1 + 1 + 1 + 1 + 1 + 1 + 1 + 1) [] [enV] h' → W tree.getF prL ⟨[v0,v1,v2,v3,.ptr r 150994948 0,v5,.ptr p d 0,v7,v8,v9,v10,v11,.int .i64 1,v13,v14,.ptr f 150994948 0,v16,v17,v18,v19,v20,v21,v22,.int .i64 0,.int .i64 0],h',[]⟩ Q):W tree.getF prL ⟨[v0,v1,v2,v3,.ptr r 150994948 0,v5,.ptr p d 0,v7,v8,v9,v10,v11,.int .i64 1,v13,v14,.ptr f 150994948 0,v16,v17,v18,v19,v20,v21,v22,.int .i64 0,.int .i64 0],hh,[]⟩ Q:=by
 have hf:=S.fit
 have hg:=S.gp
 obtain ⟨M,E,mi,ei,gf,hM,hE,hmi,hei⟩:=S.gf
 obtain rfl:M = .nils:=by rcases hM with ⟨a,_,_⟩ | ⟨_,_,_,a,_⟩; exact a; exact absurd rfl a
 obtain rfl:E = .nils:=by rcases hE with ⟨a,_,_⟩ | ⟨_,_,_,a,_⟩; exact a; exact absurd rfl a
 obtain ⟨hu,hut,hX⟩:=fx4 hf
 have hY:=fx5 hf hg
 have lp:=zA5 hu hg
 have lf:=zA5 hu gf
 have A0:At Ls (j) 1 [101,110,117,109] 0:=HT.at 0 rfl (by omega) (by rfl) (by rfl)
 obtain ⟨z0,m0,l0,a0,v0_⟩:=id A0
 have hpf:=S.pf
 have hfp:=Ne.symm S.pf
 refine W.loop ?_
 have hZ:=j6_ hX hY hg gf hpf hfp
 repeat (first
  | refine wk_ ?_
  | (refine zAk ft_ sn_ A0 [59] fun n3 g3 => ⟨rfl,?_⟩; (try dsimp only at g3))
  | (refine zBl ft_ sn_ A0 [112,97,99,107,97,103,101] fun n3 g3 => ⟨rfl,?_⟩; (try dsimp only at g3))
  | (refine zBl ft_ sn_ A0 [105,109,112,111,114,116] fun n3 g3 => ⟨rfl,?_⟩; (try dsimp only at g3))
  | (refine zBl ft_ sn_ A0 [109,101,115,115,97,103,101] fun n3 g3 => ⟨rfl,?_⟩; (try dsimp only at g3))
  | (refine zBl ft_ sn_ A0 [101,110,117,109] fun n3 g3 => ⟨rfl,?_⟩; (try dsimp only at g3))
  | (refine zDb ft_ sn_ z0 l0 v0_ fun n4 g4 => ⟨rfl,?_⟩; (try dsimp only at g4); (try simp only [tkv]))
  | (refine zHn (Ls:=Ls) (j:=j) ?_ ?_ 0 (by decide) fun n5 g5 => ⟨rfl,?_⟩; exact ft_; exact sn_; (try dsimp only at g5)))
 refine enum_F ?_ ?_ HT (fun h2 P => ⟨rfl,?_⟩)
 · exact ft_
 · simp (disch:=omega) [zA1,zA2,hg,hY,gf,hpf,hfp,zA0]
 have nxP:=P.nx
 dsimp only at nxP
 have gf2:zA1 h2.ents f = _:=(P.fr f (by dsimp only; omega) hfp).trans gf
 have hY3:=fx5 P.fit gf2
 unfold enV at hk
 have hZ:=j8_ hX hY hY3 hg gf gf2 hpf hfp
 try refine wk_ ?_
 refine dx_ ?_
 exact hk _ _ _ _ _ _ _ _ _ _ _ _ _ (S.addE gf P om_ om_ om_ om_)
theorem pr_end {h0 hh:CHeap} {p f r d:Nat} {Ls:List CVal} {j:Int} {ms es:List CVal} (S:QS h0 p f r Ls j ms es hh) (A0:At Ls j 5 [] 0) (v0 v1 v2 v3 v5 v7 v8:CVal) (v9 v10 v11 v13 v14 v16 v17 v18 v19 v20 v21 v22:CVal) {Q:QT}
    (hk:∀ (v9 v10 v11 v13 v14 v16 v17 v18 v19 v20 v21 v22:CVal) n',hh.next ≤ n' → Q (.exit 0) ⟨[v0,v1,v2,v3,.ptr r 150994948 0,v5,.ptr p d 0,v7,v8,v9,v10,v11,.int .i64 1,v13,v14,.ptr f 150994948 0,v16,v17,v18,v19,v20,v21,v22,.int .i64 0,.int .i64 0],⟨hh.ents,n',hh.tys⟩,[]⟩):W tree.getF prL ⟨[v0,v1,v2,v3,.ptr r 150994948 0,v5,.ptr p d 0,v7,v8,v9,v10,v11,.int .i64 1,v13,v14,.ptr f 150994948 0,v16,v17,v18,v19,v20,v21,v22,.int .i64 0,.int .i64 0],hh,[]⟩ Q:=by
 have hf:=S.fit
 have hg:=S.gp
 obtain ⟨hu,hut,hX⟩:=fx4 hf
 have hY:=fx5 hf hg
 have lp:=zA5 hu hg
 obtain ⟨z0,m0,l0,a0,v0_⟩:=id A0
 refine W.loop ?_
 have hZ:=j3_ hX hY hg
 repeat (first
  | refine wk_ ?_
  | (refine zDb ft_ sd_ z0 l0 v0_ fun n4 g4 => ⟨rfl,?_⟩; (try dsimp only at g4); (try simp only [tkv])))
 refine hk _ _ _ _ _ _ _ _ _ _ _ _ _ ?_; exact om_
end Go.Proofs.YtcokdlfmnhjngaaGreat.IrE
namespace Go.Proofs.YtcokdlfmnhjngaaGreat.IrE
open Go Go.CI
open Go.LexF hiding spacesB lettersB
set_option maxRecDepth 100000
set_option maxHeartbeats 4000000
set_option linter.unusedVariables false
set_option linter.unusedSimpArgs false
attribute [local irreducible] W Wo Wc WoR
structure PG (h h':CHeap):Prop where
 fit:Fit h'
 nx:h.next ≤ h'.next
 fr:∀ q,q < h.next → zA1 h'.ents q = zA1 h.ents q
def h7K:List Kw:=[nm [115,121,110,116,97,120],sg 61,(3,[112,114,111,116,111,51],0),sg 59,nm [112,97,99,107,97,103,101],nm [97],sg 59]
theorem all_K (a b:BD):txtK a b ++ [(5,[],0)] = h7K ++ (enK ++ (([nm [109,101,115,115,97,103,101],nm [73],sg 123] ++ (a.ks ++ [sg 125])) ++ (([nm [109,101,115,115,97,103,101],nm [77],sg 123] ++ (b.ks ++ [sg 125])) ++ [(5,[],0)]))):=by
 simp [txtK,hdrK,midK,enK,h7K]
theorem ks_len {a:BD} {n:Nat} (ha:a.ok n) (hn:n ≤ 9):a.ks.length ≤ 150:=by
 obtain ⟨i,hi,B⟩:=ha.b
 have l3:=B.l
 have f1:∀ l:List FD,(∀ x ∈ l,x.ok) → (fsK l).length ≤ 13 * l.length:=by
  intro l
  induction l with
  | nil => intro _; simp [fsK]
  | cons x l ih =>
   intro h
   have h1:=ih fun y hy => h y (by simp [hy])
   have h2:x.ks.length ≤ 13:=by
    have h3:=(h x (by simp)).2.2.2
    unfold FD.ks FD.mid
    cases x.sh with
    | one => simp
    | opt => simp
    | rep k => rcases k with _ | _ | k <;> simp [pkK]
    | map key => simp
   have e:fsK (x :: l) = x.ks ++ fsK l:=by simp [fsK]
   rw [e]; simp only [List.length_append,List.length_cons]; omega
 have f2:∀ l:List OD,(osK l).length ≤ 13 * l.length:=by
  intro l
  induction l with
  | nil => simp [osK]
  | cons x l ih =>
   have e:osK (x :: l) = x.ks ++ osK l:=by simp [osK]
   rw [e]; simp only [List.length_append,List.length_cons,OD.ks,List.length_nil]; omega
 have g1:=f1 a.fs fun x hx => (B.f x hx).1
 have g2:=f2 a.os
 unfold BD.ks
 cases a.os.isEmpty <;> simp <;> omega
theorem toks_all {a b:BD} (ha:a.ok 4) (hb:b.ok 7) {T:List Tok} (hT:T.map tokW = txtK a b ++ [(5,[],0)]):Toks (T.map tokV) 0 (h7K ++ (enK ++ (([nm [109,101,115,115,97,103,101],nm [73],sg 123] ++ (a.ks ++ [sg 125])) ++ (([nm [109,101,115,115,97,103,101],nm [77],sg 123] ++ (b.ks ++ [sg 125])) ++ [(5,[],0)])))):=by
 rw [← all_K,← hT]
 have l1:=ks_len ha (by omega)
 have l2:=ks_len hb (by omega)
 have hl:T.length ≤ 400:=by
  have:=congrArg List.length hT
  rw [all_K] at this
  simp [h7K,enK] at this
  omega
 refine ⟨by omega,by simp; omega,by simp,fun c k tx n h => ?_⟩
 rw [List.getElem?_map] at h
 cases hq:T[c]? with
 | none => rw [hq] at h; cases h
 | some t =>
  rw [hq] at h
  obtain ⟨k1,t1,n1,a1⟩:=t
  simp [tokW] at h
  obtain ⟨rfl,rfl,rfl⟩:=h
  refine ⟨(a1:Int),?_⟩
  have:=zCs tokV T c _ hq
  rw [show ((0:Int) + (c:Int)).toNat = c by omega,this]
  rfl
def fileV (a b:BD):CVal:=.agg [.str [97],.nils,.imm .none 7 [msgV [73] a.xs (!a.os.isEmpty),msgV [77] b.xs (!b.os.isEmpty)],.imm .none 2 [enV]]
theorem parse_F {a b:BD} (ha:a.ok 4) (hb:b.ok 7) {h:CHeap} (hf:Fit h) {K:KT} (hk:∀ h',PG h h' → K (.tup [fileV a b,.int .i64 0,.int .i64 0]) h'):Wc tree.getF 135 [.str (zF3 a b)] h K:=by
 obtain ⟨T,hT,hW⟩:=lex_txt ha hb
 have HT:=toks_all ha hb hW
 have la:=ha.txt_len (by omega)
 have lb:=hb.txt_len (by omega)
 have LX:=lex_R (zF3 a b) (by unfold zF3; simp; omega)
 have hV:lexV (zF3 a b) = .tup [.imm .none 4 (T.map tokV),.int .i64 0,.int .i64 0]:=by unfold lexV; rw [hT]
 rw [hV] at LX
 generalize T.map tokV = Ls at *
 generalize zF3 a b = txt at *
 obtain ⟨hu,hut,hX⟩:=fx4 hf
 have A0:At Ls (0) 1 [115,121,110,116,97,120] 0:=HT.at 0 rfl (by omega) (by rfl) (by rfl)
 have A1:At Ls (0 + 1) 4 [61] 0:=HT.at 1 rfl (by omega) (by rfl) (by rfl)
 have A2:At Ls (0 + 1 + 1) 3 [112,114,111,116,111,51] 0:=HT.at 2 rfl (by omega) (by rfl) (by rfl)
 have A3:At Ls (0 + 1 + 1 + 1) 4 [59] 0:=HT.at 3 rfl (by omega) (by rfl) (by rfl)
 have A4:At Ls (0 + 1 + 1 + 1 + 1) 1 [112,97,99,107,97,103,101] 0:=HT.at 4 rfl (by omega) (by rfl) (by rfl)
 have A5:At Ls (0 + 1 + 1 + 1 + 1 + 1) 1 [97] 0:=HT.at 5 rfl (by omega) (by rfl) (by rfl)
 have A6:At Ls (0 + 1 + 1 + 1 + 1 + 1 + 1) 4 [59] 0:=HT.at 6 rfl (by omega) (by rfl) (by rfl)
 obtain ⟨z2,m2,l2,a2,v2⟩:=id A2
 obtain ⟨z5,m5,l5,a5,v5⟩:=id A5
 refine mk_ 135 c135 (s_ ?_)
 repeat ((fail_if_success (show W tree.getF prL _ _)); first
  | refine st_ rfl ?_
  | ((first | refine W.regG ?_ | refine WoR.go ?_); generalize e:goR .. = r; simp (disch:=omega) [hX] at e; replace e:some _ = _:=e; subst e; (try dsimp only [goW]))
  | (refine LX _ ?_ _ fun n2 ty2 g2 g2t => ⟨rfl,?_⟩; exact ft_; (have hut:=g2t); (try dsimp only at g2))
  | (refine zAm ?_ ?_ A0 fun n3 g3 => ⟨rfl,?_⟩; exact ft_; (focus ((simp (disch:=omega) [zA1,zA2]); done)); (try dsimp only at g3))
  | (refine zAg ?_ ?_ A1 fun n3 g3 => ⟨rfl,?_⟩; exact ft_; (focus ((simp (disch:=omega) [zA1,zA2]); done)); (try dsimp only at g3))
  | (refine zAg ?_ ?_ A3 fun n3 g3 => ⟨rfl,?_⟩; exact ft_; (focus ((simp (disch:=omega) [zA1,zA2]); done)); (try dsimp only at g3))
  | (refine zAg ?_ ?_ A6 fun n3 g3 => ⟨rfl,?_⟩; exact ft_; (focus ((simp (disch:=omega) [zA1,zA2]); done)); (try dsimp only at g3))
  | (refine text_F2 ?_ ?_ A2 fun n3 g3 => ⟨rfl,?_⟩; exact ft_; (focus ((simp (disch:=omega) [zA1,zA2]); done)); (try dsimp only at g3))
  | (refine zAo ?_ ?_ A5 fun n3 g3 => ⟨rfl,?_⟩; exact ft_; (focus ((simp (disch:=omega) [zA1,zA2]); done)); (try dsimp only at g3))
  | (refine zAk ?_ ?_ A4 _ fun n3 g3 => ⟨rfl,?_⟩; exact ft_; (focus ((simp (disch:=omega) [zA1,zA2]); done)); (try dsimp only at g3))
  | (refine zBl ?_ ?_ A4 _ fun n3 g3 => ⟨rfl,?_⟩; exact ft_; (focus ((simp (disch:=omega) [zA1,zA2]); done)); (try dsimp only at g3))
  | (refine zDb ?_ ?_ z2 l2 v2 fun n4 g4 => ⟨rfl,?_⟩; exact ft_; (focus ((simp (disch:=omega) [zA1,zA2]); done)); (try dsimp only at g4); (try simp only [tkv]))
  | (refine zDb ?_ ?_ z5 l5 v5 fun n4 g4 => ⟨rfl,?_⟩; exact ft_; (focus ((simp (disch:=omega) [zA1,zA2]); done)); (try dsimp only at g4); (try simp only [tkv]))
  | (obtain ⟨z4,m4,l4,a4,v4⟩:=id A4; refine zDb ?_ ?_ z4 l4 v4 fun n4 g4 => ⟨rfl,?_⟩; exact ft_; (focus ((simp (disch:=omega) [zA1,zA2]); done)); (try dsimp only at g4); (try simp only [tkv])))
 refine W.loop ?_
 repeat (first
  | refine wx_ ?_
  | (refine LX _ ?_ _ fun n2 ty2 g2 g2t => ⟨rfl,?_⟩; exact ft_; (have hut:=g2t); (try dsimp only at g2))
  | (refine zAm ft_ s0_ A0 fun n3 g3 => ⟨rfl,?_⟩; (try dsimp only at g3))
  | (refine zAg ft_ s0_ A1 fun n3 g3 => ⟨rfl,?_⟩; (try dsimp only at g3))
  | (refine zAg ft_ s0_ A3 fun n3 g3 => ⟨rfl,?_⟩; (try dsimp only at g3))
  | (refine zAg ft_ s0_ A6 fun n3 g3 => ⟨rfl,?_⟩; (try dsimp only at g3))
  | (refine text_F2 ft_ s0_ A2 fun n3 g3 => ⟨rfl,?_⟩; (try dsimp only at g3))
  | (refine zAo ft_ s0_ A5 fun n3 g3 => ⟨rfl,?_⟩; (try dsimp only at g3))
  | (refine zAk ft_ s0_ A4 _ fun n3 g3 => ⟨rfl,?_⟩; (try dsimp only at g3))
  | (refine zBl ft_ s0_ A4 _ fun n3 g3 => ⟨rfl,?_⟩; (try dsimp only at g3))
  | (refine zDb ft_ s0_ z2 l2 v2 fun n4 g4 => ⟨rfl,?_⟩; (try dsimp only at g4); (try simp only [tkv]))
  | (refine zDb ft_ s0_ z5 l5 v5 fun n4 g4 => ⟨rfl,?_⟩; (try dsimp only at g4); (try simp only [tkv]))
  | (obtain ⟨z4,m4,l4,a4,v4⟩:=id A4; refine zDb ft_ s0_ z4 l4 v4 fun n4 g4 => ⟨rfl,?_⟩; (try dsimp only at g4); (try simp only [tkv])))
 refine dx_ ?_
 obtain ⟨p,hp⟩:∃ p,p = n2 + 2 + 1 + 1:=⟨_,rfl⟩
 obtain ⟨f,hf2⟩:∃ f,f = n2 + 2 + 4 + 1:=⟨_,rfl⟩
 rw [← hp,← hf2]
 have S0:QS h p f h.next Ls 7 [] [] ⟨(f,.cells [.str [97],.nils,.nils,.nils]) :: (p,pp Ls 7) :: (h.next,.cells [.str [],.nils,.nils,.nils]) :: h.ents,n3,ty2⟩:=by
  refine ⟨⟨?_,hut.le ?_⟩,?_,?_,⟨.nils,.nils,none,none,by simp [zA1],.inl ⟨rfl,rfl,rfl⟩,.inl ⟨rfl,rfl,rfl⟩,(fun i e => by cases e),(fun i e => by cases e)⟩,?_,by omega,by omega,Nat.le_refl _,by omega,by omega,by omega,fun q q1 => ?_⟩
  · exact Under.cons (by dsimp only; omega) (Under.cons (by dsimp only; omega) (Under.cons (by dsimp only; omega) (hu.le (by dsimp only; omega))))
  · dsimp only; omega
  · dsimp only; omega
  · dsimp only; rw [zA7 (by omega)]; simp [zA1]
  · dsimp only; rw [zA7 (by omega),zA7 (by omega)]; simp [zA1]
  · dsimp only; rw [zA7 (by omega),zA7 (by omega),zA7 (by omega)]
 have H1:=HT.right
 have H2:=H1.right
 have H3:=H2.right
 have H4:=H3.right
 have e7:(0:Int) + ((h7K.length:Nat):Int) = 7:=by decide
 have e24:(0:Int) + ((h7K.length:Nat):Int) + ((enK.length:Nat):Int) = 7 + 1 + 1 + 1 + 1 + 1 + 1 + 1 + 1 + 1 + 1 + 1 + 1 + 1 + 1 + 1 + 1 + 1:=by decide
 have eA:(0:Int) + ((h7K.length:Nat):Int) + ((enK.length:Nat):Int) + ((([nm [109,101,115,115,97,103,101],nm [73],sg 123] ++ (a.ks ++ [sg 125])).length:Nat):Int) = 7 + 1 + 1 + 1 + 1 + 1 + 1 + 1 + 1 + 1 + 1 + 1 + 1 + 1 + 1 + 1 + 1 + 1 + 3 + (a.ks.length:Int) + 1:=by rw [e24]; simp; omega
 have eB:(0:Int) + ((h7K.length:Nat):Int) + ((enK.length:Nat):Int) + ((([nm [109,101,115,115,97,103,101],nm [73],sg 123] ++ (a.ks ++ [sg 125])).length:Nat):Int) + ((([nm [109,101,115,115,97,103,101],nm [77],sg 123] ++ (b.ks ++ [sg 125])).length:Nat):Int) = 7 + 1 + 1 + 1 + 1 + 1 + 1 + 1 + 1 + 1 + 1 + 1 + 1 + 1 + 1 + 1 + 1 + 1 + 3 + (a.ks.length:Int) + 1 + 3 + (b.ks.length:Int) + 1:=by rw [eA]; simp; omega
 rw [eB] at H4
 rw [eA] at H3
 rw [e24] at H2
 rw [e7] at H1
 refine qs_enum S0 H1.left _ _ _ _ _ _ _ _ _ _ _ _ _ _ _ _ _ _ _ (fun v9 v10 v11 v13 v14 v16 v17 v18 v19 v20 v21 v22 h1 S1 => ?_)
 refine qs_msg S1 (by simp) ha (by omega) (by decide) (by simp) (by simp) H2.left _ _ _ _ _ _ _ _ _ _ _ _ _ _ _ _ _ _ _ (fun v9 v10 v11 v13 v14 v16 v17 v18 v19 v20 v21 v22 h2 S2 => ?_)
 refine qs_msg S2 (by simp) hb (by omega) (by decide) (by simp) (by simp) H3.left _ _ _ _ _ _ _ _ _ _ _ _ _ _ _ _ _ _ _ (fun v9 v10 v11 v13 v14 v16 v17 v18 v19 v20 v21 v22 h3 S3 => ?_)
 have AE:=H4.at 0 (j2:=7 + 1 + 1 + 1 + 1 + 1 + 1 + 1 + 1 + 1 + 1 + 1 + 1 + 1 + 1 + 1 + 1 + 1 + 3 + (a.ks.length:Int) + 1 + 3 + (b.ks.length:Int) + 1) (k2:=5) (n2:=0) (tx:=[]) rfl (by omega) rfl rfl
 refine pr_end S3 AE _ _ _ _ _ _ _ _ _ _ _ _ _ _ _ _ _ _ _ (fun v9 v10 v11 v13 v14 v16 v17 v18 v19 v20 v21 v22 n' g' => ?_)
 (try simp only [zAd,zA3,zA8,zAb,reduceIte])
 obtain ⟨M,E,mi,ei,gf,hM,hE,hmi,hei⟩:=S3.gf
 have g3p:=S3.gp
 have gr3:=S3.gr
 have nx3:=S3.nx
 have f3:=S3.fit
 rcases hM with ⟨_,h9,_⟩ | ⟨i7,u7,rfl,hxn,hi7,rfl⟩
 · simp at h9
 rcases hE with ⟨_,h9,_⟩ | ⟨i8,u8,rfl,hxn8,hi8,rfl⟩
 · simp at h9
 obtain ⟨hu,hut,hX⟩:=fx4 f3
 have hY:=fx5 f3 gr3
 have q1:f ≠ h.next:=S3.fr_
 have q2:=Ne.symm q1
 have q3:=S3.pr
 have q4:=Ne.symm q3
 unfold fileV at hk
 clear H1 H2 H3 H4 HT e7 e24 eA eB AE S0 S1 S2
 have hZ:=j9_ hX hY gf g3p gr3 q1 q2 q3 q4
 try refine wn_ ?_
 (refine W.ret ?_; (try simp only [zAd,zA3,zA8,zAb,reduceIte]); refine endW.of (.inl rfl) rfl ?_); generalize e:zB4 .. = r; simp (disch:=omega) [hX,hY,gf,g3p,gr3,q1,q2,q3,q4,zA0] at e; subst e
 refine hk _ ⟨⟨(zBz f3.1.set).le ?_,f3.2.le ?_⟩,?_,fun q a => ?_⟩
 · exact om_
 · exact om_
 · exact om_
 · dsimp only; rw [zFh a,zA0 (by omega)]; exact S3.fr q a
end Go.Proofs.YtcokdlfmnhjngaaGreat.IrE
namespace Go.Proofs.YtcokdlfmnhjngaaGreat.IrE
open Go Go.CI
set_option maxRecDepth 100000
set_option maxHeartbeats 4000000
set_option linter.unusedVariables false
set_option linter.unusedSimpArgs false
attribute [local irreducible] W Wo Wc WoR
def msF (a b:BD):CVal:=.imm .none 7 [msgV [73] a.xs (!a.os.isEmpty),msgV [77] b.xs (!b.os.isEmpty)]
def esF:CVal:=.imm .none 2 [enV]
def zEz (a b:BD):CVal:=.agg [.str [120],.str [97],.nils,msF a b,esF,.imm .none 1 [.str [120]]]
abbrev srcL (txt:B8):CVal:=.imm .full 2 [.agg [.str [120],.str txt]]
theorem src_F {h:CHeap} {x d:Nat} {txt:B8} {F:CVal} {e:Int} {s:B8} {w:Int} (hf:Fit h) (hg:zA1 h.ents x = some (.cells [srcL txt,F,.int .i64 e,.str s,.int .i64 w])) {K:KT} (hk:∀ n',h.next ≤ n' → K (.tup [.str txt,.bool true]) ⟨h.ents,n',h.tys⟩):Wc tree.getF 134 [.ptr x d 0,.str [120]] h K:=by
 obtain ⟨hu,hut,hX⟩:=fx4 hf
 have hY:=fx5 hf hg
 refine mk_ 134 c134 (s_ ?_)
 have hZ:=j3_ hX hY hg
 repeat (first
  | refine wk_ ?_
  | (refine W.loop ?_)
  | (show W tree.getF _ (dropped true _ _) _; generalize e:dropped _ _ _ = r; simp (disch:=omega) [hX,hY,hg] at e; subst e; refine W.loop ?_)
  | (refine rk_ ?_; refine hk _ ?_; exact om_))
theorem down_F {a b:BD} (ha:a.ok 4) (hb:b.ok 7) {h:CHeap} {x d:Nat} (hf:Fit h) (hg:zA1 h.ents x = some (.cells [srcL (zF3 a b),.nils,.int .i64 0,.str [],.int .i64 0])) {K:KT}
    (hk:∀ h' i u,Fit h' → h.next ≤ h'.next → h.next ≤ i → zA1 h'.ents i = some (.tok u) → zA1 h'.ents x = some (.cells [srcL (zF3 a b),.imm (.own i u) 6 [zEz a b],.int .i64 0,.str [],.int .i64 0]) → (∀ q,q < h.next → q ≠ x → zA1 h'.ents q = zA1 h.ents q) → K (.tup []) h'):Wc tree.getF 67 [.ptr x d 0,.str [120],.nils] h K:=by
 obtain ⟨hu,hut,hX⟩:=fx4 hf
 have hY:=fx5 hf hg
 have lx:=zA5 hu hg
 refine mk_ 67 c67 (s_ ?_)
 have hZ:=j3_ hX hY hg
 repeat (first
  | refine wk_ ?_
  | (refine src_F (txt:=zF3 a b) (F:=.nils) (e:=0) (s:=[]) (w:=0) ?_ ?_ fun n3 g3 => ⟨rfl,?_⟩; exact ft_; exact sd_; (try dsimp only at g3)))
 refine parse_F ha hb ?_ (fun h2 P => ⟨rfl,?_⟩)
 · exact ft_
 have nxP:=P.nx
 dsimp only at nxP
 have g2:zA1 h2.ents x = _:=(P.fr x (by dsimp only; omega)).trans hg
 have f2:=P.fit
 have Z:∀ q,h.next ≤ q → q < _ → zA1 h2.ents q = none:=fun q a b => (P.fr q b).trans (hX.2.2.1 q a)
 dsimp only at Z
 obtain ⟨hu,hut,hX⟩:=fx4 f2
 have hY:=fx5 f2 g2
 unfold fileV
 have eM:CVal.imm .none 7 [msgV [73] a.xs (!a.os.isEmpty),msgV [77] b.xs (!b.os.isEmpty)] = msF a b:=rfl
 have eE:CVal.imm .none 2 [enV] = esF:=rfl
 have s1:(msF a b).strip = msF a b:=rfl
 have s2:esF.strip = esF:=rfl
 have s3:(msF a b).lenOf = some 2:=rfl
 rw [eM,eE]
 unfold zEz at hk
 have b1:(msF a b).beq (msF a b) = true:=zBg _
 have b2:esF.beq esF = true:=zBg _
 generalize msF a b = wM at *
 generalize esF = wE at *
 generalize zF3 a b = txt at *
 simp only [CVal.strip] at s1 s2
 have hZ:=j8_ hX hY g2 s1 s2 b1 b2 Z
 repeat (first
  | refine vk_ ?_
  | (refine W.loop ?_)
  | (show W tree.getF _ (dropped true _ _) _; generalize e:dropped _ _ _ = r; simp (disch:=omega) [hX,hY,g2,s1,s2,b1,b2,Z] at e; subst e; refine W.loop ?_)
  | (refine rk_ ?_; skip))
 have lx2:x < h2.next:=zA5 f2.1 g2
 refine hk _ (h2.next + 2 + 7 + 1 + 1 + 12 + 1 + 1 + 1 + 1 + 1 + 1 + 1 + 1 + 1 + 1 + 1 + 1 + 1) 0 ⟨?_,?_⟩ ?_ ?_ (by simp [zA1]) ?_ fun q q1 q2 => ?_
 · dsimp only; exact Under.cons (by omega) (Under.cons (by omega) (Under.cons (by omega) ((zC0 (f2.1.set)).le (by omega))))
 · exact f2.2.le (by dsimp only; omega)
 · dsimp only; omega
 · omega
 · dsimp only
   rw [zA7 (by omega),zA7 (by omega),zA7 (by omega),zCp lx]
   exact zA6 g2
 · dsimp only
   rw [zA7 (by omega),zA7 (by omega),zA7 (by omega),zCp q1,zA0 q2]
   exact P.fr q (by dsimp only; omega)
def zAq (a b:BD):CVal:=.imm .none 6 [zEz a b]
theorem load_F {a b:BD} (ha:a.ok 4) (hb:b.ok 7) {h:CHeap} (hf:Fit h) {K:KT}
    (hk:∀ h',PG h h' → K (.tup [zAq a b,.int .i64 0,.str [],.int .i64 0]) h'):Wc tree.getF 26 [srcL (zF3 a b)] h K:=by
 obtain ⟨hu,hut,hX⟩:=fx4 hf
 refine mk_ 26 c26 (s_ ?_)
 repeat (first
  | refine vx_ ?_
  | (refine W.loop ?_)
  | (refine dx_ ?_; refine W.loop ?_)
  | (refine down_F ha hb ?_ ?_ fun h2 i u f2 nx li gi gx fr => ⟨rfl,?_⟩; exact ft_; exact s0_; (try dsimp only at nx li gx fr)))
 have f3:=f2
 obtain ⟨hu,hut,hX⟩:=fx4 f2
 have lx:=zA5 hu gx
 have s1:(zEz a b).strip = zEz a b:=rfl
 have v1:zAq a b = .imm .none 6 [zEz a b]:=rfl
 rw [v1] at hk
 generalize zEz a b = wF at *
 generalize zF3 a b = txt at *
 generalize eb:h.next + 4 + 3 + 1 + 4 + 1 + 3 + 3 + 4 + 1 + 1 = bx at *
 have hZ:=j3_ hX gx gi
 repeat (first
  | refine vk_ ?_
  | (refine rk_ ?_; skip))
 refine hk _ ⟨⟨?_,?_⟩,?_,fun q q1 => ?_⟩
 · dsimp only; exact (zBz hu).le (by omega)
 · exact hut.le (by dsimp only; omega)
 · dsimp only; omega
 · dsimp only
   rw [zFh q1,fr q (by omega) (by omega)]
   exact zA7 (by omega)
theorem within_0 {h:CHeap} {s f:B8} (hf:Fit h) {K:KT} (hk:∀ n',h.next ≤ n' → K .nils ⟨h.ents,n',h.tys⟩):Wc tree.getF 170 [.nils,.nils,.str s,.str f] h K:=by
 obtain ⟨hu,hut,hX⟩:=fx4 hf
 refine mk_ 170 c170 (s_ ?_)
 repeat (first
  | refine vx_ ?_
  | (refine W.loop ?_)
  | (refine dx_ ?_; refine W.loop ?_)
  | (refine rx_ ?_; refine hk _ ?_; exact om_))
theorem PG.mk2 {h h2:CHeap} {m:Nat} {l:EE} {n:Nat} (P:PG ⟨h.ents,m,h.tys⟩ h2) (hm:h.next ≤ m) (hl:∀ q,q < h.next → zA1 l q = zA1 h2.ents q) (hU:Under l h2.next) (hn:h2.next ≤ n):PG h ⟨l,n,h2.tys⟩:=by
 have nx:=P.nx
 dsimp only at nx
 exact ⟨⟨hU.le hn,P.fit.2.le hn⟩,by dsimp only; omega,fun q q1 => (hl q q1).trans (P.fr q (by dsimp only; omega))⟩
theorem zHs (l:List CVal):(lV7 l).strip = lV7 l:=by unfold lV7; split <;> rfl
def nmM (n:B8) (m:CVal):CVal:=match m with | .agg l => .agg ([.str n,.int .i64 16] ++ l ++ [.str [],.nils,.str [120]]) | v => v
def nmE:CVal:=.agg [.str [97,46,69],.int .i64 17,.str [],.nils,.nils,.nils,.nils,.nils,.nils,.str [69],.imm .none 2 [.agg [.str [65],.int .i64 0],.agg [.str [66],.int .i64 1],.agg [.str [67],.int .i64 (-1)]],.str [120]]
theorem within_F {a b:BD} {h:CHeap} (hf:Fit h) {K:KT} (hk:∀ h',PG h h' → K (.imm .none 12 [nmM [97,46,73] (msgV [73] a.xs (!a.os.isEmpty)),nmM [97,46,77] (msgV [77] b.xs (!b.os.isEmpty)),nmE]) h'):Wc tree.getF 170 [msF a b,esF,.str [97],.str [120]] h K:=by
 obtain ⟨hu,hut,hX⟩:=fx4 hf
 unfold msF esF msgV nmM enV nmE at *
 have sA:(lV7 a.xs).strip = lV7 a.xs:=zHs _
 have sB:(lV7 b.xs).strip = lV7 b.xs:=zHs _
 have sC:(if (!a.os.isEmpty) = true then CVal.imm .none 1 [.str [99]] else .nils).strip = (if (!a.os.isEmpty) = true then CVal.imm .none 1 [.str [99]] else .nils):=by split <;> rfl
 have sD:(if (!b.os.isEmpty) = true then CVal.imm .none 1 [.str [99]] else .nils).strip = (if (!b.os.isEmpty) = true then CVal.imm .none 1 [.str [99]] else .nils):=by split <;> rfl
 generalize lV7 a.xs = lA at *
 generalize lV7 b.xs = lB at *
 generalize (if (!a.os.isEmpty) = true then CVal.imm .none 1 [.str [99]] else .nils) = oA at *
 generalize (if (!b.os.isEmpty) = true then CVal.imm .none 1 [.str [99]] else .nils) = oB at *
 simp only [CVal.strip] at sA sB sC sD
 refine mk_ 170 c170 (s_ ?_)
 have hZ:=j5_ hX sA sB sC sD
 repeat (first
  | refine vk_ ?_
  | (refine W.loop ?_)
  | (show W tree.getF _ (dropped true _ _) _; generalize e:dropped _ _ _ = r; simp (disch:=omega) [hX,sA,sB,sC,sD] at e; subst e; refine W.loop ?_)
  | (refine within_0 ft_ fun n g => ⟨rfl,?_⟩; (try dsimp only at g))
  | (refine mk_ 237 c237 (s_ ?_))
  | (refine rk_ ?_; (first | refine ⟨rfl,?_⟩ | (skip))))
 exact hk _ ⟨⟨hu.le (by dsimp only; omega),hut.le (by dsimp only; omega)⟩,by dsimp only; omega,fun _ _ => rfl⟩
theorem all_F {a b:BD} {h:CHeap} (hf:Fit h) {K:KT} (hk:∀ h',PG h h' → K (.imm .none 12 [nmM [97,46,73] (msgV [73] a.xs (!a.os.isEmpty)),nmM [97,46,77] (msgV [77] b.xs (!b.os.isEmpty)),nmE]) h'):Wc tree.getF 123 [zAq a b] h K:=by
 obtain ⟨hu,hut,hX⟩:=fx4 hf
 have t1:(nmM [97,46,73] (msgV [73] a.xs (!a.os.isEmpty))).bare = nmM [97,46,73] (msgV [73] a.xs (!a.os.isEmpty)):=by
  simp only [nmM,msgV,CVal.bare,List.map,List.map_append,List.cons_append,List.nil_append,zHs]; congr 1; cases a.os <;> rfl
 have t2:(nmM [97,46,77] (msgV [77] b.xs (!b.os.isEmpty))).bare = nmM [97,46,77] (msgV [77] b.xs (!b.os.isEmpty)):=by
  simp only [nmM,msgV,CVal.bare,List.map,List.map_append,List.cons_append,List.nil_append,zHs]; congr 1; cases b.os <;> rfl
 have t3:nmE.bare = nmE:=rfl
 have W1:=@within_F a b
 unfold zAq zEz
 generalize nmM [97,46,73] (msgV [73] a.xs (!a.os.isEmpty)) = w1 at *
 generalize nmM [97,46,77] (msgV [77] b.xs (!b.os.isEmpty)) = w2 at *
 generalize nmE = w3 at *
 simp only [CVal.bare,CVal.strip] at t1 t2 t3
 refine mk_ 123 c123 (s_ ?_)
 have hZ:=j4_ hX t1 t2 t3
 repeat (first
  | refine vk_ ?_
  | (refine W.loop ?_)
  | (show W tree.getF _ (dropped true _ _) _; generalize e:dropped _ _ _ = r; simp (disch:=omega) [hX,t1,t2,t3] at e; subst e; refine W.loop ?_)
  | (refine W1 ft_ fun h2 P => ⟨rfl,?_⟩; (have nx2:=P.nx; have hh2:=P.fit; have hX2:=(fx4 hh2).2.2; try dsimp only at nx2))
  | (refine rk_ ?_; skip))
 refine hk _ (PG.mk2 P (by omega) (fun q q1 => ?_) ?_ (by omega))
 · rw [zFh q1,zCp (by omega)]
 · exact zBz (zC0 hh2.1)
def wN (k:Nat):Int:=if k = 1 ∨ k = 10 ∨ k = 12 then 1 else if k = 2 ∨ k = 9 ∨ k = 11 then 5 else if k = 14 ∨ k = 15 ∨ k = 16 then 2 else 0
theorem zGg (k:Nat) (h1:1 ≤ k) (h2:k ≤ 17):Pe 110 [.int .i64 (k:Int)] (.int .i64 (wN k)):=by
 rcases (show k = 1 ∨ k = 2 ∨ k = 3 ∨ k = 4 ∨ k = 5 ∨ k = 6 ∨ k = 7 ∨ k = 8 ∨ k = 9 ∨ k = 10 ∨ k = 11 ∨ k = 12 ∨ k = 13 ∨ k = 14 ∨ k = 15 ∨ k = 16 ∨ k = 17 by omega) with rfl | rfl | rfl | rfl | rfl | rfl | rfl | rfl | rfl | rfl | rfl | rfl | rfl | rfl | rfl | rfl | rfl
 all_goals (
  intro h hf K hk
  obtain ⟨hu,hut,hX⟩:=fx4 hf
  refine mk_ 110 c110 (s_ ?_)
  repeat (first
   | refine vx_ ?_
   | (refine W.ret ?_)
   | (refine rx_ ?_; refine hk _ ?_; exact om_))
 )
theorem find_IE {a b:BD} {h:CHeap} (hf:Fit h) {K:KT} (hk:∀ h',PG h h' → K (.tup [.str [97,46,69],.int .i64 17,.int .i64 0]) h'):Wc tree.getF 173 [zAq a b,.str [120],.str [97,46,73],.str [69]] h K:=by
 obtain ⟨hu,hut,hX⟩:=fx4 hf
 have AF:=@all_F a b
 unfold zAq zEz nmM msgV nmE at *
 dsimp only [List.cons_append,List.nil_append] at AF
 generalize msF a b = wM at *
 generalize esF = wE at *
 generalize lV7 a.xs = lA at *
 generalize lV7 b.xs = lB at *
 generalize (if (!a.os.isEmpty) = true then CVal.imm .none 1 [.str [99]] else .nils) = oA at *
 generalize (if (!b.os.isEmpty) = true then CVal.imm .none 1 [.str [99]] else .nils) = oB at *
 refine mk_ 173 c173 (s_ ?_)
 repeat (first
  | refine vx_ ?_
  | (refine W.loop ?_)
  | (refine dx_ ?_; refine W.loop ?_)
  | (refine AF ft_ fun h2 P => ⟨rfl,?_⟩; (have nx2:=P.nx; have hh2:=P.fit; have hX2:=(fx4 hh2).2.2; try dsimp only at nx2))
  | (refine W.ret ?_)
  | (refine mk_ 237 c237 (s_ ?_))
  | (refine mk_ 137 c137 (s_ ?_))
  | (refine rx_ ?_; (first | refine ⟨rfl,?_⟩ | (skip))))
 obtain ⟨d1,d2,_⟩:=(fx4 P.fit).2.2
 simp (disch:=omega) only [d1,d2]
 refine hk _ (PG.mk2 P (by omega) (fun q q1 => ?_) ?_ (by omega))
 · rw [zFh q1]
 · exact zBz P.fit.1
theorem find_II {a b:BD} {h:CHeap} (hf:Fit h) {K:KT} (hk:∀ h',PG h h' → K (.tup [.str [97,46,73],.int .i64 16,.int .i64 0]) h'):Wc tree.getF 173 [zAq a b,.str [120],.str [97,46,73],.str [73]] h K:=by
 obtain ⟨hu,hut,hX⟩:=fx4 hf
 have AF:=@all_F a b
 unfold zAq zEz nmM msgV nmE at *
 dsimp only [List.cons_append,List.nil_append] at AF
 generalize msF a b = wM at *
 generalize esF = wE at *
 generalize lV7 a.xs = lA at *
 generalize lV7 b.xs = lB at *
 generalize (if (!a.os.isEmpty) = true then CVal.imm .none 1 [.str [99]] else .nils) = oA at *
 generalize (if (!b.os.isEmpty) = true then CVal.imm .none 1 [.str [99]] else .nils) = oB at *
 refine mk_ 173 c173 (s_ ?_)
 repeat (first
  | refine vx_ ?_
  | (refine W.loop ?_)
  | (refine dx_ ?_; refine W.loop ?_)
  | (refine AF ft_ fun h2 P => ⟨rfl,?_⟩; (have nx2:=P.nx; have hh2:=P.fit; have hX2:=(fx4 hh2).2.2; try dsimp only at nx2))
  | (refine W.ret ?_)
  | (refine mk_ 237 c237 (s_ ?_))
  | (refine mk_ 137 c137 (s_ ?_))
  | (refine rx_ ?_; (first | refine ⟨rfl,?_⟩ | (skip))))
 obtain ⟨d1,d2,_⟩:=(fx4 P.fit).2.2
 simp (disch:=omega) only [d1,d2]
 refine hk _ (PG.mk2 P (by omega) (fun q q1 => ?_) ?_ (by omega))
 · rw [zFh q1]
 · exact zBz P.fit.1
theorem find_IM {a b:BD} {h:CHeap} (hf:Fit h) {K:KT} (hk:∀ h',PG h h' → K (.tup [.str [97,46,77],.int .i64 16,.int .i64 0]) h'):Wc tree.getF 173 [zAq a b,.str [120],.str [97,46,73],.str [77]] h K:=by
 obtain ⟨hu,hut,hX⟩:=fx4 hf
 have AF:=@all_F a b
 unfold zAq zEz nmM msgV nmE at *
 dsimp only [List.cons_append,List.nil_append] at AF
 generalize msF a b = wM at *
 generalize esF = wE at *
 generalize lV7 a.xs = lA at *
 generalize lV7 b.xs = lB at *
 generalize (if (!a.os.isEmpty) = true then CVal.imm .none 1 [.str [99]] else .nils) = oA at *
 generalize (if (!b.os.isEmpty) = true then CVal.imm .none 1 [.str [99]] else .nils) = oB at *
 refine mk_ 173 c173 (s_ ?_)
 repeat (first
  | refine vx_ ?_
  | (refine W.loop ?_)
  | (refine dx_ ?_; refine W.loop ?_)
  | (refine AF ft_ fun h2 P => ⟨rfl,?_⟩; (have nx2:=P.nx; have hh2:=P.fit; have hX2:=(fx4 hh2).2.2; try dsimp only at nx2))
  | (refine W.ret ?_)
  | (refine mk_ 237 c237 (s_ ?_))
  | (refine mk_ 137 c137 (s_ ?_))
  | (refine rx_ ?_; (first | refine ⟨rfl,?_⟩ | (skip))))
 obtain ⟨d1,d2,_⟩:=(fx4 P.fit).2.2
 simp (disch:=omega) only [d1,d2]
 refine hk _ (PG.mk2 P (by omega) (fun q q1 => ?_) ?_ (by omega))
 · rw [zFh q1]
 · exact zBz P.fit.1
theorem find_ME {a b:BD} {h:CHeap} (hf:Fit h) {K:KT} (hk:∀ h',PG h h' → K (.tup [.str [97,46,69],.int .i64 17,.int .i64 0]) h'):Wc tree.getF 173 [zAq a b,.str [120],.str [97,46,77],.str [69]] h K:=by
 obtain ⟨hu,hut,hX⟩:=fx4 hf
 have AF:=@all_F a b
 unfold zAq zEz nmM msgV nmE at *
 dsimp only [List.cons_append,List.nil_append] at AF
 generalize msF a b = wM at *
 generalize esF = wE at *
 generalize lV7 a.xs = lA at *
 generalize lV7 b.xs = lB at *
 generalize (if (!a.os.isEmpty) = true then CVal.imm .none 1 [.str [99]] else .nils) = oA at *
 generalize (if (!b.os.isEmpty) = true then CVal.imm .none 1 [.str [99]] else .nils) = oB at *
 refine mk_ 173 c173 (s_ ?_)
 repeat (first
  | refine vx_ ?_
  | (refine W.loop ?_)
  | (refine dx_ ?_; refine W.loop ?_)
  | (refine AF ft_ fun h2 P => ⟨rfl,?_⟩; (have nx2:=P.nx; have hh2:=P.fit; have hX2:=(fx4 hh2).2.2; try dsimp only at nx2))
  | (refine W.ret ?_)
  | (refine mk_ 237 c237 (s_ ?_))
  | (refine mk_ 137 c137 (s_ ?_))
  | (refine rx_ ?_; (first | refine ⟨rfl,?_⟩ | (skip))))
 obtain ⟨d1,d2,_⟩:=(fx4 P.fit).2.2
 simp (disch:=omega) only [d1,d2]
 refine hk _ (PG.mk2 P (by omega) (fun q q1 => ?_) ?_ (by omega))
 · rw [zFh q1]
 · exact zBz P.fit.1
theorem find_MI {a b:BD} {h:CHeap} (hf:Fit h) {K:KT} (hk:∀ h',PG h h' → K (.tup [.str [97,46,73],.int .i64 16,.int .i64 0]) h'):Wc tree.getF 173 [zAq a b,.str [120],.str [97,46,77],.str [73]] h K:=by
 obtain ⟨hu,hut,hX⟩:=fx4 hf
 have AF:=@all_F a b
 unfold zAq zEz nmM msgV nmE at *
 dsimp only [List.cons_append,List.nil_append] at AF
 generalize msF a b = wM at *
 generalize esF = wE at *
 generalize lV7 a.xs = lA at *
 generalize lV7 b.xs = lB at *
 generalize (if (!a.os.isEmpty) = true then CVal.imm .none 1 [.str [99]] else .nils) = oA at *
 generalize (if (!b.os.isEmpty) = true then CVal.imm .none 1 [.str [99]] else .nils) = oB at *
 refine mk_ 173 c173 (s_ ?_)
 repeat (first
  | refine vx_ ?_
  | (refine W.loop ?_)
  | (refine dx_ ?_; refine W.loop ?_)
  | (refine AF ft_ fun h2 P => ⟨rfl,?_⟩; (have nx2:=P.nx; have hh2:=P.fit; have hX2:=(fx4 hh2).2.2; try dsimp only at nx2))
  | (refine W.ret ?_)
  | (refine mk_ 237 c237 (s_ ?_))
  | (refine mk_ 137 c137 (s_ ?_))
  | (refine rx_ ?_; (first | refine ⟨rfl,?_⟩ | (skip))))
 obtain ⟨d1,d2,_⟩:=(fx4 P.fit).2.2
 simp (disch:=omega) only [d1,d2]
 refine hk _ (PG.mk2 P (by omega) (fun q q1 => ?_) ?_ (by omega))
 · rw [zFh q1]
 · exact zBz P.fit.1
theorem find_MM {a b:BD} {h:CHeap} (hf:Fit h) {K:KT} (hk:∀ h',PG h h' → K (.tup [.str [97,46,77],.int .i64 16,.int .i64 0]) h'):Wc tree.getF 173 [zAq a b,.str [120],.str [97,46,77],.str [77]] h K:=by
 obtain ⟨hu,hut,hX⟩:=fx4 hf
 have AF:=@all_F a b
 unfold zAq zEz nmM msgV nmE at *
 dsimp only [List.cons_append,List.nil_append] at AF
 generalize msF a b = wM at *
 generalize esF = wE at *
 generalize lV7 a.xs = lA at *
 generalize lV7 b.xs = lB at *
 generalize (if (!a.os.isEmpty) = true then CVal.imm .none 1 [.str [99]] else .nils) = oA at *
 generalize (if (!b.os.isEmpty) = true then CVal.imm .none 1 [.str [99]] else .nils) = oB at *
 refine mk_ 173 c173 (s_ ?_)
 repeat (first
  | refine vx_ ?_
  | (refine W.loop ?_)
  | (refine dx_ ?_; refine W.loop ?_)
  | (refine AF ft_ fun h2 P => ⟨rfl,?_⟩; (have nx2:=P.nx; have hh2:=P.fit; have hX2:=(fx4 hh2).2.2; try dsimp only at nx2))
  | (refine W.ret ?_)
  | (refine mk_ 237 c237 (s_ ?_))
  | (refine mk_ 137 c137 (s_ ?_))
  | (refine rx_ ?_; (first | refine ⟨rfl,?_⟩ | (skip))))
 obtain ⟨d1,d2,_⟩:=(fx4 P.fit).2.2
 simp (disch:=omega) only [d1,d2]
 refine hk _ (PG.mk2 P (by omega) (fun q q1 => ?_) ?_ (by omega))
 · rw [zFh q1]
 · exact zBz P.fit.1
theorem bad_F {n t key nm:B8} {A O:CVal} {lab pk oo:Int} {num:Nat} (h1:1 ≤ num) (h2:num < 1000):Pe 171 [.agg [.str n,A,O,.nils,.nils,.nils,.nils],.agg [.int .i64 lab,.str t,.str key,.str nm,.int .u64 (num:Int),.int .i64 pk,.int .i64 oo]] (.bool false):=by
 intro h hf K hk
 obtain ⟨hu,hut,hX⟩:=fx4 hf
 have a1:¬ (num:Int) < 1:=by omega
 have a2:¬ (num:Int) > 536870911:=by omega
 have a2':¬ (536870911:Int) < num:=by omega
 have a3:¬ (num:Int) ≥ 19000:=by omega
 have a3':¬ (19000:Int) ≤ num:=by omega
 refine mk_ 171 c171 (s_ ?_)
 have hZ:=j6_ hX a1 a2 a2' a3 a3'
 repeat (first
  | refine vk_ ?_
  | (refine W.loop ?_)
  | (show W tree.getF _ (dropped true _ _) _; generalize e:dropped _ _ _ = r; simp (disch:=omega) [hX,a1,a2,a2',a3,a3'] at e; subst e; refine W.loop ?_)
  | (refine mk_ 137 c137 (s_ ?_))
  | (refine rk_ ?_; (first | refine ⟨rfl,?_⟩ | (refine hk _ ?_; exact om_))))
theorem has_no {nm:B8} (hn:nm ≠ [99]) (c:Bool):Pe 137 [(if c = true then CVal.imm .none 1 [.str [99]] else .nils),.str nm] (.bool false):=by
 have e1:([99] == nm) = false:=by simp [Ne.symm hn]
 have e2:([99] = nm) = False:=by simp [Ne.symm hn]
 cases c
 all_goals (
  intro h hf K hk
  obtain ⟨hu,hut,hX⟩:=fx4 hf
  refine mk_ 137 c137 (s_ ?_)
  have hZ:=j3_ hX e1 e2
  repeat (first
   | refine vk_ ?_
   | (refine W.loop ?_)
   | (show W tree.getF _ (dropped true _ _) _; generalize e:dropped _ _ _ = r; simp (disch:=omega) [hX,e1,e2] at e; subst e; refine W.loop ?_)
   | (refine rk_ ?_; refine hk _ ?_; exact om_))
 )
structure RW where
 lab:Nat
 t:B8
 key:B8
 nm:B8
 num:Nat
 pk:Nat
 oo:Nat
def RW.v (r:RW):CVal:=ffV r.lab r.t r.key r.nm r.num r.pk r.oo
def RW.kind (r:RW):Nat:=if zBx r.t = 0 then (if r.t = [69] then 17 else 16) else zBx r.t
def RW.ty (r:RW):B8:=if zBx r.t = 0 then [97,46] ++ r.t else []
def RW.pkd (r:RW):Bool:=r.lab == 2 && (wN r.kind != 2 && r.pk != 2)
def RW.pf (r:RW):CVal:=.agg [.int .i64 r.num,.str r.nm,.int .i64 r.lab,.int .i64 r.kind,.str r.ty,.int .i64 (zBx r.key),.bool r.pkd,.int .i64 r.oo]
structure RW.ok (r:RW):Prop where
 lab:r.lab ≤ 3
 t:r.t ∈ W18
 num1:1 ≤ r.num
 num2:r.num < 1000
 nm:r.nm ≠ [99]
 pk:r.pk ≤ 2
 pk2:r.pk ≠ 0 → r.lab = 2 ∧ wN r.kind ≠ 2
def insR (r:RW):List RW → List RW
 | [] => [r]
 | x :: l => if x.num < r.num then x :: insR r l else r :: x :: l
def FD.rw (d:FD):RW:=match d.sh with
 | .one => ⟨0,d.t,[],102 :: dg d.num,d.num,0,0⟩
 | .opt => ⟨1,d.t,[],102 :: dg d.num,d.num,0,0⟩
 | .rep k => ⟨2,d.t,[],102 :: dg d.num,d.num,(match k with | 0 => 0 | 1 => 2 | _ => 1),0⟩
 | .map key => ⟨3,d.t,key,102 :: dg d.num,d.num,0,0⟩
def OD.rw (d:OD):RW:=⟨0,d.t,[],111 :: dg d.num,d.num,0,1⟩
theorem FD.rw_v (d:FD):d.rw.v = d.v:=by
 obtain ⟨sh,t,num⟩:=d
 cases sh with
 | rep k => match k with | 0 => rfl | 1 => rfl | n + 2 => rfl
 | _ => rfl
theorem OD.rw_v (d:OD):d.rw.v = d.v:=rfl
def BD.rs (b:BD):List RW:=b.fs.map FD.rw ++ b.os.map OD.rw
theorem BD.rs_v (b:BD):b.rs.map RW.v = b.xs:=by
 simp only [BD.rs,BD.xs,List.map_append,List.map_map]
 congr 1
 · exact List.map_congr_left fun d _ => d.rw_v
theorem zFf:∀ t ∈ W18,zBx t ≤ 15 ∧ (zBx t = 0 → t = [69] ∨ t = [73] ∨ t = [77]) ∧ (wN (if zBx t = 0 then (if t = [69] then 17 else 16) else zBx t) = 2 → t = [115,116,114,105,110,103] ∨ t = [98,121,116,101,115] ∨ t = [73] ∨ t = [77]):=by decide +kernel
theorem FD.rw_ok {d:FD} (h:d.ok):d.rw.ok:=by
 obtain ⟨h1,h2,h3,h4⟩:=h
 obtain ⟨sh,t,num⟩:=d
 have hk:=zFf _ h1
 cases sh with
 | rep k =>
  dsimp only at *
  refine ⟨by simp [FD.rw],h1,h2,h3,by simp [FD.rw],?_,?_⟩
  · match k with | 0 => simp [FD.rw] | 1 => simp [FD.rw] | n + 2 => simp [FD.rw]
  · intro e
    refine ⟨rfl,fun w => ?_⟩
    have hk0:k ≠ 0:=by rintro rfl; exact e rfl
    exact h4.2 hk0 (hk.2.2 w)
 | _ => refine ⟨by simp [FD.rw],h1,h2,h3,by simp [FD.rw],by simp [FD.rw],by simp [FD.rw]⟩
theorem OD.rw_ok {d:OD} (h:d.ok):d.rw.ok:=by
 obtain ⟨h1,h2,h3⟩:=h
 refine ⟨by simp [OD.rw],h1,h2,h3,by simp [OD.rw],by simp [OD.rw],by simp [OD.rw]⟩
abbrev msgL:CCode:=(.loop true (.seq (.seq (.R [.v 2,.k 2 1,.f 1 0,.l 0,.j 0,.h .lss 4 0] [(3,5)]) (.cond (.var 3) .skip (.exit 0))) (.seq (.block 1 (.seq (.R [.k 2 1,.f 1 0,.l 0,.v 2,.i 7 1 0,.z 7 0,.o 262144007,.u 7 0 1] [(4,6)]) (.seq (.seq (.R [.k 2 1,.z 7 0,.y 7 4,.c 171 [(.loc 1),(.loc 0)]] [(5,3)]) (.cond (.var 5) (.seq (.R [.y 3 6,.t 3 7 0,.m (.k 6)] [(28,2)]) .ret) .skip)) (.seq (.seq (.R [.m (.k 0)] [(8,0)]) (.block 2 (.loop true (.seq (.seq (.R [.v 8,.v 2,.h .lss 1 0] [(9,2)]) (.cond (.var 9) .skip (.exit 2))) (.seq (.block 3 (.seq (.R [.k 2 1,.f 1 0,.l 0,.v 8,.i 7 1 0,.f 4 0,.l 0,.k 4 4,.l 0,.h .eql 2 0,.m (.loc 0),.Q (.k 2 1) 0 false,.Q (.f 1 0) 1 false,.Q (.l 0) 2 false,.Q (.v 8) 3 false,.Q (.i 7 1 0) 4 false,.Q (.f 3 0) 5 false,.Q (.l 0) 6 false,.Q (.k 3 4) 7 false,.Q (.l 0) 8 false,.Q (.h .eql 2 0) 9 false,.r 10 0] [(10,21)]) (.cond (.var 10) (.seq (.R [.y 3 6,.t 3 7 0,.m (.k 5)] [(28,2)]) .ret) .skip))) (.R [.v 8,.x .add 0 (.k 1),.m (.loc 0)] [(8,2)])))))) (.seq (.seq (.R [.k 2 1,.f 2 0,.l 0,.k 3 4,.l 0,.c 137 [(.loc 2),(.loc 0)]] [(11,5)]) (.cond (.var 11) (.seq (.R [.y 3 6,.t 3 7 0,.m (.k 5)] [(28,2)]) .ret) .skip)) (.seq (.region [.k 4 4,.l 0,.g (.conv .i64 (.loc 0)),.k 3 4,.l 0,.k 0 4,.l 0,.k 1 4,.l 0,.c 172 [(.loc 0)],.k 2 4,.l 0,.c 172 [(.loc 0)],.k 6 4,.l 0,.g (.build [(.int .i64 0),(.str []),(.int .i64 0),(.int .i64 0),(.str []),(.int .i64 0),(.bool false),(.int .i64 0)] [(0,1,(.loc 12)),(1,1,(.loc 10)),(2,1,(.loc 8)),(3,1,(.loc 5)),(5,1,(.loc 2)),(7,1,(.loc 0))]),.o 60817416,.u 8 0 1] [(12,16)] [(1,0,2),(4,0,2),(6,0,2),(11,0,1),(14,0,2)] []) (.seq (.seq (.R [.k 3 12,.l 0,.x .eql 0 (.k 0)] [(13,2)]) (.cond (.var 13) (.seq (.R [.v 14,.k 11 1,.l 0,.k 0 1,.l 0,.k 1 4,.l 0,.c 173 [(.loc 6),(.loc 4),(.loc 2),(.loc 0)],.m (.loc 0),.e 0 0,.e 1 1,.e 2 2,.m (.loc 2),.m (.loc 2),.m (.loc 2)] [(15,14),(17,12),(18,13)]) (.seq (.seq (.R [.v 15,.x .neq 0 (.k 0)] [(16,1)]) (.cond (.var 16) (.seq (.R [.y 3 6,.v 15,.t 3 7 1,.m (.loc 1)] [(28,3)]) .ret) .skip)) (.R [.v 17,.v 18,.k 4 12,.s 1 0 2,.k 3 12,.s 1 0 3] []))) .skip)) (.seq (.R [.k 3 12,.l 0,.c 110 [(.loc 0)],.x .neq 0 (.k 2),.m (.loc 0)] [(19,4)]) (.seq (.seq (.R [.k 5 4,.l 0,.x .neq 0 (.k 0),.m (.loc 0),.Q (.k 0 4) 0 true,.Q (.l 0) 1 true,.Q (.x .neq 0 (.k 2)) 2 true,.Q (.m (.loc 0)) 3 true,.Q (.v 19) 0 false,.q (.not (.loc 0)) 1 false,.q (.pick (.loc 2) (.b true) (.loc 0)) 6 true,.p 7 0] [(20,11)]) (.cond (.var 20) (.seq (.R [.y 3 6,.t 3 7 0,.m (.k 6)] [(28,2)]) .ret) .skip)) (.seq (.R [.k 0 4,.l 0,.x .eql 0 (.k 2),.m (.loc 0),.Q (.v 19) 0 true,.p 1 0,.m (.loc 0),.Q (.k 5 4) 0 true,.Q (.l 0) 1 true,.Q (.x .neq 0 (.k 2)) 2 true,.p 3 0,.k 6 12,.s 1 0 1] []) (.seq (.R [.m (.k 0)] [(21,0)]) (.seq (.block 4 (.loop true (.seq (.seq (.R [.v 21,.k 1 6,.l 0,.j 0,.h .lss 3 0,.m (.loc 0),.Q (.k 1 6) 0 true,.Q (.l 0) 1 true,.Q (.v 21) 2 true,.Q (.i 8 1 0) 3 true,.Q (.f 0 0) 4 true,.Q (.l 0) 5 true,.Q (.k 0 12) 6 true,.Q (.l 0) 7 true,.Q (.h .lss 2 0) 8 true,.p 9 0] [(22,15)]) (.cond (.var 22) .skip (.exit 4))) (.block 5 (.R [.v 21,.x .add 0 (.k 1),.m (.loc 0)] [(21,2)]))))) (.region [.g (.lit .imm true [(.int .i64 0),(.str []),(.int .i64 0),(.int .i64 0),(.str []),(.int .i64 0),(.bool false),(.int .i64 0)] 0 []),.k 1 6,.l 0,.v 21,.g (.slc 8 (.loc 1) none (some (.loc 0))),.d 0 8 4 0,.y 8 12,.g (.lit .imm true [(.int .i64 0),(.str []),(.int .i64 0),(.int .i64 0),(.str []),(.int .i64 0),(.bool false),(.int .i64 0)] 1 [(0,(.loc 0))]),.d 0 8 2 0,.k 1 6,.l 0,.v 21,.g (.slc 8 (.loc 1) (some (.loc 0)) none),.d 0 8 4 0,.k 1 6,.s 1 0 1] [] [(6,0,1),(10,0,2)] []))))))))))))) (.R [.v 2,.x .add 0 (.k 1),.m (.loc 0)] [(2,2)]))))
abbrev dupL:CCode:=(.loop true (.seq (.seq (.R [.v 8,.v 2,.h .lss 1 0] [(9,2)]) (.cond (.var 9) .skip (.exit 2))) (.seq (.block 3 (.seq (.R [.k 2 1,.f 1 0,.l 0,.v 8,.i 7 1 0,.f 4 0,.l 0,.k 4 4,.l 0,.h .eql 2 0,.m (.loc 0),.Q (.k 2 1) 0 false,.Q (.f 1 0) 1 false,.Q (.l 0) 2 false,.Q (.v 8) 3 false,.Q (.i 7 1 0) 4 false,.Q (.f 3 0) 5 false,.Q (.l 0) 6 false,.Q (.k 3 4) 7 false,.Q (.l 0) 8 false,.Q (.h .eql 2 0) 9 false,.r 10 0] [(10,21)]) (.cond (.var 10) (.seq (.R [.y 3 6,.t 3 7 0,.m (.k 5)] [(28,2)]) .ret) .skip))) (.R [.v 8,.x .add 0 (.k 1),.m (.loc 0)] [(8,2)]))))
abbrev posL:CCode:=(.loop true (.seq (.seq (.R [.v 21,.k 1 6,.l 0,.j 0,.h .lss 3 0,.m (.loc 0),.Q (.k 1 6) 0 true,.Q (.l 0) 1 true,.Q (.v 21) 2 true,.Q (.i 8 1 0) 3 true,.Q (.f 0 0) 4 true,.Q (.l 0) 5 true,.Q (.k 0 12) 6 true,.Q (.l 0) 7 true,.Q (.h .lss 2 0) 8 true,.p 9 0] [(22,15)]) (.cond (.var 22) .skip (.exit 4))) (.block 5 (.R [.v 21,.x .add 0 (.k 1),.m (.loc 0)] [(21,2)]))))
structure PV1 (v:CVal):Prop where
 u:v.isUndef = false
 w:v.whole = true
 c:v.cells = [v]
 s:v.strip = v
 b:v.bare = v
theorem dup_go {hh:CHeap} (hf:Fit hh) {b1 pm p7:Nat} {FV O:CVal} {whole n:B8} {L:List CVal} {i4 d4:Nat} {r:RW} {Ls:List RW} (hL:L = Ls.map RW.v) (g1:zA1 hh.ents b1 = some (.cells [.str whole,.int .i64 16,.str n,.imm .none 7 L,O,.nils,.nils,.nils,.nils,.str [],.nils,.str [120]])) (g4:zA1 hh.ents i4 = some (.cells [.int .i64 r.lab,.str r.t,.str r.key,.str r.nm,.int .u64 r.num,.int .i64 r.pk,.int .i64 r.oo])) {i:Nat} (hi:i ≤ Ls.length) (hl9:Ls.length ≤ 100) (hd:∀ x ∈ Ls.take i,x.num ≠ r.num ∧ x.nm ≠ r.nm) {v0 v3 v5 v11 v12 v13 v15 v16 v17 v18 v19 v20 v21 v22 v23 v24 v25 v26 v27:CVal} {Q:QT}
    (hk:∀ (v8 v9 v10:CVal) n',hh.next ≤ n' → Q (.exit 2) ⟨[v0,.ptr b1 211812364 0,.int .i64 (i:Int),v3,.ptr i4 d4 0,v5,.ptr pm 49283075 0,.ptr p7 49283075 0,v8,v9,v10,v11,v12,v13,FV,v15,v16,v17,v18,v19,v20,v21,v22,v23,v24,v25,v26,v27,.int .i64 0],⟨hh.ents,n',hh.tys⟩,[]⟩) :
    ∀ (m k nx:Nat) (v9 v10:CVal),k + m = i → hh.next ≤ nx → W tree.getF dupL ⟨[v0,.ptr b1 211812364 0,.int .i64 (i:Int),v3,.ptr i4 d4 0,v5,.ptr pm 49283075 0,.ptr p7 49283075 0,.int .i64 (k:Int),v9,v10,v11,v12,v13,FV,v15,v16,v17,v18,v19,v20,v21,v22,v23,v24,v25,v26,v27,.int .i64 0],⟨hh.ents,nx,hh.tys⟩,[]⟩ Q:=by
 intro m
 induction m with
 | zero =>
  intro k nx v9 v10 h1 h2
  obtain rfl:k = i:=by omega
  have hge:¬ (k:Int) < (k:Int):=by omega
  refine W.loop ?_
  have hZ:=hge
  try refine wk_ ?_
  refine hk _ _ _ _ ?_; exact om_
 | succ m ih =>
  intro k nx v9 v10 h1 h2
  obtain ⟨hu,hut,hX⟩:=fx4 (show Fit ⟨hh.ents,nx,hh.tys⟩ from ⟨hf.1.le h2,hf.2.le h2⟩)
  dsimp only at hX
  have hki:(k:Int) < (i:Int):=by omega
  have hkl:k < Ls.length:=by omega
  obtain ⟨x,hx⟩:∃ x,Ls[k]? = some x:=⟨_,List.getElem?_eq_getElem hkl⟩
  have hm:x ∈ Ls.take i:=by
   rw [List.mem_iff_getElem?]; exact ⟨k,by rw [List.getElem?_take_of_lt (by omega)]; exact hx⟩
  obtain ⟨d1,d2⟩:=hd x hm
  have hn:nth L k = x.v:=by rw [hL]; exact zCs RW.v Ls k x hx
  have hn2:L[k]? = some x.v:=by rw [hL,List.getElem?_map,hx]; rfl
  have hlen:L.length = Ls.length:=by rw [hL,List.length_map]
  have hlt:(k:Int) < (Ls.length:Int):=by omega
  have e1:((x.num:Int) = (r.num:Int)) = False:=by simp only [eq_iff_iff,iff_false]; omega
  have e2:(x.nm == r.nm) = false:=by simp [d2]
  have e3:(x.nm = r.nm) = False:=by simp [d2]
  unfold RW.v ffV at hn hn2
  have ih1:=fun nx v9 v10 (h:_ ≤ nx) => ih (k + 1) nx v9 v10 (by omega) h
  push_cast at ih1
  refine W.loop ?_
  have hZ:=j12_ hX g1 g4 hki hkl hn hn2 hlen hlt e1 e2 e3
  try refine wk_ ?_
  refine dx_ ?_
  refine ih1 _ _ _ ?_; exact om_
def posR (r:RW) (l:List RW):Nat:=(l.takeWhile fun x => decide (x.num < r.num)).length
theorem posR_cons (r x:RW) (l:List RW):posR r (x :: l) = if x.num < r.num then posR r l + 1 else 0:=by
 unfold posR; by_cases e:x.num < r.num <;> simp [List.takeWhile,e]
theorem insR_pos (r:RW):∀ l,insR r l = l.take (posR r l) ++ r :: l.drop (posR r l)
 | [] => rfl
 | x :: l => by
  rw [posR_cons]
  by_cases e:x.num < r.num
  · rw [if_pos e]; simp [insR,e,insR_pos r l]
  · rw [if_neg e]; simp [insR,e]
theorem zJl (r:RW) (l:List RW):posR r l ≤ l.length:=by unfold posR; exact (List.takeWhile_sublist _).length_le
theorem zJy {hh:CHeap} (hf:Fit hh) {b1 pm p7:Nat} {FV O:CVal} {whole n:B8} {L:List CVal} {ix dx:Nat} {r:RW} {x1 x2 x3 x4 x5 x6 x7:CVal} (gm:zA1 hh.ents pm = some (.cells [.str whole,.nils,O])) (gx:zA1 hh.ents ix = some (.cells [.int .i64 (r.num:Int),x1,x2,x3,x4,x5,x6,x7])) {v0 v2 v3 v4 v5 v8 v9 v10 v11 v13 v15 v16 v17 v18 v19 v20 v22 v23 v24 v25 v26 v27:CVal} {Q:QT} {nx:Nat} (hnx:hh.next ≤ nx)
    (hk:∀ (v22:CVal) n',hh.next ≤ n' → Q (.exit 4) ⟨[v0,.ptr b1 211812364 0,v2,v3,v4,v5,.ptr pm 49283075 0,.ptr p7 49283075 0,v8,v9,v10,v11,.ptr ix dx 0,v13,FV,v15,v16,v17,v18,v19,v20,.int .i64 0,v22,v23,v24,v25,v26,v27,.int .i64 0],⟨hh.ents,n',hh.tys⟩,[]⟩) :
    W tree.getF posL ⟨[v0,.ptr b1 211812364 0,v2,v3,v4,v5,.ptr pm 49283075 0,.ptr p7 49283075 0,v8,v9,v10,v11,.ptr ix dx 0,v13,FV,v15,v16,v17,v18,v19,v20,.int .i64 0,v22,v23,v24,v25,v26,v27,.int .i64 0],⟨hh.ents,nx,hh.tys⟩,[]⟩ Q:=by
 refine W.loop ?_
 have hZ:=j2_ gm gx
 try refine wk_ ?_
 refine hk _ _ ?_; exact om_
theorem pos_go {hh:CHeap} (hf:Fit hh) {b1 pm p7:Nat} {FV O:CVal} {whole n:B8} {L:List CVal} {ix dx:Nat} {r:RW} {x1 x2 x3 x4 x5 x6 x7:CVal} {acc:List RW} {tg:Tag} (hl9:acc.length ≤ 100) (gm:zA1 hh.ents pm = some (.cells [.str whole,.imm tg 8 (acc.map RW.pf),O])) (gx:zA1 hh.ents ix = some (.cells [.int .i64 (r.num:Int),x1,x2,x3,x4,x5,x6,x7])) {v0 v2 v3 v4 v5 v8 v9 v10 v11 v13 v15 v16 v17 v18 v19 v20 v23 v24 v25 v26 v27:CVal} {Q:QT}
    (hk:∀ (v22:CVal) n',hh.next ≤ n' → Q (.exit 4) ⟨[v0,.ptr b1 211812364 0,v2,v3,v4,v5,.ptr pm 49283075 0,.ptr p7 49283075 0,v8,v9,v10,v11,.ptr ix dx 0,v13,FV,v15,v16,v17,v18,v19,v20,.int .i64 (posR r acc:Int),v22,v23,v24,v25,v26,v27,.int .i64 0],⟨hh.ents,n',hh.tys⟩,[]⟩) :
    ∀ (rest:List RW) (k nx:Nat) (v22:CVal),acc.drop k = rest → posR r acc = k + posR r rest → hh.next ≤ nx → W tree.getF posL ⟨[v0,.ptr b1 211812364 0,v2,v3,v4,v5,.ptr pm 49283075 0,.ptr p7 49283075 0,v8,v9,v10,v11,.ptr ix dx 0,v13,FV,v15,v16,v17,v18,v19,v20,.int .i64 (k:Int),v22,v23,v24,v25,v26,v27,.int .i64 0],⟨hh.ents,nx,hh.tys⟩,[]⟩ Q:=by
 intro rest
 have hlen:(acc.map RW.pf).length = acc.length:=by simp
 induction rest with
 | nil =>
  intro k nx v22 h1 h2 h3
  have hi:acc.length ≤ k:=List.drop_eq_nil_iff.1 h1
  have hk0:posR r acc = k:=by rw [h2]; rfl
  rw [hk0] at hk
  have hge:¬ (k:Int) < (acc.length:Int):=by omega
  have hge2:(acc.length:Int) ≤ (k:Int):=by omega
  clear h1 hk0
  generalize acc.map RW.pf = AL at *
  refine W.loop ?_
  have hZ:=j5_ gm gx hlen hge hge2
  try refine wk_ ?_
  refine hk _ _ ?_; exact om_
 | cons x rest ih =>
  intro k nx v22 h1 h2 h3
  obtain ⟨hu,hut,hX⟩:=fx4 (show Fit ⟨hh.ents,nx,hh.tys⟩ from ⟨hf.1.le h3,hf.2.le h3⟩)
  dsimp only at hX
  obtain ⟨q1,q2,q3⟩:=zFv h1
  have hn:=zCs RW.pf acc k x q2
  have hlt:(k:Int) < (acc.length:Int):=by omega
  rw [posR_cons] at h2
  by_cases e:x.num < r.num
  · rw [if_pos e] at h2
    have e1:(x.num:Int) < (r.num:Int):=by omega
    have ih1:=fun nx v22 (h:_ ≤ nx) => ih (k + 1) nx v22 q3 (by omega) h
    push_cast at ih1
    generalize hA:acc.map RW.pf = AL at *
    unfold RW.pf at hn
    refine W.loop ?_
    have hZ:=j8_ hX gm gx hlen hlt hn e1 q1
    try refine wk_ ?_
    refine dx_ ?_
    refine ih1 _ _ ?_; exact om_
  · rw [if_neg e] at h2
    have e1:¬ (x.num:Int) < (r.num:Int):=by omega
    have e1':(r.num:Int) ≤ (x.num:Int):=by omega
    rw [show posR r acc = k by omega] at hk
    generalize hA:acc.map RW.pf = AL at *
    unfold RW.pf at hn
    refine W.loop ?_
    have hZ:=j9_ hX gm gx hlen hlt hn e1 e1' q1
    try refine wk_ ?_
    refine hk _ _ ?_; exact om_
abbrev zH4:CCode:=(.seq (.R [.k 3 12,.l 0,.c 110 [(.loc 0)],.x .neq 0 (.k 2),.m (.loc 0)] [(19,4)]) (.seq (.seq (.R [.k 5 4,.l 0,.x .neq 0 (.k 0),.m (.loc 0),.Q (.k 0 4) 0 true,.Q (.l 0) 1 true,.Q (.x .neq 0 (.k 2)) 2 true,.Q (.m (.loc 0)) 3 true,.Q (.v 19) 0 false,.q (.not (.loc 0)) 1 false,.q (.pick (.loc 2) (.b true) (.loc 0)) 6 true,.p 7 0] [(20,11)]) (.cond (.var 20) (.seq (.R [.y 3 6,.t 3 7 0,.m (.k 6)] [(28,2)]) .ret) .skip)) (.seq (.R [.k 0 4,.l 0,.x .eql 0 (.k 2),.m (.loc 0),.Q (.v 19) 0 true,.p 1 0,.m (.loc 0),.Q (.k 5 4) 0 true,.Q (.l 0) 1 true,.Q (.x .neq 0 (.k 2)) 2 true,.p 3 0,.k 6 12,.s 1 0 1] []) (.seq (.R [.m (.k 0)] [(21,0)]) (.seq (.block 4 (.loop true (.seq (.seq (.R [.v 21,.k 1 6,.l 0,.j 0,.h .lss 3 0,.m (.loc 0),.Q (.k 1 6) 0 true,.Q (.l 0) 1 true,.Q (.v 21) 2 true,.Q (.i 8 1 0) 3 true,.Q (.f 0 0) 4 true,.Q (.l 0) 5 true,.Q (.k 0 12) 6 true,.Q (.l 0) 7 true,.Q (.h .lss 2 0) 8 true,.p 9 0] [(22,15)]) (.cond (.var 22) .skip (.exit 4))) (.block 5 (.R [.v 21,.x .add 0 (.k 1),.m (.loc 0)] [(21,2)]))))) (.region [.g (.lit .imm true [(.int .i64 0),(.str []),(.int .i64 0),(.int .i64 0),(.str []),(.int .i64 0),(.bool false),(.int .i64 0)] 0 []),.k 1 6,.l 0,.v 21,.g (.slc 8 (.loc 1) none (some (.loc 0))),.d 0 8 4 0,.y 8 12,.g (.lit .imm true [(.int .i64 0),(.str []),(.int .i64 0),(.int .i64 0),(.str []),(.int .i64 0),(.bool false),(.int .i64 0)] 1 [(0,(.loc 0))]),.d 0 8 2 0,.k 1 6,.l 0,.v 21,.g (.slc 8 (.loc 1) (some (.loc 0)) none),.d 0 8 4 0,.k 1 6,.s 1 0 1] [] [(6,0,1),(10,0,2)] []))))))
theorem zEq {l:List CVal} (z:l.map CVal.bare = l):(∃ (w:CVal) (ws:List CVal),l = [] ∧ w.bare = w ∧ ws.map CVal.bare = ws ∧ ws.length ≤ 0) ∨ ∃ w ws,l = w :: ws ∧ w.bare = w ∧ ws.map CVal.bare = ws ∧ ws.length + 1 ≤ l.length:=by
 cases l with
 | nil => exact .inl ⟨.nils,[],rfl,rfl,rfl,Nat.le_refl _⟩
 | cons w ws =>
  rw [List.map_cons] at z
  injection z with z1 z2
  exact .inr ⟨w,ws,rfl,z1,z2,by simp⟩
theorem tl_a {hh:CHeap} (hf:Fit hh) {b1 pm p7:Nat} {FV O:CVal} {whole n:B8} {L:List CVal} {i4 d4 ix dx:Nat} {r:RW} {κ kk:Nat} (hκ1:1 ≤ κ) (hκ2:κ ≤ 17) {ty:B8} {acc:List RW} {tg:Tag} (hl9:acc.length ≤ 100) (e1:r.pk = 0) (e2:r.lab = 2) (e3:wN κ = 2)
    (gm:zA1 hh.ents pm = some (.cells [.str whole,.nils,O])) (ha:acc = []) (gx:zA1 hh.ents ix = some (.cells [.int .i64 r.num,.str r.nm,.int .i64 r.lab,.int .i64 (κ:Int),.str ty,.int .i64 (kk:Int),.bool false,.int .i64 r.oo])) (g4:zA1 hh.ents i4 = some (.cells [.int .i64 r.lab,.str r.t,.str r.key,.str r.nm,.int .u64 r.num,.int .i64 r.pk,.int .i64 r.oo])) (n1:ix ≠ pm) (n2:i4 ≠ ix) (n3:i4 ≠ pm) (HO:PV1 O) {v0 v2 v3 v5 v8 v9 v10 v11 v13 v15 v16 v17 v18 v19 v20 v21 v22 v23 v24 v25 v26 v27:CVal} {Q:QT}
    (hk:∀ (v19 v20 v21 v22:CVal) n' i u,hh.next ≤ n' → hh.next ≤ i → i < n' → Q .normal ⟨[v0,.ptr b1 211812364 0,v2,v3,.ptr i4 d4 0,v5,.ptr pm 49283075 0,.ptr p7 49283075 0,v8,v9,v10,v11,.ptr ix dx 0,v13,FV,v15,v16,v17,v18,v19,v20,v21,v22,v23,v24,v25,v26,v27,.int .i64 0],⟨(i,.tok u) :: zA2 (zA2 hh.ents ix (.cells [.int .i64 r.num,.str r.nm,.int .i64 r.lab,.int .i64 (κ:Int),.str ty,.int .i64 (kk:Int),.bool false,.int .i64 r.oo])) pm (.cells [.str whole,.imm (.own i u) 8 ((acc.take (posR r acc)).map RW.pf ++ (.agg [.int .i64 r.num,.str r.nm,.int .i64 r.lab,.int .i64 (κ:Int),.str ty,.int .i64 (kk:Int),.bool false,.int .i64 r.oo]) :: (acc.drop (posR r acc)).map RW.pf),O]),n',hh.tys⟩,[]⟩) :
    W tree.getF zH4 ⟨[v0,.ptr b1 211812364 0,v2,v3,.ptr i4 d4 0,v5,.ptr pm 49283075 0,.ptr p7 49283075 0,v8,v9,v10,v11,.ptr ix dx 0,v13,FV,v15,v16,v17,v18,v19,v20,v21,v22,v23,v24,v25,v26,v27,.int .i64 0],hh,[]⟩ Q:=by
 obtain ⟨hu,hut,hX⟩:=fx4 hf
 have hY:=fx5 hf gx
 have s1:∀ X,zA1 (zA2 hh.ents ix X) pm = zA1 hh.ents pm:=fun X => zA0 (Ne.symm n1)
 have s2:∀ X,zA1 (zA2 hh.ents ix X) i4 = zA1 hh.ents i4:=fun X => zA0 n2
 have lx:=zA5 hu gx
 have lm:=zA5 hu gm
 obtain ⟨o1,o2,o3,o4,o5⟩:=HO
 simp only [CVal.isUndef,CVal.whole,CVal.cells,CVal.strip,CVal.bare] at o1 o2 o3 o4 o5
 have p1:(r.pk:Int) = 0:=by omega
 have p2:(r.lab:Int) = 2:=by omega
 simp only [p2] at hk
 repeat ((fail_if_success (show W tree.getF posL _ _)); first
  | refine st_ rfl ?_
  | ((first | refine W.regG ?_ | refine WoR.go ?_); generalize e:goR .. = r; simp (disch:=omega) [hX,hY,s1,s2,gm,gx,g4,o1,o2,o3,o4,o5,p1,p2,e3] at e; replace e:some _ = _:=e; subst e; (try dsimp only [goW]))
  | ((simp only [zAd,zA3,zA8,zAa,zAb,reduceIte]))
  | (refine pe_ (zGg κ hκ1 hκ2) fun _ g => ⟨rfl,?_⟩; (try dsimp only at g)))
 refine zJy (hh:=⟨_,_,_⟩) (r:=r) (L:=L) (n:=n) (whole:=whole) (O:=O) (x1:=.str r.nm) (x2:=.int .i64 2) (x3:=.int .i64 κ) (x4:=.str ty) (x5:=.int .i64 kk) (x6:=.bool false) (x7:=.int .i64 r.oo) ?_ ?_ ?_ (Nat.le_refl _) fun v22 n' g => ?_
 · exact ft_
 · dsimp only; rw [s1]; exact gm
 · dsimp only; rw [hY.1]
 dsimp only at g
 (simp only [zAd,zA3,zA8,zAa,zAb,reduceIte])
 subst ha
 have b1:=trivial
 have b2:=trivial
 have b3:=trivial
 have b4:=trivial
 have hZ:=j19_ hX hY s1 s2 gm gx g4 o1 o2 o3 o4 o5 p1 p2 e3 b1 b2 b3 b4
 try refine vk_ ?_
 refine hk _ _ _ _ _ _ _ ?_ ?_ ?_
 all_goals omega
theorem tl_b {hh:CHeap} (hf:Fit hh) {b1 pm p7:Nat} {FV O:CVal} {whole n:B8} {L:List CVal} {i4 d4 ix dx:Nat} {r:RW} {κ kk:Nat} (hκ1:1 ≤ κ) (hκ2:κ ≤ 17) {ty:B8} {acc:List RW} {tg:Tag} (hl9:acc.length ≤ 100) (e1:r.pk = 0) (e2:r.lab = 2) (e3:wN κ ≠ 2)
    (gm:zA1 hh.ents pm = some (.cells [.str whole,.nils,O])) (ha:acc = []) (gx:zA1 hh.ents ix = some (.cells [.int .i64 r.num,.str r.nm,.int .i64 r.lab,.int .i64 (κ:Int),.str ty,.int .i64 (kk:Int),.bool false,.int .i64 r.oo])) (g4:zA1 hh.ents i4 = some (.cells [.int .i64 r.lab,.str r.t,.str r.key,.str r.nm,.int .u64 r.num,.int .i64 r.pk,.int .i64 r.oo])) (n1:ix ≠ pm) (n2:i4 ≠ ix) (n3:i4 ≠ pm) (HO:PV1 O) {v0 v2 v3 v5 v8 v9 v10 v11 v13 v15 v16 v17 v18 v19 v20 v21 v22 v23 v24 v25 v26 v27:CVal} {Q:QT}
    (hk:∀ (v19 v20 v21 v22:CVal) n' i u,hh.next ≤ n' → hh.next ≤ i → i < n' → Q .normal ⟨[v0,.ptr b1 211812364 0,v2,v3,.ptr i4 d4 0,v5,.ptr pm 49283075 0,.ptr p7 49283075 0,v8,v9,v10,v11,.ptr ix dx 0,v13,FV,v15,v16,v17,v18,v19,v20,v21,v22,v23,v24,v25,v26,v27,.int .i64 0],⟨(i,.tok u) :: zA2 (zA2 hh.ents ix (.cells [.int .i64 r.num,.str r.nm,.int .i64 r.lab,.int .i64 (κ:Int),.str ty,.int .i64 (kk:Int),.bool true,.int .i64 r.oo])) pm (.cells [.str whole,.imm (.own i u) 8 ((acc.take (posR r acc)).map RW.pf ++ (.agg [.int .i64 r.num,.str r.nm,.int .i64 r.lab,.int .i64 (κ:Int),.str ty,.int .i64 (kk:Int),.bool true,.int .i64 r.oo]) :: (acc.drop (posR r acc)).map RW.pf),O]),n',hh.tys⟩,[]⟩) :
    W tree.getF zH4 ⟨[v0,.ptr b1 211812364 0,v2,v3,.ptr i4 d4 0,v5,.ptr pm 49283075 0,.ptr p7 49283075 0,v8,v9,v10,v11,.ptr ix dx 0,v13,FV,v15,v16,v17,v18,v19,v20,v21,v22,v23,v24,v25,v26,v27,.int .i64 0],hh,[]⟩ Q:=by
 obtain ⟨hu,hut,hX⟩:=fx4 hf
 have hY:=fx5 hf gx
 have s1:∀ X,zA1 (zA2 hh.ents ix X) pm = zA1 hh.ents pm:=fun X => zA0 (Ne.symm n1)
 have s2:∀ X,zA1 (zA2 hh.ents ix X) i4 = zA1 hh.ents i4:=fun X => zA0 n2
 have lx:=zA5 hu gx
 have lm:=zA5 hu gm
 obtain ⟨o1,o2,o3,o4,o5⟩:=HO
 simp only [CVal.isUndef,CVal.whole,CVal.cells,CVal.strip,CVal.bare] at o1 o2 o3 o4 o5
 have p1:(r.pk:Int) = 0:=by omega
 have p2:(r.lab:Int) = 2:=by omega
 simp only [p2] at hk
 repeat ((fail_if_success (show W tree.getF posL _ _)); first
  | refine st_ rfl ?_
  | ((first | refine W.regG ?_ | refine WoR.go ?_); generalize e:goR .. = r; simp (disch:=omega) [hX,hY,s1,s2,gm,gx,g4,o1,o2,o3,o4,o5,p1,p2,e3] at e; replace e:some _ = _:=e; subst e; (try dsimp only [goW]))
  | ((simp only [zAd,zA3,zA8,zAa,zAb,reduceIte]))
  | (refine pe_ (zGg κ hκ1 hκ2) fun _ g => ⟨rfl,?_⟩; (try dsimp only at g)))
 refine zJy (hh:=⟨_,_,_⟩) (r:=r) (L:=L) (n:=n) (whole:=whole) (O:=O) (x1:=.str r.nm) (x2:=.int .i64 2) (x3:=.int .i64 κ) (x4:=.str ty) (x5:=.int .i64 kk) (x6:=.bool true) (x7:=.int .i64 r.oo) ?_ ?_ ?_ (Nat.le_refl _) fun v22 n' g => ?_
 · exact ft_
 · dsimp only; rw [s1]; exact gm
 · dsimp only; rw [hY.1]
 dsimp only at g
 (simp only [zAd,zA3,zA8,zAa,zAb,reduceIte])
 subst ha
 have b1:=trivial
 have b2:=trivial
 have b3:=trivial
 have b4:=trivial
 have hZ:=j19_ hX hY s1 s2 gm gx g4 o1 o2 o3 o4 o5 p1 p2 e3 b1 b2 b3 b4
 try refine vk_ ?_
 refine hk _ _ _ _ _ _ _ ?_ ?_ ?_
 all_goals omega
theorem tl_c {hh:CHeap} (hf:Fit hh) {b1 pm p7:Nat} {FV O:CVal} {whole n:B8} {L:List CVal} {i4 d4 ix dx:Nat} {r:RW} {κ kk:Nat} (hκ1:1 ≤ κ) (hκ2:κ ≤ 17) {ty:B8} {acc:List RW} {tg:Tag} (hl9:acc.length ≤ 100) (e1:r.pk = 0) (e2:r.lab ≠ 2)
    (gm:zA1 hh.ents pm = some (.cells [.str whole,.nils,O])) (ha:acc = []) (gx:zA1 hh.ents ix = some (.cells [.int .i64 r.num,.str r.nm,.int .i64 r.lab,.int .i64 (κ:Int),.str ty,.int .i64 (kk:Int),.bool false,.int .i64 r.oo])) (g4:zA1 hh.ents i4 = some (.cells [.int .i64 r.lab,.str r.t,.str r.key,.str r.nm,.int .u64 r.num,.int .i64 r.pk,.int .i64 r.oo])) (n1:ix ≠ pm) (n2:i4 ≠ ix) (n3:i4 ≠ pm) (HO:PV1 O) {v0 v2 v3 v5 v8 v9 v10 v11 v13 v15 v16 v17 v18 v19 v20 v21 v22 v23 v24 v25 v26 v27:CVal} {Q:QT}
    (hk:∀ (v19 v20 v21 v22:CVal) n' i u,hh.next ≤ n' → hh.next ≤ i → i < n' → Q .normal ⟨[v0,.ptr b1 211812364 0,v2,v3,.ptr i4 d4 0,v5,.ptr pm 49283075 0,.ptr p7 49283075 0,v8,v9,v10,v11,.ptr ix dx 0,v13,FV,v15,v16,v17,v18,v19,v20,v21,v22,v23,v24,v25,v26,v27,.int .i64 0],⟨(i,.tok u) :: zA2 (zA2 hh.ents ix (.cells [.int .i64 r.num,.str r.nm,.int .i64 r.lab,.int .i64 (κ:Int),.str ty,.int .i64 (kk:Int),.bool false,.int .i64 r.oo])) pm (.cells [.str whole,.imm (.own i u) 8 ((acc.take (posR r acc)).map RW.pf ++ (.agg [.int .i64 r.num,.str r.nm,.int .i64 r.lab,.int .i64 (κ:Int),.str ty,.int .i64 (kk:Int),.bool false,.int .i64 r.oo]) :: (acc.drop (posR r acc)).map RW.pf),O]),n',hh.tys⟩,[]⟩) :
    W tree.getF zH4 ⟨[v0,.ptr b1 211812364 0,v2,v3,.ptr i4 d4 0,v5,.ptr pm 49283075 0,.ptr p7 49283075 0,v8,v9,v10,v11,.ptr ix dx 0,v13,FV,v15,v16,v17,v18,v19,v20,v21,v22,v23,v24,v25,v26,v27,.int .i64 0],hh,[]⟩ Q:=by
 obtain ⟨hu,hut,hX⟩:=fx4 hf
 have hY:=fx5 hf gx
 have s1:∀ X,zA1 (zA2 hh.ents ix X) pm = zA1 hh.ents pm:=fun X => zA0 (Ne.symm n1)
 have s2:∀ X,zA1 (zA2 hh.ents ix X) i4 = zA1 hh.ents i4:=fun X => zA0 n2
 have lx:=zA5 hu gx
 have lm:=zA5 hu gm
 obtain ⟨o1,o2,o3,o4,o5⟩:=HO
 simp only [CVal.isUndef,CVal.whole,CVal.cells,CVal.strip,CVal.bare] at o1 o2 o3 o4 o5
 have p1:(r.pk:Int) = 0:=by omega
 have p2:¬ (r.lab:Int) = 2:=by omega
 repeat ((fail_if_success (show W tree.getF posL _ _)); first
  | refine st_ rfl ?_
  | ((first | refine W.regG ?_ | refine WoR.go ?_); generalize e:goR .. = r; simp (disch:=omega) [hX,hY,s1,s2,gm,gx,g4,o1,o2,o3,o4,o5,p1,p2] at e; replace e:some _ = _:=e; subst e; (try dsimp only [goW]))
  | ((simp only [zAd,zA3,zA8,zAa,zAb,reduceIte]))
  | (refine pe_ (zGg κ hκ1 hκ2) fun _ g => ⟨rfl,?_⟩; (try dsimp only at g)))
 refine zJy (hh:=⟨_,_,_⟩) (r:=r) (L:=L) (n:=n) (whole:=whole) (O:=O) (x1:=.str r.nm) (x2:=.int .i64 r.lab) (x3:=.int .i64 κ) (x4:=.str ty) (x5:=.int .i64 kk) (x6:=.bool false) (x7:=.int .i64 r.oo) ?_ ?_ ?_ (Nat.le_refl _) fun v22 n' g => ?_
 · exact ft_
 · dsimp only; rw [s1]; exact gm
 · dsimp only; rw [hY.1]
 dsimp only at g
 (simp only [zAd,zA3,zA8,zAa,zAb,reduceIte])
 subst ha
 have b1:=trivial
 have b2:=trivial
 have b3:=trivial
 have b4:=trivial
 have hZ:=j18_ hX hY s1 s2 gm gx g4 o1 o2 o3 o4 o5 p1 p2 b1 b2 b3 b4
 try refine vk_ ?_
 refine hk _ _ _ _ _ _ _ ?_ ?_ ?_
 all_goals omega
theorem tl_d {hh:CHeap} (hf:Fit hh) {b1 pm p7:Nat} {FV O:CVal} {whole n:B8} {L:List CVal} {i4 d4 ix dx:Nat} {r:RW} {κ kk:Nat} (hκ1:1 ≤ κ) (hκ2:κ ≤ 17) {ty:B8} {acc:List RW} {tg:Tag} (hl9:acc.length ≤ 100) (e1:r.pk = 1) (e2:r.lab = 2) (e3:wN κ ≠ 2)
    (gm:zA1 hh.ents pm = some (.cells [.str whole,.nils,O])) (ha:acc = []) (gx:zA1 hh.ents ix = some (.cells [.int .i64 r.num,.str r.nm,.int .i64 r.lab,.int .i64 (κ:Int),.str ty,.int .i64 (kk:Int),.bool false,.int .i64 r.oo])) (g4:zA1 hh.ents i4 = some (.cells [.int .i64 r.lab,.str r.t,.str r.key,.str r.nm,.int .u64 r.num,.int .i64 r.pk,.int .i64 r.oo])) (n1:ix ≠ pm) (n2:i4 ≠ ix) (n3:i4 ≠ pm) (HO:PV1 O) {v0 v2 v3 v5 v8 v9 v10 v11 v13 v15 v16 v17 v18 v19 v20 v21 v22 v23 v24 v25 v26 v27:CVal} {Q:QT}
    (hk:∀ (v19 v20 v21 v22:CVal) n' i u,hh.next ≤ n' → hh.next ≤ i → i < n' → Q .normal ⟨[v0,.ptr b1 211812364 0,v2,v3,.ptr i4 d4 0,v5,.ptr pm 49283075 0,.ptr p7 49283075 0,v8,v9,v10,v11,.ptr ix dx 0,v13,FV,v15,v16,v17,v18,v19,v20,v21,v22,v23,v24,v25,v26,v27,.int .i64 0],⟨(i,.tok u) :: zA2 (zA2 hh.ents ix (.cells [.int .i64 r.num,.str r.nm,.int .i64 r.lab,.int .i64 (κ:Int),.str ty,.int .i64 (kk:Int),.bool true,.int .i64 r.oo])) pm (.cells [.str whole,.imm (.own i u) 8 ((acc.take (posR r acc)).map RW.pf ++ (.agg [.int .i64 r.num,.str r.nm,.int .i64 r.lab,.int .i64 (κ:Int),.str ty,.int .i64 (kk:Int),.bool true,.int .i64 r.oo]) :: (acc.drop (posR r acc)).map RW.pf),O]),n',hh.tys⟩,[]⟩) :
    W tree.getF zH4 ⟨[v0,.ptr b1 211812364 0,v2,v3,.ptr i4 d4 0,v5,.ptr pm 49283075 0,.ptr p7 49283075 0,v8,v9,v10,v11,.ptr ix dx 0,v13,FV,v15,v16,v17,v18,v19,v20,v21,v22,v23,v24,v25,v26,v27,.int .i64 0],hh,[]⟩ Q:=by
 obtain ⟨hu,hut,hX⟩:=fx4 hf
 have hY:=fx5 hf gx
 have s1:∀ X,zA1 (zA2 hh.ents ix X) pm = zA1 hh.ents pm:=fun X => zA0 (Ne.symm n1)
 have s2:∀ X,zA1 (zA2 hh.ents ix X) i4 = zA1 hh.ents i4:=fun X => zA0 n2
 have lx:=zA5 hu gx
 have lm:=zA5 hu gm
 obtain ⟨o1,o2,o3,o4,o5⟩:=HO
 simp only [CVal.isUndef,CVal.whole,CVal.cells,CVal.strip,CVal.bare] at o1 o2 o3 o4 o5
 have p1:(r.pk:Int) = 1:=by omega
 have p2:(r.lab:Int) = 2:=by omega
 simp only [p2] at hk
 repeat ((fail_if_success (show W tree.getF posL _ _)); first
  | refine st_ rfl ?_
  | ((first | refine W.regG ?_ | refine WoR.go ?_); generalize e:goR .. = r; simp (disch:=omega) [hX,hY,s1,s2,gm,gx,g4,o1,o2,o3,o4,o5,p1,p2,e3] at e; replace e:some _ = _:=e; subst e; (try dsimp only [goW]))
  | ((simp only [zAd,zA3,zA8,zAa,zAb,reduceIte]))
  | (refine pe_ (zGg κ hκ1 hκ2) fun _ g => ⟨rfl,?_⟩; (try dsimp only at g)))
 refine zJy (hh:=⟨_,_,_⟩) (r:=r) (L:=L) (n:=n) (whole:=whole) (O:=O) (x1:=.str r.nm) (x2:=.int .i64 2) (x3:=.int .i64 κ) (x4:=.str ty) (x5:=.int .i64 kk) (x6:=.bool true) (x7:=.int .i64 r.oo) ?_ ?_ ?_ (Nat.le_refl _) fun v22 n' g => ?_
 · exact ft_
 · dsimp only; rw [s1]; exact gm
 · dsimp only; rw [hY.1]
 dsimp only at g
 (simp only [zAd,zA3,zA8,zAa,zAb,reduceIte])
 subst ha
 have b1:=trivial
 have b2:=trivial
 have b3:=trivial
 have b4:=trivial
 have hZ:=j19_ hX hY s1 s2 gm gx g4 o1 o2 o3 o4 o5 p1 p2 e3 b1 b2 b3 b4
 try refine vk_ ?_
 refine hk _ _ _ _ _ _ _ ?_ ?_ ?_
 all_goals omega
theorem tl_e {hh:CHeap} (hf:Fit hh) {b1 pm p7:Nat} {FV O:CVal} {whole n:B8} {L:List CVal} {i4 d4 ix dx:Nat} {r:RW} {κ kk:Nat} (hκ1:1 ≤ κ) (hκ2:κ ≤ 17) {ty:B8} {acc:List RW} {tg:Tag} (hl9:acc.length ≤ 100) (e1:r.pk = 2) (e2:r.lab = 2) (e3:wN κ ≠ 2)
    (gm:zA1 hh.ents pm = some (.cells [.str whole,.nils,O])) (ha:acc = []) (gx:zA1 hh.ents ix = some (.cells [.int .i64 r.num,.str r.nm,.int .i64 r.lab,.int .i64 (κ:Int),.str ty,.int .i64 (kk:Int),.bool false,.int .i64 r.oo])) (g4:zA1 hh.ents i4 = some (.cells [.int .i64 r.lab,.str r.t,.str r.key,.str r.nm,.int .u64 r.num,.int .i64 r.pk,.int .i64 r.oo])) (n1:ix ≠ pm) (n2:i4 ≠ ix) (n3:i4 ≠ pm) (HO:PV1 O) {v0 v2 v3 v5 v8 v9 v10 v11 v13 v15 v16 v17 v18 v19 v20 v21 v22 v23 v24 v25 v26 v27:CVal} {Q:QT}
    (hk:∀ (v19 v20 v21 v22:CVal) n' i u,hh.next ≤ n' → hh.next ≤ i → i < n' → Q .normal ⟨[v0,.ptr b1 211812364 0,v2,v3,.ptr i4 d4 0,v5,.ptr pm 49283075 0,.ptr p7 49283075 0,v8,v9,v10,v11,.ptr ix dx 0,v13,FV,v15,v16,v17,v18,v19,v20,v21,v22,v23,v24,v25,v26,v27,.int .i64 0],⟨(i,.tok u) :: zA2 (zA2 hh.ents ix (.cells [.int .i64 r.num,.str r.nm,.int .i64 r.lab,.int .i64 (κ:Int),.str ty,.int .i64 (kk:Int),.bool false,.int .i64 r.oo])) pm (.cells [.str whole,.imm (.own i u) 8 ((acc.take (posR r acc)).map RW.pf ++ (.agg [.int .i64 r.num,.str r.nm,.int .i64 r.lab,.int .i64 (κ:Int),.str ty,.int .i64 (kk:Int),.bool false,.int .i64 r.oo]) :: (acc.drop (posR r acc)).map RW.pf),O]),n',hh.tys⟩,[]⟩) :
    W tree.getF zH4 ⟨[v0,.ptr b1 211812364 0,v2,v3,.ptr i4 d4 0,v5,.ptr pm 49283075 0,.ptr p7 49283075 0,v8,v9,v10,v11,.ptr ix dx 0,v13,FV,v15,v16,v17,v18,v19,v20,v21,v22,v23,v24,v25,v26,v27,.int .i64 0],hh,[]⟩ Q:=by
 obtain ⟨hu,hut,hX⟩:=fx4 hf
 have hY:=fx5 hf gx
 have s1:∀ X,zA1 (zA2 hh.ents ix X) pm = zA1 hh.ents pm:=fun X => zA0 (Ne.symm n1)
 have s2:∀ X,zA1 (zA2 hh.ents ix X) i4 = zA1 hh.ents i4:=fun X => zA0 n2
 have lx:=zA5 hu gx
 have lm:=zA5 hu gm
 obtain ⟨o1,o2,o3,o4,o5⟩:=HO
 simp only [CVal.isUndef,CVal.whole,CVal.cells,CVal.strip,CVal.bare] at o1 o2 o3 o4 o5
 have p1:(r.pk:Int) = 2:=by omega
 have p2:(r.lab:Int) = 2:=by omega
 simp only [p2] at hk
 repeat ((fail_if_success (show W tree.getF posL _ _)); first
  | refine st_ rfl ?_
  | ((first | refine W.regG ?_ | refine WoR.go ?_); generalize e:goR .. = r; simp (disch:=omega) [hX,hY,s1,s2,gm,gx,g4,o1,o2,o3,o4,o5,p1,p2,e3] at e; replace e:some _ = _:=e; subst e; (try dsimp only [goW]))
  | ((simp only [zAd,zA3,zA8,zAa,zAb,reduceIte]))
  | (refine pe_ (zGg κ hκ1 hκ2) fun _ g => ⟨rfl,?_⟩; (try dsimp only at g)))
 refine zJy (hh:=⟨_,_,_⟩) (r:=r) (L:=L) (n:=n) (whole:=whole) (O:=O) (x1:=.str r.nm) (x2:=.int .i64 2) (x3:=.int .i64 κ) (x4:=.str ty) (x5:=.int .i64 kk) (x6:=.bool false) (x7:=.int .i64 r.oo) ?_ ?_ ?_ (Nat.le_refl _) fun v22 n' g => ?_
 · exact ft_
 · dsimp only; rw [s1]; exact gm
 · dsimp only; rw [hY.1]
 dsimp only at g
 (simp only [zAd,zA3,zA8,zAa,zAb,reduceIte])
 subst ha
 have b1:=trivial
 have b2:=trivial
 have b3:=trivial
 have b4:=trivial
 have hZ:=j19_ hX hY s1 s2 gm gx g4 o1 o2 o3 o4 o5 p1 p2 e3 b1 b2 b3 b4
 try refine vk_ ?_
 refine hk _ _ _ _ _ _ _ ?_ ?_ ?_
 all_goals omega
theorem tm_a {hh:CHeap} (hf:Fit hh) {b1 pm p7:Nat} {FV O:CVal} {whole n:B8} {L:List CVal} {i4 d4 ix dx:Nat} {r:RW} {κ kk:Nat} (hκ1:1 ≤ κ) (hκ2:κ ≤ 17) {ty:B8} {acc:List RW} {tg:Tag} (hl9:acc.length ≤ 100) (e1:r.pk = 0) (e2:r.lab = 2) (e3:wN κ = 2)
    (gm:zA1 hh.ents pm = some (.cells [.str whole,.imm tg 8 (acc.map RW.pf),O]))  (gx:zA1 hh.ents ix = some (.cells [.int .i64 r.num,.str r.nm,.int .i64 r.lab,.int .i64 (κ:Int),.str ty,.int .i64 (kk:Int),.bool false,.int .i64 r.oo])) (g4:zA1 hh.ents i4 = some (.cells [.int .i64 r.lab,.str r.t,.str r.key,.str r.nm,.int .u64 r.num,.int .i64 r.pk,.int .i64 r.oo])) (n1:ix ≠ pm) (n2:i4 ≠ ix) (n3:i4 ≠ pm) (HO:PV1 O) {v0 v2 v3 v5 v8 v9 v10 v11 v13 v15 v16 v17 v18 v19 v20 v21 v22 v23 v24 v25 v26 v27:CVal} {Q:QT}
    (hk:∀ (v19 v20 v21 v22:CVal) n' i u,hh.next ≤ n' → hh.next ≤ i → i < n' → Q .normal ⟨[v0,.ptr b1 211812364 0,v2,v3,.ptr i4 d4 0,v5,.ptr pm 49283075 0,.ptr p7 49283075 0,v8,v9,v10,v11,.ptr ix dx 0,v13,FV,v15,v16,v17,v18,v19,v20,v21,v22,v23,v24,v25,v26,v27,.int .i64 0],⟨(i,.tok u) :: zA2 (zA2 hh.ents ix (.cells [.int .i64 r.num,.str r.nm,.int .i64 r.lab,.int .i64 (κ:Int),.str ty,.int .i64 (kk:Int),.bool false,.int .i64 r.oo])) pm (.cells [.str whole,.imm (.own i u) 8 ((acc.take (posR r acc)).map RW.pf ++ (.agg [.int .i64 r.num,.str r.nm,.int .i64 r.lab,.int .i64 (κ:Int),.str ty,.int .i64 (kk:Int),.bool false,.int .i64 r.oo]) :: (acc.drop (posR r acc)).map RW.pf),O]),n',hh.tys⟩,[]⟩) :
    W tree.getF zH4 ⟨[v0,.ptr b1 211812364 0,v2,v3,.ptr i4 d4 0,v5,.ptr pm 49283075 0,.ptr p7 49283075 0,v8,v9,v10,v11,.ptr ix dx 0,v13,FV,v15,v16,v17,v18,v19,v20,v21,v22,v23,v24,v25,v26,v27,.int .i64 0],hh,[]⟩ Q:=by
 obtain ⟨hu,hut,hX⟩:=fx4 hf
 have hY:=fx5 hf gx
 have s1:∀ X,zA1 (zA2 hh.ents ix X) pm = zA1 hh.ents pm:=fun X => zA0 (Ne.symm n1)
 have s2:∀ X,zA1 (zA2 hh.ents ix X) i4 = zA1 hh.ents i4:=fun X => zA0 n2
 have lx:=zA5 hu gx
 have lm:=zA5 hu gm
 obtain ⟨o1,o2,o3,o4,o5⟩:=HO
 simp only [CVal.isUndef,CVal.whole,CVal.cells,CVal.strip,CVal.bare] at o1 o2 o3 o4 o5
 have p1:(r.pk:Int) = 0:=by omega
 have p2:(r.lab:Int) = 2:=by omega
 simp only [p2] at hk
 repeat ((fail_if_success (show W tree.getF posL _ _)); first
  | refine st_ rfl ?_
  | ((first | refine W.regG ?_ | refine WoR.go ?_); generalize e:goR .. = r; simp (disch:=omega) [hX,hY,s1,s2,gm,gx,g4,o1,o2,o3,o4,o5,p1,p2,e3] at e; replace e:some _ = _:=e; subst e; (try dsimp only [goW]))
  | ((simp only [zAd,zA3,zA8,zAa,zAb,reduceIte]))
  | (refine pe_ (zGg κ hκ1 hκ2) fun _ g => ⟨rfl,?_⟩; (try dsimp only at g)))
 refine pos_go (hh:=⟨_,_,_⟩) (r:=r) (L:=L) (n:=n) (whole:=whole) (O:=O) (x1:=.str r.nm) (x2:=.int .i64 2) (x3:=.int .i64 κ) (x4:=.str ty) (x5:=.int .i64 kk) (x6:=.bool false) (x7:=.int .i64 r.oo) (acc:=acc) (tg:=tg) ?_ hl9 ?_ ?_ (fun v22 n' g => ?_) acc 0 _ _ rfl (by simp) (Nat.le_refl _)
 · exact ft_
 · dsimp only; rw [s1]; exact gm
 · dsimp only; rw [hY.1]
 dsimp only at g
 (simp only [zAd,zA3,zA8,zAa,zAb,reduceIte])
 have pl:=zJl r acc
 have z0:(acc.map RW.pf).length = acc.length:=by simp
 have b1:beqs (acc.map RW.pf) (acc.map RW.pf) = true:=zC2 _
 have b2:=trivial
 have b3:=trivial
 have b4:=trivial
 simp only [List.map_take,List.map_drop] at hk
 have z4:(acc.map RW.pf).map CVal.bare = acc.map RW.pf:=by rw [List.map_map]; rfl
 generalize posR r acc = ps at *
 generalize acc.map RW.pf = AL at *
 have z1:AL.length = acc.length:=z0
 have z5:List.take acc.length AL = AL:=by rw [← z1,List.take_length]
 have z2:(ps:Int) ≤ (acc.length:Int):=by omega
 have z3:(0:Int) ≤ (ps:Int):=by omega
 have zt:(AL.take ps).length + (AL.drop ps).length = acc.length:=by rw [← List.length_append,List.take_append_drop]; exact z0
 rcases zEq (l:=AL.take ps) (by rw [List.map_take,z4]) with ⟨w,ws,hT,zw,zws,lw⟩ | ⟨w,ws,hT,zw,zws,lw⟩ <;> rcases zEq (l:=AL.drop ps) (by rw [List.map_drop,z4]) with ⟨d,ds,hD,zd,zds,ld⟩ | ⟨d,ds,hD,zd,zds,ld⟩
 all_goals (
  have lw9:ws.length ≤ 100:=by omega
  have ld9:ds.length ≤ 100:=by omega
  simp only [CVal.bare,CVal.strip] at zw zd
  simp only [hT,hD,List.nil_append,List.cons_append] at hk
  have hZ:=j32_ hX hY s1 s2 gm gx g4 o1 o2 o3 o4 o5 p1 p2 e3 b1 b2 b3 b4 z1 z2 z3 z4 z5 hT hD zw zws zd zds lw9 ld9
  try refine vk_ ?_
  refine hk _ _ _ _ _ _ _ ?_ ?_ ?_
  all_goals omega)
theorem tm_b {hh:CHeap} (hf:Fit hh) {b1 pm p7:Nat} {FV O:CVal} {whole n:B8} {L:List CVal} {i4 d4 ix dx:Nat} {r:RW} {κ kk:Nat} (hκ1:1 ≤ κ) (hκ2:κ ≤ 17) {ty:B8} {acc:List RW} {tg:Tag} (hl9:acc.length ≤ 100) (e1:r.pk = 0) (e2:r.lab = 2) (e3:wN κ ≠ 2)
    (gm:zA1 hh.ents pm = some (.cells [.str whole,.imm tg 8 (acc.map RW.pf),O]))  (gx:zA1 hh.ents ix = some (.cells [.int .i64 r.num,.str r.nm,.int .i64 r.lab,.int .i64 (κ:Int),.str ty,.int .i64 (kk:Int),.bool false,.int .i64 r.oo])) (g4:zA1 hh.ents i4 = some (.cells [.int .i64 r.lab,.str r.t,.str r.key,.str r.nm,.int .u64 r.num,.int .i64 r.pk,.int .i64 r.oo])) (n1:ix ≠ pm) (n2:i4 ≠ ix) (n3:i4 ≠ pm) (HO:PV1 O) {v0 v2 v3 v5 v8 v9 v10 v11 v13 v15 v16 v17 v18 v19 v20 v21 v22 v23 v24 v25 v26 v27:CVal} {Q:QT}
    (hk:∀ (v19 v20 v21 v22:CVal) n' i u,hh.next ≤ n' → hh.next ≤ i → i < n' → Q .normal ⟨[v0,.ptr b1 211812364 0,v2,v3,.ptr i4 d4 0,v5,.ptr pm 49283075 0,.ptr p7 49283075 0,v8,v9,v10,v11,.ptr ix dx 0,v13,FV,v15,v16,v17,v18,v19,v20,v21,v22,v23,v24,v25,v26,v27,.int .i64 0],⟨(i,.tok u) :: zA2 (zA2 hh.ents ix (.cells [.int .i64 r.num,.str r.nm,.int .i64 r.lab,.int .i64 (κ:Int),.str ty,.int .i64 (kk:Int),.bool true,.int .i64 r.oo])) pm (.cells [.str whole,.imm (.own i u) 8 ((acc.take (posR r acc)).map RW.pf ++ (.agg [.int .i64 r.num,.str r.nm,.int .i64 r.lab,.int .i64 (κ:Int),.str ty,.int .i64 (kk:Int),.bool true,.int .i64 r.oo]) :: (acc.drop (posR r acc)).map RW.pf),O]),n',hh.tys⟩,[]⟩) :
    W tree.getF zH4 ⟨[v0,.ptr b1 211812364 0,v2,v3,.ptr i4 d4 0,v5,.ptr pm 49283075 0,.ptr p7 49283075 0,v8,v9,v10,v11,.ptr ix dx 0,v13,FV,v15,v16,v17,v18,v19,v20,v21,v22,v23,v24,v25,v26,v27,.int .i64 0],hh,[]⟩ Q:=by
 obtain ⟨hu,hut,hX⟩:=fx4 hf
 have hY:=fx5 hf gx
 have s1:∀ X,zA1 (zA2 hh.ents ix X) pm = zA1 hh.ents pm:=fun X => zA0 (Ne.symm n1)
 have s2:∀ X,zA1 (zA2 hh.ents ix X) i4 = zA1 hh.ents i4:=fun X => zA0 n2
 have lx:=zA5 hu gx
 have lm:=zA5 hu gm
 obtain ⟨o1,o2,o3,o4,o5⟩:=HO
 simp only [CVal.isUndef,CVal.whole,CVal.cells,CVal.strip,CVal.bare] at o1 o2 o3 o4 o5
 have p1:(r.pk:Int) = 0:=by omega
 have p2:(r.lab:Int) = 2:=by omega
 simp only [p2] at hk
 repeat ((fail_if_success (show W tree.getF posL _ _)); first
  | refine st_ rfl ?_
  | ((first | refine W.regG ?_ | refine WoR.go ?_); generalize e:goR .. = r; simp (disch:=omega) [hX,hY,s1,s2,gm,gx,g4,o1,o2,o3,o4,o5,p1,p2,e3] at e; replace e:some _ = _:=e; subst e; (try dsimp only [goW]))
  | ((simp only [zAd,zA3,zA8,zAa,zAb,reduceIte]))
  | (refine pe_ (zGg κ hκ1 hκ2) fun _ g => ⟨rfl,?_⟩; (try dsimp only at g)))
 refine pos_go (hh:=⟨_,_,_⟩) (r:=r) (L:=L) (n:=n) (whole:=whole) (O:=O) (x1:=.str r.nm) (x2:=.int .i64 2) (x3:=.int .i64 κ) (x4:=.str ty) (x5:=.int .i64 kk) (x6:=.bool true) (x7:=.int .i64 r.oo) (acc:=acc) (tg:=tg) ?_ hl9 ?_ ?_ (fun v22 n' g => ?_) acc 0 _ _ rfl (by simp) (Nat.le_refl _)
 · exact ft_
 · dsimp only; rw [s1]; exact gm
 · dsimp only; rw [hY.1]
 dsimp only at g
 (simp only [zAd,zA3,zA8,zAa,zAb,reduceIte])
 have pl:=zJl r acc
 have z0:(acc.map RW.pf).length = acc.length:=by simp
 have b1:beqs (acc.map RW.pf) (acc.map RW.pf) = true:=zC2 _
 have b2:=trivial
 have b3:=trivial
 have b4:=trivial
 simp only [List.map_take,List.map_drop] at hk
 have z4:(acc.map RW.pf).map CVal.bare = acc.map RW.pf:=by rw [List.map_map]; rfl
 generalize posR r acc = ps at *
 generalize acc.map RW.pf = AL at *
 have z1:AL.length = acc.length:=z0
 have z5:List.take acc.length AL = AL:=by rw [← z1,List.take_length]
 have z2:(ps:Int) ≤ (acc.length:Int):=by omega
 have z3:(0:Int) ≤ (ps:Int):=by omega
 have zt:(AL.take ps).length + (AL.drop ps).length = acc.length:=by rw [← List.length_append,List.take_append_drop]; exact z0
 rcases zEq (l:=AL.take ps) (by rw [List.map_take,z4]) with ⟨w,ws,hT,zw,zws,lw⟩ | ⟨w,ws,hT,zw,zws,lw⟩ <;> rcases zEq (l:=AL.drop ps) (by rw [List.map_drop,z4]) with ⟨d,ds,hD,zd,zds,ld⟩ | ⟨d,ds,hD,zd,zds,ld⟩
 all_goals (
  have lw9:ws.length ≤ 100:=by omega
  have ld9:ds.length ≤ 100:=by omega
  simp only [CVal.bare,CVal.strip] at zw zd
  simp only [hT,hD,List.nil_append,List.cons_append] at hk
  have hZ:=j32_ hX hY s1 s2 gm gx g4 o1 o2 o3 o4 o5 p1 p2 e3 b1 b2 b3 b4 z1 z2 z3 z4 z5 hT hD zw zws zd zds lw9 ld9
  try refine vk_ ?_
  refine hk _ _ _ _ _ _ _ ?_ ?_ ?_
  all_goals omega)
theorem tm_c {hh:CHeap} (hf:Fit hh) {b1 pm p7:Nat} {FV O:CVal} {whole n:B8} {L:List CVal} {i4 d4 ix dx:Nat} {r:RW} {κ kk:Nat} (hκ1:1 ≤ κ) (hκ2:κ ≤ 17) {ty:B8} {acc:List RW} {tg:Tag} (hl9:acc.length ≤ 100) (e1:r.pk = 0) (e2:r.lab ≠ 2)
    (gm:zA1 hh.ents pm = some (.cells [.str whole,.imm tg 8 (acc.map RW.pf),O]))  (gx:zA1 hh.ents ix = some (.cells [.int .i64 r.num,.str r.nm,.int .i64 r.lab,.int .i64 (κ:Int),.str ty,.int .i64 (kk:Int),.bool false,.int .i64 r.oo])) (g4:zA1 hh.ents i4 = some (.cells [.int .i64 r.lab,.str r.t,.str r.key,.str r.nm,.int .u64 r.num,.int .i64 r.pk,.int .i64 r.oo])) (n1:ix ≠ pm) (n2:i4 ≠ ix) (n3:i4 ≠ pm) (HO:PV1 O) {v0 v2 v3 v5 v8 v9 v10 v11 v13 v15 v16 v17 v18 v19 v20 v21 v22 v23 v24 v25 v26 v27:CVal} {Q:QT}
    (hk:∀ (v19 v20 v21 v22:CVal) n' i u,hh.next ≤ n' → hh.next ≤ i → i < n' → Q .normal ⟨[v0,.ptr b1 211812364 0,v2,v3,.ptr i4 d4 0,v5,.ptr pm 49283075 0,.ptr p7 49283075 0,v8,v9,v10,v11,.ptr ix dx 0,v13,FV,v15,v16,v17,v18,v19,v20,v21,v22,v23,v24,v25,v26,v27,.int .i64 0],⟨(i,.tok u) :: zA2 (zA2 hh.ents ix (.cells [.int .i64 r.num,.str r.nm,.int .i64 r.lab,.int .i64 (κ:Int),.str ty,.int .i64 (kk:Int),.bool false,.int .i64 r.oo])) pm (.cells [.str whole,.imm (.own i u) 8 ((acc.take (posR r acc)).map RW.pf ++ (.agg [.int .i64 r.num,.str r.nm,.int .i64 r.lab,.int .i64 (κ:Int),.str ty,.int .i64 (kk:Int),.bool false,.int .i64 r.oo]) :: (acc.drop (posR r acc)).map RW.pf),O]),n',hh.tys⟩,[]⟩) :
    W tree.getF zH4 ⟨[v0,.ptr b1 211812364 0,v2,v3,.ptr i4 d4 0,v5,.ptr pm 49283075 0,.ptr p7 49283075 0,v8,v9,v10,v11,.ptr ix dx 0,v13,FV,v15,v16,v17,v18,v19,v20,v21,v22,v23,v24,v25,v26,v27,.int .i64 0],hh,[]⟩ Q:=by
 obtain ⟨hu,hut,hX⟩:=fx4 hf
 have hY:=fx5 hf gx
 have s1:∀ X,zA1 (zA2 hh.ents ix X) pm = zA1 hh.ents pm:=fun X => zA0 (Ne.symm n1)
 have s2:∀ X,zA1 (zA2 hh.ents ix X) i4 = zA1 hh.ents i4:=fun X => zA0 n2
 have lx:=zA5 hu gx
 have lm:=zA5 hu gm
 obtain ⟨o1,o2,o3,o4,o5⟩:=HO
 simp only [CVal.isUndef,CVal.whole,CVal.cells,CVal.strip,CVal.bare] at o1 o2 o3 o4 o5
 have p1:(r.pk:Int) = 0:=by omega
 have p2:¬ (r.lab:Int) = 2:=by omega
 repeat ((fail_if_success (show W tree.getF posL _ _)); first
  | refine st_ rfl ?_
  | ((first | refine W.regG ?_ | refine WoR.go ?_); generalize e:goR .. = r; simp (disch:=omega) [hX,hY,s1,s2,gm,gx,g4,o1,o2,o3,o4,o5,p1,p2] at e; replace e:some _ = _:=e; subst e; (try dsimp only [goW]))
  | ((simp only [zAd,zA3,zA8,zAa,zAb,reduceIte]))
  | (refine pe_ (zGg κ hκ1 hκ2) fun _ g => ⟨rfl,?_⟩; (try dsimp only at g)))
 refine pos_go (hh:=⟨_,_,_⟩) (r:=r) (L:=L) (n:=n) (whole:=whole) (O:=O) (x1:=.str r.nm) (x2:=.int .i64 r.lab) (x3:=.int .i64 κ) (x4:=.str ty) (x5:=.int .i64 kk) (x6:=.bool false) (x7:=.int .i64 r.oo) (acc:=acc) (tg:=tg) ?_ hl9 ?_ ?_ (fun v22 n' g => ?_) acc 0 _ _ rfl (by simp) (Nat.le_refl _)
 · exact ft_
 · dsimp only; rw [s1]; exact gm
 · dsimp only; rw [hY.1]
 dsimp only at g
 (simp only [zAd,zA3,zA8,zAa,zAb,reduceIte])
 have pl:=zJl r acc
 have z0:(acc.map RW.pf).length = acc.length:=by simp
 have b1:beqs (acc.map RW.pf) (acc.map RW.pf) = true:=zC2 _
 have b2:=trivial
 have b3:=trivial
 have b4:=trivial
 simp only [List.map_take,List.map_drop] at hk
 have z4:(acc.map RW.pf).map CVal.bare = acc.map RW.pf:=by rw [List.map_map]; rfl
 generalize posR r acc = ps at *
 generalize acc.map RW.pf = AL at *
 have z1:AL.length = acc.length:=z0
 have z5:List.take acc.length AL = AL:=by rw [← z1,List.take_length]
 have z2:(ps:Int) ≤ (acc.length:Int):=by omega
 have z3:(0:Int) ≤ (ps:Int):=by omega
 have zt:(AL.take ps).length + (AL.drop ps).length = acc.length:=by rw [← List.length_append,List.take_append_drop]; exact z0
 rcases zEq (l:=AL.take ps) (by rw [List.map_take,z4]) with ⟨w,ws,hT,zw,zws,lw⟩ | ⟨w,ws,hT,zw,zws,lw⟩ <;> rcases zEq (l:=AL.drop ps) (by rw [List.map_drop,z4]) with ⟨d,ds,hD,zd,zds,ld⟩ | ⟨d,ds,hD,zd,zds,ld⟩
 all_goals (
  have lw9:ws.length ≤ 100:=by omega
  have ld9:ds.length ≤ 100:=by omega
  simp only [CVal.bare,CVal.strip] at zw zd
  simp only [hT,hD,List.nil_append,List.cons_append] at hk
  have hZ:=j31_ hX hY s1 s2 gm gx g4 o1 o2 o3 o4 o5 p1 p2 b1 b2 b3 b4 z1 z2 z3 z4 z5 hT hD zw zws zd zds lw9 ld9
  try refine vk_ ?_
  refine hk _ _ _ _ _ _ _ ?_ ?_ ?_
  all_goals omega)
theorem tm_d {hh:CHeap} (hf:Fit hh) {b1 pm p7:Nat} {FV O:CVal} {whole n:B8} {L:List CVal} {i4 d4 ix dx:Nat} {r:RW} {κ kk:Nat} (hκ1:1 ≤ κ) (hκ2:κ ≤ 17) {ty:B8} {acc:List RW} {tg:Tag} (hl9:acc.length ≤ 100) (e1:r.pk = 1) (e2:r.lab = 2) (e3:wN κ ≠ 2)
    (gm:zA1 hh.ents pm = some (.cells [.str whole,.imm tg 8 (acc.map RW.pf),O]))  (gx:zA1 hh.ents ix = some (.cells [.int .i64 r.num,.str r.nm,.int .i64 r.lab,.int .i64 (κ:Int),.str ty,.int .i64 (kk:Int),.bool false,.int .i64 r.oo])) (g4:zA1 hh.ents i4 = some (.cells [.int .i64 r.lab,.str r.t,.str r.key,.str r.nm,.int .u64 r.num,.int .i64 r.pk,.int .i64 r.oo])) (n1:ix ≠ pm) (n2:i4 ≠ ix) (n3:i4 ≠ pm) (HO:PV1 O) {v0 v2 v3 v5 v8 v9 v10 v11 v13 v15 v16 v17 v18 v19 v20 v21 v22 v23 v24 v25 v26 v27:CVal} {Q:QT}
    (hk:∀ (v19 v20 v21 v22:CVal) n' i u,hh.next ≤ n' → hh.next ≤ i → i < n' → Q .normal ⟨[v0,.ptr b1 211812364 0,v2,v3,.ptr i4 d4 0,v5,.ptr pm 49283075 0,.ptr p7 49283075 0,v8,v9,v10,v11,.ptr ix dx 0,v13,FV,v15,v16,v17,v18,v19,v20,v21,v22,v23,v24,v25,v26,v27,.int .i64 0],⟨(i,.tok u) :: zA2 (zA2 hh.ents ix (.cells [.int .i64 r.num,.str r.nm,.int .i64 r.lab,.int .i64 (κ:Int),.str ty,.int .i64 (kk:Int),.bool true,.int .i64 r.oo])) pm (.cells [.str whole,.imm (.own i u) 8 ((acc.take (posR r acc)).map RW.pf ++ (.agg [.int .i64 r.num,.str r.nm,.int .i64 r.lab,.int .i64 (κ:Int),.str ty,.int .i64 (kk:Int),.bool true,.int .i64 r.oo]) :: (acc.drop (posR r acc)).map RW.pf),O]),n',hh.tys⟩,[]⟩) :
    W tree.getF zH4 ⟨[v0,.ptr b1 211812364 0,v2,v3,.ptr i4 d4 0,v5,.ptr pm 49283075 0,.ptr p7 49283075 0,v8,v9,v10,v11,.ptr ix dx 0,v13,FV,v15,v16,v17,v18,v19,v20,v21,v22,v23,v24,v25,v26,v27,.int .i64 0],hh,[]⟩ Q:=by
 obtain ⟨hu,hut,hX⟩:=fx4 hf
 have hY:=fx5 hf gx
 have s1:∀ X,zA1 (zA2 hh.ents ix X) pm = zA1 hh.ents pm:=fun X => zA0 (Ne.symm n1)
 have s2:∀ X,zA1 (zA2 hh.ents ix X) i4 = zA1 hh.ents i4:=fun X => zA0 n2
 have lx:=zA5 hu gx
 have lm:=zA5 hu gm
 obtain ⟨o1,o2,o3,o4,o5⟩:=HO
 simp only [CVal.isUndef,CVal.whole,CVal.cells,CVal.strip,CVal.bare] at o1 o2 o3 o4 o5
 have p1:(r.pk:Int) = 1:=by omega
 have p2:(r.lab:Int) = 2:=by omega
 simp only [p2] at hk
 repeat ((fail_if_success (show W tree.getF posL _ _)); first
  | refine st_ rfl ?_
  | ((first | refine W.regG ?_ | refine WoR.go ?_); generalize e:goR .. = r; simp (disch:=omega) [hX,hY,s1,s2,gm,gx,g4,o1,o2,o3,o4,o5,p1,p2,e3] at e; replace e:some _ = _:=e; subst e; (try dsimp only [goW]))
  | ((simp only [zAd,zA3,zA8,zAa,zAb,reduceIte]))
  | (refine pe_ (zGg κ hκ1 hκ2) fun _ g => ⟨rfl,?_⟩; (try dsimp only at g)))
 refine pos_go (hh:=⟨_,_,_⟩) (r:=r) (L:=L) (n:=n) (whole:=whole) (O:=O) (x1:=.str r.nm) (x2:=.int .i64 2) (x3:=.int .i64 κ) (x4:=.str ty) (x5:=.int .i64 kk) (x6:=.bool true) (x7:=.int .i64 r.oo) (acc:=acc) (tg:=tg) ?_ hl9 ?_ ?_ (fun v22 n' g => ?_) acc 0 _ _ rfl (by simp) (Nat.le_refl _)
 · exact ft_
 · dsimp only; rw [s1]; exact gm
 · dsimp only; rw [hY.1]
 dsimp only at g
 (simp only [zAd,zA3,zA8,zAa,zAb,reduceIte])
 have pl:=zJl r acc
 have z0:(acc.map RW.pf).length = acc.length:=by simp
 have b1:beqs (acc.map RW.pf) (acc.map RW.pf) = true:=zC2 _
 have b2:=trivial
 have b3:=trivial
 have b4:=trivial
 simp only [List.map_take,List.map_drop] at hk
 have z4:(acc.map RW.pf).map CVal.bare = acc.map RW.pf:=by rw [List.map_map]; rfl
 generalize posR r acc = ps at *
 generalize acc.map RW.pf = AL at *
 have z1:AL.length = acc.length:=z0
 have z5:List.take acc.length AL = AL:=by rw [← z1,List.take_length]
 have z2:(ps:Int) ≤ (acc.length:Int):=by omega
 have z3:(0:Int) ≤ (ps:Int):=by omega
 have zt:(AL.take ps).length + (AL.drop ps).length = acc.length:=by rw [← List.length_append,List.take_append_drop]; exact z0
 rcases zEq (l:=AL.take ps) (by rw [List.map_take,z4]) with ⟨w,ws,hT,zw,zws,lw⟩ | ⟨w,ws,hT,zw,zws,lw⟩ <;> rcases zEq (l:=AL.drop ps) (by rw [List.map_drop,z4]) with ⟨d,ds,hD,zd,zds,ld⟩ | ⟨d,ds,hD,zd,zds,ld⟩
 all_goals (
  have lw9:ws.length ≤ 100:=by omega
  have ld9:ds.length ≤ 100:=by omega
  simp only [CVal.bare,CVal.strip] at zw zd
  simp only [hT,hD,List.nil_append,List.cons_append] at hk
  have hZ:=j32_ hX hY s1 s2 gm gx g4 o1 o2 o3 o4 o5 p1 p2 e3 b1 b2 b3 b4 z1 z2 z3 z4 z5 hT hD zw zws zd zds lw9 ld9
  try refine vk_ ?_
  refine hk _ _ _ _ _ _ _ ?_ ?_ ?_
  all_goals omega)
theorem tm_e {hh:CHeap} (hf:Fit hh) {b1 pm p7:Nat} {FV O:CVal} {whole n:B8} {L:List CVal} {i4 d4 ix dx:Nat} {r:RW} {κ kk:Nat} (hκ1:1 ≤ κ) (hκ2:κ ≤ 17) {ty:B8} {acc:List RW} {tg:Tag} (hl9:acc.length ≤ 100) (e1:r.pk = 2) (e2:r.lab = 2) (e3:wN κ ≠ 2)
    (gm:zA1 hh.ents pm = some (.cells [.str whole,.imm tg 8 (acc.map RW.pf),O]))  (gx:zA1 hh.ents ix = some (.cells [.int .i64 r.num,.str r.nm,.int .i64 r.lab,.int .i64 (κ:Int),.str ty,.int .i64 (kk:Int),.bool false,.int .i64 r.oo])) (g4:zA1 hh.ents i4 = some (.cells [.int .i64 r.lab,.str r.t,.str r.key,.str r.nm,.int .u64 r.num,.int .i64 r.pk,.int .i64 r.oo])) (n1:ix ≠ pm) (n2:i4 ≠ ix) (n3:i4 ≠ pm) (HO:PV1 O) {v0 v2 v3 v5 v8 v9 v10 v11 v13 v15 v16 v17 v18 v19 v20 v21 v22 v23 v24 v25 v26 v27:CVal} {Q:QT}
    (hk:∀ (v19 v20 v21 v22:CVal) n' i u,hh.next ≤ n' → hh.next ≤ i → i < n' → Q .normal ⟨[v0,.ptr b1 211812364 0,v2,v3,.ptr i4 d4 0,v5,.ptr pm 49283075 0,.ptr p7 49283075 0,v8,v9,v10,v11,.ptr ix dx 0,v13,FV,v15,v16,v17,v18,v19,v20,v21,v22,v23,v24,v25,v26,v27,.int .i64 0],⟨(i,.tok u) :: zA2 (zA2 hh.ents ix (.cells [.int .i64 r.num,.str r.nm,.int .i64 r.lab,.int .i64 (κ:Int),.str ty,.int .i64 (kk:Int),.bool false,.int .i64 r.oo])) pm (.cells [.str whole,.imm (.own i u) 8 ((acc.take (posR r acc)).map RW.pf ++ (.agg [.int .i64 r.num,.str r.nm,.int .i64 r.lab,.int .i64 (κ:Int),.str ty,.int .i64 (kk:Int),.bool false,.int .i64 r.oo]) :: (acc.drop (posR r acc)).map RW.pf),O]),n',hh.tys⟩,[]⟩) :
    W tree.getF zH4 ⟨[v0,.ptr b1 211812364 0,v2,v3,.ptr i4 d4 0,v5,.ptr pm 49283075 0,.ptr p7 49283075 0,v8,v9,v10,v11,.ptr ix dx 0,v13,FV,v15,v16,v17,v18,v19,v20,v21,v22,v23,v24,v25,v26,v27,.int .i64 0],hh,[]⟩ Q:=by
 obtain ⟨hu,hut,hX⟩:=fx4 hf
 have hY:=fx5 hf gx
 have s1:∀ X,zA1 (zA2 hh.ents ix X) pm = zA1 hh.ents pm:=fun X => zA0 (Ne.symm n1)
 have s2:∀ X,zA1 (zA2 hh.ents ix X) i4 = zA1 hh.ents i4:=fun X => zA0 n2
 have lx:=zA5 hu gx
 have lm:=zA5 hu gm
 obtain ⟨o1,o2,o3,o4,o5⟩:=HO
 simp only [CVal.isUndef,CVal.whole,CVal.cells,CVal.strip,CVal.bare] at o1 o2 o3 o4 o5
 have p1:(r.pk:Int) = 2:=by omega
 have p2:(r.lab:Int) = 2:=by omega
 simp only [p2] at hk
 repeat ((fail_if_success (show W tree.getF posL _ _)); first
  | refine st_ rfl ?_
  | ((first | refine W.regG ?_ | refine WoR.go ?_); generalize e:goR .. = r; simp (disch:=omega) [hX,hY,s1,s2,gm,gx,g4,o1,o2,o3,o4,o5,p1,p2,e3] at e; replace e:some _ = _:=e; subst e; (try dsimp only [goW]))
  | ((simp only [zAd,zA3,zA8,zAa,zAb,reduceIte]))
  | (refine pe_ (zGg κ hκ1 hκ2) fun _ g => ⟨rfl,?_⟩; (try dsimp only at g)))
 refine pos_go (hh:=⟨_,_,_⟩) (r:=r) (L:=L) (n:=n) (whole:=whole) (O:=O) (x1:=.str r.nm) (x2:=.int .i64 2) (x3:=.int .i64 κ) (x4:=.str ty) (x5:=.int .i64 kk) (x6:=.bool false) (x7:=.int .i64 r.oo) (acc:=acc) (tg:=tg) ?_ hl9 ?_ ?_ (fun v22 n' g => ?_) acc 0 _ _ rfl (by simp) (Nat.le_refl _)
 · exact ft_
 · dsimp only; rw [s1]; exact gm
 · dsimp only; rw [hY.1]
 dsimp only at g
 (simp only [zAd,zA3,zA8,zAa,zAb,reduceIte])
 have pl:=zJl r acc
 have z0:(acc.map RW.pf).length = acc.length:=by simp
 have b1:beqs (acc.map RW.pf) (acc.map RW.pf) = true:=zC2 _
 have b2:=trivial
 have b3:=trivial
 have b4:=trivial
 simp only [List.map_take,List.map_drop] at hk
 have z4:(acc.map RW.pf).map CVal.bare = acc.map RW.pf:=by rw [List.map_map]; rfl
 generalize posR r acc = ps at *
 generalize acc.map RW.pf = AL at *
 have z1:AL.length = acc.length:=z0
 have z5:List.take acc.length AL = AL:=by rw [← z1,List.take_length]
 have z2:(ps:Int) ≤ (acc.length:Int):=by omega
 have z3:(0:Int) ≤ (ps:Int):=by omega
 have zt:(AL.take ps).length + (AL.drop ps).length = acc.length:=by rw [← List.length_append,List.take_append_drop]; exact z0
 rcases zEq (l:=AL.take ps) (by rw [List.map_take,z4]) with ⟨w,ws,hT,zw,zws,lw⟩ | ⟨w,ws,hT,zw,zws,lw⟩ <;> rcases zEq (l:=AL.drop ps) (by rw [List.map_drop,z4]) with ⟨d,ds,hD,zd,zds,ld⟩ | ⟨d,ds,hD,zd,zds,ld⟩
 all_goals (
  have lw9:ws.length ≤ 100:=by omega
  have ld9:ds.length ≤ 100:=by omega
  simp only [CVal.bare,CVal.strip] at zw zd
  simp only [hT,hD,List.nil_append,List.cons_append] at hk
  have hZ:=j32_ hX hY s1 s2 gm gx g4 o1 o2 o3 o4 o5 p1 p2 e3 b1 b2 b3 b4 z1 z2 z3 z4 z5 hT hD zw zws zd zds lw9 ld9
  try refine vk_ ?_
  refine hk _ _ _ _ _ _ _ ?_ ?_ ?_
  all_goals omega)
theorem RW.ok.kind {r:RW} (h:r.ok):1 ≤ r.kind ∧ r.kind ≤ 17:=by
 have hk:=zFf _ h.t
 unfold RW.kind
 split
 · split <;> omega
 · omega
theorem tail_F {hh:CHeap} (hf:Fit hh) {b1 pm p7:Nat} {FV O:CVal} {whole n:B8} {L:List CVal} {i4 d4 ix dx:Nat} {r:RW} (ro:r.ok) {acc:List RW} (hl9:acc.length ≤ 100) {Fv:CVal} (hF:(Fv = .nils ∧ acc = []) ∨ ∃ tg,Fv = .imm tg 8 (acc.map RW.pf))
    (gm:zA1 hh.ents pm = some (.cells [.str whole,Fv,O])) (gx:zA1 hh.ents ix = some (.cells [.int .i64 r.num,.str r.nm,.int .i64 r.lab,.int .i64 (r.kind:Int),.str r.ty,.int .i64 (zBx r.key:Int),.bool false,.int .i64 r.oo])) (g4:zA1 hh.ents i4 = some (.cells [.int .i64 r.lab,.str r.t,.str r.key,.str r.nm,.int .u64 r.num,.int .i64 r.pk,.int .i64 r.oo])) (n1:ix ≠ pm) (n2:i4 ≠ ix) (n3:i4 ≠ pm) (HO:PV1 O) {v0 v2 v3 v5 v8 v9 v10 v11 v13 v15 v16 v17 v18 v19 v20 v21 v22 v23 v24 v25 v26 v27:CVal} {Q:QT}
    (hk:∀ (v19 v20 v21 v22:CVal) n' i u,hh.next ≤ n' → hh.next ≤ i → i < n' → Q .normal ⟨[v0,.ptr b1 211812364 0,v2,v3,.ptr i4 d4 0,v5,.ptr pm 49283075 0,.ptr p7 49283075 0,v8,v9,v10,v11,.ptr ix dx 0,v13,FV,v15,v16,v17,v18,v19,v20,v21,v22,v23,v24,v25,v26,v27,.int .i64 0],⟨(i,.tok u) :: zA2 (zA2 hh.ents ix (.cells [.int .i64 r.num,.str r.nm,.int .i64 r.lab,.int .i64 (r.kind:Int),.str r.ty,.int .i64 (zBx r.key:Int),.bool r.pkd,.int .i64 r.oo])) pm (.cells [.str whole,.imm (.own i u) 8 ((insR r acc).map RW.pf),O]),n',hh.tys⟩,[]⟩) :
    W tree.getF zH4 ⟨[v0,.ptr b1 211812364 0,v2,v3,.ptr i4 d4 0,v5,.ptr pm 49283075 0,.ptr p7 49283075 0,v8,v9,v10,v11,.ptr ix dx 0,v13,FV,v15,v16,v17,v18,v19,v20,v21,v22,v23,v24,v25,v26,v27,.int .i64 0],hh,[]⟩ Q:=by
 obtain ⟨k1,k2⟩:=ro.kind
 have hp:=ro.pk
 have hp2:=ro.pk2
 rw [insR_pos,List.map_append,List.map_cons] at hk
 unfold RW.pf at hk
 have hD:(r.pk = 0 ∧ r.lab = 2 ∧ wN r.kind = 2) ∨ (r.pk = 0 ∧ r.lab = 2 ∧ wN r.kind ≠ 2) ∨ (r.pk = 0 ∧ r.lab ≠ 2) ∨ (r.pk = 1 ∧ r.lab = 2 ∧ wN r.kind ≠ 2) ∨ (r.pk = 2 ∧ r.lab = 2 ∧ wN r.kind ≠ 2):=by
  by_cases e0:r.pk = 0
  · by_cases e1:r.lab = 2
    · by_cases e2:wN r.kind = 2
      · exact .inl ⟨e0,e1,e2⟩
      · exact .inr (.inl ⟨e0,e1,e2⟩)
    · exact .inr (.inr (.inl ⟨e0,e1⟩))
  · obtain ⟨e1,e2⟩:=hp2 e0
    rcases (show r.pk = 1 ∨ r.pk = 2 by omega) with e | e
    · exact .inr (.inr (.inr (.inl ⟨e,e1,e2⟩)))
    · exact .inr (.inr (.inr (.inr ⟨e,e1,e2⟩)))
 rcases hD with ⟨e1,e2,e3⟩ | ⟨e1,e2,e3⟩ | ⟨e1,e2⟩ | ⟨e1,e2,e3⟩ | ⟨e1,e2,e3⟩
 · rw [show r.pkd = false from (by unfold RW.pkd; rw [e2,e3]; simp)] at hk
   rcases hF with ⟨rfl,ha⟩ | ⟨tg,rfl⟩
   · exact tl_a (L:=L) (n:=n) (tg:=.none) hf k1 k2 hl9 e1 e2 e3 gm ha gx g4 n1 n2 n3 HO hk
   · exact tm_a (L:=L) (n:=n) hf k1 k2 hl9 e1 e2 e3 gm gx g4 n1 n2 n3 HO hk
 · rw [show r.pkd = true from (by unfold RW.pkd; rw [e1,e2]; simp [e3])] at hk
   rcases hF with ⟨rfl,ha⟩ | ⟨tg,rfl⟩
   · exact tl_b (L:=L) (n:=n) (tg:=.none) hf k1 k2 hl9 e1 e2 e3 gm ha gx g4 n1 n2 n3 HO hk
   · exact tm_b (L:=L) (n:=n) hf k1 k2 hl9 e1 e2 e3 gm gx g4 n1 n2 n3 HO hk
 · rw [show r.pkd = false from (by unfold RW.pkd; simp [e2])] at hk
   rcases hF with ⟨rfl,ha⟩ | ⟨tg,rfl⟩
   · exact tl_c (L:=L) (n:=n) (tg:=.none) hf k1 k2 hl9 e1 e2 gm ha gx g4 n1 n2 n3 HO hk
   · exact tm_c (L:=L) (n:=n) hf k1 k2 hl9 e1 e2 gm gx g4 n1 n2 n3 HO hk
 · rw [show r.pkd = true from (by unfold RW.pkd; rw [e1,e2]; simp [e3])] at hk
   rcases hF with ⟨rfl,ha⟩ | ⟨tg,rfl⟩
   · exact tl_d (L:=L) (n:=n) (tg:=.none) hf k1 k2 hl9 e1 e2 e3 gm ha gx g4 n1 n2 n3 HO hk
   · exact tm_d (L:=L) (n:=n) hf k1 k2 hl9 e1 e2 e3 gm gx g4 n1 n2 n3 HO hk
 · rw [show r.pkd = false from (by unfold RW.pkd; rw [e1,e2]; simp)] at hk
   rcases hF with ⟨rfl,ha⟩ | ⟨tg,rfl⟩
   · exact tl_e (L:=L) (n:=n) (tg:=.none) hf k1 k2 hl9 e1 e2 e3 gm ha gx g4 n1 n2 n3 HO hk
   · exact tm_e (L:=L) (n:=n) hf k1 k2 hl9 e1 e2 e3 gm gx g4 n1 n2 n3 HO hk
end Go.Proofs.YtcokdlfmnhjngaaGreat.IrE
