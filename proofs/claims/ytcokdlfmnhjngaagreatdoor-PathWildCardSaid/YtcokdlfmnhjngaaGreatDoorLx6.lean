/- What the functions of the law 'PathWild' do: part 6 of 8. -/
import Derived.Test.YtcokdlfmnhjngaaGreatDoorLx5
namespace Go.Proofs.YtcokdlfmnhjngaaGreatDoor.IrW
open Go Go.CI
set_option maxRecDepth 100000
set_option maxHeartbeats 4000000
set_option linter.unusedVariables false
set_option linter.unusedSimpArgs false
attribute [local irreducible] W Wo Wc WoR
theorem ge2_ {P:Prop} (h:P:=by first | exact hg | exact hZ.2.1 _ | ((try dsimp only);exact hg) | ((try dsimp only);exact hZ.2.1 _) | (simp (disch:=omega) [zA1,zA2,zCf,zCg,zAc,zA0,hZ];done) | (simp (disch:=omega) [zA1,zA2,zCf,zCg,zAc,zA0,hZ];omega)):P:=h
theorem lt_ {a b:Nat} (h:a<b:=by (try dsimp only);omega):a<b:=h
theorem un_ {l:EE} {n:Nat} (h:Under l n:=by repeat (first | exact hu.le (by (try dsimp only);omega) | exact hu.set.le (by (try dsimp only);omega) | exact hu.set.set.le (by (try dsimp only);omega) | refine Under.cons (by (try dsimp only);omega) ?_ | exact Under.nil)):Under l n:=h
theorem fx6 {h:CHeap} {p:Nat} {oP:CObj} (hf:Fit h) (hg:zA1 h.ents p=some oP):(zA1 h.ents p=some oP)∧(∀ x,zA1 (zA2 h.ents p x) p=some x)∧(∀ x m,h.next≤m→zB8 (zA2 h.ents p x) m=zA2 h.ents p x)∧(∀ x m,h.next≤m→zAa (zA2 h.ents p x) m=zA2 h.ents p x)∧(∀ x q,h.next≤q→zA1 (zA2 h.ents p x) q=none):=⟨hg,fx5 hf hg⟩
theorem ix1_n (s:B8) (c:UInt8) (hl:s.length<100000) (hs:s≠[c]) (hs2:([c] == s)=false) (hs3:(s == [c])=false):Pe 86 [.str s,.str [c]] (.int .i64 (idxFrom c s 0)):=by
 intro h hf K hk
 obtain ⟨hu,hut,hX⟩:=fx4 hf
 refine Wc.mkG 86 c86 (by kernel_rfl) rfl ?_
 generalize e:zB9 .. = r
 simp (disch:=omega) [c86] at e
 subst e
 repeat (first
  | refine st_ rfl ?_
  | ((first | refine W.regG ?_ | refine WoR.go ?_);generalize e:goR .. = r;simp (disch:=omega) [hX,UInt8.ofNat_toNat,hs,hs2,hs3,c86,c117,c141] at e;replace e:some _=_:=e;subst e;(try dsimp only [goW]))
  | (refine Wc.mkG 117 c117 (by kernel_rfl) rfl ?_;generalize e:zB9 .. = r;simp (disch:=omega) [c117] at e;subst e)
  | (refine Wc.mkG 141 c141 (by kernel_rfl) rfl ?_;generalize e:zB9 .. = r;simp (disch:=omega) [c141] at e;subst e)
  | (refine Wc.primM (f:=159) (p:=zC8) (by kernel_rfl) ?_;generalize e:zC8 _ _=r;simp (disch:=omega) [hX,UInt8.ofNat_toNat,hs,hs2,hs3,c86,c117,c141] at e;subst e;(try dsimp only);refine ⟨rfl,?_⟩)
  | ((first | (refine W.ret ?_;(try simp only [zAb,zA4,zA3,zA8,reduceIte]);refine endW.of (.inl rfl) rfl ?_) | refine endW.of (.inl rfl) rfl ?_ | refine endW.of (.inr rfl) rfl ?_);generalize e:zBe .. = r;simp (disch:=omega) [hX,UInt8.ofNat_toNat,hs,hs2,hs3,c86,c117,c141] at e;subst e;(first | refine ⟨rfl,?_⟩ | (refine hk _ ?_;omega))))
theorem ix1_y (c:UInt8):Pe 86 [.str [c],.str [c]] (.int .i64 0):=by
 intro h hf K hk
 obtain ⟨hu,hut,hX⟩:=fx4 hf
 refine Wc.mkG 86 c86 (by kernel_rfl) rfl ?_
 generalize e:zB9 .. = r
 simp (disch:=omega) [c86] at e
 subst e
 repeat (first
  | refine st_ rfl ?_
  | ((first | refine W.regG ?_ | refine WoR.go ?_);generalize e:goR .. = r;simp (disch:=omega) [hX,UInt8.ofNat_toNat,c86,c117,c141] at e;replace e:some _=_:=e;subst e;(try dsimp only [goW]))
  | (refine Wc.mkG 117 c117 (by kernel_rfl) rfl ?_;generalize e:zB9 .. = r;simp (disch:=omega) [c117] at e;subst e)
  | (refine Wc.mkG 141 c141 (by kernel_rfl) rfl ?_;generalize e:zB9 .. = r;simp (disch:=omega) [c141] at e;subst e)
  | (refine Wc.primM (f:=159) (p:=zC8) (by kernel_rfl) ?_;generalize e:zC8 _ _=r;simp (disch:=omega) [hX,UInt8.ofNat_toNat,c86,c117,c141] at e;subst e;(try dsimp only);refine ⟨rfl,?_⟩)
  | ((first | (refine W.ret ?_;(try simp only [zAb,zA4,zA3,zA8,reduceIte]);refine endW.of (.inl rfl) rfl ?_) | refine endW.of (.inl rfl) rfl ?_ | refine endW.of (.inr rfl) rfl ?_);generalize e:zBe .. = r;simp (disch:=omega) [hX,UInt8.ofNat_toNat,c86,c117,c141] at e;subst e;(first | refine ⟨rfl,?_⟩ | (refine hk _ ?_;omega))))
theorem ix1_F (s:B8) (c:UInt8) (hl:s.length<100000):Pe 86 [.str s,.str [c]] (.int .i64 (idxFrom c s 0)):=by
 by_cases hs:s=[c]
 · subst hs
   have:idxFrom c [c] 0=0:=by simp [idxFrom]
   rw [this];exact ix1_y c
 · exact ix1_n s c hl hs (by simp;exact fun e=>hs e.symm) (by simpa using hs)
def inSet (bs:List CVal) (c:UInt8) (v:Bool):Prop:=nth bs c.toNat=.bool v
theorem zKi (p d:Nat) (bs:List CVal) (c:UInt8) (v:Bool) (hv:inSet bs c v) (hl:bs.length=256) (h:CHeap) (hg:zA1 h.ents p=some (.cells bs)) (hu:Under h.ents h.next) (K:KT) (hk:∀ n',h.next≤n'→K (.bool v) { h with next:=n' }):Wc tree.getF 137 [.ptr p d 0,.int .u8 (c.toNat:Int)] h K:=by
 have hD:=zBp hu
 have hc:c.toNat<256:=c.toNat_lt
 have hv2:nth bs c.toNat=.bool v:=hv
 refine Wc.mk' (fn:=c137) (by kernel_rfl) rfl ?_
 repeat (first | refine st_ rfl ?_ | ((first | refine rg_ ?_ | refine go_ ?_);generalize e:goR _ _ _ _ _ _ _ _=r;simp (disch:=omega) [c137,hD,hg,hl,hv2] at e;replace e:some _=_:=e;subst e;(try dsimp only [goW])))
 refine W.ret ?_
 try simp only [zAb,zA4]
 refine endW.intro rfl ?_
 generalize e:zBe _ _ _=r
 simp (disch:=omega) [c137,hD,hg,hl,hv2] at e
 subst e
 try dsimp only
 refine hk _ ?_;omega
def marks:List CVal→B8→List CVal
 | bs,[]=>bs
 | bs,c::r=>marks (setCells bs c.toNat [.bool true]) r
theorem zHw (bs:List CVal) (c:Nat) (hc:c<bs.length) (x:CVal):(setCells bs c [x]).length=bs.length:=by
 simp [setCells];omega
abbrev setLoop:CCode:=(.loop true (.seq (.seq (.R [.v 0,.v 1,.g (.len true (.loc 0)),.h .lss 2 0] [(2,3)]) (.cond (.var 2) .skip (.exit 0))) (.seq (.block 1 (.seq (.R [.v 1,.v 0,.g (.idxStr (.loc 1) (.loc 0)),.m (.loc 0)] [(3,3)]) (.seq (.seq (.R [.v 3,.x .geq 0 (.u 128)] [(4,1)]) (.cond (.var 4) (.seq (.R [.y 256 5,.t 256 5 0,.m (.b false)] [(6,2)]) .ret) .skip)) (.R [.v 3,.g (.arrAddr 256 1 (.var 5) (.loc 0)),.g (.store 1 (.loc 0) (.b true))] [])))) (.R [.v 0,.x .add 0 (.k 1),.m (.loc 0)] [(0,2)]))))
theorem set_loop (s:B8) (p d:Nat) (hs:s.length<1073741824) (Q:QT):∀ (r:B8) (i:Nat),s.drop i=r→(∀ c ∈ r,c.toNat<128)→∀ (bs:List CVal),bs.length=256→∀ (h:CHeap) (b2 b3 b4 b6:CVal),zA1 h.ents p=some (.cells bs)→Under h.ents h.next →
    (∀ n' c0 c2 c3 c4,h.next≤n'→Q (.exit 0) ⟨[c0,.str s,c2,c3,c4,.ptr p d 0,b6],{ h with ents:=zA2 h.ents p (.cells (marks bs r)),next:=n' },[]⟩) →
    W tree.getF setLoop ⟨[.int .i64 i,.str s,b2,b3,b4,.ptr p d 0,b6],h,[]⟩ Q:=by
 intro r
 induction r with
 | nil =>
  intro i hi _ bs hbl h b2 b3 b4 b6 hg hu hq
  have hle:s.length≤i:=List.drop_eq_nil_iff.1 hi
  refine W.loop ?_
  repeat (first | refine st_ rfl ?_ | ((first | refine rg_ ?_ | refine go_ ?_);generalize e:goR _ _ _ _ _ _ _ _=r;simp (disch:=omega) [hg] at e;replace e:some _=_:=e;subst e;(try dsimp only [goW])))
  have:=hq (h.next+4) (.int .i64 i) (.bool false) b3 b4 (by omega)
  rw [show marks bs []=bs from rfl,zB7 hg] at this
  exact this
 | cons c r ih =>
  intro i hi hr bs hbl h b2 b3 b4 b6 hg hu hq
  have hc:c.toNat<128:=hr c (List.mem_cons_self ..)
  have hlt:i<s.length:=by
   rcases Nat.lt_or_ge i s.length with h1 | h1
   · exact h1
   · rw [List.drop_eq_nil_of_le h1] at hi;cases hi
  have hget:s[i]=c:=by
   have h1:=List.drop_eq_getElem_cons hlt
   rw [hi] at h1
   exact (List.cons.inj h1).1.symm
  have hi2:s.drop (i+1)=r:=by
   have h1:=List.drop_eq_getElem_cons hlt
   rw [hi] at h1
   exact (List.cons.inj h1).2.symm
  have hget2:s[i]? = some c:=by rw [List.getElem?_eq_getElem hlt,hget]
  have hC:∀ x,zAa (zA2 h.ents p x) h.next=zA2 h.ents p x:=fun x=>zAk hu.set
  have hG:∀ x,zA1 (zA2 h.ents p x) p=some x:=fun x=>zA9 hg
  have hcl:c.toNat<bs.length:=by omega
  refine W.loop ?_
  repeat (first | refine st_ rfl ?_ | ((first | refine rg_ ?_ | refine go_ ?_);generalize e:goR _ _ _ _ _ _ _ _=r;simp (disch:=omega) [hg,hC,hG,hget2,hbl,hget] at e;replace e:some _=_:=e;subst e;(try dsimp only [goW])))
  show W tree.getF setLoop (dropped true _ _) Q
  generalize e:dropped _ _ _=r
  simp (disch:=omega) [hg,hC] at e
  subst e
  try dsimp only
  refine ih (i+1) hi2 (fun c hc=>hr c (List.mem_cons_of_mem _ hc)) (setCells bs c.toNat [.bool true]) (by rw [zHw _ _ hcl];exact hbl) _ _ _ _ _ (by exact hG _) (hu.set.le (by (try dsimp only);omega)) (fun n' c0 c2 c3 c4 hn=>?_)
  have:=hq n' c0 c2 c3 c4 (by dsimp only at hn;omega)
  rw [zAc]
  exact this
def zCh:List CVal:=List.replicate 256 (.bool false)
theorem zJb:∀ (r:B8) (bs:List CVal),bs.length=256→(marks bs r).length=256
 | [],_,h=>h
 | c::r,bs,h=>zJb r _ (by rw [zHw _ _ (by have:=c.toNat_lt;omega)];exact h)
theorem zG7:∀ (r:B8) (bs:List CVal),bs.map CVal.strip=bs→(marks bs r).map CVal.strip=marks bs r
 | [],_,h=>h
 | c::r,bs,h=>zG7 r _ (by simp only [setCells,List.map_append,List.map_take,List.map_drop,h];rfl)
theorem makeSet_spec (s:B8) (hs:s.length<1073741824) (hr:∀ c ∈ s,c.toNat<128) (h:CHeap) (hu:Under h.ents h.next) (K:KT)
    (hk:∀ n',h.next≤n'→K (.tup [.agg (marks zCh s),.bool true]) { h with next:=n' }):Wc tree.getF 109 [.str s] h K:=by
 have hD:=zBp hu
 have hml:=zJb s zCh rfl
 have hst:=zG7 s zCh rfl
 have htk:List.take 256 (marks zCh s)=marks zCh s:=by rw [← hml,List.take_length]
 refine Wc.mk' (fn:=c109) (by kernel_rfl) rfl ?_
 refine W.seq ?_
 refine W.reg ?_
 generalize e:stepR _ _ _=r
 simp (disch:=omega) at e
 subst e
 try dsimp only
 rw [show ([.bool false,.bool false,.bool false,.bool false,.bool false,.bool false,.bool false,.bool false,.bool false,.bool false,.bool false,.bool false,.bool false,.bool false,.bool false,.bool false,.bool false,.bool false,.bool false,.bool false,.bool false,.bool false,.bool false,.bool false,.bool false,.bool false,.bool false,.bool false,.bool false,.bool false,.bool false,.bool false,.bool false,.bool false,.bool false,.bool false,.bool false,.bool false,.bool false,.bool false,.bool false,.bool false,.bool false,.bool false,.bool false,.bool false,.bool false,.bool false,.bool false,.bool false,.bool false,.bool false,.bool false,.bool false,.bool false,.bool false,.bool false,.bool false,.bool false,.bool false,.bool false,.bool false,.bool false,.bool false,.bool false,.bool false,.bool false,.bool false,.bool false,.bool false,.bool false,.bool false,.bool false,.bool false,.bool false,.bool false,.bool false,.bool false,.bool false,.bool false,.bool false,.bool false,.bool false,.bool false,.bool false,.bool false,.bool false,.bool false,.bool false,.bool false,.bool false,.bool false,.bool false,.bool false,.bool false,.bool false,.bool false,.bool false,.bool false,.bool false,.bool false,.bool false,.bool false,.bool false,.bool false,.bool false,.bool false,.bool false,.bool false,.bool false,.bool false,.bool false,.bool false,.bool false,.bool false,.bool false,.bool false,.bool false,.bool false,.bool false,.bool false,.bool false,.bool false,.bool false,.bool false,.bool false,.bool false,.bool false,.bool false,.bool false,.bool false,.bool false,.bool false,.bool false,.bool false,.bool false,.bool false,.bool false,.bool false,.bool false,.bool false,.bool false,.bool false,.bool false,.bool false,.bool false,.bool false,.bool false,.bool false,.bool false,.bool false,.bool false,.bool false,.bool false,.bool false,.bool false,.bool false,.bool false,.bool false,.bool false,.bool false,.bool false,.bool false,.bool false,.bool false,.bool false,.bool false,.bool false,.bool false,.bool false,.bool false,.bool false,.bool false,.bool false,.bool false,.bool false,.bool false,.bool false,.bool false,.bool false,.bool false,.bool false,.bool false,.bool false,.bool false,.bool false,.bool false,.bool false,.bool false,.bool false,.bool false,.bool false,.bool false,.bool false,.bool false,.bool false,.bool false,.bool false,.bool false,.bool false,.bool false,.bool false,.bool false,.bool false,.bool false,.bool false,.bool false,.bool false,.bool false,.bool false,.bool false,.bool false,.bool false,.bool false,.bool false,.bool false,.bool false,.bool false,.bool false,.bool false,.bool false,.bool false,.bool false,.bool false,.bool false,.bool false,.bool false,.bool false,.bool false,.bool false,.bool false,.bool false,.bool false,.bool false,.bool false,.bool false,.bool false,.bool false,.bool false,.bool false,.bool false,.bool false,.bool false,.bool false,.bool false,.bool false,.bool false,.bool false,.bool false,.bool false,.bool false,.bool false,.bool false,.bool false,.bool false,.bool false]:List CVal)=zCh from rfl]
 repeat (first | refine st_ rfl ?_ | ((first | refine rg_ ?_ | refine go_ ?_);generalize e:goR _ _ _ _ _ _ _ _=r;simp (disch:=omega) [hD,hml,htk,hst,c109] at e;replace e:some _=_:=e;subst e;(try dsimp only [goW])))
 refine set_loop s h.next _ hs _ s 0 rfl hr zCh rfl _ _ _ _ _ (by simp [zA1]) un_ fun n1 c0 c2 c3 c4 hn1=>?_
 try dsimp only at hn1
 repeat (first | refine st_ rfl ?_ | ((first | refine rg_ ?_ | refine go_ ?_);generalize e:goR _ _ _ _ _ _ _ _=r;simp (disch:=omega) [hD,hml,htk,hst] at e;replace e:some _=_:=e;subst e;(try dsimp only [goW])))
 refine W.ret ?_
 try simp only [zAb,zA4]
 refine endW.intro rfl ?_
 generalize e:zBe _ _ _=r
 simp (disch:=omega) [c109,hD,hml,htk,hst] at e
 subst e
 try dsimp only
 refine hk _ ?_;omega
abbrev csP:B8:=[65,66,67,68,69,70,71,72,73,74,75,76,77,78,79,80,81,82,83,84,85,86,87,88,89,90,97,98,99,100,101,102,103,104,105,106,107,108,109,110,111,112,113,114,115,116,117,118,119,120,121,122,95,48,49,50,51,52,53,54,55,56,57]
abbrev ltP:B8:=[65,66,67,68,69,70,71,72,73,74,75,76,77,78,79,80,81,82,83,84,85,86,87,88,89,90,97,98,99,100,101,102,103,104,105,106,107,108,109,110,111,112,113,114,115,116,117,118,119,120,121,122,95]
abbrev trLoop:CCode:=(.loop true (.seq (.seq (.R [.v 0,.g (.len true (.loc 0)),.x .gtr 0 (.k 0)] [(1,2)]) (.cond (.var 1) .skip (.exit 0))) (.block 1 (.seq (.seq (.R [.v 2,.v 0,.v 0,.g (.len true (.loc 0)),.x .sub 0 (.k 1),.g (.idxStr (.loc 3) (.loc 0)),.c 137 [(.loc 5),(.loc 0)],.g (.not (.loc 0))] [(3,7)]) (.cond (.var 3) (.exit 0) .skip)) (.R [.v 0,.v 0,.g (.len true (.loc 0)),.x .sub 0 (.k 1),.g (.slc 0 (.loc 3) none (some (.loc 0))),.m (.loc 0)] [(0,5)])))))
theorem tr_go {p d:Nat} {bs:List CVal} (hbl:bs.length=256) (r:B8) (c:UInt8) (hin:inSet bs c true) (hl:r.length<10000) {h:CHeap} (hf:Fit h) (hg:zA1 h.ents p=some (.cells bs)) (hp:p<h.next) (v1 v3:CVal) {Q:QT}
    (hk:∀ v1 v3 n',h.next≤n'→W tree.getF trLoop ⟨[.str r,v1,.ptr p d 0,v3,.str []],⟨h.ents,n',h.tys⟩,[]⟩ Q):W tree.getF trLoop ⟨[.str (r++[c]),v1,.ptr p d 0,v3,.str []],h,[]⟩ Q:=by
 obtain ⟨hu,hut,hX⟩:=fx4 hf
 have hZ:=fx6 hf hg
 have h1:(r++[c])[r.length]? = some c:=by rw [List.getElem?_append_right (Nat.le_refl _),Nat.sub_self];rfl
 have h2:∀ hh:r.length<(r++[c]).length,(r++[c])[r.length]'hh=c:=fun hh=>by have:=h1;rw [List.getElem?_eq_getElem hh] at this;exact Option.some.inj this
 refine W.loop ?_
 repeat (first
  | refine st_ rfl ?_
  | ((first | refine W.regG ?_ | refine WoR.go ?_);generalize e:goR .. = r;simp (disch:=omega) [hX,hZ,hl,h1,h2] at e;replace e:some _=_:=e;subst e;(try dsimp only [goW]))
  | (refine zKi _ _ bs c true hin hbl _ ge2_ un2_ _ fun _ g=>⟨rfl,?_⟩;(try dsimp only at g)))
 show W tree.getF trLoop (dropped true _ _) Q
 generalize e:dropped _ _ _=r
 simp (disch:=omega) [hX] at e
 subst e
 refine hk _ _ _ ?_;omega
theorem tr_end {p d:Nat} {h:CHeap} (hf:Fit h) (v1 v3:CVal) {Q:QT}
    (hk:∀ v1 v3 n',h.next≤n'→Q (.exit 0) ⟨[.str [],v1,.ptr p d 0,v3,.str []],⟨h.ents,n',h.tys⟩,[]⟩):W tree.getF trLoop ⟨[.str [],v1,.ptr p d 0,v3,.str []],h,[]⟩ Q:=by
 obtain ⟨hu,hut,hX⟩:=fx4 hf
 refine W.loop ?_
 repeat (first
  | refine st_ rfl ?_
  | ((first | refine W.regG ?_ | refine WoR.go ?_);generalize e:goR .. = r;simp (disch:=omega) [hX] at e;replace e:some _=_:=e;subst e;(try dsimp only [goW])))
 all_goals (refine hk _ _ _ ?_;((try dsimp only);omega))
theorem tr_loop {p d:Nat} {bs:List CVal} (hbl:bs.length=256) {h0:CHeap} (hf0:Fit h0) (hg0:zA1 h0.ents p=some (.cells bs)) (hp0:p<h0.next) {Q:QT}
    (hk:∀ v1 v3 n',h0.next≤n'→Q (.exit 0) ⟨[.str [],v1,.ptr p d 0,v3,.str []],⟨h0.ents,n',h0.tys⟩,[]⟩) :
    ∀ (m:Nat) (s:B8) (v1 v3:CVal) (n:Nat),s.length≤m→s.length<10000→(∀ c ∈ s,inSet bs c true)→h0.next≤n→W tree.getF trLoop ⟨[.str s,v1,.ptr p d 0,v3,.str []],⟨h0.ents,n,h0.tys⟩,[]⟩ Q:=by
 intro m
 induction m with
 | zero =>
  intro s v1 v3 n hm hs hin hn
  have:s=[]:=List.eq_nil_of_length_eq_zero (by omega)
  subst this
  exact tr_end (h:=⟨h0.ents,n,h0.tys⟩) ⟨hf0.1.le hn,hf0.2.le hn⟩ v1 v3 fun v1 v3 n' g1=>hk v1 v3 n' (Nat.le_trans hn g1)
 | succ m ih =>
  intro s v1 v3 n hm hs hin hn
  rcases List.eq_nil_or_concat s with h | ⟨r,c,h⟩
  · subst h
    exact tr_end (h:=⟨h0.ents,n,h0.tys⟩) ⟨hf0.1.le hn,hf0.2.le hn⟩ v1 v3 fun v1 v3 n' g1=>hk v1 v3 n' (Nat.le_trans hn g1)
  · rw [List.concat_eq_append] at h
    subst h
    have hlen:(r++[c]).length=r.length+1:=by simp
    rw [hlen] at hm hs
    refine tr_go (h:=⟨h0.ents,n,h0.tys⟩) hbl r c (hin c (by simp)) (by omega) ⟨hf0.1.le hn,hf0.2.le hn⟩ hg0 (Nat.lt_of_lt_of_le hp0 hn) v1 v3 fun v1 v3 n' g1=>?_
    exact ih r v1 v3 n' (by omega) (by omega) (fun x hx=>hin x (by simp [hx])) (Nat.le_trans hn g1)
theorem tra_F {p d:Nat} {bs:List CVal} (hbl:bs.length=256) (s:B8) (hs:s.length<10000) (hin:∀ c ∈ s,inSet bs c true) {h:CHeap} {K:KT} (hk:∀ n',h.next≤n'→K (.str []) ⟨h.ents,n',h.tys⟩) (hf:Fit h:=by exact ft_) (hg:zA1 h.ents p=some (.cells bs):=by exact ge2_) (hp:p<h.next:=by exact lt_):Wc tree.getF 111 [.str s,.ptr p d 0] h K:=by
 obtain ⟨hu,hut,hX⟩:=fx4 hf
 refine Wc.mkG 111 c111 (by kernel_rfl) rfl ?_
 generalize e:zB9 .. = r
 simp (disch:=omega) [c111] at e
 subst e
 repeat (first
  | refine st_ rfl ?_
  | ((first | refine W.regG ?_ | refine WoR.go ?_);generalize e:goR .. = r;simp (disch:=omega) [hX,c111] at e;replace e:some _=_:=e;subst e;(try dsimp only [goW])))
 refine tr_loop hbl hf hg hp (fun v1 v3 n' g1=>?_) s.length s _ _ _ (Nat.le_refl _) hs hin (by (try dsimp only);omega)
 (try simp only [zAb,zA4,zA3,zA8,reduceIte])
 repeat (first
  | refine st_ rfl ?_
  | ((first | refine W.regG ?_ | refine WoR.go ?_);generalize e:goR .. = r;simp (disch:=omega) [hX,c111] at e;replace e:some _=_:=e;subst e;(try dsimp only [goW]))
  | ((first | (refine W.ret ?_;(try simp only [zAb,zA4,zA3,zA8,reduceIte]);refine endW.of (.inl rfl) rfl ?_) | refine endW.of (.inl rfl) rfl ?_ | refine endW.of (.inr rfl) rfl ?_);generalize e:zBe .. = r;simp (disch:=omega) [hX,c111] at e;subst e;refine hk _ ?_;omega))
theorem tla_F {p d:Nat} {bs:List CVal} {h:CHeap} {K:KT} (hk:∀ n',h.next≤n'→K (.str []) ⟨h.ents,n',h.tys⟩) (hf:Fit h:=by exact ft_):Wc tree.getF 110 [.str [],.ptr p d 0] h K:=by
 obtain ⟨hu,hut,hX⟩:=fx4 hf
 refine Wc.mkG 110 c110 (by kernel_rfl) rfl ?_
 generalize e:zB9 .. = r
 simp (disch:=omega) [c110] at e
 subst e
 repeat (first
  | refine st_ rfl ?_
  | ((first | refine W.regG ?_ | refine WoR.go ?_);generalize e:goR .. = r;simp (disch:=omega) [hX,c110] at e;replace e:some _=_:=e;subst e;(try dsimp only [goW]))
  | (refine W.loop ?_;try (generalize e:dropped .. = r;simp (disch:=omega) [hX,c110] at e;subst e;try dsimp only))
  | ((first | (refine W.ret ?_;(try simp only [zAb,zA4,zA3,zA8,reduceIte]);refine endW.of (.inl rfl) rfl ?_) | refine endW.of (.inl rfl) rfl ?_ | refine endW.of (.inr rfl) rfl ?_);generalize e:zBe .. = r;simp (disch:=omega) [hX,c110] at e;subst e;refine hk _ ?_;omega))
theorem tm_F (s:B8) (hs:s≠[]) (hs2:s.length<10000) (hin:∀ c ∈ s,inSet (marks zCh csP) c true):Pe 75 [.str s,.str csP] (.str []):=by
 intro h hf K hk
 obtain ⟨hu,hut,hX⟩:=fx4 hf
 have hs3:(s == ([]:B8))=false:=by simpa using hs
 have hcs:(csP == ([]:B8))=false:=rfl
 have hcl:csP.length=63:=rfl
 have hc0:csP[0]? = some 65:=rfl
 have hml:=zJb csP zCh rfl
 have hst:=zG7 csP zCh rfl
 have hZ:=trivial
 refine Wc.mkG 75 c75 (by kernel_rfl) rfl ?_
 generalize e:zB9 .. = r
 simp (disch:=omega) [c75] at e
 subst e
 repeat (first
  | refine st_ rfl ?_
  | ((first | refine W.regG ?_ | refine WoR.go ?_);generalize e:goR .. = r;simp (disch:=omega) [hX,hs,hs3,hcs,hcl,hc0,hml,hst,c75] at e;replace e:some _=_:=e;subst e;(try dsimp only [goW]))
  | (refine makeSet_spec csP (by decide) (by decide) _ un2_ _ fun _ g=>⟨rfl,?_⟩;(try dsimp only at g))
  | (refine tra_F (bs:=marks zCh csP) hml s hs2 hin (fun _ g=>⟨rfl,?_⟩) ft_ ge2_ lt_;(try dsimp only at g))
  | (refine tla_F (bs:=marks zCh csP) (fun _ g=>⟨rfl,?_⟩) ft_;(try dsimp only at g))
  | ((first | (refine W.ret ?_;(try simp only [zAb,zA4,zA3,zA8,reduceIte]);refine endW.of (.inl rfl) rfl ?_) | refine endW.of (.inl rfl) rfl ?_ | refine endW.of (.inr rfl) rfl ?_);generalize e:zBe .. = r;simp (disch:=omega) [hX,hs,hs3,hcs,hcl,hc0,hml,hst,c75] at e;subst e;refine hk _ ?_;omega))
structure PV (s:B8):Prop where
 ne:s≠[]
 l:s.length<1000
 i:∀ c ∈ s,inSet (marks zCh csP) c true
 f:∀ c,s[0]? = some c→0≤idxFrom c ltP 0
 d:∀ c ∈ s,c≠46∧c≠44
theorem pt_c (c:UInt8) (t:B8) (P:PV (c::t)):Pe 46 [.str (c::t)] (.bool true):=by
 intro h hf K hk
 obtain ⟨hu,hut,hX⟩:=fx4 hf
 have TM:=tm_F (c::t) P.ne (by have:=P.l;omega) P.i
 have IX:=ix1_F ltP c (by decide)
 have hf0:=P.f c rfl
 obtain ⟨v,hv⟩:∃ v,idxFrom c ltP 0=v:=⟨_,rfl⟩
 rw [hv] at IX hf0
 have hl0:t.length+1<1000:=P.l
 refine Wc.mkG 46 c46 (by kernel_rfl) rfl ?_
 generalize e:zB9 .. = r
 simp (disch:=omega) [c46] at e
 subst e
 repeat (first
  | refine st_ rfl ?_
  | ((first | refine W.regG ?_ | refine WoR.go ?_);generalize e:goR .. = r;simp (disch:=omega) [hX,hf0,hl0,c46,c76] at e;replace e:some _=_:=e;subst e;(try dsimp only [goW]))
  | (refine pe_ (TM) fun _ g=>⟨rfl,?_⟩;(try dsimp only at g))
  | (refine pe_ (IX) fun _ g=>⟨rfl,?_⟩;(try dsimp only at g))
  | (refine Wc.mkG 76 c76 (by kernel_rfl) rfl ?_;generalize e:zB9 .. = r;simp (disch:=omega) [c76] at e;subst e)
  | ((first | (refine W.ret ?_;(try simp only [zAb,zA4,zA3,zA8,reduceIte]);refine endW.of (.inl rfl) rfl ?_) | refine endW.of (.inl rfl) rfl ?_ | refine endW.of (.inr rfl) rfl ?_);generalize e:zBe .. = r;simp (disch:=omega) [hX,hf0,hl0,c46,c76] at e;subst e;(first | refine ⟨rfl,?_⟩ | (refine hk _ ?_;omega))))
structure PVn (s:B8):Prop where
 ne:s≠[]
 l:s.length<1000
 i:∀ c ∈ s,inSet (marks zCh csP) c true
 f:∀ c,s[0]? = some c→idxFrom c ltP 0<0
 d:∀ c ∈ s,c≠46∧c≠44
theorem pt_n (c:UInt8) (t:B8) (P:PVn (c::t)):Pe 46 [.str (c::t)] (.bool false):=by
 intro h hf K hk
 obtain ⟨hu,hut,hX⟩:=fx4 hf
 have TM:=tm_F (c::t) P.ne (by have:=P.l;omega) P.i
 have IX:=ix1_F ltP c (by decide)
 have hf0:=P.f c rfl
 obtain ⟨v,hv⟩:∃ v,idxFrom c ltP 0=v:=⟨_,rfl⟩
 rw [hv] at IX hf0
 have hl0:t.length+1<1000:=P.l
 refine Wc.mkG 46 c46 (by kernel_rfl) rfl ?_
 generalize e:zB9 .. = r
 simp (disch:=omega) [c46] at e
 subst e
 repeat (first
  | refine st_ rfl ?_
  | ((first | refine W.regG ?_ | refine WoR.go ?_);generalize e:goR .. = r;simp (disch:=omega) [hX,hf0,hl0,c46,c76] at e;replace e:some _=_:=e;subst e;(try dsimp only [goW]))
  | (refine pe_ (TM) fun _ g=>⟨rfl,?_⟩;(try dsimp only at g))
  | (refine pe_ (IX) fun _ g=>⟨rfl,?_⟩;(try dsimp only at g))
  | (refine Wc.mkG 76 c76 (by kernel_rfl) rfl ?_;generalize e:zB9 .. = r;simp (disch:=omega) [c76] at e;subst e)
  | ((first | (refine W.ret ?_;(try simp only [zAb,zA4,zA3,zA8,reduceIte]);refine endW.of (.inl rfl) rfl ?_) | refine endW.of (.inl rfl) rfl ?_ | refine endW.of (.inr rfl) rfl ?_);generalize e:zBe .. = r;simp (disch:=omega) [hX,hf0,hl0,c46,c76] at e;subst e;(first | refine ⟨rfl,?_⟩ | (refine hk _ ?_;omega))))
def lst (k:Nat) (l:List CVal):CVal:=match l with | []=>.nils | _::_=>.imm .none k l
theorem zCj (k:Nat) (l:List CVal):PV1 (lst k l):=by cases l <;> exact ⟨rfl,rfl,rfl,rfl,rfl⟩
theorem lst_len (k:Nat) (l:List CVal):(lst k l).lenOf=some l.length:=by cases l <;> simp [lst,CVal.lenOf]
theorem lst_str (k:Nat) (l:List CVal):(lst k l).isStr=false:=by cases l <;> rfl
theorem zDo {k:Nat} {l:List CVal} (h:0<l.length):lst k l=.imm .none k l:=by cases l with | nil=>simp at h | cons=>rfl
structure LL (v:CVal) (n:Nat):Prop where
 u:PV1 v
 len:v.lenOf=some n
 s:v.isStr=false
theorem zEh (k:Nat) (l:List CVal):LL (lst k l) l.length:=⟨zCj k l,lst_len k l,lst_str k l⟩
theorem zBh {α:Type} (k:Nat) (f:α→CVal) (l:List α):LL (lst k (l.map f)) l.length:=by have:=zEh k (l.map f);rwa [List.length_map] at this
def MW:Nat→Type
 | 0=>Unit
 | n+1=>List (B8) × List Bool × List (MW n)
def nodV (A:List (B8)) (B:List Bool) (C:List CVal):CVal:=.agg [lst 1 (A.map .str),lst 1 (B.map .bool),lst 3 C]
def mwV:(n:Nat)→MW n→CVal
 | 0,_=>nodV [] [] []
 | n+1,t=>nodV t.1 t.2.1 (t.2.2.map (mwV n))
def mwE:(n:Nat)→MW n→Bool
 | 0,_=>true
 | _+1,t=>decide (t.1.length+t.2.1.length+t.2.2.length=0)
def emW:(n:Nat)→MW n
 | 0=>()
 | _+1=>([],[],[])
theorem emW_V:∀ n,mwV n (emW n)=.agg [.nils,.nils,.nils]
 | 0=>rfl
 | _+1=>rfl
theorem none_F {x y z:CVal} {a b c:Nat} (hx:LL x a) (hy:LL y b) (hz:LL z c) (ha:a≤100) (hb:b≤100) (hc:c≤100):Pe 45 [.agg [x,y,z]] (.bool (decide (a+b+c=0))):=by
 intro h hf K hk
 obtain ⟨hu,hut,hX⟩:=fx4 hf
 obtain ⟨⟨a1,a2,a3,a4,a5⟩,a6,a7⟩:=hx
 obtain ⟨⟨b1,b2,b3,b4,b5⟩,b6,b7⟩:=hy
 obtain ⟨⟨d1,d2,d3,d4,d5⟩,d6,d7⟩:=hz
 simp only [CVal.isUndef,CVal.whole,CVal.cells,CVal.strip,CVal.bare,CVal.isStr] at a1 a2 a3 a4 a5 a7 b1 b2 b3 b4 b5 b7 d1 d2 d3 d4 d5 d7
 have e0:((a:Int)+b+c == 0)=decide (a+b+c=0):=by rw [Bool.eq_iff_iff];simp only [beq_iff_eq,decide_eq_true_eq];omega
 generalize decide (a+b+c=0)=R at *
 refine mk_ 45 c45 (s_ ?_)
 repeat (first
  | refine st_ rfl ?_
  | ((first | refine W.regG ?_ | refine WoR.go ?_);generalize e:goR .. = r;simp (disch:=omega) [hX,a1,a2,a3,a4,a5,a6,a7,b1,b2,b3,b4,b5,b6,b7,d1,d2,d3,d4,d5,d6,d7,e0,-CVal.lenOf] at e;replace e:some _=_:=e;subst e;(try dsimp only [goW]))
  | ((simp only [zAb,zA4,zA3,zA5,zA8,reduceIte])))
 refine rx_ ?_
 refine hk _ ?_;exact om_
abbrev myL:CCode:=(.loop true (.seq (.R [.g (.bin .lss (.var 4) (.var 5))] [(6,0)]) (.seq (.cond (.var 6) .skip (.exit 0)) (.seq (.block 1 (.seq (.R [.v 4,.g (.idxAddr 1 (.var 7) (.var 4)),.l 0,.m (.loc 2),.m (.loc 1)] [(8,4),(9,3)]) (.seq (.region [.v 8,.c 46 [(.loc 0)],.g (.not (.loc 0)),.m (.loc 0),.Q (.v 9) 0 false,.Q (.x .gtr 0 (.k 0)) 1 false,.Q (.m (.loc 0)) 2 false,.Q (.k 0 1) 0 true,.Q (.l 0) 1 true,.Q (.v 9) 2 true,.Q (.x .sub 0 (.k 1)) 3 true,.Q (.i 1 2 0) 4 true,.Q (.l 0) 5 true,.Q (.v 8) 6 true,.Q (.h .geq 1 0) 7 true,.q (.pick (.loc 8) (.loc 0) (.b false)) 11 false,.r 12 0,.m (.loc 0),.Q (.k 1 1) 0 false,.Q (.l 0) 1 false,.Q (.v 9) 2 false,.Q (.i 1 1 0) 3 false,.Q (.l 0) 4 false,.Q (.k 2 1) 5 false,.Q (.l 0) 6 false,.Q (.v 9) 7 false,.Q (.i 3 1 0) 8 false,.q (.load (some 3) (.loc 0)) 9 false,.Q (.c 45 [(.loc 0)]) 10 false,.q (.eqv .bool true (.loc 6) (.loc 0)) 11 false,.r 12 0,.m (.loc 0),.Q (.k 2 1) 0 false,.Q (.l 0) 1 false,.Q (.v 9) 2 false,.Q (.i 3 1 0) 3 false,.q (.load (some 3) (.loc 0)) 4 false,.Q (.v 2) 5 false,.Q (.x .add 0 (.k 1)) 6 false,.Q (.c 21 [(.loc 2),(.loc 0)]) 7 false,.q (.not (.loc 0)) 8 false,.r 9 0] [(10,41)] [(19,1,2),(22,1,2)] []) (.cond (.var 10) (.seq (.R [.m (.b false)] [(11,0)]) .ret) .skip)))) (.R [.g (.bin .add (.var 4) (.k 1)),.m (.loc 0)] [(4,1)])))))
theorem my_go {A:List (B8)} {B:List Bool} {C:List CVal} {L:Nat} (hA:A.length=L) (hB:B.length=L) (hC:C.length=L) (hL:L≤100) {d:Int} (hd:0≤d∧d<15) {hh:CHeap} (hf:Fit hh) {bx:Nat} (gx:zA1 hh.ents bx=some (.cells [.imm .none 1 (A.map .str),.imm .none 1 (B.map .bool),.imm .none 3 C])) {ok:Nat→Bool}
    (hS:∀ k s w c,A[k]? = some s→B[k]? = some w→C[k]? = some c→∃ p x y z e m,c=.agg [x,y,z]∧PV1 x∧PV1 y∧PV1 z∧Pe 46 [.str s] (.bool p)∧Pe 45 [.agg [x,y,z]] (.bool e)∧Pe 21 [.agg [x,y,z],.int .i64 (d+1)] (.bool m)∧ok k=(p && ((k == 0 || zBd (A.getD (k - 1) []) s) && ((w == e) && m))))
    {v0 v3:CVal} {Q:QT}
    (hyes:(∀ k,k<L→ok k=true)→∀ (v6 v8 v9 v10:CVal) n',hh.next≤n'→Q (.exit 0) ⟨[v0,.ptr bx 38797315 0,.int .i64 d,v3,.int .i64 (L:Nat),.int .i64 (L:Nat),v6,.imm .none 1 (A.map .str),v8,v9,v10,.bool false],⟨hh.ents,n',hh.tys⟩,[]⟩)
    (hno:∀ k,k<L→ok k=false→∀ (v4 v6 v8 v9 v10:CVal) n',hh.next≤n'→Q .ret ⟨[v0,.ptr bx 38797315 0,.int .i64 d,v3,v4,.int .i64 (L:Nat),v6,.imm .none 1 (A.map .str),v8,v9,v10,.bool false],⟨hh.ents,n',hh.tys⟩,[]⟩) :
    ∀ (m k nx:Nat) (v6 v8 v9 v10:CVal),k+m=L→(∀ j,j<k→ok j=true)→hh.next≤nx→W tree.getF myL ⟨[v0,.ptr bx 38797315 0,.int .i64 d,v3,.int .i64 (k:Nat),.int .i64 (L:Nat),v6,.imm .none 1 (A.map .str),v8,v9,v10,.bool false],⟨hh.ents,nx,hh.tys⟩,[]⟩ Q:=by
 intro m
 induction m with
 | zero =>
  intro k nx v6 v8 v9 v10 h1 h2 h3
  obtain rfl:k=L:=by omega
  refine W.loop ?_
  try refine w0_ ?_
  refine hyes h2 _ _ _ _ _ ?_;exact om_
 | succ m ih =>
  intro k nx v6 v8 v9 v10 h1 h2 h3
  obtain ⟨hu,hut,hX⟩:=fx4 (show Fit ⟨hh.ents,nx,hh.tys⟩ from ⟨hf.1.le h3,hf.2.le h3⟩)
  dsimp only at hX hu hut
  have hlt:(k:Int)<(L:Int):=by omega
  have lq:=zA7 hu gx
  obtain ⟨s,hs⟩:∃ s,A[k]? = some s:=⟨_,List.getElem?_eq_getElem (by omega)⟩
  obtain ⟨w,hw⟩:∃ s,B[k]? = some s:=⟨_,List.getElem?_eq_getElem (by omega)⟩
  obtain ⟨c,hc⟩:∃ s,C[k]? = some s:=⟨_,List.getElem?_eq_getElem (by omega)⟩
  obtain ⟨p,x,y,z,e,mm,rfl,px,py,pz,PT,NN,MM,hok⟩:=hS k s w c hs hw hc
  have n1:=zAm CVal.str A k s hs
  have n2:=zAm CVal.bool B k w hw
  have n3:nth C k=.agg [x,y,z]:=by have:=zAm id C k _ hc;simpa using this
  have n4:(A.map CVal.str)[k]? = some (.str s):=by rw [List.getElem?_map,hs];rfl
  have n5:(B.map CVal.bool)[k]? = some (.bool w):=by rw [List.getElem?_map,hw];rfl
  have lA:(A.map CVal.str).length=L:=by rw [List.length_map];exact hA
  have lB:(B.map CVal.bool).length=L:=by rw [List.length_map];exact hB
  have hj:0<k→∃ r,A[k - 1]? = some r:=fun h=>⟨_,List.getElem?_eq_getElem (by omega)⟩
  have hjn:∀ r,A[k - 1]? = some r→nth (A.map CVal.str) (k - 1)=.str r∧(A.map CVal.str)[k - 1]? = some (.str r):=fun r hr=>⟨zAm CVal.str A (k - 1) r hr,by rw [List.getElem?_map,hr];rfl⟩
  obtain ⟨x1,x2,x3,x4,x5⟩:=px
  obtain ⟨y1,y2,y3,y4,y5⟩:=py
  obtain ⟨z1,z2,z3,z4,z5⟩:=pz
  simp only [CVal.isUndef,CVal.whole,CVal.cells,CVal.strip,CVal.bare] at x1 x2 x3 x4 x5 y1 y2 y3 y4 y5 z1 z2 z3 z4 z5
  have hP:=j15_ x1 x2 x3 x4 x5 y1 y2 y3 y4 y5 z1 z2 z3 z4 z5
  have lb0:∀ x:CVal,x.beq x=true:=fun x=>zAj x
  have ls0:∀ l:List CVal,beqs l l=true:=fun l=>by have:=zAj (CVal.agg l);simpa using this
  have hQ:=j12_ gx hlt n1 n2 n3 n4 n5 hc lA lB lb0 ls0
  generalize A.map CVal.str=PA at *
  generalize B.map CVal.bool=PB at *
  have ho:∀ r,0<k→A[k - 1]? = some r→(k == 0 || zBd (A.getD (k - 1) []) s)=zBd r s:=fun r h0 hr=>by
   have:(k == 0)=false:=by simp;omega
   simp [List.getD_eq_getElem?_getD,hr,this]
  have ih1:=fun nx v6 v8 v9 v10 (hok':ok k=true) (h:_≤nx)=>ih (k+1) nx v6 v8 v9 v10 (by omega) (fun j a=>by
   rcases Nat.lt_succ_iff_lt_or_eq.1 a with c | rfl
   · exact h2 j c
   · exact hok') h
  push_cast at ih1
  refine W.loop ?_
  cases p
  · have hR:ok k=false:=by rw [hok];rfl
    have hZ:=j3_ hX hP hQ
    repeat (first
     | refine vk_ ?_
     | (refine pe_ (PT) fun _ g=>⟨rfl,?_⟩;(try dsimp only at g))
     | (refine pe_ (NN) fun _ g=>⟨rfl,?_⟩;(try dsimp only at g))
     | (refine pe_ (MM) fun _ g=>⟨rfl,?_⟩;(try dsimp only at g)))
    refine W.ret ?_
    simp only [zAb,zA4,zA3,zA8,reduceIte]
    refine hno k (by omega) hR _ _ _ _ _ _ ?_;exact om_
  rcases Nat.eq_zero_or_pos k with h0 | h0
  · subst h0
    have hb:(0 == 0 || zBd (A.getD (0 - 1) []) s)=true:=rfl
    rw [hb] at hok
    clear hb ho hj hjn ih h2
    cases w <;> cases e <;> cases mm
    all_goals (
     have hZ:=j3_ hX hP hQ
     repeat (first
      | refine vk_ ?_
      | (refine pe_ (PT) fun _ g=>⟨rfl,?_⟩;(try dsimp only at g))
      | (refine pe_ (NN) fun _ g=>⟨rfl,?_⟩;(try dsimp only at g))
      | (refine pe_ (MM) fun _ g=>⟨rfl,?_⟩;(try dsimp only at g)))
     first
      | (refine W.ret ?_;simp only [zAb,zA4,zA3,zA8,reduceIte];refine hno 0 (by omega) (by rw [hok];rfl) _ _ _ _ _ _ ?_;exact om_)
      | (refine dk_ ?_;refine ih1 _ _ _ _ _ (by rw [hok];rfl) ?_;exact om_))
  · obtain ⟨r,hr⟩:=hj h0
    obtain ⟨r1,r2⟩:=hjn r hr
    rw [ho r h0 hr] at hok
    have hk1:((k:Int) - 1).toNat=k - 1:=by omega
    have hk0:(0:Int)<(k:Int):=by omega
    clear ho hj hjn ih h2
    cases hb:zBd r s
    · have hR:ok k=false:=by rw [hok,hb];rfl
      have hZ:=j8_ hX hP hQ r1 r2 hk1 hk0 hb
      repeat (first
       | refine vk_ ?_
       | (refine pe_ (PT) fun _ g=>⟨rfl,?_⟩;(try dsimp only at g))
       | (refine pe_ (NN) fun _ g=>⟨rfl,?_⟩;(try dsimp only at g))
       | (refine pe_ (MM) fun _ g=>⟨rfl,?_⟩;(try dsimp only at g)))
      refine W.ret ?_
      simp only [zAb,zA4,zA3,zA8,reduceIte]
      refine hno k (by omega) hR _ _ _ _ _ _ ?_;exact om_
    · cases w <;> cases e <;> cases mm
      all_goals (
       have hZ:=j8_ hX hP hQ r1 r2 hk1 hk0 hb
       repeat (first
        | refine vk_ ?_
        | (refine pe_ (PT) fun _ g=>⟨rfl,?_⟩;(try dsimp only at g))
        | (refine pe_ (NN) fun _ g=>⟨rfl,?_⟩;(try dsimp only at g))
        | (refine pe_ (MM) fun _ g=>⟨rfl,?_⟩;(try dsimp only at g)))
       first
        | (refine W.ret ?_;simp only [zAb,zA4,zA3,zA8,reduceIte];refine hno k (by omega) (by rw [hok,hb];rfl) _ _ _ _ _ _ ?_;exact om_)
        | (refine dk_ ?_;refine ih1 _ _ _ _ _ (by rw [hok,hb];rfl) ?_;exact om_))
def nm8:List (B8):=[[97],[98],[102,49],[102,50],[111,49,48,49],[],[57],[65]]
def pB (s:B8):Bool:=!(s == [] || s == [57])
theorem pt_0:Pe 46 [.str [97]] (.bool true):=pt_c _ _ ⟨by decide,by decide,(by intro c hc;simp only [List.mem_cons,List.not_mem_nil,or_false] at hc;rcases hc with rfl <;> (show nth (marks zCh csP) _=_;kernel_rfl)),(by intro c hc;obtain rfl:(97:UInt8)=c:=(by simpa using hc);decide),by decide⟩
theorem pt_1:Pe 46 [.str [98]] (.bool true):=pt_c _ _ ⟨by decide,by decide,(by intro c hc;simp only [List.mem_cons,List.not_mem_nil,or_false] at hc;rcases hc with rfl <;> (show nth (marks zCh csP) _=_;kernel_rfl)),(by intro c hc;obtain rfl:(98:UInt8)=c:=(by simpa using hc);decide),by decide⟩
theorem pt_2:Pe 46 [.str [102,49]] (.bool true):=pt_c _ _ ⟨by decide,by decide,(by intro c hc;simp only [List.mem_cons,List.not_mem_nil,or_false] at hc;rcases hc with rfl | rfl <;> (show nth (marks zCh csP) _=_;kernel_rfl)),(by intro c hc;obtain rfl:(102:UInt8)=c:=(by simpa using hc);decide),by decide⟩
theorem pt_3:Pe 46 [.str [102,50]] (.bool true):=pt_c _ _ ⟨by decide,by decide,(by intro c hc;simp only [List.mem_cons,List.not_mem_nil,or_false] at hc;rcases hc with rfl | rfl <;> (show nth (marks zCh csP) _=_;kernel_rfl)),(by intro c hc;obtain rfl:(102:UInt8)=c:=(by simpa using hc);decide),by decide⟩
theorem pt_4:Pe 46 [.str [111,49,48,49]] (.bool true):=pt_c _ _ ⟨by decide,by decide,(by intro c hc;simp only [List.mem_cons,List.not_mem_nil,or_false] at hc;rcases hc with rfl | rfl | rfl | rfl <;> (show nth (marks zCh csP) _=_;kernel_rfl)),(by intro c hc;obtain rfl:(111:UInt8)=c:=(by simpa using hc);decide),by decide⟩
theorem pt_5  : Pe 46 [.str []] (.bool false):=by
 intro h hf K hk
 obtain ⟨hu,hut,hX⟩:=fx4 hf
 refine mk_ 46 c46 (s_ ?_)
 repeat (first
  | refine vx_ ?_)
 refine rx_ ?_
 refine hk _ ?_;exact om_
theorem pt_6:Pe 46 [.str [57]] (.bool false):=pt_n _ _ ⟨by decide,by decide,(by intro c hc;simp only [List.mem_cons,List.not_mem_nil,or_false] at hc;rcases hc with rfl <;> (show nth (marks zCh csP) _=_;kernel_rfl)),(by intro c hc;obtain rfl:(57:UInt8)=c:=(by simpa using hc);decide),by decide⟩
theorem pt_7:Pe 46 [.str [65]] (.bool true):=pt_c _ _ ⟨by decide,by decide,(by intro c hc;simp only [List.mem_cons,List.not_mem_nil,or_false] at hc;rcases hc with rfl <;> (show nth (marks zCh csP) _=_;kernel_rfl)),(by intro c hc;obtain rfl:(65:UInt8)=c:=(by simpa using hc);decide),by decide⟩
theorem qt_0  : Pe 47 [.str [97]] (.bool true):=by
 intro h hf K hk
 obtain ⟨hu,hut,hX⟩:=fx4 hf
 refine mk_ 47 c47 (s_ ?_)
 repeat (first
  | refine vx_ ?_
  | refine W.loop ?_
  | (refine dx_ ?_;refine W.loop ?_)
  | (refine mk_ 77 c77 (s_ ?_))
  | (refine mk_ 78 c78 (s_ ?_))
  | (refine rx_ ?_;refine ⟨rfl,?_⟩))
 refine rx_ ?_
 refine hk _ ?_;exact om_
theorem qt_1  : Pe 47 [.str [98]] (.bool true):=by
 intro h hf K hk
 obtain ⟨hu,hut,hX⟩:=fx4 hf
 refine mk_ 47 c47 (s_ ?_)
 repeat (first
  | refine vx_ ?_
  | refine W.loop ?_
  | (refine dx_ ?_;refine W.loop ?_)
  | (refine mk_ 77 c77 (s_ ?_))
  | (refine mk_ 78 c78 (s_ ?_))
  | (refine rx_ ?_;refine ⟨rfl,?_⟩))
 refine rx_ ?_
 refine hk _ ?_;exact om_
theorem qt_2  : Pe 47 [.str [102,49]] (.bool true):=by
 intro h hf K hk
 obtain ⟨hu,hut,hX⟩:=fx4 hf
 refine mk_ 47 c47 (s_ ?_)
 repeat (first
  | refine vx_ ?_
  | refine W.loop ?_
  | (refine dx_ ?_;refine W.loop ?_)
  | (refine mk_ 77 c77 (s_ ?_))
  | (refine mk_ 78 c78 (s_ ?_))
  | (refine rx_ ?_;refine ⟨rfl,?_⟩))
 refine rx_ ?_
 refine hk _ ?_;exact om_
theorem qt_3  : Pe 47 [.str [102,50]] (.bool true):=by
 intro h hf K hk
 obtain ⟨hu,hut,hX⟩:=fx4 hf
 refine mk_ 47 c47 (s_ ?_)
 repeat (first
  | refine vx_ ?_
  | refine W.loop ?_
  | (refine dx_ ?_;refine W.loop ?_)
  | (refine mk_ 77 c77 (s_ ?_))
  | (refine mk_ 78 c78 (s_ ?_))
  | (refine rx_ ?_;refine ⟨rfl,?_⟩))
 refine rx_ ?_
 refine hk _ ?_;exact om_
theorem qt_4  : Pe 47 [.str [111,49,48,49]] (.bool true):=by
 intro h hf K hk
 obtain ⟨hu,hut,hX⟩:=fx4 hf
 refine mk_ 47 c47 (s_ ?_)
 repeat (first
  | refine vx_ ?_
  | refine W.loop ?_
  | (refine dx_ ?_;refine W.loop ?_)
  | (refine mk_ 77 c77 (s_ ?_))
  | (refine mk_ 78 c78 (s_ ?_))
  | (refine rx_ ?_;refine ⟨rfl,?_⟩))
 refine rx_ ?_
 refine hk _ ?_;exact om_
theorem qt_5  : Pe 47 [.str []] (.bool false):=by
 intro h hf K hk
 obtain ⟨hu,hut,hX⟩:=fx4 hf
 refine mk_ 47 c47 (s_ ?_)
 repeat (first
  | refine vx_ ?_
  | refine W.loop ?_
  | (refine dx_ ?_;refine W.loop ?_)
  | (refine mk_ 77 c77 (s_ ?_))
  | (refine mk_ 78 c78 (s_ ?_))
  | (refine rx_ ?_;refine ⟨rfl,?_⟩))
 refine rx_ ?_
 refine hk _ ?_;exact om_
theorem qt_6  : Pe 47 [.str [57]] (.bool false):=by
 intro h hf K hk
 obtain ⟨hu,hut,hX⟩:=fx4 hf
 refine mk_ 47 c47 (s_ ?_)
 repeat (first
  | refine vx_ ?_
  | refine W.loop ?_
  | (refine dx_ ?_;refine W.loop ?_)
  | (refine mk_ 77 c77 (s_ ?_))
  | (refine mk_ 78 c78 (s_ ?_))
  | (refine rx_ ?_;refine ⟨rfl,?_⟩))
 refine rx_ ?_
 refine hk _ ?_;exact om_
theorem qt_7  : Pe 47 [.str [65]] (.bool true):=by
 intro h hf K hk
 obtain ⟨hu,hut,hX⟩:=fx4 hf
 refine mk_ 47 c47 (s_ ?_)
 repeat (first
  | refine vx_ ?_
  | refine W.loop ?_
  | (refine dx_ ?_;refine W.loop ?_)
  | (refine mk_ 77 c77 (s_ ?_))
  | (refine mk_ 78 c78 (s_ ?_))
  | (refine rx_ ?_;refine ⟨rfl,?_⟩))
 refine rx_ ?_
 refine hk _ ?_;exact om_
theorem pp_F (s:B8) (h:s ∈ nm8):Pe 46 [.str s] (.bool (pB s)):=by
 simp only [nm8,List.mem_cons,List.not_mem_nil,or_false] at h
 rcases h with rfl | rfl | rfl | rfl | rfl | rfl | rfl | rfl
 · exact pt_0
 · exact pt_1
 · exact pt_2
 · exact pt_3
 · exact pt_4
 · exact pt_5
 · exact pt_6
 · exact pt_7
theorem qq_F (s:B8) (h:s ∈ nm8):Pe 47 [.str s] (.bool (pB s)):=by
 simp only [nm8,List.mem_cons,List.not_mem_nil,or_false] at h
 rcases h with rfl | rfl | rfl | rfl | rfl | rfl | rfl | rfl
 · exact qt_0
 · exact qt_1
 · exact qt_2
 · exact qt_3
 · exact qt_4
 · exact qt_5
 · exact qt_6
 · exact qt_7
theorem bl_tri:∀ (a b:B8),(zBd a b || a == b)=!zBd b a
 | [],[]=>rfl
 | [],_::_=>rfl
 | _::_,[]=>rfl
 | a::x,b::y=>by
  have ih:=bl_tri x y
  simp only [zBd]
  rcases Nat.lt_trichotomy a.toNat b.toNat with h | h | h
  · have h1:a<b:=h
    have h2:¬ b<a:=fun h2=>absurd (show b.toNat<a.toNat from h2) (by omega)
    have h3:¬ a=b:=fun h3=>by rw [h3] at h;omega
    have h4:¬ b=a:=fun e=>h3 e.symm
    simp [h1,h2,h3,h4]
  · have h3:a=b:=UInt8.toNat_inj.1 h
    subst h3
    have h1:¬ a<a:=fun h2=>absurd (show a.toNat<a.toNat from h2) (by omega)
    have h4:(a::x == a::y)=(x == y):=by simp
    rw [h4]
    simpa [h1] using ih
  · have h1:b<a:=h
    have h2:¬ a<b:=fun h2=>absurd (show a.toNat<b.toNat from h2) (by omega)
    have h3:¬ a=b:=fun h3=>by rw [h3] at h;omega
    simp [h1,h2,h3]
abbrev rmL:CCode:=(.loop true (.seq (.seq (.R [.v 4,.k 0 1,.l 0,.j 0,.h .lss 3 0] [(5,4)]) (.cond (.var 5) .skip (.exit 0))) (.seq (.block 1 (.seq (.R [.k 2 1,.l 0,.v 4,.i 3 1 0,.z 3 0,.o 38797315,.u 3 0 1] [(6,5)]) (.seq (.R [.k 0 6,.l 0,.j 0,.k 1 6,.l 0,.j 0,.h .add 3 0,.k 2 6,.l 0,.j 0,.h .add 3 0,.x .eql 0 (.k 0),.m (.loc 0)] [(7,12)]) (.seq (.R [.k 0 1,.l 0,.v 4,.i 1 1 0,.l 0,.c 47 [(.loc 0)],.g (.not (.loc 0)),.m (.loc 0),.Q (.v 4) 0 false,.Q (.x .gtr 0 (.k 0)) 1 false,.Q (.m (.loc 0)) 2 false,.Q (.k 0 1) 0 true,.Q (.l 0) 1 true,.Q (.v 4) 2 true,.Q (.i 1 1 0) 3 true,.Q (.l 0) 4 true,.Q (.k 0 1) 5 true,.Q (.l 0) 6 true,.Q (.v 4) 7 true,.Q (.x .sub 0 (.k 1)) 8 true,.Q (.i 1 2 0) 9 true,.Q (.l 0) 10 true,.Q (.h .leq 6 0) 11 true,.q (.pick (.loc 12) (.loc 0) (.b false)) 15 false,.r 16 0,.m (.loc 0),.Q (.k 1 1) 0 false,.Q (.l 0) 1 false,.Q (.v 4) 2 false,.Q (.i 1 1 0) 3 false,.Q (.l 0) 4 false,.Q (.v 7) 5 false,.q (.eqv .bool true (.loc 1) (.loc 0)) 6 false,.r 7 0,.m (.loc 0),.Q (.y 3 6) 0 false,.Q (.v 2) 1 false,.Q (.x .add 0 (.k 1)) 2 false,.Q (.c 22 [(.loc 2),(.loc 0)]) 3 false,.q (.not (.loc 0)) 4 false,.r 5 0] [(8,40)]) (.cond (.var 8) (.seq (.R [.m (.b false)] [(9,0)]) .ret) .skip))))) (.R [.v 4,.x .add 0 (.k 1),.m (.loc 0)] [(4,2)]))))
theorem rm_go {A:List (B8)} {B:List Bool} {C:List CVal} {L:Nat} (hA:A.length=L) (hB:B.length=L) (hC:C.length=L) (hL:L≤100) {d:Int} (hd:0≤d∧d<15) {hh:CHeap} (hf:Fit hh) {bx:Nat} (gx:zA1 hh.ents bx=some (.cells [.imm .none 1 (A.map .str),.imm .none 1 (B.map .bool),.imm .none 3 C])) {ok:Nat→Bool}
    (hS:∀ k s w c,A[k]? = some s→B[k]? = some w→C[k]? = some c→∃ p x y z e m,c=.agg [x,y,z]∧(∃ a b d,LL x a∧LL y b∧LL z d∧a≤100∧b≤100∧d≤100∧decide (a+b+d=0)=e)∧Pe 47 [.str s] (.bool p)∧Pe 22 [.agg [x,y,z],.int .i64 (d+1)] (.bool m)∧ok k=(p && ((k == 0 || zBd (A.getD (k - 1) []) s) && ((w == e) && m))))
    {v0 v3:CVal} {Q:QT}
    (hyes:(∀ k,k<L→ok k=true)→∀ (v5 v6 v7 v8:CVal) n',hh.next≤n'→Q (.exit 0) ⟨[v0,.ptr bx 38797315 0,.int .i64 d,v3,.int .i64 (L:Nat),v5,v6,v7,v8,.bool false],⟨hh.ents,n',hh.tys⟩,[]⟩)
    (hno:∀ k,k<L→ok k=false→∀ (v4 v5 v6 v7 v8:CVal) (b:Nat) (o:CObj) n',hh.next≤b→b<n'→Q .ret ⟨[v0,.ptr bx 38797315 0,.int .i64 d,v3,v4,v5,v6,v7,v8,.bool false],⟨(b,o)::hh.ents,n',hh.tys⟩,[]⟩) :
    ∀ (m k nx:Nat) (v5 v6 v7 v8:CVal),k+m=L→(∀ j,j<k→ok j=true)→hh.next≤nx→W tree.getF rmL ⟨[v0,.ptr bx 38797315 0,.int .i64 d,v3,.int .i64 (k:Nat),v5,v6,v7,v8,.bool false],⟨hh.ents,nx,hh.tys⟩,[]⟩ Q:=by
 have lI:∀ t k es,CVal.lenOf (.imm t k es)=some es.length:=fun _ _ _=>rfl
 have lA:(A.map CVal.str).length=L:=by rw [List.length_map];exact hA
 have lB:(B.map CVal.bool).length=L:=by rw [List.length_map];exact hB
 intro m
 induction m with
 | zero =>
  intro k nx v5 v6 v7 v8 h1 h2 h3
  obtain rfl:k=L:=by omega
  have hgt:¬ (k:Int)<(k:Int):=by omega
  have lq:=zA7 hf.1 gx
  generalize A.map CVal.str=PA at *
  generalize B.map CVal.bool=PB at *
  refine W.loop ?_
  repeat (first
   | refine st_ rfl ?_
   | ((first | refine W.regG ?_ | refine WoR.go ?_);generalize e:goR .. = r;simp (disch:=omega) [gx,lI,lA,hgt,-CVal.lenOf] at e;replace e:some _=_:=e;subst e;(try dsimp only [goW]))
   | ((simp only [zAb,zA4,zA3,zA5,zA8,reduceIte])))
  refine hyes h2 _ _ _ _ _ ?_;exact om_
 | succ m ih =>
  intro k nx v5 v6 v7 v8 h1 h2 h3
  obtain ⟨hu,hut,hX⟩:=fx4 (show Fit ⟨hh.ents,nx,hh.tys⟩ from ⟨hf.1.le h3,hf.2.le h3⟩)
  dsimp only at hX hu hut
  have hlt:(k:Int)<(L:Int):=by omega
  have lq:=zA7 hu gx
  obtain ⟨s,hs⟩:∃ s,A[k]? = some s:=⟨_,List.getElem?_eq_getElem (by omega)⟩
  obtain ⟨w,hw⟩:∃ s,B[k]? = some s:=⟨_,List.getElem?_eq_getElem (by omega)⟩
  obtain ⟨c,hc⟩:∃ s,C[k]? = some s:=⟨_,List.getElem?_eq_getElem (by omega)⟩
  obtain ⟨p,x,y,z,e,mm,rfl,⟨xa,yb,zd,px,py,pz,xa1,yb1,zd1,he⟩,PT,MM,hok⟩:=hS k s w c hs hw hc
  have n1:=zAm CVal.str A k s hs
  have n2:=zAm CVal.bool B k w hw
  have n3:nth C k=.agg [x,y,z]:=by have:=zAm id C k _ hc;simpa using this
  have n4:(A.map CVal.str)[k]? = some (.str s):=by rw [List.getElem?_map,hs];rfl
  have n5:(B.map CVal.bool)[k]? = some (.bool w):=by rw [List.getElem?_map,hw];rfl
  have hj:0<k→∃ r,A[k - 1]? = some r:=fun h=>⟨_,List.getElem?_eq_getElem (by omega)⟩
  have hjn:∀ r,A[k - 1]? = some r→nth (A.map CVal.str) (k - 1)=.str r∧(A.map CVal.str)[k - 1]? = some (.str r):=fun r hr=>⟨zAm CVal.str A (k - 1) r hr,by rw [List.getElem?_map,hr];rfl⟩
  obtain ⟨⟨x1,x2,x3,x4,x5⟩,l1,x6⟩:=px
  obtain ⟨⟨y1,y2,y3,y4,y5⟩,l2,y6⟩:=py
  obtain ⟨⟨z1,z2,z3,z4,z5⟩,l3,z6⟩:=pz
  simp only [CVal.isUndef,CVal.whole,CVal.cells,CVal.strip,CVal.bare,CVal.isStr] at x1 x2 x3 x4 x5 x6 y1 y2 y3 y4 y5 y6 z1 z2 z3 z4 z5 z6
  have e0:((xa:Int)+yb+zd == 0)=e:=by rw [← he,Bool.eq_iff_iff];simp only [beq_iff_eq,decide_eq_true_eq];omega
  clear he
  have lb0:∀ x:CVal,x.beq x=true:=fun x=>zAj x
  have ls0:∀ l:List CVal,beqs l l=true:=fun l=>by have:=zAj (CVal.agg l);simpa using this
  generalize A.map CVal.str=PA at *
  generalize B.map CVal.bool=PB at *
  have ho:∀ r,0<k→A[k - 1]? = some r→(k == 0 || zBd (A.getD (k - 1) []) s)=zBd r s:=fun r h0 hr=>by
   have:(k == 0)=false:=by simp;omega
   simp [List.getD_eq_getElem?_getD,hr,this]
  have ih1:=fun nx v5 v6 v7 v8 (hok':ok k=true) (h:_≤nx)=>ih (k+1) nx v5 v6 v7 v8 (by omega) (fun j a=>by
   rcases Nat.lt_succ_iff_lt_or_eq.1 a with c | rfl
   · exact h2 j c
   · exact hok') h
  push_cast at ih1
  have NO:ok k=false→∀ (v4 v5 v6 v7 v8:CVal) (b:Nat) (o:CObj) n',hh.next≤b→b<n'→Q .ret ⟨[v0,.ptr bx 38797315 0,.int .i64 d,v3,v4,v5,v6,v7,v8,.bool false],⟨(b,o)::hh.ents,n',hh.tys⟩,[]⟩:=fun h=>hno k (by omega) h
  refine W.loop ?_
  cases p
  · have hR:ok k=false:=by rw [hok];rfl
    repeat (first
     | refine st_ rfl ?_
     | ((first | refine W.regG ?_ | refine WoR.go ?_);generalize e:goR .. = r;simp (disch:=omega) [hX,x1,x2,x3,x4,x5,x6,y1,y2,y3,y4,y5,y6,z1,z2,z3,z4,z5,z6,gx,hlt,n1,n2,n3,n4,n5,hc,lA,lB,lb0,ls0,lI,l1,l2,l3,e0,-CVal.lenOf] at e;replace e:some _=_:=e;subst e;(try dsimp only [goW]))
     | ((simp only [zAb,zA4,zA3,zA5,zA8,reduceIte]))
     | (refine pe_ (PT) fun _ g=>⟨rfl,?_⟩;(try dsimp only at g))
     | (refine pe_ (MM) fun _ g=>⟨rfl,?_⟩;(try dsimp only at g)))
    refine W.ret ?_
    simp only [zAb,zA4,zA3,zA8,reduceIte]
    refine NO hR _ _ _ _ _ _ _ _ ?_ ?_
    · omega
    · omega
  rcases Nat.eq_zero_or_pos k with h0 | h0
  · subst h0
    have hb:(0 == 0 || zBd (A.getD (0 - 1) []) s)=true:=rfl
    rw [hb] at hok
    clear hb ho hj hjn ih h2
    cases w <;> cases e <;> cases mm
    all_goals (
     repeat (first
      | refine st_ rfl ?_
      | ((first | refine W.regG ?_ | refine WoR.go ?_);generalize e:goR .. = r;simp (disch:=omega) [hX,x1,x2,x3,x4,x5,x6,y1,y2,y3,y4,y5,y6,z1,z2,z3,z4,z5,z6,gx,hlt,n1,n2,n3,n4,n5,hc,lA,lB,lb0,ls0,lI,l1,l2,l3,e0,-CVal.lenOf] at e;replace e:some _=_:=e;subst e;(try dsimp only [goW]))
      | ((simp only [zAb,zA4,zA3,zA5,zA8,reduceIte]))
      | (refine pe_ (PT) fun _ g=>⟨rfl,?_⟩;(try dsimp only at g))
      | (refine pe_ (MM) fun _ g=>⟨rfl,?_⟩;(try dsimp only at g)))
     first
      | (refine W.ret ?_;simp only [zAb,zA4,zA3,zA8,reduceIte];refine NO (by rw [hok];rfl) _ _ _ _ _ _ _ _ ?_ ?_;omega;omega)
      | (show W tree.getF rmL (dropped true _ _) Q;generalize e:dropped _ _ _=r;simp (disch:=omega) [hX] at e;subst e;refine ih1 _ _ _ _ _ (by rw [hok];rfl) ?_;exact om_))
  · obtain ⟨r,hr⟩:=hj h0
    obtain ⟨r1,r2⟩:=hjn r hr
    rw [ho r h0 hr] at hok
    have hk1:((k:Int) - 1).toNat=k - 1:=by omega
    have hk0:(0:Int)<(k:Int):=by omega
    have hbt:=bl_tri s r
    clear ho hj hjn ih h2
    cases hb:zBd r s
    · have hR:ok k=false:=by rw [hok,hb];rfl
      rw [hb] at hbt
      simp only [Bool.not_false,Bool.not_true] at hbt
      repeat (first
       | refine st_ rfl ?_
       | ((first | refine W.regG ?_ | refine WoR.go ?_);generalize e:goR .. = r;simp (disch:=omega) [hX,x1,x2,x3,x4,x5,x6,y1,y2,y3,y4,y5,y6,z1,z2,z3,z4,z5,z6,gx,hlt,n1,n2,n3,n4,n5,hc,lA,lB,lb0,ls0,lI,l1,l2,l3,e0,-CVal.lenOf,r1,r2,hk1,hk0,hbt] at e;replace e:some _=_:=e;subst e;(try dsimp only [goW]))
       | ((simp only [zAb,zA4,zA3,zA5,zA8,reduceIte]))
       | (refine pe_ (PT) fun _ g=>⟨rfl,?_⟩;(try dsimp only at g))
       | (refine pe_ (MM) fun _ g=>⟨rfl,?_⟩;(try dsimp only at g)))
      refine W.ret ?_
      simp only [zAb,zA4,zA3,zA8,reduceIte]
      refine NO hR _ _ _ _ _ _ _ _ ?_ ?_
      · omega
      · omega
    · rw [hb] at hbt
      simp only [Bool.not_false,Bool.not_true] at hbt
      cases w <;> cases e <;> cases mm
      all_goals (
       repeat (first
        | refine st_ rfl ?_
        | ((first | refine W.regG ?_ | refine WoR.go ?_);generalize e:goR .. = r;simp (disch:=omega) [hX,x1,x2,x3,x4,x5,x6,y1,y2,y3,y4,y5,y6,z1,z2,z3,z4,z5,z6,gx,hlt,n1,n2,n3,n4,n5,hc,lA,lB,lb0,ls0,lI,l1,l2,l3,e0,-CVal.lenOf,r1,r2,hk1,hk0,hbt] at e;replace e:some _=_:=e;subst e;(try dsimp only [goW]))
        | ((simp only [zAb,zA4,zA3,zA5,zA8,reduceIte]))
        | (refine pe_ (PT) fun _ g=>⟨rfl,?_⟩;(try dsimp only at g))
        | (refine pe_ (MM) fun _ g=>⟨rfl,?_⟩;(try dsimp only at g)))
       first
        | (refine W.ret ?_;simp only [zAb,zA4,zA3,zA8,reduceIte];refine NO (by rw [hok,hb];rfl) _ _ _ _ _ _ _ _ ?_ ?_;omega;omega)
        | (show W tree.getF rmL (dropped true _ _) Q;generalize e:dropped _ _ _=r;simp (disch:=omega) [hX] at e;subst e;refine ih1 _ _ _ _ _ (by rw [hok,hb];rfl) ?_;exact om_))
def okM {n:Nat} (E M:MW n→Bool) (t:MW (n+1)) (k:Nat):Bool :=
 pB (t.1.getD k []) && ((k == 0 || zBd (t.1.getD (k - 1) []) (t.1.getD k [])) && ((t.2.1.getD k false == E (t.2.2.getD k (emW n))) && M (t.2.2.getD k (emW n))))
def mayB:(n:Nat)→MW n→Bool
 | 0,_=>true
 | n+1,t=>decide (t.1.length=t.2.1.length) && (decide (t.1.length=t.2.2.length) && (List.range t.1.length).all (okM (mwE n) (mayB n) t))
def wfW:(n:Nat)→MW n→Prop
 | 0,_=>True
 | n+1,t=>(∀ s ∈ t.1,s ∈ nm8)∧t.1.length≤10∧t.2.1.length≤10∧t.2.2.length≤10∧∀ x ∈ t.2.2,wfW n x
theorem zG5:∀ (n:Nat) (t:MW n),wfW n t→∃ x y z a b c,mwV n t=.agg [x,y,z]∧LL x a∧LL y b∧LL z c∧a≤100∧b≤100∧c≤100∧decide (a+b+c=0)=mwE n t
 | 0,_,_=>⟨_,_,_,0,0,0,rfl,zEh 1 [],zEh 1 [],zEh 3 [],by omega,by omega,by omega,rfl⟩
 | n+1,t,⟨_,h1,h2,h3,_⟩=>⟨_,_,_,t.1.length,t.2.1.length,t.2.2.length,rfl,zBh 1 _ _,zBh 1 _ _,zBh 3 _ _,by omega,by omega,by omega,rfl⟩
theorem zJm {L:Nat} {f:Nat→Bool} {k:Nat} (hk:k<L) (h:f k=false):(List.range L).all f=false:=by
 rw [List.all_eq_false]
 exact ⟨k,List.mem_range.2 hk,by rw [h];simp⟩
theorem zJh {L:Nat} {f:Nat→Bool} (h:∀ k,k<L→f k=true):(List.range L).all f=true:=List.all_eq_true.2 fun x hx=>h x (List.mem_range.1 hx)
theorem may_N {A:List (B8)} {B:List Bool} {C:List CVal} (hlA:A.length≤100) (hlB:B.length≤100) (hlC:C.length≤100) {d:Int} (hd:0≤d∧d<15) {ok:Nat→Bool}
    (hS:∀ k s w c,A[k]? = some s→B[k]? = some w→C[k]? = some c→∃ p x y z e m,c=.agg [x,y,z]∧PV1 x∧PV1 y∧PV1 z∧Pe 46 [.str s] (.bool p)∧Pe 45 [.agg [x,y,z]] (.bool e)∧Pe 21 [.agg [x,y,z],.int .i64 (d+1)] (.bool m)∧ok k=(p && ((k == 0 || zBd (A.getD (k - 1) []) s) && ((w == e) && m))))
    {R:Bool} (hR:R=(decide (A.length=B.length) && (decide (A.length=C.length) && (List.range A.length).all ok))):Pe 21 [nodV A B C,.int .i64 d] (.bool R):=by
 intro h hf K hk
 obtain ⟨hu,hut,hX⟩:=fx4 hf
 have hd1:¬ (20:Int)≤d:=by omega
 by_cases hAB:A.length=B.length
 · by_cases hAC:A.length=C.length
   · rw [decide_eq_true hAB,decide_eq_true hAC,Bool.true_and,Bool.true_and] at hR
     cases hA0:A with
     | nil =>
      subst hA0
      obtain rfl:B=[]:=List.length_eq_zero_iff.1 hAB.symm
      obtain rfl:C=[]:=List.length_eq_zero_iff.1 hAC.symm
      subst hR
      have e0:(List.range ([]:List (B8)).length).all ok=true:=rfl
      rw [e0] at hk
      show Wc tree.getF 21 [.agg [.nils,.nils,.nils],.int .i64 d] h K
      have hZ:=j2_ hX hd1
      refine mk_ 21 c21 (s_ ?_)
      repeat (first
       | refine vk_ ?_
       | refine W.loop ?_
       | (refine dk_ ?_;refine W.loop ?_))
      refine rk_ ?_
      refine hk _ ?_;exact om_
     | cons s0 A0 =>
      rw [← hA0]
      have hp:0<A.length:=by rw [hA0];simp
      clear hA0
      obtain ⟨L,hL⟩:∃ L,A.length=L:=⟨_,rfl⟩
      rw [hL] at hR
      have hBL:B.length=L:=by omega
      have hCL:C.length=L:=by omega
      have lA:(A.map CVal.str).length=L:=by rw [List.length_map];exact hL
      have lB:(B.map CVal.bool).length=L:=by rw [List.length_map];exact hBL
      have lC:C.length=L:=hCL
      have hL0:¬ (L:Int)=0:=by omega
      unfold nodV
      rw [zDo (by omega),zDo (by omega),zDo (by omega)]
      have GO:=@my_go A B C L hL hBL hCL (by omega) d hd
      have hZ:=j6_ hX hd1 lA lB lC hL0
      refine mk_ 21 c21 (s_ ?_)
      skip
      repeat ((fail_if_success (show W tree.getF myL _ _));first
       | refine st_ rfl ?_
       | ((first | refine W.regG ?_ | refine WoR.go ?_);generalize e:goR .. = r;simp (disch:=omega) [hZ] at e;replace e:some _=_:=e;subst e;(try dsimp only [goW]))
       | refine W.loop ?_
       | (refine dk_ ?_;refine W.loop ?_)
       | (simp only [zAb,zA4,zA3,zA5,zA8,reduceIte]))
      refine GO (hh:=⟨_,_,_⟩) ft_ (by dsimp only;simp (disch:=omega) [zA1]) hS ?_ ?_ L 0 _ _ _ _ _ (by omega) (fun j a=>by omega) (Nat.le_refl _)
      · intro hy v6 v8 v9 v10 n' g1
        dsimp only at g1
        obtain rfl:R=true:=by rw [hR];exact zJh hy
        repeat (first
         | refine vk_ ?_)
        refine rk_ ?_
        refine hk _ ?_;exact om_
      · intro k hkl hn v4 v6 v8 v9 v10 n' g1
        dsimp only at g1
        obtain rfl:R=false:=by rw [hR];exact zJm hkl hn
        repeat (first
         | refine vk_ ?_)
        refine rk_ ?_
        refine hk _ ?_;exact om_
   · rw [decide_eq_true hAB,decide_eq_false hAC,Bool.true_and,Bool.false_and] at hR
     subst hR
     have h1:((A.length:Int) != (B.length:Int))=false:=by simp;omega
     have h2:((A.length:Int) != (C.length:Int))=true:=by simp;omega
     unfold nodV
     have HA:=zBh 1 CVal.str A
     have HB:=zBh 1 CVal.bool B
     have HC:=zEh 3 C
     generalize lst 1 (A.map CVal.str)=XA at *
     generalize lst 1 (B.map CVal.bool)=XB at *
     generalize lst 3 C=XC at *
     obtain ⟨⟨a1,a2,a3,a4,a5⟩,a6,a7⟩:=HA
     obtain ⟨⟨b1,b2,b3,b4,b5⟩,b6,b7⟩:=HB
     obtain ⟨⟨d1,d2,d3,d4,d5⟩,d6,d7⟩:=HC
     simp only [CVal.isUndef,CVal.whole,CVal.cells,CVal.strip,CVal.bare,CVal.isStr] at a1 a2 a3 a4 a5 a7 b1 b2 b3 b4 b5 b7 d1 d2 d3 d4 d5 d7
     refine mk_ 21 c21 (s_ ?_)
     repeat (first
      | refine st_ rfl ?_
      | ((first | refine W.regG ?_ | refine WoR.go ?_);generalize e:goR .. = r;simp (disch:=omega) [hX,a1,a2,a3,a4,a5,a6,a7,b1,b2,b3,b4,b5,b6,b7,d1,d2,d3,d4,d5,d6,d7,h1,h2,hd1,-CVal.lenOf] at e;replace e:some _=_:=e;subst e;(try dsimp only [goW]))
      | ((simp only [zAb,zA4,zA3,zA5,zA8,reduceIte])))
     refine rx_ ?_
     refine hk _ ?_;exact om_
 · rw [decide_eq_false hAB,Bool.false_and] at hR
   subst hR
   have h1:((A.length:Int) != (B.length:Int))=true:=by simp;omega
   unfold nodV
   have HA:=zBh 1 CVal.str A
   have HB:=zBh 1 CVal.bool B
   have HC:=zEh 3 C
   generalize lst 1 (A.map CVal.str)=XA at *
   generalize lst 1 (B.map CVal.bool)=XB at *
   generalize lst 3 C=XC at *
   obtain ⟨⟨a1,a2,a3,a4,a5⟩,a6,a7⟩:=HA
   obtain ⟨⟨b1,b2,b3,b4,b5⟩,b6,b7⟩:=HB
   obtain ⟨⟨d1,d2,d3,d4,d5⟩,d6,d7⟩:=HC
   simp only [CVal.isUndef,CVal.whole,CVal.cells,CVal.strip,CVal.bare,CVal.isStr] at a1 a2 a3 a4 a5 a7 b1 b2 b3 b4 b5 b7 d1 d2 d3 d4 d5 d7
   refine mk_ 21 c21 (s_ ?_)
   repeat (first
    | refine st_ rfl ?_
    | ((first | refine W.regG ?_ | refine WoR.go ?_);generalize e:goR .. = r;simp (disch:=omega) [hX,a1,a2,a3,a4,a5,a6,a7,b1,b2,b3,b4,b5,b6,b7,d1,d2,d3,d4,d5,d6,d7,h1,hd1,-CVal.lenOf] at e;replace e:some _=_:=e;subst e;(try dsimp only [goW]))
    | ((simp only [zAb,zA4,zA3,zA5,zA8,reduceIte])))
   refine rx_ ?_
   refine hk _ ?_;exact om_
theorem may_C:∀ (n:Nat) (t:MW n),wfW n t→∀ d:Int,0≤d→d+n<15→Pe 21 [mwV n t,.int .i64 d] (.bool (mayB n t))
 | 0,_,_,d,h0,h1=>may_N (A:=[]) (B:=[]) (C:=[]) (by simp) (by simp) (by simp) ⟨h0,by omega⟩ (ok:=fun _=>true) (fun k s w c e=>by simp at e) rfl
 | n+1,t,hw,d,h0,h1=>by
  obtain ⟨w1,w2,w3,w4,w5⟩:=hw
  refine may_N (A:=t.1) (B:=t.2.1) (C:=t.2.2.map (mwV n)) (by omega) (by omega) (by rw [List.length_map];omega) ⟨h0,by omega⟩ (ok:=okM (mwE n) (mayB n) t) (fun k s w c e1 e2 e3=>?_) (by rw [List.length_map];rfl)
  rw [List.getElem?_map] at e3
  obtain ⟨u,e4,rfl⟩:∃ u,t.2.2[k]? = some u∧mwV n u=c:=by
   cases h:t.2.2[k]? with
   | none=>rw [h] at e3;cases e3
   | some u=>rw [h] at e3;exact ⟨u,rfl,by simpa using e3⟩
  have hu:=w5 u (List.mem_of_getElem? e4)
  obtain ⟨x,y,z,a,b,c,ev,hx,hy,hz,ha,hb,hc,he⟩:=zG5 n u hu
  have IH:=may_C n u hu (d+1) (by omega) (by push_cast at h1;omega)
  rw [ev] at IH
  refine ⟨pB s,x,y,z,mwE n u,mayB n u,ev,hx.u,hy.u,hz.u,pp_F s (w1 s (List.mem_of_getElem? e1)),?_,IH,?_⟩
  · rw [← he];exact none_F hx hy hz ha hb hc
  · simp only [okM,List.getD_eq_getElem?_getD,e1,e2,e4,Option.getD_some]
theorem rmay_N {A:List (B8)} {B:List Bool} {C:List CVal} (hlA:A.length≤100) (hlB:B.length≤100) (hlC:C.length≤100) {d:Int} (hd:0≤d∧d<15) {ok:Nat→Bool}
    (hS:∀ k s w c,A[k]? = some s→B[k]? = some w→C[k]? = some c→∃ p x y z e m,c=.agg [x,y,z]∧(∃ a b d,LL x a∧LL y b∧LL z d∧a≤100∧b≤100∧d≤100∧decide (a+b+d=0)=e)∧Pe 47 [.str s] (.bool p)∧Pe 22 [.agg [x,y,z],.int .i64 (d+1)] (.bool m)∧ok k=(p && ((k == 0 || zBd (A.getD (k - 1) []) s) && ((w == e) && m))))
    {R:Bool} (hR:R=(decide (A.length=B.length) && (decide (A.length=C.length) && (List.range A.length).all ok))):Pe 22 [nodV A B C,.int .i64 d] (.bool R):=by
 intro h hf K hk
 obtain ⟨hu,hut,hX⟩:=fx4 hf
 have hd1:¬ (20:Int)<d:=by omega
 by_cases hAB:A.length=B.length
 · by_cases hAC:A.length=C.length
   · rw [decide_eq_true hAB,decide_eq_true hAC,Bool.true_and,Bool.true_and] at hR
     cases hA0:A with
     | nil =>
      subst hA0
      obtain rfl:B=[]:=List.length_eq_zero_iff.1 hAB.symm
      obtain rfl:C=[]:=List.length_eq_zero_iff.1 hAC.symm
      subst hR
      have e0:(List.range ([]:List (B8)).length).all ok=true:=rfl
      rw [e0] at hk
      show Wc tree.getF 22 [.agg [.nils,.nils,.nils],.int .i64 d] h K
      have hZ:=j2_ hX hd1
      refine mk_ 22 c22 (s_ ?_)
      repeat (first
       | refine vk_ ?_
       | refine W.loop ?_
       | (refine dk_ ?_;refine W.loop ?_))
      refine rk_ ?_
      refine hk _ ?_;exact om_
     | cons s0 A0 =>
      rw [← hA0]
      have hp:0<A.length:=by rw [hA0];simp
      clear hA0
      obtain ⟨L,hL⟩:∃ L,A.length=L:=⟨_,rfl⟩
      rw [hL] at hR
      have hBL:B.length=L:=by omega
      have hCL:C.length=L:=by omega
      have lA:(A.map CVal.str).length=L:=by rw [List.length_map];exact hL
      have lB:(B.map CVal.bool).length=L:=by rw [List.length_map];exact hBL
      have lC:C.length=L:=hCL
      have hL0:¬ (L:Int)=0:=by omega
      unfold nodV
      rw [zDo (by omega),zDo (by omega),zDo (by omega)]
      have GO:=@rm_go A B C L hL hBL hCL (by omega) d hd
      have hZ:=j6_ hX hd1 lA lB lC hL0
      refine mk_ 22 c22 (s_ ?_)
      skip
      repeat ((fail_if_success (show W tree.getF rmL _ _));first
       | refine st_ rfl ?_
       | ((first | refine W.regG ?_ | refine WoR.go ?_);generalize e:goR .. = r;simp (disch:=omega) [hZ] at e;replace e:some _=_:=e;subst e;(try dsimp only [goW]))
       | refine W.loop ?_
       | (refine dk_ ?_;refine W.loop ?_)
       | (simp only [zAb,zA4,zA3,zA5,zA8,reduceIte]))
      refine GO (hh:=⟨_,_,_⟩) ft_ (by dsimp only;simp (disch:=omega) [zA1]) hS ?_ ?_ L 0 _ _ _ _ _ (by omega) (fun j a=>by omega) (Nat.le_refl _)
      · intro hy v5 v6 v7 v8 n' g1
        dsimp only at g1
        obtain rfl:R=true:=by rw [hR];exact zJh hy
        repeat (first
         | refine vk_ ?_)
        refine rk_ ?_
        refine hk _ ?_;exact om_
      · intro k hkl hn v4 v5 v6 v7 v8 b o n' g1 g2
        dsimp only at g1
        obtain rfl:R=false:=by rw [hR];exact zJm hkl hn
        repeat (first
         | refine vk_ ?_)
        refine rk_ ?_
        refine hk _ ?_;exact om_
   · rw [decide_eq_true hAB,decide_eq_false hAC,Bool.true_and,Bool.false_and] at hR
     subst hR
     have h1:((A.length:Int) != (B.length:Int))=false:=by simp;omega
     have h2:((A.length:Int) != (C.length:Int))=true:=by simp;omega
     unfold nodV
     have HA:=zBh 1 CVal.str A
     have HB:=zBh 1 CVal.bool B
     have HC:=zEh 3 C
     generalize lst 1 (A.map CVal.str)=XA at *
     generalize lst 1 (B.map CVal.bool)=XB at *
     generalize lst 3 C=XC at *
     obtain ⟨⟨a1,a2,a3,a4,a5⟩,a6,a7⟩:=HA
     obtain ⟨⟨b1,b2,b3,b4,b5⟩,b6,b7⟩:=HB
     obtain ⟨⟨d1,d2,d3,d4,d5⟩,d6,d7⟩:=HC
     simp only [CVal.isUndef,CVal.whole,CVal.cells,CVal.strip,CVal.bare,CVal.isStr] at a1 a2 a3 a4 a5 a7 b1 b2 b3 b4 b5 b7 d1 d2 d3 d4 d5 d7
     refine mk_ 22 c22 (s_ ?_)
     repeat (first
      | refine st_ rfl ?_
      | ((first | refine W.regG ?_ | refine WoR.go ?_);generalize e:goR .. = r;simp (disch:=omega) [hX,a1,a2,a3,a4,a5,a6,a7,b1,b2,b3,b4,b5,b6,b7,d1,d2,d3,d4,d5,d6,d7,h1,h2,hd1,-CVal.lenOf] at e;replace e:some _=_:=e;subst e;(try dsimp only [goW]))
      | ((simp only [zAb,zA4,zA3,zA5,zA8,reduceIte])))
     refine rx_ ?_
     refine hk _ ?_;exact om_
 · rw [decide_eq_false hAB,Bool.false_and] at hR
   subst hR
   have h1:((A.length:Int) != (B.length:Int))=true:=by simp;omega
   unfold nodV
   have HA:=zBh 1 CVal.str A
   have HB:=zBh 1 CVal.bool B
   have HC:=zEh 3 C
   generalize lst 1 (A.map CVal.str)=XA at *
   generalize lst 1 (B.map CVal.bool)=XB at *
   generalize lst 3 C=XC at *
   obtain ⟨⟨a1,a2,a3,a4,a5⟩,a6,a7⟩:=HA
   obtain ⟨⟨b1,b2,b3,b4,b5⟩,b6,b7⟩:=HB
   obtain ⟨⟨d1,d2,d3,d4,d5⟩,d6,d7⟩:=HC
   simp only [CVal.isUndef,CVal.whole,CVal.cells,CVal.strip,CVal.bare,CVal.isStr] at a1 a2 a3 a4 a5 a7 b1 b2 b3 b4 b5 b7 d1 d2 d3 d4 d5 d7
   refine mk_ 22 c22 (s_ ?_)
   repeat (first
    | refine st_ rfl ?_
    | ((first | refine W.regG ?_ | refine WoR.go ?_);generalize e:goR .. = r;simp (disch:=omega) [hX,a1,a2,a3,a4,a5,a6,a7,b1,b2,b3,b4,b5,b6,b7,d1,d2,d3,d4,d5,d6,d7,h1,hd1,-CVal.lenOf] at e;replace e:some _=_:=e;subst e;(try dsimp only [goW]))
    | ((simp only [zAb,zA4,zA3,zA5,zA8,reduceIte])))
   refine rx_ ?_
   refine hk _ ?_;exact om_
theorem rmay_C:∀ (n:Nat) (t:MW n),wfW n t→∀ d:Int,0≤d→d+n<15→Pe 22 [mwV n t,.int .i64 d] (.bool (mayB n t))
 | 0,_,_,d,h0,h1=>rmay_N (A:=[]) (B:=[]) (C:=[]) (by simp) (by simp) (by simp) ⟨h0,by omega⟩ (ok:=fun _=>true) (fun k s w c e=>by simp at e) rfl
 | n+1,t,hw,d,h0,h1=>by
  obtain ⟨w1,w2,w3,w4,w5⟩:=hw
  refine rmay_N (A:=t.1) (B:=t.2.1) (C:=t.2.2.map (mwV n)) (by omega) (by omega) (by rw [List.length_map];omega) ⟨h0,by omega⟩ (ok:=okM (mwE n) (mayB n) t) (fun k s w c e1 e2 e3=>?_) (by rw [List.length_map];rfl)
  rw [List.getElem?_map] at e3
  obtain ⟨u,e4,rfl⟩:∃ u,t.2.2[k]? = some u∧mwV n u=c:=by
   cases h:t.2.2[k]? with
   | none=>rw [h] at e3;cases e3
   | some u=>rw [h] at e3;exact ⟨u,rfl,by simpa using e3⟩
  have hu:=w5 u (List.mem_of_getElem? e4)
  obtain ⟨x,y,z,a,b,c,ev,hx,hy,hz,ha,hb,hc,he⟩:=zG5 n u hu
  have IH:=rmay_C n u hu (d+1) (by omega) (by push_cast at h1;omega)
  rw [ev] at IH
  refine ⟨pB s,x,y,z,mwE n u,mayB n u,ev,⟨a,b,c,hx,hy,hz,ha,hb,hc,he⟩,qq_F s (w1 s (List.mem_of_getElem? e1)),IH,?_⟩
  · simp only [okM,List.getD_eq_getElem?_getD,e1,e2,e4,Option.getD_some]
def eqS (A B:List (B8)):Bool:=decide (A.length=B.length) && (List.range A.length).all fun k=>A.getD k [] == B.getD k []
def eqO (A B:List Bool):Bool:=decide (A.length=B.length) && (List.range A.length).all fun k=>A.getD k false == B.getD k false
abbrev esL:CCode:=(.loop true (.seq (.R [.g (.bin .lss (.var 3) (.var 4))] [(5,0)]) (.seq (.cond (.var 5) .skip (.exit 0)) (.seq (.block 1 (.seq (.R [.v 3,.m (.loc 0)] [(6,1)]) (.seq (.R [.v 0,.v 6,.i 1 1 0,.l 0,.v 1,.v 6,.i 1 1 0,.l 0,.h .neq 4 0] [(7,8)]) (.cond (.var 7) (.seq (.R [.m (.b false)] [(8,0)]) .ret) .skip)))) (.R [.g (.bin .add (.var 3) (.k 1)),.m (.loc 0)] [(3,1)])))))
theorem es_go {A B:List (B8)} {L:Nat} (hA:A.length=L) (hB:B.length=L) (hL:L≤100) {hh:CHeap} (hf:Fit hh) {v2:CVal} {Q:QT}
    (hyes:(∀ k,k<L→(A.getD k [] == B.getD k [])=true)→∀ (v5 v6 v7:CVal) n',hh.next≤n'→Q (.exit 0) ⟨[.imm .none 1 (A.map CVal.str),.imm .none 1 (B.map CVal.str),v2,.int .i64 (L:Nat),.int .i64 (L:Nat),v5,v6,v7,.bool false],⟨hh.ents,n',hh.tys⟩,[]⟩)
    (hno:∀ k,k<L→(A.getD k [] == B.getD k [])=false→∀ (v3 v5 v6 v7:CVal) n',hh.next≤n'→Q .ret ⟨[.imm .none 1 (A.map CVal.str),.imm .none 1 (B.map CVal.str),v2,v3,.int .i64 (L:Nat),v5,v6,v7,.bool false],⟨hh.ents,n',hh.tys⟩,[]⟩) :
    ∀ (m k nx:Nat) (v5 v6 v7:CVal),k+m=L→(∀ j,j<k→(A.getD j [] == B.getD j [])=true)→hh.next≤nx→W tree.getF esL ⟨[.imm .none 1 (A.map CVal.str),.imm .none 1 (B.map CVal.str),v2,.int .i64 (k:Nat),.int .i64 (L:Nat),v5,v6,v7,.bool false],⟨hh.ents,nx,hh.tys⟩,[]⟩ Q:=by
 intro m
 induction m with
 | zero =>
  intro k nx v5 v6 v7 h1 h2 h3
  obtain rfl:k=L:=by omega
  refine W.loop ?_
  try refine w0_ ?_
  refine hyes h2 _ _ _ _ ?_;exact om_
 | succ m ih =>
  intro k nx v5 v6 v7 h1 h2 h3
  obtain ⟨hu,hut,hX⟩:=fx4 (show Fit ⟨hh.ents,nx,hh.tys⟩ from ⟨hf.1.le h3,hf.2.le h3⟩)
  dsimp only at hX hu hut
  have hlt:(k:Int)<(L:Int):=by omega
  obtain ⟨s,hs⟩:∃ s,A[k]? = some s:=⟨_,List.getElem?_eq_getElem (by omega)⟩
  obtain ⟨w,hw⟩:∃ s,B[k]? = some s:=⟨_,List.getElem?_eq_getElem (by omega)⟩
  have n1:=zAm CVal.str A k s hs
  have n2:=zAm CVal.str B k w hw
  have n4:(A.map CVal.str)[k]? = some (CVal.str s):=by rw [List.getElem?_map,hs];rfl
  have n5:(B.map CVal.str)[k]? = some (CVal.str w):=by rw [List.getElem?_map,hw];rfl
  have lA:(A.map CVal.str).length=L:=by rw [List.length_map];exact hA
  have lB:(B.map CVal.str).length=L:=by rw [List.length_map];exact hB
  have hok:(A.getD k [] == B.getD k [])=(s == w):=by simp [List.getD_eq_getElem?_getD,hs,hw]
  have lb0:∀ x:CVal,x.beq x=true:=fun x=>zAj x
  have ls0:∀ l:List CVal,beqs l l=true:=fun l=>by have:=zAj (CVal.agg l);simpa using this
  have ih1:=fun nx v5 v6 v7 (hok':(A.getD k [] == B.getD k [])=true) (h:_≤nx)=>ih (k+1) nx v5 v6 v7 (by omega) (fun j a=>by
   rcases Nat.lt_succ_iff_lt_or_eq.1 a with c | rfl
   · exact h2 j c
   · exact hok') h
  push_cast at ih1
  clear ih h2
  generalize A.map CVal.str=PA at *
  generalize B.map CVal.str=PB at *
  refine W.loop ?_
  by_cases e:s=w
  · subst e
    have hR:(s == s)=true:=by simp
    rw [hR] at hok
    have hR2:(s != s)=false:=by simp
    have hZ:=j12_ hX hlt n1 n2 n4 n5 lA lB lb0 ls0 hR hR2
    repeat (first
     | refine vk_ ?_)
    refine dk_ ?_;refine ih1 _ _ _ _ hok ?_;exact om_
  · have hR:(s == w)=false:=by simp [e]
    rw [hR] at hok
    have hR2:(s != w)=true:=by simp [e]
    have hZ:=j13_ hX hlt n1 n2 n4 n5 lA lB lb0 ls0 hR hR2 e
    repeat (first
     | refine vk_ ?_)
    refine W.ret ?_
    simp only [zAb,zA4,zA3,zA8,reduceIte]
    refine hno k (by omega) hok _ _ _ _ _ ?_;exact om_
theorem es_F {A B:List (B8)} (hlA:A.length≤100) (hlB:B.length≤100):Pe 25 [lst 1 (A.map CVal.str),lst 1 (B.map CVal.str)] (.bool (eqS A B)):=by
 intro h hf K hk
 obtain ⟨hu,hut,hX⟩:=fx4 hf
 obtain ⟨R,hR⟩:∃ R,eqS A B=R:=⟨_,rfl⟩
 rw [hR] at hk
 have hR0:=hR
 unfold eqS at hR
 by_cases hAB:A.length=B.length
 · rw [decide_eq_true hAB,Bool.true_and] at hR
   cases hA0:A with
   | nil =>
    subst hA0
    obtain rfl:B=[]:=List.length_eq_zero_iff.1 hAB.symm
    have e0:R=true:=hR.symm
    subst e0
    show Wc tree.getF 25 [.nils,.nils] h K
    refine mk_ 25 c25 (s_ ?_)
    repeat (first
     | refine vx_ ?_
     | refine W.loop ?_
     | (refine dx_ ?_;refine W.loop ?_))
    refine rx_ ?_
    refine hk _ ?_;exact om_
   | cons s0 A0 =>
    rw [← hA0]
    have hp:0<A.length:=by rw [hA0];simp
    clear hA0
    obtain ⟨L,hL⟩:∃ L,A.length=L:=⟨_,rfl⟩
    rw [hL] at hR
    have hBL:B.length=L:=by omega
    have lA:(A.map CVal.str).length=L:=by rw [List.length_map];exact hL
    have lB:(B.map CVal.str).length=L:=by rw [List.length_map];exact hBL
    rw [zDo (by omega),zDo (by omega)]
    have GO:=@es_go A B L hL hBL (by omega)
    have hZ:=j3_ hX lA lB
    refine mk_ 25 c25 (s_ ?_)
    skip
    repeat ((fail_if_success (show W tree.getF esL _ _));first
     | refine st_ rfl ?_
     | ((first | refine W.regG ?_ | refine WoR.go ?_);generalize e:goR .. = r;simp (disch:=omega) [hZ] at e;replace e:some _=_:=e;subst e;(try dsimp only [goW]))
     | refine W.loop ?_
     | (refine dk_ ?_;refine W.loop ?_)
     | (simp only [zAb,zA4,zA3,zA5,zA8,reduceIte]))
    refine GO (hh:=⟨_,_,_⟩) ft_ ?_ ?_ L 0 _ _ _ _ (by omega) (fun j a=>by omega) (by (try dsimp only);omega)
    · intro hy v5 v6 v7 n' g1
      dsimp only at g1
      obtain rfl:R=true:=by rw [← hR];exact zJh hy
      repeat (first
       | refine vk_ ?_)
      refine rk_ ?_
      refine hk _ ?_;exact om_
    · intro k hkl hn v3 v5 v6 v7 n' g1
      dsimp only at g1
      obtain rfl:R=false:=by rw [← hR];exact zJm hkl hn
      repeat (first
       | refine vk_ ?_)
      refine rk_ ?_
      refine hk _ ?_;exact om_
 · rw [decide_eq_false hAB,Bool.false_and] at hR
   subst hR
   have h1:((A.length:Int) != (B.length:Int))=true:=by simp;omega
   have HA:=zBh 1 CVal.str A
   have HB:=zBh 1 CVal.str B
   generalize lst 1 (A.map CVal.str)=XA at *
   generalize lst 1 (B.map CVal.str)=XB at *
   obtain ⟨⟨a1,a2,a3,a4,a5⟩,a6,a7⟩:=HA
   obtain ⟨⟨b1,b2,b3,b4,b5⟩,b6,b7⟩:=HB
   simp only [CVal.isUndef,CVal.whole,CVal.cells,CVal.strip,CVal.bare,CVal.isStr] at a1 a2 a3 a4 a5 a7 b1 b2 b3 b4 b5 b7
   refine mk_ 25 c25 (s_ ?_)
   repeat (first
    | refine st_ rfl ?_
    | ((first | refine W.regG ?_ | refine WoR.go ?_);generalize e:goR .. = r;simp (disch:=omega) [hX,a1,a2,a3,a4,a5,a6,a7,b1,b2,b3,b4,b5,b6,b7,h1,-CVal.lenOf] at e;replace e:some _=_:=e;subst e;(try dsimp only [goW]))
    | ((simp only [zAb,zA4,zA3,zA5,zA8,reduceIte])))
   refine rx_ ?_
   refine hk _ ?_;exact om_
abbrev ebL:CCode:=(.loop true (.seq (.R [.g (.bin .lss (.var 3) (.var 4))] [(5,0)]) (.seq (.cond (.var 5) .skip (.exit 0)) (.seq (.block 1 (.seq (.R [.v 3,.m (.loc 0)] [(6,1)]) (.seq (.R [.v 0,.v 6,.i 1 1 0,.l 0,.v 1,.v 6,.i 1 1 0,.l 0,.g (.eqv .bool true (.loc 4) (.loc 0))] [(7,8)]) (.cond (.var 7) (.seq (.R [.m (.b false)] [(8,0)]) .ret) .skip)))) (.R [.g (.bin .add (.var 3) (.k 1)),.m (.loc 0)] [(3,1)])))))
theorem eb_go {A B:List (Bool)} {L:Nat} (hA:A.length=L) (hB:B.length=L) (hL:L≤100) {hh:CHeap} (hf:Fit hh) {v2:CVal} {Q:QT}
    (hyes:(∀ k,k<L→(A.getD k false == B.getD k false)=true)→∀ (v5 v6 v7:CVal) n',hh.next≤n'→Q (.exit 0) ⟨[.imm .none 1 (A.map CVal.bool),.imm .none 1 (B.map CVal.bool),v2,.int .i64 (L:Nat),.int .i64 (L:Nat),v5,v6,v7,.bool false],⟨hh.ents,n',hh.tys⟩,[]⟩)
    (hno:∀ k,k<L→(A.getD k false == B.getD k false)=false→∀ (v3 v5 v6 v7:CVal) n',hh.next≤n'→Q .ret ⟨[.imm .none 1 (A.map CVal.bool),.imm .none 1 (B.map CVal.bool),v2,v3,.int .i64 (L:Nat),v5,v6,v7,.bool false],⟨hh.ents,n',hh.tys⟩,[]⟩) :
    ∀ (m k nx:Nat) (v5 v6 v7:CVal),k+m=L→(∀ j,j<k→(A.getD j false == B.getD j false)=true)→hh.next≤nx→W tree.getF ebL ⟨[.imm .none 1 (A.map CVal.bool),.imm .none 1 (B.map CVal.bool),v2,.int .i64 (k:Nat),.int .i64 (L:Nat),v5,v6,v7,.bool false],⟨hh.ents,nx,hh.tys⟩,[]⟩ Q:=by
 intro m
 induction m with
 | zero =>
  intro k nx v5 v6 v7 h1 h2 h3
  obtain rfl:k=L:=by omega
  refine W.loop ?_
  try refine w0_ ?_
  refine hyes h2 _ _ _ _ ?_;exact om_
 | succ m ih =>
  intro k nx v5 v6 v7 h1 h2 h3
  obtain ⟨hu,hut,hX⟩:=fx4 (show Fit ⟨hh.ents,nx,hh.tys⟩ from ⟨hf.1.le h3,hf.2.le h3⟩)
  dsimp only at hX hu hut
  have hlt:(k:Int)<(L:Int):=by omega
  obtain ⟨s,hs⟩:∃ s,A[k]? = some s:=⟨_,List.getElem?_eq_getElem (by omega)⟩
  obtain ⟨w,hw⟩:∃ s,B[k]? = some s:=⟨_,List.getElem?_eq_getElem (by omega)⟩
  have n1:=zAm CVal.bool A k s hs
  have n2:=zAm CVal.bool B k w hw
  have n4:(A.map CVal.bool)[k]? = some (CVal.bool s):=by rw [List.getElem?_map,hs];rfl
  have n5:(B.map CVal.bool)[k]? = some (CVal.bool w):=by rw [List.getElem?_map,hw];rfl
  have lA:(A.map CVal.bool).length=L:=by rw [List.length_map];exact hA
  have lB:(B.map CVal.bool).length=L:=by rw [List.length_map];exact hB
  have hok:(A.getD k false == B.getD k false)=(s == w):=by simp [List.getD_eq_getElem?_getD,hs,hw]
  have lb0:∀ x:CVal,x.beq x=true:=fun x=>zAj x
  have ls0:∀ l:List CVal,beqs l l=true:=fun l=>by have:=zAj (CVal.agg l);simpa using this
  have ih1:=fun nx v5 v6 v7 (hok':(A.getD k false == B.getD k false)=true) (h:_≤nx)=>ih (k+1) nx v5 v6 v7 (by omega) (fun j a=>by
   rcases Nat.lt_succ_iff_lt_or_eq.1 a with c | rfl
   · exact h2 j c
   · exact hok') h
  push_cast at ih1
  clear ih h2
  generalize A.map CVal.bool=PA at *
  generalize B.map CVal.bool=PB at *
  refine W.loop ?_
  by_cases e:s=w
  · subst e
    have hR:(s == s)=true:=by simp
    rw [hR] at hok
    have hR2:(s != s)=false:=by simp
    have hZ:=j12_ hX hlt n1 n2 n4 n5 lA lB lb0 ls0 hR hR2
    repeat (first
     | refine vk_ ?_)
    refine dk_ ?_;refine ih1 _ _ _ _ hok ?_;exact om_
  · have hR:(s == w)=false:=by simp [e]
    rw [hR] at hok
    have hR2:(s != w)=true:=by simp [e]
    have hZ:=j13_ hX hlt n1 n2 n4 n5 lA lB lb0 ls0 hR hR2 e
    repeat (first
     | refine vk_ ?_)
    refine W.ret ?_
    simp only [zAb,zA4,zA3,zA8,reduceIte]
    refine hno k (by omega) hok _ _ _ _ _ ?_;exact om_
theorem eb_F {A B:List (Bool)} (hlA:A.length≤100) (hlB:B.length≤100):Pe 26 [lst 1 (A.map CVal.bool),lst 1 (B.map CVal.bool)] (.bool (eqO A B)):=by
 intro h hf K hk
 obtain ⟨hu,hut,hX⟩:=fx4 hf
 obtain ⟨R,hR⟩:∃ R,eqO A B=R:=⟨_,rfl⟩
 rw [hR] at hk
 have hR0:=hR
 unfold eqO at hR
 by_cases hAB:A.length=B.length
 · rw [decide_eq_true hAB,Bool.true_and] at hR
   cases hA0:A with
   | nil =>
    subst hA0
    obtain rfl:B=[]:=List.length_eq_zero_iff.1 hAB.symm
    have e0:R=true:=hR.symm
    subst e0
    show Wc tree.getF 26 [.nils,.nils] h K
    refine mk_ 26 c26 (s_ ?_)
    repeat (first
     | refine vx_ ?_
     | refine W.loop ?_
     | (refine dx_ ?_;refine W.loop ?_))
    refine rx_ ?_
    refine hk _ ?_;exact om_
   | cons s0 A0 =>
    rw [← hA0]
    have hp:0<A.length:=by rw [hA0];simp
    clear hA0
    obtain ⟨L,hL⟩:∃ L,A.length=L:=⟨_,rfl⟩
    rw [hL] at hR
    have hBL:B.length=L:=by omega
    have lA:(A.map CVal.bool).length=L:=by rw [List.length_map];exact hL
    have lB:(B.map CVal.bool).length=L:=by rw [List.length_map];exact hBL
    rw [zDo (by omega),zDo (by omega)]
    have GO:=@eb_go A B L hL hBL (by omega)
    have hZ:=j3_ hX lA lB
    refine mk_ 26 c26 (s_ ?_)
    skip
    repeat ((fail_if_success (show W tree.getF ebL _ _));first
     | refine st_ rfl ?_
     | ((first | refine W.regG ?_ | refine WoR.go ?_);generalize e:goR .. = r;simp (disch:=omega) [hZ] at e;replace e:some _=_:=e;subst e;(try dsimp only [goW]))
     | refine W.loop ?_
     | (refine dk_ ?_;refine W.loop ?_)
     | (simp only [zAb,zA4,zA3,zA5,zA8,reduceIte]))
    refine GO (hh:=⟨_,_,_⟩) ft_ ?_ ?_ L 0 _ _ _ _ (by omega) (fun j a=>by omega) (by (try dsimp only);omega)
    · intro hy v5 v6 v7 n' g1
      dsimp only at g1
      obtain rfl:R=true:=by rw [← hR];exact zJh hy
      repeat (first
       | refine vk_ ?_)
      refine rk_ ?_
      refine hk _ ?_;exact om_
    · intro k hkl hn v3 v5 v6 v7 n' g1
      dsimp only at g1
      obtain rfl:R=false:=by rw [← hR];exact zJm hkl hn
      repeat (first
       | refine vk_ ?_)
      refine rk_ ?_
      refine hk _ ?_;exact om_
 · rw [decide_eq_false hAB,Bool.false_and] at hR
   subst hR
   have h1:((A.length:Int) != (B.length:Int))=true:=by simp;omega
   have HA:=zBh 1 CVal.bool A
   have HB:=zBh 1 CVal.bool B
   generalize lst 1 (A.map CVal.bool)=XA at *
   generalize lst 1 (B.map CVal.bool)=XB at *
   obtain ⟨⟨a1,a2,a3,a4,a5⟩,a6,a7⟩:=HA
   obtain ⟨⟨b1,b2,b3,b4,b5⟩,b6,b7⟩:=HB
   simp only [CVal.isUndef,CVal.whole,CVal.cells,CVal.strip,CVal.bare,CVal.isStr] at a1 a2 a3 a4 a5 a7 b1 b2 b3 b4 b5 b7
   refine mk_ 26 c26 (s_ ?_)
   repeat (first
    | refine st_ rfl ?_
    | ((first | refine W.regG ?_ | refine WoR.go ?_);generalize e:goR .. = r;simp (disch:=omega) [hX,a1,a2,a3,a4,a5,a6,a7,b1,b2,b3,b4,b5,b6,b7,h1,-CVal.lenOf] at e;replace e:some _=_:=e;subst e;(try dsimp only [goW]))
    | ((simp only [zAb,zA4,zA3,zA5,zA8,reduceIte])))
   refine rx_ ?_
   refine hk _ ?_;exact om_
abbrev efL:CCode:=(.loop true (.seq (.R [.g (.bin .lss (.var 3) (.var 4))] [(5,0)]) (.seq (.cond (.var 5) .skip (.exit 0)) (.seq (.block 1 (.seq (.R [.v 3,.g (.idxAddr 3 (.var 6) (.var 3)),.z 3 0,.o 38797315,.m (.loc 3),.u 3 1 2] [(7,4),(9,3)]) (.seq (.R [.v 1,.v 7,.i 3 1 0,.z 3 0,.o 38797315,.u 3 0 1] [(10,4)]) (.seq (.R [.v 8,.y 3 9,.y 3 10,.g (.callv false (.loc 2) [(.loc 1),(.loc 0)]),.g (.not (.loc 0))] [(11,4)]) (.cond (.var 11) (.seq (.R [.m (.b false)] [(12,0)]) .ret) .skip))))) (.R [.g (.bin .add (.var 3) (.k 1)),.m (.loc 0)] [(3,1)])))))
theorem ef_go {C D:List CVal} {L:Nat} (hA:C.length=L) (hB:D.length=L) (hL:L≤100) {hh:CHeap} (hf:Fit hh) {ok:Nat→Bool} (hS:∀ k x y,C[k]? = some x→D[k]? = some y→∃ x1 x2 x3 y1 y2 y3,x=.agg [x1,x2,x3]∧y=.agg [y1,y2,y3]∧PV1 x1∧PV1 x2∧PV1 x3∧PV1 y1∧PV1 y2∧PV1 y3∧Pe 13 [.agg [x1,x2,x3],.agg [y1,y2,y3]] (.bool (ok k))) {v2:CVal} {Q:QT}
    (hyes:(∀ k,k<L→ok k=true)→∀ (v5 v7 v9 v10 v11:CVal) n',hh.next≤n'→Q (.exit 0) ⟨[.imm .none 3 C,.imm .none 3 D,v2,.int .i64 (L:Nat),.int .i64 (L:Nat),v5,.imm .none 3 C,v7,.fn (.func 13) [] [],v9,v10,v11,.bool false],⟨hh.ents,n',hh.tys⟩,[]⟩)
    (hno:∀ k,k<L→ok k=false→∀ (v3 v5 v7 v9 v10 v11:CVal) (b c:Nat) (o p:CObj) n',hh.next≤b→b<n'→hh.next≤c→c<n'→Q .ret ⟨[.imm .none 3 C,.imm .none 3 D,v2,v3,.int .i64 (L:Nat),v5,.imm .none 3 C,v7,.fn (.func 13) [] [],v9,v10,v11,.bool false],⟨(b,o)::(c,p)::hh.ents,n',hh.tys⟩,[]⟩) :
    ∀ (m k nx:Nat) (v5 v7 v9 v10 v11:CVal),k+m=L→(∀ j,j<k→ok j=true)→hh.next≤nx→W tree.getF efL ⟨[.imm .none 3 C,.imm .none 3 D,v2,.int .i64 (k:Nat),.int .i64 (L:Nat),v5,.imm .none 3 C,v7,.fn (.func 13) [] [],v9,v10,v11,.bool false],⟨hh.ents,nx,hh.tys⟩,[]⟩ Q:=by
 intro m
 induction m with
 | zero =>
  intro k nx v5 v7 v9 v10 v11 h1 h2 h3
  obtain rfl:k=L:=by omega
  refine W.loop ?_
  try refine w0_ ?_
  refine hyes h2 _ _ _ _ _ _ ?_;exact om_
 | succ m ih =>
  intro k nx v5 v7 v9 v10 v11 h1 h2 h3
  obtain ⟨hu,hut,hX⟩:=fx4 (show Fit ⟨hh.ents,nx,hh.tys⟩ from ⟨hf.1.le h3,hf.2.le h3⟩)
  dsimp only at hX hu hut
  have hlt:(k:Int)<(L:Int):=by omega
  obtain ⟨s,hs⟩:∃ s,C[k]? = some s:=⟨_,List.getElem?_eq_getElem (by omega)⟩
  obtain ⟨w,hw⟩:∃ s,D[k]? = some s:=⟨_,List.getElem?_eq_getElem (by omega)⟩
  have n1:nth C k=s:=by have:=zAm id C k _ hs;simpa using this
  have n2:nth D k=w:=by have:=zAm id D k _ hw;simpa using this
  obtain ⟨x,y,z,x',y',z',rfl,rfl,⟨a1,a2,a3,a4,a5⟩,⟨b1,b2,b3,b4,b5⟩,⟨d1,d2,d3,d4,d5⟩,⟨e1,e2,e3,e4,e5⟩,⟨f1,f2,f3,f4,f5⟩,⟨g1,g2,g3,g4,g5⟩,PS⟩:=hS k s w hs hw
  simp only [CVal.isUndef,CVal.whole,CVal.cells,CVal.strip,CVal.bare] at a1 a2 a3 a4 a5 b1 b2 b3 b4 b5 d1 d2 d3 d4 d5 e1 e2 e3 e4 e5 f1 f2 f3 f4 f5 g1 g2 g3 g4 g5
  have hP:=j30_ a1 a2 a3 a4 a5 b1 b2 b3 b4 b5 d1 d2 d3 d4 d5 e1 e2 e3 e4 e5 f1 f2 f3 f4 f5 g1 g2 g3 g4 g5
  have lb0:∀ x:CVal,x.beq x=true:=fun x=>zAj x
  have ls0:∀ l:List CVal,beqs l l=true:=fun l=>by have:=zAj (CVal.agg l);simpa using this
  have ih1:=fun nx v5 v7 v9 v10 v11 (hok':ok k=true) (h:_≤nx)=>ih (k+1) nx v5 v7 v9 v10 v11 (by omega) (fun j a=>by
   rcases Nat.lt_succ_iff_lt_or_eq.1 a with c | rfl
   · exact h2 j c
   · exact hok') h
  push_cast at ih1
  clear ih h2
  refine W.loop ?_
  have hZ:=j10_ hX hP hlt n1 n2 hs hw hA hB lb0
  generalize hk:ok k=R at *
  cases R
  all_goals (
   repeat (first
    | refine vk_ ?_
    | (refine pe_ (PS) fun _ g=>⟨rfl,?_⟩;(try dsimp only at g)))
   first
    | (refine W.ret ?_;simp only [zAb,zA4,zA3,zA8,reduceIte];refine hno k (by omega) hk _ _ _ _ _ _ _ _ _ _ _ ?_ ?_ ?_ ?_ <;> omega)
    | (refine dk_ ?_;refine ih1 _ _ _ _ _ _ rfl ?_;exact om_))
theorem ef_F {C D:List CVal} (hlA:C.length≤100) (hlB:D.length≤100) {ok:Nat→Bool} (hS:∀ k x y,C[k]? = some x→D[k]? = some y→∃ x1 x2 x3 y1 y2 y3,x=.agg [x1,x2,x3]∧y=.agg [y1,y2,y3]∧PV1 x1∧PV1 x2∧PV1 x3∧PV1 y1∧PV1 y2∧PV1 y3∧Pe 13 [.agg [x1,x2,x3],.agg [y1,y2,y3]] (.bool (ok k))):Pe 27 [lst 3 C,lst 3 D,.fn (.func 13) [] []] (.bool (decide (C.length=D.length) && (List.range C.length).all ok)):=by
 intro h hf K hk
 obtain ⟨hu,hut,hX⟩:=fx4 hf
 obtain ⟨R,hR⟩:∃ R,(decide (C.length=D.length) && (List.range C.length).all ok)=R:=⟨_,rfl⟩
 rw [hR] at hk
 by_cases hAB:C.length=D.length
 · rw [decide_eq_true hAB,Bool.true_and] at hR
   cases hA0:C with
   | nil =>
    subst hA0
    obtain rfl:D=[]:=List.length_eq_zero_iff.1 hAB.symm
    have e0:R=true:=hR.symm
    subst e0
    show Wc tree.getF 27 [.nils,.nils,.fn (.func 13) [] []] h K
    refine mk_ 27 c27 (s_ ?_)
    repeat (first
     | refine vx_ ?_
     | refine W.loop ?_
     | (refine dx_ ?_;refine W.loop ?_))
    refine rx_ ?_
    refine hk _ ?_;exact om_
   | cons s0 A0 =>
    rw [← hA0]
    have hp:0<C.length:=by rw [hA0];simp
    clear hA0
    obtain ⟨L,hL⟩:∃ L,C.length=L:=⟨_,rfl⟩
    rw [hL] at hR
    have hBL:D.length=L:=by omega
    rw [zDo (by omega),zDo (by omega)]
    have GO:=@ef_go C D L hL hBL (by omega)
    have hZ:=j3_ hX hL hBL
    refine mk_ 27 c27 (s_ ?_)
    skip
    repeat ((fail_if_success (show W tree.getF efL _ _));first
     | refine st_ rfl ?_
     | ((first | refine W.regG ?_ | refine WoR.go ?_);generalize e:goR .. = r;simp (disch:=omega) [hZ] at e;replace e:some _=_:=e;subst e;(try dsimp only [goW]))
     | refine W.loop ?_
     | (refine dk_ ?_;refine W.loop ?_)
     | (simp only [zAb,zA4,zA3,zA5,zA8,reduceIte]))
    refine GO (hh:=⟨_,_,_⟩) ft_ hS ?_ ?_ L 0 _ _ _ _ _ _ (by omega) (fun j a=>by omega) (by (try dsimp only);omega)
    · intro hy v5 v7 v9 v10 v11 n' g1
      dsimp only at g1
      obtain rfl:R=true:=by rw [← hR];exact zJh hy
      repeat (first
       | refine vk_ ?_)
      refine rk_ ?_
      refine hk _ ?_;exact om_
    · intro k hkl hn v3 v5 v7 v9 v10 v11 b c o p n' g1 g2 g3 g4
      dsimp only at g1 g3
      obtain rfl:R=false:=by rw [← hR];exact zJm hkl hn
      repeat (first
       | refine vk_ ?_)
      refine rk_ ?_
      refine hk _ ?_;exact om_
 · rw [decide_eq_false hAB,Bool.false_and] at hR
   subst hR
   have h1:((C.length:Int) != (D.length:Int))=true:=by simp;omega
   have HA:=zEh 3 C
   have HB:=zEh 3 D
   generalize lst 3 C=XA at *
   generalize lst 3 D=XB at *
   obtain ⟨⟨a1,a2,a3,a4,a5⟩,a6,a7⟩:=HA
   obtain ⟨⟨b1,b2,b3,b4,b5⟩,b6,b7⟩:=HB
   simp only [CVal.isUndef,CVal.whole,CVal.cells,CVal.strip,CVal.bare,CVal.isStr] at a1 a2 a3 a4 a5 a7 b1 b2 b3 b4 b5 b7
   refine mk_ 27 c27 (s_ ?_)
   repeat (first
    | refine st_ rfl ?_
    | ((first | refine W.regG ?_ | refine WoR.go ?_);generalize e:goR .. = r;simp (disch:=omega) [hX,a1,a2,a3,a4,a5,a6,a7,b1,b2,b3,b4,b5,b6,b7,h1,-CVal.lenOf] at e;replace e:some _=_:=e;subst e;(try dsimp only [goW]))
    | ((simp only [zAb,zA4,zA3,zA5,zA8,reduceIte])))
   refine rx_ ?_
   refine hk _ ?_;exact om_
def sameB:(n:Nat)→MW n→MW n→Bool
 | 0,_,_=>true
 | n+1,t,u=>eqS t.1 u.1 && (eqO t.2.1 u.2.1 && (decide (t.2.2.length=u.2.2.length) && (List.range t.2.2.length).all fun k=>sameB n (t.2.2.getD k (emW n)) (u.2.2.getD k (emW n))))
theorem same_N {X Y Z X' Y' Z':CVal} {r1 r2 r3:Bool} (P0:PV1 X) (P1:PV1 Y) (P2:PV1 Z) (P3:PV1 X') (P4:PV1 Y') (P5:PV1 Z') (H1:Pe 25 [X,X'] (.bool r1)) (H2:Pe 26 [Y,Y'] (.bool r2)) (H3:Pe 27 [Z,Z',.fn (.func 13) [] []] (.bool r3)):Pe 13 [.agg [X,Y,Z],.agg [X',Y',Z']] (.bool (r1 && (r2 && r3))):=by
 intro h hf K hk
 obtain ⟨hu,hut,hX⟩:=fx4 hf
 obtain ⟨a1,a2,a3,a4,a5⟩:=P0
 obtain ⟨b1,b2,b3,b4,b5⟩:=P1
 obtain ⟨d1,d2,d3,d4,d5⟩:=P2
 obtain ⟨e1,e2,e3,e4,e5⟩:=P3
 obtain ⟨f1,f2,f3,f4,f5⟩:=P4
 obtain ⟨g1,g2,g3,g4,g5⟩:=P5
 simp only [CVal.isUndef,CVal.whole,CVal.cells,CVal.strip,CVal.bare] at a1 a2 a3 a4 a5 b1 b2 b3 b4 b5 d1 d2 d3 d4 d5 e1 e2 e3 e4 e5 f1 f2 f3 f4 f5 g1 g2 g3 g4 g5
 have hP:=j30_ a1 a2 a3 a4 a5 b1 b2 b3 b4 b5 d1 d2 d3 d4 d5 e1 e2 e3 e4 e5 f1 f2 f3 f4 f5 g1 g2 g3 g4 g5
 have hZ:=j2_ hX hP
 cases r1 <;> cases r2 <;> cases r3
 all_goals (
  refine mk_ 13 c13 (s_ ?_)
  repeat (first
   | refine vk_ ?_
   | (refine pe_ (H1) fun _ g=>⟨rfl,?_⟩;(try dsimp only at g))
   | (refine pe_ (H2) fun _ g=>⟨rfl,?_⟩;(try dsimp only at g))
   | (refine pe_ (H3) fun _ g=>⟨rfl,?_⟩;(try dsimp only at g)))
  refine rk_ ?_
  refine hk _ ?_;exact om_)
theorem zKn:∀ (n:Nat) (t:MW n),wfW n t→∃ (A:List (B8)) (B:List Bool) (C:List CVal),mwV n t=.agg [lst 1 (A.map CVal.str),lst 1 (B.map CVal.bool),lst 3 C]
 | 0,_,_=>⟨[],[],[],rfl⟩
 | n+1,t,_=>⟨t.1,t.2.1,t.2.2.map (mwV n),rfl⟩
theorem getM {n:Nat} {l:List (MW n)} {k:Nat} {c:CVal} (e3:(l.map (mwV n))[k]? = some c):∃ u,l[k]? = some u∧mwV n u=c:=by
 rw [List.getElem?_map] at e3
 cases h:l[k]? with
 | none=>rw [h] at e3;cases e3
 | some u=>rw [h] at e3;exact ⟨u,rfl,by simpa using e3⟩
theorem same_C:∀ (n:Nat) (t u:MW n),wfW n t→wfW n u→Pe 13 [mwV n t,mwV n u] (.bool (sameB n t u))
 | 0,_,_,_,_=>same_N (zCj 1 []) (zCj 1 []) (zCj 3 []) (zCj 1 []) (zCj 1 []) (zCj 3 []) (es_F (A:=[]) (B:=[]) (by simp) (by simp)) (eb_F (A:=[]) (B:=[]) (by simp) (by simp)) (ef_F (C:=[]) (D:=[]) (by simp) (by simp) (ok:=fun _=>true) (fun k x y e=>by simp at e))
 | n+1,t,u,hw,hv=>by
  obtain ⟨w1,w2,w3,w4,w5⟩:=hw
  obtain ⟨v1,v2,v3,v4,v5⟩:=hv
  have H3:=@ef_F (t.2.2.map (mwV n)) (u.2.2.map (mwV n)) (by rw [List.length_map];omega) (by rw [List.length_map];omega) (fun k=>sameB n (t.2.2.getD k (emW n)) (u.2.2.getD k (emW n))) (fun k x y e1 e2=>by
   obtain ⟨a,q1,rfl⟩:=getM e1
   obtain ⟨b,q2,rfl⟩:=getM e2
   have ha:=w5 a (List.mem_of_getElem? q1)
   have hb:=v5 b (List.mem_of_getElem? q2)
   obtain ⟨A,B,C,ea⟩:=zKn n a ha
   obtain ⟨A',B',C',eb⟩:=zKn n b hb
   refine ⟨_,_,_,_,_,_,ea,eb,zCj _ _,zCj _ _,zCj _ _,zCj _ _,zCj _ _,zCj _ _,?_⟩
   rw [← ea,← eb,List.getD_eq_getElem?_getD,List.getD_eq_getElem?_getD,q1,q2]
   exact same_C n a b ha hb)
  rw [List.length_map,List.length_map] at H3
  exact same_N (zCj _ _) (zCj _ _) (zCj _ _) (zCj _ _) (zCj _ _) (zCj _ _) (es_F (by omega) (by omega)) (eb_F (by omega) (by omega)) H3
theorem eqS_rfl (A:List (B8)):eqS A A=true:=by simp [eqS]
theorem eqO_rfl (A:List Bool):eqO A A=true:=by simp [eqO]
theorem sameB_rfl:∀ (n:Nat) (t:MW n),sameB n t t=true
 | 0,_=>rfl
 | n+1,t=>by
  unfold sameB
  rw [eqS_rfl,eqO_rfl]
  simp only [decide_true,Bool.true_and]
  exact List.all_eq_true.2 fun k _=>sameB_rfl n _
abbrev rs0L:CCode:=(.loop true (.seq (.seq (.R [.v 5,.k 0 2,.l 0,.j 0,.h .lss 3 0] [(6,4)]) (.cond (.var 6) .skip (.exit 0))) (.seq (.block 1 (.seq (.R [.k 0 2,.l 0,.v 5,.i 1 1 0,.l 0,.k 0 3,.l 0,.v 5,.i 1 1 0,.l 0,.h .neq 5 0] [(7,10)]) (.cond (.var 7) (.seq (.R [.m (.b false)] [(14,0)]) .ret) .skip))) (.R [.v 5,.x .add 0 (.k 1),.m (.loc 0)] [(5,2)]))))
theorem rs0_go {A B:List (B8)} {L:Nat} (hA:A.length=L) (hB:B.length=L) (hL:L≤100) {hh:CHeap} (hf:Fit hh) {b2 b3:Nat} {c1 c2 d1 d2:CVal} (g2:zA1 hh.ents b2=some (.cells [lst 1 (A.map CVal.str),c1,c2])) (g3:zA1 hh.ents b3=some (.cells [lst 1 (B.map CVal.str),d1,d2])) {v0 v1 v4 v8 v9 v10 v11 v12 v13:CVal} {Q:QT}
    (hyes:(∀ k,k<L→(A.getD k [] == B.getD k [])=true)→∀ (v5 v6 v7:CVal) n',hh.next≤n'→Q (.exit 0) ⟨[v0,v1,.ptr b2 38797315 0,.ptr b3 38797315 0,v4,v5,v6,v7,v8,v9,v10,v11,v12,v13,.bool false],⟨hh.ents,n',hh.tys⟩,[]⟩)
    (hno:∀ k,k<L→(A.getD k [] == B.getD k [])=false→∀ (v5 v6 v7:CVal) n',hh.next≤n'→Q .ret ⟨[v0,v1,.ptr b2 38797315 0,.ptr b3 38797315 0,v4,v5,v6,v7,v8,v9,v10,v11,v12,v13,.bool false],⟨hh.ents,n',hh.tys⟩,[]⟩) :
    ∀ (m k nx:Nat) (v6 v7:CVal),k+m=L→(∀ j,j<k→(A.getD j [] == B.getD j [])=true)→hh.next≤nx→W tree.getF rs0L ⟨[v0,v1,.ptr b2 38797315 0,.ptr b3 38797315 0,v4,.int .i64 (k:Nat),v6,v7,v8,v9,v10,v11,v12,v13,.bool false],⟨hh.ents,nx,hh.tys⟩,[]⟩ Q:=by
 have lI:∀ t k es,CVal.lenOf (.imm t k es)=some es.length:=fun _ _ _=>rfl
 intro m
 induction m with
 | zero =>
  intro k nx v6 v7 h1 h2 h3
  obtain rfl:k=L:=by omega
  obtain ⟨hu,hut,hX⟩:=fx4 (show Fit ⟨hh.ents,nx,hh.tys⟩ from ⟨hf.1.le h3,hf.2.le h3⟩)
  dsimp only at hX hu hut
  have hgt:¬ (k:Int)<(k:Int):=by omega
  have HA:=zBh 1 CVal.str A
  rw [hA] at HA
  generalize lst 1 (A.map CVal.str)=XA at *
  generalize lst 1 (B.map CVal.str)=XB at *
  obtain ⟨⟨a1,a2,a3,a4,a5⟩,a6,a7⟩:=HA
  simp only [CVal.isUndef,CVal.whole,CVal.cells,CVal.strip,CVal.bare,CVal.isStr] at a1 a2 a3 a4 a5 a7
  refine W.loop ?_
  repeat (first
   | refine st_ rfl ?_
   | ((first | refine W.regG ?_ | refine WoR.go ?_);generalize e:goR .. = r;simp (disch:=omega) [hX,g2,g3,hgt,a1,a2,a3,a4,a5,a6,a7,-CVal.lenOf] at e;replace e:some _=_:=e;subst e;(try dsimp only [goW]))
   | ((simp only [zAb,zA4,zA3,zA5,zA8,reduceIte])))
  refine hyes h2 _ _ _ _ ?_;exact om_
 | succ m ih =>
  intro k nx v6 v7 h1 h2 h3
  obtain ⟨hu,hut,hX⟩:=fx4 (show Fit ⟨hh.ents,nx,hh.tys⟩ from ⟨hf.1.le h3,hf.2.le h3⟩)
  dsimp only at hX hu hut
  have hlt:(k:Int)<(L:Int):=by omega
  obtain ⟨s,hs⟩:∃ s,A[k]? = some s:=⟨_,List.getElem?_eq_getElem (by omega)⟩
  obtain ⟨w,hw⟩:∃ s,B[k]? = some s:=⟨_,List.getElem?_eq_getElem (by omega)⟩
  have n1:=zAm CVal.str A k s hs
  have n2:=zAm CVal.str B k w hw
  have n4:(A.map CVal.str)[k]? = some (CVal.str s):=by rw [List.getElem?_map,hs];rfl
  have n5:(B.map CVal.str)[k]? = some (CVal.str w):=by rw [List.getElem?_map,hw];rfl
  have lA:(A.map CVal.str).length=L:=by rw [List.length_map];exact hA
  have lB:(B.map CVal.str).length=L:=by rw [List.length_map];exact hB
  have hok:(A.getD k [] == B.getD k [])=(s == w):=by simp [List.getD_eq_getElem?_getD,hs,hw]
  have lb0:∀ x:CVal,x.beq x=true:=fun x=>zAj x
  have ls0:∀ l:List CVal,beqs l l=true:=fun l=>by have:=zAj (CVal.agg l);simpa using this
  have ih1:=fun nx v6 v7 (hok':(A.getD k [] == B.getD k [])=true) (h:_≤nx)=>ih (k+1) nx v6 v7 (by omega) (fun j a=>by
   rcases Nat.lt_succ_iff_lt_or_eq.1 a with c | rfl
   · exact h2 j c
   · exact hok') h
  push_cast at ih1
  clear ih h2
  rw [zDo (by rw [List.length_map];omega)] at g2
  rw [zDo (by rw [List.length_map];omega)] at g3
  generalize A.map CVal.str=PA at *
  generalize B.map CVal.str=PB at *
  refine W.loop ?_
  by_cases e:s=w
  · subst e
    have hR:(s == s)=true:=by simp
    rw [hR] at hok
    have hR2:(s != s)=false:=by simp
    have hZ:=j14_ hX hlt n1 n2 n4 n5 lA lB lb0 ls0 hR hR2 g2 g3
    repeat (first
     | refine vk_ ?_)
    refine dk_ ?_;refine ih1 _ _ _ hok ?_;exact om_
  · have hR:(s == w)=false:=by simp [e]
    rw [hR] at hok
    have hR2:(s != w)=true:=by simp [e]
    have hZ:=j15_ hX hlt n1 n2 n4 n5 lA lB lb0 ls0 hR hR2 e g2 g3
    repeat (first
     | refine vk_ ?_)
    refine W.ret ?_
    simp only [zAb,zA4,zA3,zA8,reduceIte]
    refine hno k (by omega) hok _ _ _ _ ?_;exact om_
abbrev rs1L:CCode:=(.loop true (.seq (.seq (.R [.v 8,.k 1 2,.l 0,.j 0,.h .lss 3 0] [(9,4)]) (.cond (.var 9) .skip (.exit 2))) (.seq (.block 3 (.seq (.R [.k 1 2,.l 0,.v 8,.i 1 1 0,.l 0,.k 1 3,.l 0,.v 8,.i 1 1 0,.l 0,.g (.eqv .bool true (.loc 5) (.loc 0))] [(10,10)]) (.cond (.var 10) (.seq (.R [.m (.b false)] [(14,0)]) .ret) .skip))) (.R [.v 8,.x .add 0 (.k 1),.m (.loc 0)] [(8,2)]))))
theorem rs1_go {A B:List (Bool)} {L:Nat} (hA:A.length=L) (hB:B.length=L) (hL:L≤100) {hh:CHeap} (hf:Fit hh) {b2 b3:Nat} {c0 c2 d0 d2:CVal} (g2:zA1 hh.ents b2=some (.cells [c0,lst 1 (A.map CVal.bool),c2])) (g3:zA1 hh.ents b3=some (.cells [d0,lst 1 (B.map CVal.bool),d2])) {v0 v1 v4 v5 v6 v7 v11 v12 v13:CVal} {Q:QT}
    (hyes:(∀ k,k<L→(A.getD k false == B.getD k false)=true)→∀ (v8 v9 v10:CVal) n',hh.next≤n'→Q (.exit 2) ⟨[v0,v1,.ptr b2 38797315 0,.ptr b3 38797315 0,v4,v5,v6,v7,v8,v9,v10,v11,v12,v13,.bool false],⟨hh.ents,n',hh.tys⟩,[]⟩)
    (hno:∀ k,k<L→(A.getD k false == B.getD k false)=false→∀ (v8 v9 v10:CVal) n',hh.next≤n'→Q .ret ⟨[v0,v1,.ptr b2 38797315 0,.ptr b3 38797315 0,v4,v5,v6,v7,v8,v9,v10,v11,v12,v13,.bool false],⟨hh.ents,n',hh.tys⟩,[]⟩) :
    ∀ (m k nx:Nat) (v9 v10:CVal),k+m=L→(∀ j,j<k→(A.getD j false == B.getD j false)=true)→hh.next≤nx→W tree.getF rs1L ⟨[v0,v1,.ptr b2 38797315 0,.ptr b3 38797315 0,v4,v5,v6,v7,.int .i64 (k:Nat),v9,v10,v11,v12,v13,.bool false],⟨hh.ents,nx,hh.tys⟩,[]⟩ Q:=by
 have lI:∀ t k es,CVal.lenOf (.imm t k es)=some es.length:=fun _ _ _=>rfl
 intro m
 induction m with
 | zero =>
  intro k nx v9 v10 h1 h2 h3
  obtain rfl:k=L:=by omega
  obtain ⟨hu,hut,hX⟩:=fx4 (show Fit ⟨hh.ents,nx,hh.tys⟩ from ⟨hf.1.le h3,hf.2.le h3⟩)
  dsimp only at hX hu hut
  have hgt:¬ (k:Int)<(k:Int):=by omega
  have HA:=zBh 1 CVal.bool A
  rw [hA] at HA
  generalize lst 1 (A.map CVal.bool)=XA at *
  generalize lst 1 (B.map CVal.bool)=XB at *
  obtain ⟨⟨a1,a2,a3,a4,a5⟩,a6,a7⟩:=HA
  simp only [CVal.isUndef,CVal.whole,CVal.cells,CVal.strip,CVal.bare,CVal.isStr] at a1 a2 a3 a4 a5 a7
  refine W.loop ?_
  repeat (first
   | refine st_ rfl ?_
   | ((first | refine W.regG ?_ | refine WoR.go ?_);generalize e:goR .. = r;simp (disch:=omega) [hX,g2,g3,hgt,a1,a2,a3,a4,a5,a6,a7,-CVal.lenOf] at e;replace e:some _=_:=e;subst e;(try dsimp only [goW]))
   | ((simp only [zAb,zA4,zA3,zA5,zA8,reduceIte])))
  refine hyes h2 _ _ _ _ ?_;exact om_
 | succ m ih =>
  intro k nx v9 v10 h1 h2 h3
  obtain ⟨hu,hut,hX⟩:=fx4 (show Fit ⟨hh.ents,nx,hh.tys⟩ from ⟨hf.1.le h3,hf.2.le h3⟩)
  dsimp only at hX hu hut
  have hlt:(k:Int)<(L:Int):=by omega
  obtain ⟨s,hs⟩:∃ s,A[k]? = some s:=⟨_,List.getElem?_eq_getElem (by omega)⟩
  obtain ⟨w,hw⟩:∃ s,B[k]? = some s:=⟨_,List.getElem?_eq_getElem (by omega)⟩
  have n1:=zAm CVal.bool A k s hs
  have n2:=zAm CVal.bool B k w hw
  have n4:(A.map CVal.bool)[k]? = some (CVal.bool s):=by rw [List.getElem?_map,hs];rfl
  have n5:(B.map CVal.bool)[k]? = some (CVal.bool w):=by rw [List.getElem?_map,hw];rfl
  have lA:(A.map CVal.bool).length=L:=by rw [List.length_map];exact hA
  have lB:(B.map CVal.bool).length=L:=by rw [List.length_map];exact hB
  have hok:(A.getD k false == B.getD k false)=(s == w):=by simp [List.getD_eq_getElem?_getD,hs,hw]
  have lb0:∀ x:CVal,x.beq x=true:=fun x=>zAj x
  have ls0:∀ l:List CVal,beqs l l=true:=fun l=>by have:=zAj (CVal.agg l);simpa using this
  have ih1:=fun nx v9 v10 (hok':(A.getD k false == B.getD k false)=true) (h:_≤nx)=>ih (k+1) nx v9 v10 (by omega) (fun j a=>by
   rcases Nat.lt_succ_iff_lt_or_eq.1 a with c | rfl
   · exact h2 j c
   · exact hok') h
  push_cast at ih1
  clear ih h2
  rw [zDo (by rw [List.length_map];omega)] at g2
  rw [zDo (by rw [List.length_map];omega)] at g3
  generalize A.map CVal.bool=PA at *
  generalize B.map CVal.bool=PB at *
  refine W.loop ?_
  by_cases e:s=w
  · subst e
    have hR:(s == s)=true:=by simp
    rw [hR] at hok
    have hR2:(s != s)=false:=by simp
    have hZ:=j14_ hX hlt n1 n2 n4 n5 lA lB lb0 ls0 hR hR2 g2 g3
    repeat (first
     | refine vk_ ?_)
    refine dk_ ?_;refine ih1 _ _ _ hok ?_;exact om_
  · have hR:(s == w)=false:=by simp [e]
    rw [hR] at hok
    have hR2:(s != w)=true:=by simp [e]
    have hZ:=j15_ hX hlt n1 n2 n4 n5 lA lB lb0 ls0 hR hR2 e g2 g3
    repeat (first
     | refine vk_ ?_)
    refine W.ret ?_
    simp only [zAb,zA4,zA3,zA8,reduceIte]
    refine hno k (by omega) hok _ _ _ _ ?_;exact om_
abbrev rs2L:CCode:=(.loop true (.seq (.seq (.R [.v 11,.k 2 2,.l 0,.j 0,.h .lss 3 0] [(12,4)]) (.cond (.var 12) .skip (.exit 4))) (.seq (.block 5 (.seq (.R [.k 2 2,.l 0,.v 11,.i 3 1 0,.z 3 0,.k 2 3,.l 0,.v 11,.i 3 1 0,.z 3 0,.c 14 [(.loc 5),(.loc 0)],.g (.not (.loc 0))] [(13,11)]) (.cond (.var 13) (.seq (.R [.m (.b false)] [(14,0)]) .ret) .skip))) (.R [.v 11,.x .add 0 (.k 1),.m (.loc 0)] [(11,2)]))))
theorem rs2_go {A B:List (CVal)} {L:Nat} (hA:A.length=L) (hB:B.length=L) (hL:L≤100) {hh:CHeap} (hf:Fit hh) {b2 b3:Nat} {c0 c1 d0 d1:CVal} (g2:zA1 hh.ents b2=some (.cells [c0,c1,lst 3 A])) (g3:zA1 hh.ents b3=some (.cells [d0,d1,lst 3 B])) {ok:Nat→Bool} (hS:∀ k x y,A[k]? = some x→B[k]? = some y→∃ x1 x2 x3 y1 y2 y3,x=.agg [x1,x2,x3]∧y=.agg [y1,y2,y3]∧PV1 x1∧PV1 x2∧PV1 x3∧PV1 y1∧PV1 y2∧PV1 y3∧Pe 14 [.agg [x1,x2,x3],.agg [y1,y2,y3]] (.bool (ok k))) {v0 v1 v4 v5 v6 v7 v8 v9 v10:CVal} {Q:QT}
    (hyes:(∀ k,k<L→ok k=true)→∀ (v11 v12 v13:CVal) n',hh.next≤n'→Q (.exit 4) ⟨[v0,v1,.ptr b2 38797315 0,.ptr b3 38797315 0,v4,v5,v6,v7,v8,v9,v10,v11,v12,v13,.bool false],⟨hh.ents,n',hh.tys⟩,[]⟩)
    (hno:∀ k,k<L→ok k=false→∀ (v11 v12 v13:CVal) n',hh.next≤n'→Q .ret ⟨[v0,v1,.ptr b2 38797315 0,.ptr b3 38797315 0,v4,v5,v6,v7,v8,v9,v10,v11,v12,v13,.bool false],⟨hh.ents,n',hh.tys⟩,[]⟩) :
    ∀ (m k nx:Nat) (v12 v13:CVal),k+m=L→(∀ j,j<k→ok j=true)→hh.next≤nx→W tree.getF rs2L ⟨[v0,v1,.ptr b2 38797315 0,.ptr b3 38797315 0,v4,v5,v6,v7,v8,v9,v10,.int .i64 (k:Nat),v12,v13,.bool false],⟨hh.ents,nx,hh.tys⟩,[]⟩ Q:=by
 have lI:∀ t k es,CVal.lenOf (.imm t k es)=some es.length:=fun _ _ _=>rfl
 intro m
 induction m with
 | zero =>
  intro k nx v12 v13 h1 h2 h3
  obtain rfl:k=L:=by omega
  obtain ⟨hu,hut,hX⟩:=fx4 (show Fit ⟨hh.ents,nx,hh.tys⟩ from ⟨hf.1.le h3,hf.2.le h3⟩)
  dsimp only at hX hu hut
  have hgt:¬ (k:Int)<(k:Int):=by omega
  have HA:=zEh 3 A
  rw [hA] at HA
  generalize lst 3 A=XA at *
  generalize lst 3 B=XB at *
  obtain ⟨⟨a1,a2,a3,a4,a5⟩,a6,a7⟩:=HA
  simp only [CVal.isUndef,CVal.whole,CVal.cells,CVal.strip,CVal.bare,CVal.isStr] at a1 a2 a3 a4 a5 a7
  refine W.loop ?_
  repeat (first
   | refine st_ rfl ?_
   | ((first | refine W.regG ?_ | refine WoR.go ?_);generalize e:goR .. = r;simp (disch:=omega) [hX,g2,g3,hgt,a1,a2,a3,a4,a5,a6,a7,-CVal.lenOf] at e;replace e:some _=_:=e;subst e;(try dsimp only [goW]))
   | ((simp only [zAb,zA4,zA3,zA5,zA8,reduceIte])))
  refine hyes h2 _ _ _ _ ?_;exact om_
 | succ m ih =>
  intro k nx v12 v13 h1 h2 h3
  obtain ⟨hu,hut,hX⟩:=fx4 (show Fit ⟨hh.ents,nx,hh.tys⟩ from ⟨hf.1.le h3,hf.2.le h3⟩)
  dsimp only at hX hu hut
  have hlt:(k:Int)<(L:Int):=by omega
  obtain ⟨s,hs⟩:∃ s,A[k]? = some s:=⟨_,List.getElem?_eq_getElem (by omega)⟩
  obtain ⟨w,hw⟩:∃ s,B[k]? = some s:=⟨_,List.getElem?_eq_getElem (by omega)⟩
  have n1:nth A k=s:=by have:=zAm id A k _ hs;simpa using this
  have n2:nth B k=w:=by have:=zAm id B k _ hw;simpa using this
  obtain ⟨x,y,z,x',y',z',rfl,rfl,⟨a1,a2,a3,a4,a5⟩,⟨b1,b2',b3',b4,b5⟩,⟨d1,d2',d3,d4,d5⟩,⟨e1,e2,e3,e4,e5⟩,⟨f1,f2,f3,f4,f5⟩,⟨q1,q2,q3,q4,q5⟩,PS⟩:=hS k s w hs hw
  simp only [CVal.isUndef,CVal.whole,CVal.cells,CVal.strip,CVal.bare] at a1 a2 a3 a4 a5 b1 b2' b3' b4 b5 d1 d2' d3 d4 d5 e1 e2 e3 e4 e5 f1 f2 f3 f4 f5 q1 q2 q3 q4 q5
  have hP:=j30_ a1 a2 a3 a4 a5 b1 b2' b3' b4 b5 d1 d2' d3 d4 d5 e1 e2 e3 e4 e5 f1 f2 f3 f4 f5 q1 q2 q3 q4 q5
  have lb0:∀ x:CVal,x.beq x=true:=fun x=>zAj x
  have ls0:∀ l:List CVal,beqs l l=true:=fun l=>by have:=zAj (CVal.agg l);simpa using this
  have ih1:=fun nx v12 v13 (hok':ok k=true) (h:_≤nx)=>ih (k+1) nx v12 v13 (by omega) (fun j a=>by
   rcases Nat.lt_succ_iff_lt_or_eq.1 a with c | rfl
   · exact h2 j c
   · exact hok') h
  push_cast at ih1
  clear ih h2
  rw [zDo (by omega)] at g2
  rw [zDo (by omega)] at g3
  refine W.loop ?_
  have hZ:=j13_ hX hP hlt n1 n2 hs hw hA hB lb0 ls0 g2 g3
  generalize hk:ok k=R at *
  cases R
  all_goals (
   repeat (first
    | refine vk_ ?_
    | (refine pe_ (PS) fun _ g=>⟨rfl,?_⟩;(try dsimp only at g)))
   first
    | (refine W.ret ?_;simp only [zAb,zA4,zA3,zA8,reduceIte];refine hno k (by omega) hk _ _ _ _ ?_;exact om_)
    | (refine dk_ ?_;refine ih1 _ _ _ rfl ?_;exact om_))
end Go.Proofs.YtcokdlfmnhjngaaGreatDoor.IrW
