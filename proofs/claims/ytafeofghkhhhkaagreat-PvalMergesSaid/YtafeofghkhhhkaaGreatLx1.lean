/- What the functions of the law 'PvalMerges' do: part 1 of 9. -/
import Derived.Test.YtafeofghkhhhkaaGreatIrM
import Derived.Lib.Bytealg
namespace Go.Proofs.YtafeofghkhhhkaaGreat.IrM
open Go Go.CI
set_option maxRecDepth 100000
set_option maxHeartbeats 4000000
set_option linter.unusedVariables false
set_option linter.unusedSimpArgs false
attribute [local irreducible] W Wo Wc WoR
attribute [simp] goR zM8 zF5 zGk sameAt zJs CVal.beq beqs CVal.block zIl zEm zB8 zBo zBq zGl zFi zAq nth zBw COp.cls COp.isStore CVal.isUndef CVal.whole CVal.cells CHeap.put CHeap.get CHeap.set zC4 zA1 zA2 partOf zBu zHp zHn zL7 zBn initVar descOf List.take List.drop CVal.lenOf CVal.isStr CVal.bare CVal.strip CVal.flat zCa zBr zBs zDx cut zE0 setCells szOf zGx elems bytesOf zD7 zD2 zBk zHr List.replicate zCg zD1 zXg zYm zA8 dropped zRr zBe zA5 zB7 zTj zVf zVg zUz zW5 zUu zYt zZb zKr zCx zL8 extL extE zG6 zG8 zGn zHw CHeap.ty zCy CHeap.note CHeap.tyOk zB6 zFd zEl zDu zJ3 zO8 zPf zTn zMy zP2 zXn zXb zNi rowOf zLf idxFrom zKk zQe
theorem bn_ {α:Type} [BEq α] [LawfulBEq α] {a b:α} (h:a≠b):(a == b)=false:=beq_eq_false_iff_ne.2 h
theorem gs_ {α:Type} {l:List α} {i:Nat} {a:α} (h:l[i]? = some a):∃ h':i<l.length,l[i]=a:=List.getElem?_eq_some_iff.1 h
theorem gE_ {α:Type} {l:List α} {i:Nat} (h:i<l.length):l[i]? = some l[i]:=List.getElem?_eq_getElem h
theorem n0_ {α:Type} {l:List α} (h:l.length=0):l=[]:=List.eq_nil_of_length_eq_zero h
noncomputable abbrev TF:Nat->Option CFn:=tree.getF
abbrev KT:=CVal->CHeap->Prop
abbrev QT:=CExit->CSt->Prop
abbrev B8:=List UInt8
abbrev NN:=List (Nat × Nat)
abbrev EE:=List (Nat × CObj)
theorem fx4 {h:CHeap} (hf:Fit h):Under h.ents h.next/\zA7 h.tys h.next/\(∀ m,h.next<=m->zBe h.ents m=h.ents)/\(∀ m,h.next<=m->zA5 h.ents m=h.ents)/\(∀ q,h.next<=q->zA1 h.ents q=none)/\(∀ q,h.next<=q->zCy h.tys q=none):=by
 obtain ⟨hu,hut⟩:=hf
 exact ⟨hu,hut,fun m hm=>zCj (hu.le hm),fun m hm=>zAa (hu.le hm),fun q hq=>zAc hu hq,fun q hq=>zBz hut hq⟩
theorem fx5 {h:CHeap} {p:Nat} {o:CObj} (hf:Fit h) (hg:zA1 h.ents p=some o):(∀ x,zA1 (zA2 h.ents p x) p=some x)/\(∀ x m,h.next<=m->zBe (zA2 h.ents p x) m=zA2 h.ents p x)/\(∀ x m,h.next<=m->zA5 (zA2 h.ents p x) m=zA2 h.ents p x)/\(∀ x q,h.next<=q->zA1 (zA2 h.ents p x) q=none) :=
 have hu:=hf.1
 ⟨fun x=>zA4 hg,fun x m hm=>zCj (hu.set.le hm),fun x m hm=>zAa (hu.set.le hm),fun x q hq=>zAc hu.set hq⟩
theorem ut_ {l:List (Nat × Nat)} {n:Nat} (h:zA7 l n:=by repeat (first | exact hut.le (by (try dsimp only);omega) | refine zA7.cons (by (try dsimp only);omega) ?_ | exact zA7.nil | assumption | exact zA7.le (by assumption) (by (try dsimp only);omega))):zA7 l n:=h
theorem fit_ {h:CHeap} (hf:Fit h:=by (refine ⟨?_,?_⟩;(focus ((repeat (first | exact hu.le (by (try dsimp only);omega) | exact hu.set.le (by (try dsimp only);omega) | exact hu.set.set.le (by (try dsimp only);omega) | refine Under.cons (by (try dsimp only);omega) ?_ | exact Under.nil));done));(focus ((repeat (first | exact hut.le (by (try dsimp only);omega) | refine zA7.cons (by (try dsimp only);omega) ?_ | exact zA7.nil | assumption | exact zA7.le (by assumption) (by (try dsimp only);omega)));done)))):Fit h:=hf
theorem ge_ {l:List (Nat × CObj)} {p:Nat} {o:CObj} (h:zA1 l p=some o:=by first | exact hg | exact hG _ | exact hY.1 _ | ((try dsimp only);exact hY.1 _) | ((try dsimp only);exact hg) | ((try dsimp only);exact hG _) | (simp (disch:=omega) [zA1,zA2,zCg,zD1,zA8,hg,hG]) | (simp (disch:=omega) [zA1,zA2,zCg,zD1,zA8,hg,hY])):zA1 l p=some o:=h
abbrev bl_:=@W.block
abbrev rg_:=@W.regG
abbrev go_:=@WoR.go
def stN (T:Nat->Option CFn) (c:CCode) (st:CSt) (Q:CExit->CSt->Prop):Option Prop:=match c with
 | .seq a b=>some (W T a st (zMo T b Q))
 | .block id c=>some (W T c st fun x st'=>Q (zB3 id x) st')
 | .cond c a b=>match zAq st.tm [] c with
  | .bool true=>some (W T a st Q)
  | .bool false=>some (W T b st Q)
  | _=>none
 | .skip=>some (Q .normal st)
 | .exit i=>some (Q (.exit i) st)
 | _=>none
theorem st_ {T:Nat->Option CFn} {c:CCode} {st:CSt} {Q:CExit->CSt->Prop} {P:Prop} (h:stN T c st Q=some P) (hp:P):W T c st Q:=by
 unfold stN at h
 split at h
 . cases h;exact W.seq hp
 . cases h;exact W.block hp
 . split at h
   . rename_i e;cases h;exact W.cond_true e hp
   . rename_i e;cases h;exact W.cond_false e hp
   . cases h
 . cases h;exact W.skip hp
 . cases h;exact W.exit hp
 . cases h
abbrev gwP (T:Nat->Option CFn) (tm:List CVal) (ops0:List COper) (wb:List (Nat × Nat)) (chk:List (Nat × Nat × Nat)) (sw:List (Nat × Nat)) (Q:CExit->CSt->Prop):GoR->Prop
 | .done st=>Q .normal st
 | .call id f args r s=>Wc T f args s.h fun v h'=>v.isUndef=false/\WoR T tm ops0 wb chk sw Q (id+1) r { s with vals:=v::s.vals,h:=h',hs:=s.h::s.hs }
theorem gw_ {T:Nat->Option CFn} {tm:List CVal} {ops0:List COper} {wb:List (Nat × Nat)} {chk:List (Nat × Nat × Nat)} {sw:List (Nat × Nat)} {Q:CExit->CSt->Prop} {x:Option GoR} {r:GoR} (e:x=some r) (h:gwP T tm ops0 wb chk sw Q r):goW T tm ops0 wb chk sw Q x:=by
 rw [e]
 cases r <;> exact h
attribute [simp] c4 c6 c7 c8 c9 c11 c13 c14 c15 c16 c17 c18 c19 c20 c21 c22 c23 c24 c25 c26 c27 c28 c29 c30 c31 c32 c33 c37 c38 c39 c40 c41 c42 c43 c44 c45 c46 c47 c48 c49 c50 c51 c52 c53 c54 c55 c56 c57 c58 c59 c60 c61 c62 c63 c64 c65 c66 c67 c68 c69 c70 c71 c72 c73 c74 c75 c76 c82 c83 c84 c85 c86 c87 c88 c89 c91 c92 c93 c94 c95 c96 c97 c98 c99 c100 c101 c102 c103 c104 c105 c106 c107 c108 c109 c110 c111 c112 c113 c114 c115 c116 c117 c119 c122 c124 c125 c126 c127 c128 c129 c130 c131 c133 c134 c135 c136 c137 c138 c139 c140 c141 c142 c147 c148 c149 c150 c151 c152 c153 c154 c155 c156 c157 c158 c159 c160 c164 c165 c166 c167 c168 c169 c170 c171 c172 c173 c175 c176 c177 c178 c179 c180 c181 c182 c183 c184
attribute [simp] Int.lt_irrefl
theorem w0_ {P R:Prop} (r:R) (g:R->P:=by (intro hR_;(first | refine st_ rfl ?_ | ((first | refine W.regG ?_ | refine WoR.go ?_);generalize e:goR .. = r;simp (disch:=omega) at e;replace e:some _=_:=e;subst e;(try dsimp only [goW])));(repeat (first | refine st_ rfl ?_ | ((first | refine W.regG ?_ | refine WoR.go ?_);generalize e:goR .. = r;simp (disch:=omega) at e;replace e:some _=_:=e;subst e;(try dsimp only [goW]))));exact hR_)):P:=g r
theorem v0_ {P R:Prop} (r:R) (g:R->P:=by (intro hR_;(first | refine st_ rfl ?_ | ((first | refine W.regG ?_ | refine WoR.go ?_);generalize e:goR .. = r;simp (disch:=omega) at e;replace e:some _=_:=e;subst e;(try dsimp only [goW])) | (simp only [zB3,zA9,zAe,zBd,zAo,reduceIte]));(repeat (first | refine st_ rfl ?_ | ((first | refine W.regG ?_ | refine WoR.go ?_);generalize e:goR .. = r;simp (disch:=omega) at e;replace e:some _=_:=e;subst e;(try dsimp only [goW])) | (simp only [zB3,zA9,zAe,zBd,zAo,reduceIte])));exact hR_)):P:=g r
theorem d0_ {P R:Prop} (r:R) (g:R->P:=by (intro hR_;show W TF _ (dropped true _ _) _;generalize e:dropped _ _ _=r;simp (disch:=omega) at e;subst e;exact hR_)):P:=g r
theorem wx_ {P R:Prop} (r:R) (g:R->P:=by (intro hR_;(first | refine st_ rfl ?_ | ((first | refine W.regG ?_ | refine WoR.go ?_);generalize e:goR .. = r;simp (disch:=omega) [hX] at e;replace e:some _=_:=e;subst e;(try dsimp only [goW])));(repeat (first | refine st_ rfl ?_ | ((first | refine W.regG ?_ | refine WoR.go ?_);generalize e:goR .. = r;simp (disch:=omega) [hX] at e;replace e:some _=_:=e;subst e;(try dsimp only [goW]))));exact hR_)):P:=g r
theorem vx_ {P R:Prop} (r:R) (g:R->P:=by (intro hR_;(first | refine st_ rfl ?_ | ((first | refine W.regG ?_ | refine WoR.go ?_);generalize e:goR .. = r;simp (disch:=omega) [hX] at e;replace e:some _=_:=e;subst e;(try dsimp only [goW])) | (simp only [zB3,zA9,zAe,zBd,zAo,reduceIte]));(repeat (first | refine st_ rfl ?_ | ((first | refine W.regG ?_ | refine WoR.go ?_);generalize e:goR .. = r;simp (disch:=omega) [hX] at e;replace e:some _=_:=e;subst e;(try dsimp only [goW])) | (simp only [zB3,zA9,zAe,zBd,zAo,reduceIte])));exact hR_)):P:=g r
theorem rx_ {P R:Prop} (r:R) (g:R->P:=by (intro hR_;(first | (refine W.ret ?_;(try simp only [zB3,zA9,zAe,zAo,reduceIte]);refine endW.of (.inl rfl) rfl ?_) | refine endW.of (.inl rfl) rfl ?_ | refine endW.of (.inr rfl) rfl ?_);generalize e:zCa .. = r;simp (disch:=omega) [hX] at e;subst e;exact hR_)):P:=g r
theorem dx_ {P R:Prop} (r:R) (g:R->P:=by (intro hR_;show W TF _ (dropped true _ _) _;generalize e:dropped _ _ _=r;simp (disch:=omega) [hX] at e;subst e;exact hR_)):P:=g r
theorem wk_ {P R:Prop} (r:R) (g:R->P:=by (intro hR_;(first | refine st_ rfl ?_ | ((first | refine W.regG ?_ | refine WoR.go ?_);generalize e:goR .. = r;simp (disch:=omega) [hZ] at e;replace e:some _=_:=e;subst e;(try dsimp only [goW])));(repeat (first | refine st_ rfl ?_ | ((first | refine W.regG ?_ | refine WoR.go ?_);generalize e:goR .. = r;simp (disch:=omega) [hZ] at e;replace e:some _=_:=e;subst e;(try dsimp only [goW]))));exact hR_)):P:=g r
theorem vk_ {P R:Prop} (r:R) (g:R->P:=by (intro hR_;(first | refine st_ rfl ?_ | ((first | refine W.regG ?_ | refine WoR.go ?_);generalize e:goR .. = r;simp (disch:=omega) [hZ] at e;replace e:some _=_:=e;subst e;(try dsimp only [goW])) | (simp only [zB3,zA9,zAe,zBd,zAo,reduceIte]));(repeat (first | refine st_ rfl ?_ | ((first | refine W.regG ?_ | refine WoR.go ?_);generalize e:goR .. = r;simp (disch:=omega) [hZ] at e;replace e:some _=_:=e;subst e;(try dsimp only [goW])) | (simp only [zB3,zA9,zAe,zBd,zAo,reduceIte])));exact hR_)):P:=g r
theorem rk_ {P R:Prop} (r:R) (g:R->P:=by (intro hR_;(first | (refine W.ret ?_;(try simp only [zB3,zA9,zAe,zAo,reduceIte]);refine endW.of (.inl rfl) rfl ?_) | refine endW.of (.inl rfl) rfl ?_ | refine endW.of (.inr rfl) rfl ?_);generalize e:zCa .. = r;simp (disch:=omega) [hZ] at e;subst e;exact hR_)):P:=g r
theorem dk_ {P R:Prop} (r:R) (g:R->P:=by (intro hR_;show W TF _ (dropped true _ _) _;generalize e:dropped _ _ _=r;simp (disch:=omega) [hZ] at e;subst e;exact hR_)):P:=g r
theorem wn_ {P R:Prop} (r:R) (g:R->P:=by (intro hR_;(first | refine st_ rfl ?_ | ((first | refine W.regG ?_ | refine WoR.go ?_);generalize e:goR .. = r;simp (disch:=omega) [hZ,zA0] at e;replace e:some _=_:=e;subst e;(try dsimp only [goW])));(repeat (first | refine st_ rfl ?_ | ((first | refine W.regG ?_ | refine WoR.go ?_);generalize e:goR .. = r;simp (disch:=omega) [hZ,zA0] at e;replace e:some _=_:=e;subst e;(try dsimp only [goW]))));exact hR_)):P:=g r
theorem mk_ {T:Nat->Option CFn} (f:Nat) (c:CFunc) {a:List CVal} {h:CHeap} {K:KT} (hb:W T c.body (zEm c a h) (endW c h.next K)) (hf:T f=some (.ir c):=by kernel_rfl) (hn:a.length=c.nargs:=by rfl):Wc T f a h K:=Wc.mkG f c hf hn hb
theorem xs_ {P R:Prop} (r:R) (g:R->P:=by (intro hR_;simp only [zB3,zA9,zAe,zBd,zAo,reduceIte];exact hR_)):P:=g r
theorem ws_ {P R:Prop} (r:R) (g:R->P:=by (intro hR_;(first | refine W.regG ?_ | refine WoR.go ?_);generalize e:goR .. = r;simp (disch:=omega) [hZ] at e;replace e:some _=_:=e;subst e;(try dsimp only [goW]);exact hR_)):P:=g r
theorem wsx_ {P R:Prop} (r:R) (g:R->P:=by (intro hR_;(first | refine W.regG ?_ | refine WoR.go ?_);generalize e:goR .. = r;simp (disch:=omega) [hX] at e;replace e:some _=_:=e;subst e;(try dsimp only [goW]);exact hR_)):P:=g r
theorem wsn_ {P R:Prop} (r:R) (g:R->P:=by (intro hR_;(first | refine W.regG ?_ | refine WoR.go ?_);generalize e:goR .. = r;simp (disch:=omega) [hZ,zA0] at e;replace e:some _=_:=e;subst e;(try dsimp only [goW]);exact hR_)):P:=g r
theorem om_ {P:Prop} (h:P:=by (try dsimp only);omega):P:=h
theorem s_ {P R:Prop} (r:R) (g:R->P:=by (intro hR_;generalize e:zEm .. = r;simp (disch:=omega) at e;subst e;exact hR_)):P:=g r
theorem sd_ {P:Prop} (h:P:=by simp (disch:=omega) [zA1,zA2,hZ] <;> fail):P:=h
theorem sn_ {P:Prop} (h:P:=by simp (disch:=omega) [zA1,zA2,hZ,zA0] <;> fail):P:=h
theorem s0_ {P:Prop} (h:P:=by simp (disch:=omega) [zA1,zA2] <;> fail):P:=h
theorem j2_ {A0 A1:Prop} (x0:A0) (x1:A1):A0/\A1:=⟨x0,x1⟩
theorem j3_ {A0 A1 A2:Prop} (x0:A0) (x1:A1) (x2:A2):A0/\A1/\A2:=⟨x0,x1,x2⟩
theorem j4_ {A0 A1 A2 A3:Prop} (x0:A0) (x1:A1) (x2:A2) (x3:A3):A0/\A1/\A2/\A3:=⟨x0,x1,x2,x3⟩
theorem j5_ {A0 A1 A2 A3 A4:Prop} (x0:A0) (x1:A1) (x2:A2) (x3:A3) (x4:A4):A0/\A1/\A2/\A3/\A4:=⟨x0,x1,x2,x3,x4⟩
theorem j6_ {A0 A1 A2 A3 A4 A5:Prop} (x0:A0) (x1:A1) (x2:A2) (x3:A3) (x4:A4) (x5:A5):A0/\A1/\A2/\A3/\A4/\A5:=⟨x0,x1,x2,x3,x4,x5⟩
theorem j7_ {A0 A1 A2 A3 A4 A5 A6:Prop} (x0:A0) (x1:A1) (x2:A2) (x3:A3) (x4:A4) (x5:A5) (x6:A6):A0/\A1/\A2/\A3/\A4/\A5/\A6:=⟨x0,x1,x2,x3,x4,x5,x6⟩
theorem j8_ {A0 A1 A2 A3 A4 A5 A6 A7:Prop} (x0:A0) (x1:A1) (x2:A2) (x3:A3) (x4:A4) (x5:A5) (x6:A6) (x7:A7):A0/\A1/\A2/\A3/\A4/\A5/\A6/\A7:=⟨x0,x1,x2,x3,x4,x5,x6,x7⟩
theorem j9_ {A0 A1 A2 A3 A4 A5 A6 A7 A8:Prop} (x0:A0) (x1:A1) (x2:A2) (x3:A3) (x4:A4) (x5:A5) (x6:A6) (x7:A7) (x8:A8):A0/\A1/\A2/\A3/\A4/\A5/\A6/\A7/\A8:=⟨x0,x1,x2,x3,x4,x5,x6,x7,x8⟩
theorem j10_ {A0 A1 A2 A3 A4 A5 A6 A7 A8 A9:Prop} (x0:A0) (x1:A1) (x2:A2) (x3:A3) (x4:A4) (x5:A5) (x6:A6) (x7:A7) (x8:A8) (x9:A9):A0/\A1/\A2/\A3/\A4/\A5/\A6/\A7/\A8/\A9:=⟨x0,x1,x2,x3,x4,x5,x6,x7,x8,x9⟩
theorem j11_ {A0 A1 A2 A3 A4 A5 A6 A7 A8 A9 A10:Prop} (x0:A0) (x1:A1) (x2:A2) (x3:A3) (x4:A4) (x5:A5) (x6:A6) (x7:A7) (x8:A8) (x9:A9) (x10:A10):A0/\A1/\A2/\A3/\A4/\A5/\A6/\A7/\A8/\A9/\A10:=⟨x0,x1,x2,x3,x4,x5,x6,x7,x8,x9,x10⟩
theorem j12_ {A0 A1 A2 A3 A4 A5 A6 A7 A8 A9 A10 A11:Prop} (x0:A0) (x1:A1) (x2:A2) (x3:A3) (x4:A4) (x5:A5) (x6:A6) (x7:A7) (x8:A8) (x9:A9) (x10:A10) (x11:A11):A0/\A1/\A2/\A3/\A4/\A5/\A6/\A7/\A8/\A9/\A10/\A11:=⟨x0,x1,x2,x3,x4,x5,x6,x7,x8,x9,x10,x11⟩
theorem j13_ {A0 A1 A2 A3 A4 A5 A6 A7 A8 A9 A10 A11 A12:Prop} (x0:A0) (x1:A1) (x2:A2) (x3:A3) (x4:A4) (x5:A5) (x6:A6) (x7:A7) (x8:A8) (x9:A9) (x10:A10) (x11:A11) (x12:A12):A0/\A1/\A2/\A3/\A4/\A5/\A6/\A7/\A8/\A9/\A10/\A11/\A12:=⟨x0,x1,x2,x3,x4,x5,x6,x7,x8,x9,x10,x11,x12⟩
theorem j14_ {A0 A1 A2 A3 A4 A5 A6 A7 A8 A9 A10 A11 A12 A13:Prop} (x0:A0) (x1:A1) (x2:A2) (x3:A3) (x4:A4) (x5:A5) (x6:A6) (x7:A7) (x8:A8) (x9:A9) (x10:A10) (x11:A11) (x12:A12) (x13:A13):A0/\A1/\A2/\A3/\A4/\A5/\A6/\A7/\A8/\A9/\A10/\A11/\A12/\A13:=⟨x0,x1,x2,x3,x4,x5,x6,x7,x8,x9,x10,x11,x12,x13⟩
theorem j15_ {A0 A1 A2 A3 A4 A5 A6 A7 A8 A9 A10 A11 A12 A13 A14:Prop} (x0:A0) (x1:A1) (x2:A2) (x3:A3) (x4:A4) (x5:A5) (x6:A6) (x7:A7) (x8:A8) (x9:A9) (x10:A10) (x11:A11) (x12:A12) (x13:A13) (x14:A14):A0/\A1/\A2/\A3/\A4/\A5/\A6/\A7/\A8/\A9/\A10/\A11/\A12/\A13/\A14:=⟨x0,x1,x2,x3,x4,x5,x6,x7,x8,x9,x10,x11,x12,x13,x14⟩
theorem j16_ {A0 A1 A2 A3 A4 A5 A6 A7 A8 A9 A10 A11 A12 A13 A14 A15:Prop} (x0:A0) (x1:A1) (x2:A2) (x3:A3) (x4:A4) (x5:A5) (x6:A6) (x7:A7) (x8:A8) (x9:A9) (x10:A10) (x11:A11) (x12:A12) (x13:A13) (x14:A14) (x15:A15):A0/\A1/\A2/\A3/\A4/\A5/\A6/\A7/\A8/\A9/\A10/\A11/\A12/\A13/\A14/\A15:=⟨x0,x1,x2,x3,x4,x5,x6,x7,x8,x9,x10,x11,x12,x13,x14,x15⟩
theorem j17_ {A0 A1 A2 A3 A4 A5 A6 A7 A8 A9 A10 A11 A12 A13 A14 A15 A16:Prop} (x0:A0) (x1:A1) (x2:A2) (x3:A3) (x4:A4) (x5:A5) (x6:A6) (x7:A7) (x8:A8) (x9:A9) (x10:A10) (x11:A11) (x12:A12) (x13:A13) (x14:A14) (x15:A15) (x16:A16):A0/\A1/\A2/\A3/\A4/\A5/\A6/\A7/\A8/\A9/\A10/\A11/\A12/\A13/\A14/\A15/\A16:=⟨x0,x1,x2,x3,x4,x5,x6,x7,x8,x9,x10,x11,x12,x13,x14,x15,x16⟩
theorem j18_ {A0 A1 A2 A3 A4 A5 A6 A7 A8 A9 A10 A11 A12 A13 A14 A15 A16 A17:Prop} (x0:A0) (x1:A1) (x2:A2) (x3:A3) (x4:A4) (x5:A5) (x6:A6) (x7:A7) (x8:A8) (x9:A9) (x10:A10) (x11:A11) (x12:A12) (x13:A13) (x14:A14) (x15:A15) (x16:A16) (x17:A17):A0/\A1/\A2/\A3/\A4/\A5/\A6/\A7/\A8/\A9/\A10/\A11/\A12/\A13/\A14/\A15/\A16/\A17:=⟨x0,x1,x2,x3,x4,x5,x6,x7,x8,x9,x10,x11,x12,x13,x14,x15,x16,x17⟩
theorem j19_ {A0 A1 A2 A3 A4 A5 A6 A7 A8 A9 A10 A11 A12 A13 A14 A15 A16 A17 A18:Prop} (x0:A0) (x1:A1) (x2:A2) (x3:A3) (x4:A4) (x5:A5) (x6:A6) (x7:A7) (x8:A8) (x9:A9) (x10:A10) (x11:A11) (x12:A12) (x13:A13) (x14:A14) (x15:A15) (x16:A16) (x17:A17) (x18:A18):A0/\A1/\A2/\A3/\A4/\A5/\A6/\A7/\A8/\A9/\A10/\A11/\A12/\A13/\A14/\A15/\A16/\A17/\A18:=⟨x0,x1,x2,x3,x4,x5,x6,x7,x8,x9,x10,x11,x12,x13,x14,x15,x16,x17,x18⟩
theorem j20_ {A0 A1 A2 A3 A4 A5 A6 A7 A8 A9 A10 A11 A12 A13 A14 A15 A16 A17 A18 A19:Prop} (x0:A0) (x1:A1) (x2:A2) (x3:A3) (x4:A4) (x5:A5) (x6:A6) (x7:A7) (x8:A8) (x9:A9) (x10:A10) (x11:A11) (x12:A12) (x13:A13) (x14:A14) (x15:A15) (x16:A16) (x17:A17) (x18:A18) (x19:A19):A0/\A1/\A2/\A3/\A4/\A5/\A6/\A7/\A8/\A9/\A10/\A11/\A12/\A13/\A14/\A15/\A16/\A17/\A18/\A19:=⟨x0,x1,x2,x3,x4,x5,x6,x7,x8,x9,x10,x11,x12,x13,x14,x15,x16,x17,x18,x19⟩
theorem j21_ {A0 A1 A2 A3 A4 A5 A6 A7 A8 A9 A10 A11 A12 A13 A14 A15 A16 A17 A18 A19 A20:Prop} (x0:A0) (x1:A1) (x2:A2) (x3:A3) (x4:A4) (x5:A5) (x6:A6) (x7:A7) (x8:A8) (x9:A9) (x10:A10) (x11:A11) (x12:A12) (x13:A13) (x14:A14) (x15:A15) (x16:A16) (x17:A17) (x18:A18) (x19:A19) (x20:A20):A0/\A1/\A2/\A3/\A4/\A5/\A6/\A7/\A8/\A9/\A10/\A11/\A12/\A13/\A14/\A15/\A16/\A17/\A18/\A19/\A20:=⟨x0,x1,x2,x3,x4,x5,x6,x7,x8,x9,x10,x11,x12,x13,x14,x15,x16,x17,x18,x19,x20⟩
theorem j22_ {A0 A1 A2 A3 A4 A5 A6 A7 A8 A9 A10 A11 A12 A13 A14 A15 A16 A17 A18 A19 A20 A21:Prop} (x0:A0) (x1:A1) (x2:A2) (x3:A3) (x4:A4) (x5:A5) (x6:A6) (x7:A7) (x8:A8) (x9:A9) (x10:A10) (x11:A11) (x12:A12) (x13:A13) (x14:A14) (x15:A15) (x16:A16) (x17:A17) (x18:A18) (x19:A19) (x20:A20) (x21:A21):A0/\A1/\A2/\A3/\A4/\A5/\A6/\A7/\A8/\A9/\A10/\A11/\A12/\A13/\A14/\A15/\A16/\A17/\A18/\A19/\A20/\A21:=⟨x0,x1,x2,x3,x4,x5,x6,x7,x8,x9,x10,x11,x12,x13,x14,x15,x16,x17,x18,x19,x20,x21⟩
theorem j23_ {A0 A1 A2 A3 A4 A5 A6 A7 A8 A9 A10 A11 A12 A13 A14 A15 A16 A17 A18 A19 A20 A21 A22:Prop} (x0:A0) (x1:A1) (x2:A2) (x3:A3) (x4:A4) (x5:A5) (x6:A6) (x7:A7) (x8:A8) (x9:A9) (x10:A10) (x11:A11) (x12:A12) (x13:A13) (x14:A14) (x15:A15) (x16:A16) (x17:A17) (x18:A18) (x19:A19) (x20:A20) (x21:A21) (x22:A22):A0/\A1/\A2/\A3/\A4/\A5/\A6/\A7/\A8/\A9/\A10/\A11/\A12/\A13/\A14/\A15/\A16/\A17/\A18/\A19/\A20/\A21/\A22:=⟨x0,x1,x2,x3,x4,x5,x6,x7,x8,x9,x10,x11,x12,x13,x14,x15,x16,x17,x18,x19,x20,x21,x22⟩
theorem j24_ {A0 A1 A2 A3 A4 A5 A6 A7 A8 A9 A10 A11 A12 A13 A14 A15 A16 A17 A18 A19 A20 A21 A22 A23:Prop} (x0:A0) (x1:A1) (x2:A2) (x3:A3) (x4:A4) (x5:A5) (x6:A6) (x7:A7) (x8:A8) (x9:A9) (x10:A10) (x11:A11) (x12:A12) (x13:A13) (x14:A14) (x15:A15) (x16:A16) (x17:A17) (x18:A18) (x19:A19) (x20:A20) (x21:A21) (x22:A22) (x23:A23):A0/\A1/\A2/\A3/\A4/\A5/\A6/\A7/\A8/\A9/\A10/\A11/\A12/\A13/\A14/\A15/\A16/\A17/\A18/\A19/\A20/\A21/\A22/\A23:=⟨x0,x1,x2,x3,x4,x5,x6,x7,x8,x9,x10,x11,x12,x13,x14,x15,x16,x17,x18,x19,x20,x21,x22,x23⟩
theorem j25_ {A0 A1 A2 A3 A4 A5 A6 A7 A8 A9 A10 A11 A12 A13 A14 A15 A16 A17 A18 A19 A20 A21 A22 A23 A24:Prop} (x0:A0) (x1:A1) (x2:A2) (x3:A3) (x4:A4) (x5:A5) (x6:A6) (x7:A7) (x8:A8) (x9:A9) (x10:A10) (x11:A11) (x12:A12) (x13:A13) (x14:A14) (x15:A15) (x16:A16) (x17:A17) (x18:A18) (x19:A19) (x20:A20) (x21:A21) (x22:A22) (x23:A23) (x24:A24):A0/\A1/\A2/\A3/\A4/\A5/\A6/\A7/\A8/\A9/\A10/\A11/\A12/\A13/\A14/\A15/\A16/\A17/\A18/\A19/\A20/\A21/\A22/\A23/\A24:=⟨x0,x1,x2,x3,x4,x5,x6,x7,x8,x9,x10,x11,x12,x13,x14,x15,x16,x17,x18,x19,x20,x21,x22,x23,x24⟩
theorem j26_ {A0 A1 A2 A3 A4 A5 A6 A7 A8 A9 A10 A11 A12 A13 A14 A15 A16 A17 A18 A19 A20 A21 A22 A23 A24 A25:Prop} (x0:A0) (x1:A1) (x2:A2) (x3:A3) (x4:A4) (x5:A5) (x6:A6) (x7:A7) (x8:A8) (x9:A9) (x10:A10) (x11:A11) (x12:A12) (x13:A13) (x14:A14) (x15:A15) (x16:A16) (x17:A17) (x18:A18) (x19:A19) (x20:A20) (x21:A21) (x22:A22) (x23:A23) (x24:A24) (x25:A25):A0/\A1/\A2/\A3/\A4/\A5/\A6/\A7/\A8/\A9/\A10/\A11/\A12/\A13/\A14/\A15/\A16/\A17/\A18/\A19/\A20/\A21/\A22/\A23/\A24/\A25:=⟨x0,x1,x2,x3,x4,x5,x6,x7,x8,x9,x10,x11,x12,x13,x14,x15,x16,x17,x18,x19,x20,x21,x22,x23,x24,x25⟩
theorem j31_ {A0 A1 A2 A3 A4 A5 A6 A7 A8 A9 A10 A11 A12 A13 A14 A15 A16 A17 A18 A19 A20 A21 A22 A23 A24 A25 A26 A27 A28 A29 A30:Prop} (x0:A0) (x1:A1) (x2:A2) (x3:A3) (x4:A4) (x5:A5) (x6:A6) (x7:A7) (x8:A8) (x9:A9) (x10:A10) (x11:A11) (x12:A12) (x13:A13) (x14:A14) (x15:A15) (x16:A16) (x17:A17) (x18:A18) (x19:A19) (x20:A20) (x21:A21) (x22:A22) (x23:A23) (x24:A24) (x25:A25) (x26:A26) (x27:A27) (x28:A28) (x29:A29) (x30:A30):A0/\A1/\A2/\A3/\A4/\A5/\A6/\A7/\A8/\A9/\A10/\A11/\A12/\A13/\A14/\A15/\A16/\A17/\A18/\A19/\A20/\A21/\A22/\A23/\A24/\A25/\A26/\A27/\A28/\A29/\A30:=⟨x0,x1,x2,x3,x4,x5,x6,x7,x8,x9,x10,x11,x12,x13,x14,x15,x16,x17,x18,x19,x20,x21,x22,x23,x24,x25,x26,x27,x28,x29,x30⟩
theorem j32_ {A0 A1 A2 A3 A4 A5 A6 A7 A8 A9 A10 A11 A12 A13 A14 A15 A16 A17 A18 A19 A20 A21 A22 A23 A24 A25 A26 A27 A28 A29 A30 A31:Prop} (x0:A0) (x1:A1) (x2:A2) (x3:A3) (x4:A4) (x5:A5) (x6:A6) (x7:A7) (x8:A8) (x9:A9) (x10:A10) (x11:A11) (x12:A12) (x13:A13) (x14:A14) (x15:A15) (x16:A16) (x17:A17) (x18:A18) (x19:A19) (x20:A20) (x21:A21) (x22:A22) (x23:A23) (x24:A24) (x25:A25) (x26:A26) (x27:A27) (x28:A28) (x29:A29) (x30:A30) (x31:A31):A0/\A1/\A2/\A3/\A4/\A5/\A6/\A7/\A8/\A9/\A10/\A11/\A12/\A13/\A14/\A15/\A16/\A17/\A18/\A19/\A20/\A21/\A22/\A23/\A24/\A25/\A26/\A27/\A28/\A29/\A30/\A31:=⟨x0,x1,x2,x3,x4,x5,x6,x7,x8,x9,x10,x11,x12,x13,x14,x15,x16,x17,x18,x19,x20,x21,x22,x23,x24,x25,x26,x27,x28,x29,x30,x31⟩
theorem j43_ {A0 A1 A2 A3 A4 A5 A6 A7 A8 A9 A10 A11 A12 A13 A14 A15 A16 A17 A18 A19 A20 A21 A22 A23 A24 A25 A26 A27 A28 A29 A30 A31 A32 A33 A34 A35 A36 A37 A38 A39 A40 A41 A42:Prop} (x0:A0) (x1:A1) (x2:A2) (x3:A3) (x4:A4) (x5:A5) (x6:A6) (x7:A7) (x8:A8) (x9:A9) (x10:A10) (x11:A11) (x12:A12) (x13:A13) (x14:A14) (x15:A15) (x16:A16) (x17:A17) (x18:A18) (x19:A19) (x20:A20) (x21:A21) (x22:A22) (x23:A23) (x24:A24) (x25:A25) (x26:A26) (x27:A27) (x28:A28) (x29:A29) (x30:A30) (x31:A31) (x32:A32) (x33:A33) (x34:A34) (x35:A35) (x36:A36) (x37:A37) (x38:A38) (x39:A39) (x40:A40) (x41:A41) (x42:A42):A0/\A1/\A2/\A3/\A4/\A5/\A6/\A7/\A8/\A9/\A10/\A11/\A12/\A13/\A14/\A15/\A16/\A17/\A18/\A19/\A20/\A21/\A22/\A23/\A24/\A25/\A26/\A27/\A28/\A29/\A30/\A31/\A32/\A33/\A34/\A35/\A36/\A37/\A38/\A39/\A40/\A41/\A42:=⟨x0,x1,x2,x3,x4,x5,x6,x7,x8,x9,x10,x11,x12,x13,x14,x15,x16,x17,x18,x19,x20,x21,x22,x23,x24,x25,x26,x27,x28,x29,x30,x31,x32,x33,x34,x35,x36,x37,x38,x39,x40,x41,x42⟩
theorem j44_ {A0 A1 A2 A3 A4 A5 A6 A7 A8 A9 A10 A11 A12 A13 A14 A15 A16 A17 A18 A19 A20 A21 A22 A23 A24 A25 A26 A27 A28 A29 A30 A31 A32 A33 A34 A35 A36 A37 A38 A39 A40 A41 A42 A43:Prop} (x0:A0) (x1:A1) (x2:A2) (x3:A3) (x4:A4) (x5:A5) (x6:A6) (x7:A7) (x8:A8) (x9:A9) (x10:A10) (x11:A11) (x12:A12) (x13:A13) (x14:A14) (x15:A15) (x16:A16) (x17:A17) (x18:A18) (x19:A19) (x20:A20) (x21:A21) (x22:A22) (x23:A23) (x24:A24) (x25:A25) (x26:A26) (x27:A27) (x28:A28) (x29:A29) (x30:A30) (x31:A31) (x32:A32) (x33:A33) (x34:A34) (x35:A35) (x36:A36) (x37:A37) (x38:A38) (x39:A39) (x40:A40) (x41:A41) (x42:A42) (x43:A43):A0/\A1/\A2/\A3/\A4/\A5/\A6/\A7/\A8/\A9/\A10/\A11/\A12/\A13/\A14/\A15/\A16/\A17/\A18/\A19/\A20/\A21/\A22/\A23/\A24/\A25/\A26/\A27/\A28/\A29/\A30/\A31/\A32/\A33/\A34/\A35/\A36/\A37/\A38/\A39/\A40/\A41/\A42/\A43:=⟨x0,x1,x2,x3,x4,x5,x6,x7,x8,x9,x10,x11,x12,x13,x14,x15,x16,x17,x18,x19,x20,x21,x22,x23,x24,x25,x26,x27,x28,x29,x30,x31,x32,x33,x34,x35,x36,x37,x38,x39,x40,x41,x42,x43⟩
theorem j45_ {A0 A1 A2 A3 A4 A5 A6 A7 A8 A9 A10 A11 A12 A13 A14 A15 A16 A17 A18 A19 A20 A21 A22 A23 A24 A25 A26 A27 A28 A29 A30 A31 A32 A33 A34 A35 A36 A37 A38 A39 A40 A41 A42 A43 A44:Prop} (x0:A0) (x1:A1) (x2:A2) (x3:A3) (x4:A4) (x5:A5) (x6:A6) (x7:A7) (x8:A8) (x9:A9) (x10:A10) (x11:A11) (x12:A12) (x13:A13) (x14:A14) (x15:A15) (x16:A16) (x17:A17) (x18:A18) (x19:A19) (x20:A20) (x21:A21) (x22:A22) (x23:A23) (x24:A24) (x25:A25) (x26:A26) (x27:A27) (x28:A28) (x29:A29) (x30:A30) (x31:A31) (x32:A32) (x33:A33) (x34:A34) (x35:A35) (x36:A36) (x37:A37) (x38:A38) (x39:A39) (x40:A40) (x41:A41) (x42:A42) (x43:A43) (x44:A44):A0/\A1/\A2/\A3/\A4/\A5/\A6/\A7/\A8/\A9/\A10/\A11/\A12/\A13/\A14/\A15/\A16/\A17/\A18/\A19/\A20/\A21/\A22/\A23/\A24/\A25/\A26/\A27/\A28/\A29/\A30/\A31/\A32/\A33/\A34/\A35/\A36/\A37/\A38/\A39/\A40/\A41/\A42/\A43/\A44:=⟨x0,x1,x2,x3,x4,x5,x6,x7,x8,x9,x10,x11,x12,x13,x14,x15,x16,x17,x18,x19,x20,x21,x22,x23,x24,x25,x26,x27,x28,x29,x30,x31,x32,x33,x34,x35,x36,x37,x38,x39,x40,x41,x42,x43,x44⟩
end Go.Proofs.YtafeofghkhhhkaaGreat.IrM
namespace Go.LexF
set_option linter.unusedVariables false
set_option linter.unusedSimpArgs false
abbrev Bytes:=List UInt8
abbrev zLd:Bytes:=[9,10,11,12,13,32]
abbrev zGw:Bytes:=[65,66,67,68,69,70,71,72,73,74,75,76,77,78,79,80,81,82,83,84,85,86,87,88,89,90,97,98,99,100,101,102,103,104,105,106,107,108,109,110,111,112,113,114,115,116,117,118,119,120,121,122,95]
def digF (c:UInt8):Nat:=if c.toNat<=57 then c.toNat - 48 else if c.toNat<=70 then c.toNat - 55 else c.toNat - 87
def valF (B:Nat):Nat->Bytes->Nat
 | n,[]=>n
 | n,c::r=>valF B (n * B+digF c) r
end Go.LexF
namespace Go.Proofs.YtafeofghkhhhkaaGreat.IrM
open Go Go.CI Go.LexF
set_option maxRecDepth 100000
set_option maxHeartbeats 4000000
set_option linter.unusedVariables false
set_option linter.unusedSimpArgs false
attribute [local irreducible] W Wo Wc WoR
def letB (c:UInt8):Bool:=decide (97<=c.toNat/\c.toNat<=122\/65<=c.toNat/\c.toNat<=90\/c.toNat=95)
def digB (c:UInt8):Bool:=decide (48<=c.toNat/\c.toNat<=57)
def dgI (c:UInt8):Int:=if 48<=c.toNat/\c.toNat<=57 then (c.toNat:Int) - 48 else if 97<=c.toNat/\c.toNat<=102 then (c.toNat:Int) - 97+10 else if 65<=c.toNat/\c.toNat<=70 then (c.toNat:Int) - 65+10 else -1
theorem dg_1 {c:UInt8} (h:48<=c.toNat/\c.toNat<=57):dgI c=(c.toNat:Int) - 48:=by unfold dgI;rw [if_pos h]
theorem dg_2 {c:UInt8} (h:97<=c.toNat/\c.toNat<=102):dgI c=(c.toNat:Int) - 97+10:=by unfold dgI;rw [if_neg (by omega),if_pos h]
theorem dg_3 {c:UInt8} (h:65<=c.toNat/\c.toNat<=70):dgI c=(c.toNat:Int) - 65+10:=by unfold dgI;rw [if_neg (by omega),if_neg (by omega),if_pos h]
theorem dg_4 {c:UInt8} (h:¬ (48<=c.toNat/\c.toNat<=57\/97<=c.toNat/\c.toNat<=102\/65<=c.toNat/\c.toNat<=70)):dgI c=-1:=by unfold dgI;rw [if_neg (by omega),if_neg (by omega),if_neg (by omega)]
theorem zT9 {a b:Int} (h:a≠b):(a != b)=true:=by simp [h]
theorem zSn {a b:Int} (h:a=b):(a != b)=false:=by simp [h]
theorem zIi {a b:Int} (h:a=b):(a == b)=true:=by simp [h]
attribute [simp] zT9 zSn zIi
theorem zZx {c:UInt8} (h:97<=c.toNat/\c.toNat<=122\/65<=c.toNat/\c.toNat<=90\/c.toNat=95):letB c=true:=decide_eq_true h
theorem zYk {c:UInt8} (h:¬ (97<=c.toNat/\c.toNat<=122\/65<=c.toNat/\c.toNat<=90\/c.toNat=95)):letB c=false:=decide_eq_false h
theorem zXm {c:UInt8} (h:48<=c.toNat/\c.toNat<=57):digB c=true:=decide_eq_true h
theorem zY0 {c:UInt8} (h:¬ (48<=c.toNat/\c.toNat<=57)):digB c=false:=decide_eq_false h
theorem zBj (c:UInt8):Pu TF 177 [.int .u8 (c.toNat:Int)] (.bool (letB c)):=by
 intro h hf K hk
 obtain ⟨hu,hut,hX⟩:=fx4 hf
 have hc8:=c.toNat_lt
 by_cases a1:97<=c.toNat <;> by_cases a2:c.toNat<=122 <;> by_cases a3:65<=c.toNat <;> by_cases a4:c.toNat<=90 <;> by_cases a5:c.toNat=95 <;> (try (exfalso;omega))
 all_goals
  (first | rw [zZx (by omega)] at hk | rw [zYk (by omega)] at hk)
  refine mk_ 177 c177 (s_ ?_)
  repeat (first | refine st_ rfl ?_ | ((first | refine rg_ ?_ | refine go_ ?_);refine gw_ (by simp (disch:=omega) [hX,zIi];rfl) ?_) | (refine W.loop ?_;try (generalize e:dropped .. = r;simp (disch:=omega) [hX,zIi] at e;subst e;try dsimp only)) | ((first | (refine W.ret ?_;(try simp only [zB3,zA9,zAo]);refine endW.of (.inl rfl) rfl ?_) | refine endW.of (.inr rfl) rfl ?_);generalize e:zCa .. = r;simp (disch:=omega) [hX,zIi] at e;subst e;(refine hk _ _ ?_ ?_;omega;exact ut_)))
theorem zC5 (c:UInt8):Pu TF 179 [.int .u8 (c.toNat:Int)] (.bool (digB c)):=by
 intro h hf K hk
 obtain ⟨hu,hut,hX⟩:=fx4 hf
 have hc8:=c.toNat_lt
 by_cases a1:48<=c.toNat <;> by_cases a2:c.toNat<=57 <;> (try (exfalso;omega))
 all_goals
  (first | rw [zXm (by omega)] at hk | rw [zY0 (by omega)] at hk)
  refine mk_ 179 c179 (s_ ?_)
  repeat (first | refine wx_ ?_ | (refine W.loop ?_;try (generalize e:dropped .. = r;simp (disch:=omega) [hX] at e;subst e;try dsimp only)) | (refine rx_ ?_;(refine hk _ _ ?_ ?_;omega;exact ut_)))
theorem zPn (c:UInt8):Pu TF 184 [.int .u8 (c.toNat:Int)] (.int .i64 (dgI c)):=by
 intro h hf K hk
 obtain ⟨hu,hut,hX⟩:=fx4 hf
 have hc8:=c.toNat_lt
 by_cases a1:48<=c.toNat <;> by_cases a2:c.toNat<=57 <;> by_cases a3:97<=c.toNat <;> by_cases a4:c.toNat<=102 <;> by_cases a5:65<=c.toNat <;> by_cases a6:c.toNat<=70 <;> (try (exfalso;omega))
 all_goals
  (first | rw [dg_1 (by omega)] at hk | rw [dg_2 (by omega)] at hk | rw [dg_3 (by omega)] at hk | rw [dg_4 (by omega)] at hk)
  refine mk_ 184 c184 (s_ ?_)
  repeat (first | refine st_ rfl ?_ | ((first | refine rg_ ?_ | refine go_ ?_);refine gw_ (by simp (disch:=omega) [hX,zDh];rfl) ?_) | (refine W.loop ?_;try (generalize e:dropped .. = r;simp (disch:=omega) [hX,zDh] at e;subst e;try dsimp only)) | ((first | (refine W.ret ?_;(try simp only [zB3,zA9,zAo]);refine endW.of (.inl rfl) rfl ?_) | refine endW.of (.inr rfl) rfl ?_);generalize e:zCa .. = r;simp (disch:=omega) [hX,zDh] at e;subst e;(refine hk _ _ ?_ ?_;omega;exact ut_)))
abbrev lx (s:B8) (i e t:Int):CObj:=.cells [.str s,.int .i64 i,.int .i64 e,.int .i64 t]
theorem zH4 (s:B8) (i:Nat) (e t:Int) (w:B8) (hs:s.length<60000) (hi:i<=s.length) (hw:w.length<100) (hl:s.length<i+w.length) (h:CHeap) (p d:Nat) (hf:Fit h) (hg:zA1 h.ents p=some (lx s (i:Int) e t)) (hp:p<h.next) (K:KT) (hk:∀ n' ty,h.next<=n'->zA7 ty n'->K (.bool false) ⟨h.ents,n',ty⟩):Wc TF 175 [.ptr p d 0,.str w] h K:=by
 obtain ⟨hu,hut,hX⟩:=fx4 hf
 have hY:=fx5 hf hg
 refine mk_ 175 c175 (s_ ?_)
 have hZ:=j3_ hX hg hY
 repeat (first | refine wk_ ?_ | (refine W.loop ?_;try (generalize e:dropped .. = r;simp (disch:=omega) [hX,hg,hY] at e;subst e;try dsimp only)) | (refine rk_ ?_;(refine hk _ _ ?_ ?_;omega;exact ut_)))
theorem zGv (s:B8) (i:Nat) (e t:Int) (w:B8) (hs:s.length<60000) (hi:i+w.length<=s.length) (hw:((s.drop i).take w.length == w)=false) (h:CHeap) (p d:Nat) (hf:Fit h) (hg:zA1 h.ents p=some (lx s (i:Int) e t)) (hp:p<h.next) (K:KT) (hk:∀ n' ty,h.next<=n'->zA7 ty n'->K (.bool false) ⟨h.ents,n',ty⟩):Wc TF 175 [.ptr p d 0,.str w] h K:=by
 obtain ⟨hu,hut,hX⟩:=fx4 hf
 have hY:=fx5 hf hg
 have hc:(((s.take (i+w.length)).drop i) == w)=false:=by rw [List.drop_take,show i+w.length - i=w.length by omega,hw]
 have hc2:¬ ((s.take (i+w.length)).drop i)=w:=by simpa using hc
 have e1:((i:Int)+(w.length:Int)).toNat=i+w.length:=by omega
 refine mk_ 175 c175 (s_ ?_)
 have hZ:=j6_ hX hg hY hc hc2 e1
 repeat (first | refine wk_ ?_ | (refine W.loop ?_;try (generalize e:dropped .. = r;simp (disch:=omega) [hX,hg,hY,hc,hc2,e1] at e;subst e;try dsimp only)) | (refine rk_ ?_;(refine hk _ _ ?_ ?_;omega;exact ut_)))
theorem zPq (s:B8) (i k:Nat) (e t:Int) (c:UInt8) (hs:s.length<60000) (hk0:k<100) (hc:s[i+k]? = some c) (h:CHeap) (p d:Nat) (hf:Fit h) (hg:zA1 h.ents p=some (lx s (i:Int) e t)) (hp:p<h.next) (K:KT) (hk:∀ n' ty,h.next<=n'->zA7 ty n'->K (.int .u8 (c.toNat:Int)) ⟨h.ents,n',ty⟩):Wc TF 178 [.ptr p d 0,.int .i64 (k:Int)] h K:=by
 obtain ⟨hu,hut,hX⟩:=fx4 hf
 have hY:=fx5 hf hg
 obtain ⟨hi,hce⟩:=gs_ hc
 have e1:((i:Int)+(k:Int)).toNat=i+k:=by omega
 refine mk_ 178 c178 (s_ ?_)
 have hZ:=j6_ hX hg hY hc e1 hce
 repeat (first | refine wk_ ?_ | (refine W.loop ?_;try (generalize e:dropped .. = r;simp (disch:=omega) [hX,hg,hY,hc,e1,hce] at e;subst e;try dsimp only)) | (refine rk_ ?_;(refine hk _ _ ?_ ?_;omega;exact ut_)))
theorem zUn (s:B8) (i k:Nat) (e t:Int) (hs:s.length<60000) (hi:i<=s.length) (hk0:k<100) (hl:s.length<=i+k) (h:CHeap) (p d:Nat) (hf:Fit h) (hg:zA1 h.ents p=some (lx s (i:Int) e t)) (hp:p<h.next) (K:KT) (hk:∀ n' ty,h.next<=n'->zA7 ty n'->K (.int .u8 0) ⟨h.ents,n',ty⟩):Wc TF 178 [.ptr p d 0,.int .i64 (k:Int)] h K:=by
 obtain ⟨hu,hut,hX⟩:=fx4 hf
 have hY:=fx5 hf hg
 refine mk_ 178 c178 (s_ ?_)
 have hZ:=j3_ hX hg hY
 repeat (first | refine wk_ ?_ | (refine W.loop ?_;try (generalize e:dropped .. = r;simp (disch:=omega) [hX,hg,hY] at e;subst e;try dsimp only)) | (refine rk_ ?_;(refine hk _ _ ?_ ?_;omega;exact ut_)))
theorem zA0 {l:EE} {m n:Nat} {x:CObj} (h:n≠m):zA1 (zA2 l m x) n=zA1 l n:=by
 induction l with
 | nil=>rfl
 | cons a r ih =>
  obtain ⟨i,o⟩:=a
  by_cases hi:i=m
  . subst hi
    have:(i == n)=false:=by simp;omega
    simp [zA2,zA1,Ne.symm h]
  . by_cases hn:i=n
    . subst hn;simp [zA2,zA1,hi]
    . simp [zA2,zA1,hi,hn,ih]
theorem zB1:∀ {l:EE} {m:Nat} {x:CObj},zA1 l m=some x->zA2 l m x=l
 | [],_,_,h=>by cases h
 | (i,o)::r,m,x,h=>by
  by_cases hi:i=m
  . subst hi;simp [zA1] at h;subst h;simp [zA2]
  . simp [zA1,hi] at h;simp [zA2,hi,zB1 h]
abbrev zGw:B8:=[65,66,67,68,69,70,71,72,73,74,75,76,77,78,79,80,81,82,83,84,85,86,87,88,89,90,97,98,99,100,101,102,103,104,105,106,107,108,109,110,111,112,113,114,115,116,117,118,119,120,121,122,95]
theorem zBc {s r:B8} {c:UInt8} {i:Nat} (h:s.drop i=c::r):s[i]? = some c:=by
 have:=congrArg List.head? h
 simpa using this
theorem zEj {s r:B8} {c:UInt8} {i:Nat} (h:s.drop i=c::r):s.drop (i+1)=r:=by
 have:=congrArg (List.drop 1) h
 rw [List.drop_drop] at this
 simpa using this
theorem zGz {p:UInt8->Bool} (h:(List.range 256).all (fun k=>p (UInt8.ofNat k))=true) (c:UInt8):p c=true:=by
 have h1:=List.all_eq_true.1 h c.toNat (List.mem_range.2 c.toNat_lt)
 rwa [show UInt8.ofNat c.toNat=c by simp] at h1
end Go.Proofs.YtafeofghkhhhkaaGreat.IrM
namespace Go.Proofs.YtafeofghkhhhkaaGreat.IrM
open Go Go.CI
open Go.LexF hiding zLd zGw
set_option maxRecDepth 100000
set_option maxHeartbeats 4000000
set_option linter.unusedVariables false
set_option linter.unusedSimpArgs false
attribute [local irreducible] W Wo Wc WoR
def Sp (r:B8):Prop:=∀ c u,r=c::u->32<c.toNat/\c.toNat≠47
theorem za5 (s:B8) (hs:s.length<60000) (p d:Nat) (t:Int) (r:B8) (hr:Sp r) (Q:QT):∀ (g:B8) (i:Nat),(∀ c ∈ g,c.toNat=32\/c.toNat=10)->s.drop i=g++r->∀ (h:CHeap) (v1 v2 v3 v4 v5 v6 v7 v8 v9:CVal),zA1 h.ents p=some (lx s (i:Int) 0 t)->Fit h->p<h.next ->
    (∀ x n' ty v1 v2 v3 v4 v5 v6 v7 v8 v9,(x=.ret\/x=.exit 0)->h.next<=n'->zA7 ty n'->Q x ⟨[.ptr p d 0,v1,v2,v3,v4,v5,v6,v7,v8,v9],⟨zA2 h.ents p (lx s ((i+g.length:Nat):Int) 0 t),n',ty⟩,[]⟩) ->
    W TF spL ⟨[.ptr p d 0,v1,v2,v3,v4,v5,v6,v7,v8,v9],h,[]⟩ Q:=by
 intro g
 induction g with
 | nil =>
  intro i _ hd h v1 v2 v3 v4 v5 v6 v7 v8 v9 hg hf hp hk
  obtain ⟨hu,hut,hX⟩:=fx4 hf
  have hY:=fx5 hf hg;have ⟨hG,hD2,hC2,hN2⟩:=hY
  simp only [List.length_nil,Nat.add_zero,zB1 hg] at hk
  rw [List.nil_append] at hd
  cases r with
  | nil =>
   have hl:¬ (i:Int)<(s.length:Int):=by have:=List.drop_eq_nil_iff.1 hd;omega
   refine W.loop ?_
   have hZ:=j4_ hX hg hY hl
   try refine wk_ ?_
   all_goals ((try refine W.ret ?_);(try simp only [zB3,zA9,zAo]);(first | refine hk _ _ _ _ _ _ _ _ _ _ _ _ (.inl rfl) ?_ ?_ | refine hk _ _ _ _ _ _ _ _ _ _ _ _ (.inr rfl) ?_ ?_);omega;exact ut_)
  | cons c u =>
   obtain ⟨h32,h47⟩:=hr c u rfl
   have hc0:=zBc hd
   obtain ⟨hi,hce⟩:=gs_ hc0
   have ST:∀ (x:UInt8),((s.drop i).take 2 == [47,x])=false:=fun x=>by
    rw [hd]
    have:¬ c=47:=fun e=>h47 (by rw [e];rfl)
    cases u with
    | nil=>simp
    | cons b u=>simp [this]
   have S0:∀ (x:UInt8) (h:CHeap) (hf:Fit h) (hg:zA1 h.ents p=some (lx s (i:Int) 0 t)) (hp:p<h.next) (K:KT) (hk:∀ n' ty,h.next<=n'->zA7 ty n'->K (.bool false) ⟨h.ents,n',ty⟩),Wc TF 175 [.ptr p d 0,.str [47,x]] h K:=fun x h hf hg hp K hk=>by
    by_cases hle:i+2<=s.length
    . exact zGv s i 0 t [47,x] hs hle (ST x) h p d hf hg hp K hk
    . exact zH4 s i 0 t [47,x] hs (by omega) (by simp) (by simp;omega) h p d hf hg hp K hk
   have S1:=S0 47
   have S2:=S0 42
   have h9:9<=c.toNat:=by omega
   have h13:¬ c.toNat<=13:=by omega
   have h32':¬ c.toNat=32:=by omega
   refine W.loop ?_
   have hZ:=j8_ hX hg hY hce hc0 h9 h32' h13
   repeat (first | refine wk_ ?_ | (refine S1 _ ?_ ?_ ?_ _ fun n1 tyn1 hn1 hun1=>⟨rfl,?_⟩;exact fit_;exact ge_;exact om_;(try dsimp only at hn1)) | (refine S2 _ ?_ ?_ ?_ _ fun n1 tyn1 hn1 hun1=>⟨rfl,?_⟩;exact fit_;exact ge_;exact om_;(try dsimp only at hn1)))
   all_goals ((try refine W.ret ?_);(try simp only [zB3,zA9,zAo]);(first | refine hk _ _ _ _ _ _ _ _ _ _ _ _ (.inl rfl) ?_ ?_ | refine hk _ _ _ _ _ _ _ _ _ _ _ _ (.inr rfl) ?_ ?_);omega;exact ut_)
 | cons c g ih =>
  intro i hsp hd h v1 v2 v3 v4 v5 v6 v7 v8 v9 hg hf hp hk
  obtain ⟨hu,hut,hX⟩:=fx4 hf
  have hY:=fx5 hf hg;have ⟨hG,hD2,hC2,hN2⟩:=hY
  have hc0:=zBc (show s.drop i=c::(g++r) from hd)
  obtain ⟨hi,hce⟩:=gs_ hc0
  have NX:∀ (n':Nat) (ty:NN) (w1 w2 w3 w4 w5 w6 w7 w8 w9:CVal),h.next<=n'->zA7 ty n'->W TF spL ⟨[.ptr p d 0,w1,w2,w3,w4,w5,w6,w7,w8,w9],⟨zA2 h.ents p (lx s ((i:Int)+1) 0 t),n',ty⟩,[]⟩ Q:=fun n' ty w1 w2 w3 w4 w5 w6 w7 w8 w9 e2 e3=>by
   refine ih (i+1) (fun x hx=>hsp x (List.mem_cons_of_mem c hx)) (zEj (show s.drop i=c::(g++r) from hd)) ⟨_,n',ty⟩ _ _ _ _ _ _ _ _ _ (by dsimp only;rw [zA4 hg];simp) ⟨hf.1.set.le e2,e3⟩ (by dsimp only;omega) ?_
   intro x n2 ty u1 u2 u3 u4 u5 u6 u7 u8 u9 g0 g1 g2
   dsimp only at g1 ⊢
   rw [zA8]
   have:=hk x n2 ty u1 u2 u3 u4 u5 u6 u7 u8 u9 g0 om_ g2
   rwa [show i+(c::g).length=i+1+g.length by simp;omega] at this
  rcases hsp c (List.mem_cons_self ..) with hs1 | hs1
  all_goals (
   refine W.loop ?_
   have hZ:=j6_ hX hg hY hce hc0 hs1
   try refine wk_ ?_
   show W TF spL (dropped true _ _) Q
   generalize e:dropped .. = r0
   simp (disch:=omega) [hX,hg,hY] at e
   subst e
   try dsimp only
   refine NX _ _ _ _ _ _ _ _ _ _ _ ?_ ?_
   . exact om_
   . exact zA7.le (by assumption) om_)
theorem sp_F (s:B8) (hs:s.length<60000) (i:Nat) (g r:B8) (hg0:∀ c ∈ g,c.toNat=32\/c.toNat=10) (hr:Sp r) (hd:s.drop i=g++r) (t:Int) (h:CHeap) (p d:Nat) (hf:Fit h) (hg:zA1 h.ents p=some (lx s (i:Int) 0 t)) (hp:p<h.next) (K:KT)
    (hk:∀ n' ty,h.next<=n'->zA7 ty n'->K (.tup []) ⟨zA2 h.ents p (lx s ((i+g.length:Nat):Int) 0 t),n',ty⟩):Wc TF 164 [.ptr p d 0] h K:=by
 obtain ⟨hu,hut,hX⟩:=fx4 hf
 have hY:=fx5 hf hg
 refine mk_ 164 c164 (s_ ?_)
 refine bl_ ?_
 refine za5 s hs p d t r hr _ g i hg0 hd _ _ _ _ _ _ _ _ _ _ hg ?_ ?_ ?_
 . exact ⟨hu.le om_,zA7.le hut om_⟩
 . exact om_
 . intro x n' ty w1 w2 w3 w4 w5 w6 w7 w8 w9 g0 g1 g2
   try dsimp only at g1
   rcases g0 with rfl | rfl
   all_goals ((try simp only [zB3,zA9,zAo]);(first | refine endW.of (.inl rfl) rfl ?_ | refine endW.of (.inr rfl) rfl ?_);generalize e:zCa .. = r;simp (disch:=omega) [hX,hg,hY] at e;subst e)
   all_goals (refine hk _ _ ?_ ?_;omega;exact ut_)
def Bk (r:B8):Prop:=∀ c u,r=c::u->letB c=false/\digB c=false/\c.toNat≠46
theorem zOh:Pu TF 177 [.int .u8 0] (.bool false):=zBj 0
theorem zQc:Pu TF 179 [.int .u8 0] (.bool false):=zC5 0
theorem zda (s:B8) (hs:s.length<60000) (p d:Nat) (t:Int) (R:B8) (hR:Bk R) (Q:QT) (v1 v2 v3 v4 v5 v7 v8 v9 v10 v11:CVal):∀ (x:B8) (i:Nat),(∀ c ∈ x,letB c=true\/digB c=true)->s.drop i=x++R->i<=s.length->∀ (h:CHeap) (v6:CVal),zA1 h.ents p=some (lx s (i:Int) 0 t)->Fit h->p<h.next ->
    (∀ n' ty w6,h.next<=n'->zA7 ty n'->Q (.exit 1) ⟨[.ptr p d 0,v1,v2,v3,v4,v5,w6,v7,v8,v9,v10,v11],⟨zA2 h.ents p (lx s ((i+x.length:Nat):Int) 0 t),n',ty⟩,[]⟩) ->
    W TF nmL ⟨[.ptr p d 0,v1,v2,v3,v4,v5,v6,v7,v8,v9,v10,v11],h,[]⟩ Q:=by
 intro x
 induction x with
 | nil =>
  intro i _ hd hil h v6 hg hf hp hk
  obtain ⟨hu,hut,hX⟩:=fx4 hf
  have hY:=fx5 hf hg;have ⟨hG,hD2,hC2,hN2⟩:=hY
  simp only [List.length_nil,Nat.add_zero,zB1 hg] at hk
  rw [List.nil_append] at hd
  cases R with
  | nil =>
   have hl:s.length<=i:=List.drop_eq_nil_iff.1 hd
   have B0:∀ (h:CHeap) (hf:Fit h) (hg:zA1 h.ents p=some (lx s (i:Int) 0 t)) (hp:p<h.next) (K:KT) (hk:∀ n' ty,h.next<=n'->zA7 ty n'->K (.int .u8 0) ⟨h.ents,n',ty⟩),Wc TF 178 [.ptr p d 0,.int .i64 0] h K:=fun h hf hg hp K hk=>zUn s i 0 0 t hs hil om_ om_ h p d hf hg hp K hk
   refine W.loop ?_
   have hZ:=j3_ hX hg hY
   repeat (first | refine wk_ ?_ | (refine B0 _ ?_ ?_ ?_ _ fun n1 tyn1 hn1 hun1=>⟨rfl,?_⟩;exact fit_;exact ge_;exact om_;(try dsimp only at hn1)) | (refine zOh _ ?_ _ fun n1 tyn1 hn1 hun1=>⟨rfl,?_⟩;exact fit_;(try dsimp only at hn1)) | (refine zQc _ ?_ _ fun n1 tyn1 hn1 hun1=>⟨rfl,?_⟩;exact fit_;(try dsimp only at hn1)))
   all_goals ((try simp only [zB3,zA9,zAo]);refine hk _ _ _ ?_ ?_;omega;exact ut_)
  | cons c u =>
   obtain ⟨b1,b2,b3⟩:=hR c u rfl
   have hc0:=zBc hd
   obtain ⟨hi,hce⟩:=gs_ hc0
   have LF:=zBj c
   have DF:=zC5 c
   rw [b1] at LF
   rw [b2] at DF
   have B0:∀ (h:CHeap) (hf:Fit h) (hg:zA1 h.ents p=some (lx s (i:Int) 0 t)) (hp:p<h.next) (K:KT) (hk:∀ n' ty,h.next<=n'->zA7 ty n'->K (.int .u8 (c.toNat:Int)) ⟨h.ents,n',ty⟩),Wc TF 178 [.ptr p d 0,.int .i64 0] h K:=fun h hf hg hp K hk=>zPq s i 0 0 t c hs om_ hc0 h p d hf hg hp K hk
   refine W.loop ?_
   have hZ:=j6_ hX hg hY hce hc0 b3
   repeat (first | refine wk_ ?_ | (refine B0 _ ?_ ?_ ?_ _ fun n1 tyn1 hn1 hun1=>⟨rfl,?_⟩;exact fit_;exact ge_;exact om_;(try dsimp only at hn1)) | (refine LF _ ?_ _ fun n1 tyn1 hn1 hun1=>⟨rfl,?_⟩;exact fit_;(try dsimp only at hn1)) | (refine DF _ ?_ _ fun n1 tyn1 hn1 hun1=>⟨rfl,?_⟩;exact fit_;(try dsimp only at hn1)))
   all_goals ((try simp only [zB3,zA9,zAo]);refine hk _ _ _ ?_ ?_;omega;exact ut_)
 | cons c x ih =>
  intro i hx hd hil h v6 hg hf hp hk
  have hd':s.drop i=c::(x++R):=hd
  have hc0:=zBc hd'
  obtain ⟨hi,hce⟩:=gs_ hc0
  have B0:∀ (h:CHeap) (hf:Fit h) (hg:zA1 h.ents p=some (lx s (i:Int) 0 t)) (hp:p<h.next) (K:KT) (hk:∀ n' ty,h.next<=n'->zA7 ty n'->K (.int .u8 (c.toNat:Int)) ⟨h.ents,n',ty⟩),Wc TF 178 [.ptr p d 0,.int .i64 0] h K:=fun h hf hg hp K hk=>zPq s i 0 0 t c hs om_ hc0 h p d hf hg hp K hk
  obtain ⟨hu,hut,hX⟩:=fx4 hf
  have hY:=fx5 hf hg;have ⟨hG,hD2,hC2,hN2⟩:=hY
  have NX:∀ (n':Nat) (ty:NN) (w6:CVal),h.next<=n'->zA7 ty n'->W TF nmL ⟨[.ptr p d 0,v1,v2,v3,v4,v5,w6,v7,v8,v9,v10,v11],⟨zA2 h.ents p (lx s ((i:Int)+1) 0 t),n',ty⟩,[]⟩ Q:=fun n' ty w6 e2 e3=>by
   refine ih (i+1) (fun y hy=>hx y (List.mem_cons_of_mem c hy)) (zEj hd') (by omega) ⟨_,n',ty⟩ _ (by dsimp only;rw [zA4 hg];simp) ⟨hf.1.set.le e2,e3⟩ (by dsimp only;omega) ?_
   intro n2 ty w g1 g2
   dsimp only at g1 ⊢
   rw [zA8]
   have:=hk n2 ty w om_ g2
   rwa [show i+(c::x).length=i+1+x.length by simp;omega] at this
  have LF:=zBj c
  have DF:=zC5 c
  by_cases hl:letB c=true
  . rw [hl] at LF
    refine W.loop ?_
    have hZ:=j5_ hX hg hY hce hc0
    repeat (first | refine wk_ ?_ | (refine B0 _ ?_ ?_ ?_ _ fun n1 tyn1 hn1 hun1=>⟨rfl,?_⟩;exact fit_;exact ge_;exact om_;(try dsimp only at hn1)) | (refine LF _ ?_ _ fun n1 tyn1 hn1 hun1=>⟨rfl,?_⟩;exact fit_;(try dsimp only at hn1)))
    show W TF nmL (dropped true _ _) Q
    generalize e:dropped .. = r0
    simp (disch:=omega) [hX,hg,hY] at e
    subst e
    try dsimp only
    refine NX _ _ _ ?_ ?_
    . exact om_
    . exact zA7.le (by assumption) om_
  . have hdg:digB c=true:=(hx c (List.mem_cons_self ..)).resolve_left hl
    rw [Bool.not_eq_true] at hl
    rw [hl] at LF
    rw [hdg] at DF
    refine W.loop ?_
    have hZ:=j5_ hX hg hY hce hc0
    repeat (first | refine wk_ ?_ | (refine B0 _ ?_ ?_ ?_ _ fun n1 tyn1 hn1 hun1=>⟨rfl,?_⟩;exact fit_;exact ge_;exact om_;(try dsimp only at hn1)) | (refine LF _ ?_ _ fun n1 tyn1 hn1 hun1=>⟨rfl,?_⟩;exact fit_;(try dsimp only at hn1)) | (refine DF _ ?_ _ fun n1 tyn1 hn1 hun1=>⟨rfl,?_⟩;exact fit_;(try dsimp only at hn1)))
    show W TF nmL (dropped true _ _) Q
    generalize e:dropped .. = r0
    simp (disch:=omega) [hX,hg,hY] at e
    subst e
    try dsimp only
    refine NX _ _ _ ?_ ?_
    . exact om_
    . exact zA7.le (by assumption) om_
theorem wd_e (s:B8) (hs:s.length<60000) (i:Nat) (hi:i=s.length) (t:Int) (h:CHeap) (p d:Nat) (hf:Fit h) (hg:zA1 h.ents p=some (lx s (i:Int) 0 t)) (hp:p<h.next) (K:KT) (hk:∀ n' ty,h.next<=n'->zA7 ty n'->K (.agg [.int .i64 5,.str [],.int .u64 0,.int .i64 (i:Int)]) ⟨h.ents,n',ty⟩):Wc TF 165 [.ptr p d 0] h K:=by
 subst hi
 obtain ⟨hu,hut,hX⟩:=fx4 hf
 have hY:=fx5 hf hg;have ⟨hG,hD2,hC2,hN2⟩:=hY
 refine mk_ 165 c165 (s_ ?_)
 have hZ:=j3_ hX hg hY
 repeat (first | refine wk_ ?_)
 all_goals ((try refine W.ret ?_);(try simp only [zB3,zA9,zAo]);(first | refine endW.of (.inl rfl) rfl ?_ | refine endW.of (.inr rfl) rfl ?_);generalize e:zCa .. = r;simp (disch:=omega) [hX,hg,hY] at e;subst e;refine hk _ _ ?_ ?_;omega;exact ut_)
theorem zdd (s:B8) (hs:s.length<60000) (i:Nat) (c:UInt8) (x R:B8) (hd:s.drop i=c::(x++R)) (hl:letB c=true) (hx:∀ c ∈ x,letB c=true\/digB c=true) (hR:Bk R) (t:Int) (h:CHeap) (p d:Nat) (hf:Fit h) (hg:zA1 h.ents p=some (lx s (i:Int) 0 t)) (hp:p<h.next) (K:KT) (hk:∀ n' ty,h.next<=n'->zA7 ty n'->K (.agg [.int .i64 1,.str (c::x),.int .u64 0,.int .i64 (i:Int)]) ⟨zA2 h.ents p (lx s ((i+1+x.length:Nat):Int) 0 t),n',ty⟩):Wc TF 165 [.ptr p d 0] h K:=by
 obtain ⟨hu,hut,hX⟩:=fx4 hf
 have hY:=fx5 hf hg;have ⟨hG,hD2,hC2,hN2⟩:=hY
 have hc0:=zBc hd
 obtain ⟨hi,hce⟩:=gs_ hc0
 have hcl:=c.toNat_lt
 have hine:¬ ((i:Int)=(s.length:Int)):=by omega
 have LF:=zBj c
 have DF:=zC5 c
 have hto:((i:Int)+1).toNat=i+1:=by omega
 rw [hl] at LF
 refine mk_ 165 c165 (s_ ?_)
 have hZ:=j6_ hX hg hY hce hc0 hto
 repeat (first | refine wk_ ?_ | (refine LF _ ?_ _ fun n1 tyn1 hn1 hun1=>⟨rfl,?_⟩;exact fit_;(try dsimp only at hn1)) | (refine DF _ ?_ _ fun n1 tyn1 hn1 hun1=>⟨rfl,?_⟩;exact fit_;(try dsimp only at hn1)))
 refine zda s hs p d t R hR _ _ _ _ _ _ _ _ _ _ _ x (i+1) hx (zEj hd) om_ _ _ ?_ ?_ ?_ ?_
 . (simp (disch:=omega) [zA1,zA2,zCg,zD1,zA8,hg,hG])
 . exact fit_
 . exact om_
 . intro n' ty w6 g1 g2
   try dsimp only at g1
   have hlen1:i+1+x.length<=s.length:=by have:=congrArg List.length hd;simp only [List.length_drop,List.length_cons,List.length_append] at this;omega
   have hcut:(s.take (i+1+x.length)).drop i=c::x:=by rw [List.drop_take,hd,show i+1+x.length - i=x.length+1 by omega,List.take_succ_cons,List.take_left]
   obtain ⟨e9,he9⟩:∃ e9,i+1+x.length=e9:=⟨_,rfl⟩
   have hto9:((e9:Nat):Int).toNat=e9:=by omega
   simp only [he9] at hk hcut hlen1 ⊢
   have hZ:=j8_ hX hg hY hce hc0 hto hcut hto9
   repeat (first | refine wk_ ?_)
   all_goals ((try refine W.ret ?_);(try simp only [zB3,zA9,zAo]);(first | refine endW.of (.inl rfl) rfl ?_ | refine endW.of (.inr rfl) rfl ?_);generalize e:zCa .. = r;simp (disch:=omega) [hX,hg,hY] at e;subst e;refine hk _ _ ?_ ?_;omega;exact ut_)
theorem zWk (s:B8) (hs:s.length<60000) (i:Nat) (r:B8) (hd:s.drop i=123::r) (t:Int) (h:CHeap) (p d:Nat) (hf:Fit h) (hg:zA1 h.ents p=some (lx s (i:Int) 0 t)) (hp:p<h.next) (K:KT) (hk:∀ n' ty,h.next<=n'->zA7 ty n'->K (.agg [.int .i64 4,.str [123],.int .u64 0,.int .i64 (i:Int)]) ⟨zA2 h.ents p (lx s ((i+1:Nat):Int) 0 t),n',ty⟩):Wc TF 165 [.ptr p d 0] h K:=by
 obtain ⟨hu,hut,hX⟩:=fx4 hf
 have hY:=fx5 hf hg;have ⟨hG,hD2,hC2,hN2⟩:=hY
 have hc0:=zBc hd
 obtain ⟨hi,hce⟩:=gs_ hc0
 have hine:¬ ((i:Int)=(s.length:Int)):=by omega
 have LF:Pu TF 177 [.int .u8 123] (.bool false):=zBj 123
 have DF:Pu TF 179 [.int .u8 123] (.bool false):=zC5 123
 have hto:((i:Int)+1).toNat=i+1:=by omega
 have hsl:(s.take (i+1)).drop i=[123]:=by rw [List.drop_take,show i+1 - i=1 by omega,hd];rfl
 have e1:((i+1:Nat):Int)=(i:Int)+1:=by omega
 rw [e1] at hk
 refine mk_ 165 c165 (s_ ?_)
 have hZ:=j7_ hX hg hY hce hc0 hto hsl
 repeat (first | refine vk_ ?_ | (refine LF _ ?_ _ fun n1 tyn1 hn1 hun1=>⟨rfl,?_⟩;exact fit_;(try dsimp only at hn1)) | (refine DF _ ?_ _ fun n1 tyn1 hn1 hun1=>⟨rfl,?_⟩;exact fit_;(try dsimp only at hn1)) | (refine dk_ ?_;refine W.loop ?_) | refine W.loop ?_)
 refine rk_ ?_
 refine hk _ _ ?_ ?_;omega;exact ut_
theorem zV7 (s:B8) (hs:s.length<60000) (i:Nat) (r:B8) (hd:s.drop i=125::r) (t:Int) (h:CHeap) (p d:Nat) (hf:Fit h) (hg:zA1 h.ents p=some (lx s (i:Int) 0 t)) (hp:p<h.next) (K:KT) (hk:∀ n' ty,h.next<=n'->zA7 ty n'->K (.agg [.int .i64 4,.str [125],.int .u64 0,.int .i64 (i:Int)]) ⟨zA2 h.ents p (lx s ((i+1:Nat):Int) 0 t),n',ty⟩):Wc TF 165 [.ptr p d 0] h K:=by
 obtain ⟨hu,hut,hX⟩:=fx4 hf
 have hY:=fx5 hf hg;have ⟨hG,hD2,hC2,hN2⟩:=hY
 have hc0:=zBc hd
 obtain ⟨hi,hce⟩:=gs_ hc0
 have hine:¬ ((i:Int)=(s.length:Int)):=by omega
 have LF:Pu TF 177 [.int .u8 125] (.bool false):=zBj 125
 have DF:Pu TF 179 [.int .u8 125] (.bool false):=zC5 125
 have hto:((i:Int)+1).toNat=i+1:=by omega
 have hsl:(s.take (i+1)).drop i=[125]:=by rw [List.drop_take,show i+1 - i=1 by omega,hd];rfl
 have e1:((i+1:Nat):Int)=(i:Int)+1:=by omega
 rw [e1] at hk
 refine mk_ 165 c165 (s_ ?_)
 have hZ:=j7_ hX hg hY hce hc0 hto hsl
 repeat (first | refine vk_ ?_ | (refine LF _ ?_ _ fun n1 tyn1 hn1 hun1=>⟨rfl,?_⟩;exact fit_;(try dsimp only at hn1)) | (refine DF _ ?_ _ fun n1 tyn1 hn1 hun1=>⟨rfl,?_⟩;exact fit_;(try dsimp only at hn1)) | (refine dk_ ?_;refine W.loop ?_) | refine W.loop ?_)
 refine rk_ ?_
 refine hk _ _ ?_ ?_;omega;exact ut_
theorem zYi (s:B8) (hs:s.length<60000) (i:Nat) (r:B8) (hd:s.drop i=91::r) (t:Int) (h:CHeap) (p d:Nat) (hf:Fit h) (hg:zA1 h.ents p=some (lx s (i:Int) 0 t)) (hp:p<h.next) (K:KT) (hk:∀ n' ty,h.next<=n'->zA7 ty n'->K (.agg [.int .i64 4,.str [91],.int .u64 0,.int .i64 (i:Int)]) ⟨zA2 h.ents p (lx s ((i+1:Nat):Int) 0 t),n',ty⟩):Wc TF 165 [.ptr p d 0] h K:=by
 obtain ⟨hu,hut,hX⟩:=fx4 hf
 have hY:=fx5 hf hg;have ⟨hG,hD2,hC2,hN2⟩:=hY
 have hc0:=zBc hd
 obtain ⟨hi,hce⟩:=gs_ hc0
 have hine:¬ ((i:Int)=(s.length:Int)):=by omega
 have LF:Pu TF 177 [.int .u8 91] (.bool false):=zBj 91
 have DF:Pu TF 179 [.int .u8 91] (.bool false):=zC5 91
 have hto:((i:Int)+1).toNat=i+1:=by omega
 have hsl:(s.take (i+1)).drop i=[91]:=by rw [List.drop_take,show i+1 - i=1 by omega,hd];rfl
 have e1:((i+1:Nat):Int)=(i:Int)+1:=by omega
 rw [e1] at hk
 refine mk_ 165 c165 (s_ ?_)
 have hZ:=j7_ hX hg hY hce hc0 hto hsl
 repeat (first | refine vk_ ?_ | (refine LF _ ?_ _ fun n1 tyn1 hn1 hun1=>⟨rfl,?_⟩;exact fit_;(try dsimp only at hn1)) | (refine DF _ ?_ _ fun n1 tyn1 hn1 hun1=>⟨rfl,?_⟩;exact fit_;(try dsimp only at hn1)) | (refine dk_ ?_;refine W.loop ?_) | refine W.loop ?_)
 refine rk_ ?_
 refine hk _ _ ?_ ?_;omega;exact ut_
theorem zXz (s:B8) (hs:s.length<60000) (i:Nat) (r:B8) (hd:s.drop i=93::r) (t:Int) (h:CHeap) (p d:Nat) (hf:Fit h) (hg:zA1 h.ents p=some (lx s (i:Int) 0 t)) (hp:p<h.next) (K:KT) (hk:∀ n' ty,h.next<=n'->zA7 ty n'->K (.agg [.int .i64 4,.str [93],.int .u64 0,.int .i64 (i:Int)]) ⟨zA2 h.ents p (lx s ((i+1:Nat):Int) 0 t),n',ty⟩):Wc TF 165 [.ptr p d 0] h K:=by
 obtain ⟨hu,hut,hX⟩:=fx4 hf
 have hY:=fx5 hf hg;have ⟨hG,hD2,hC2,hN2⟩:=hY
 have hc0:=zBc hd
 obtain ⟨hi,hce⟩:=gs_ hc0
 have hine:¬ ((i:Int)=(s.length:Int)):=by omega
 have LF:Pu TF 177 [.int .u8 93] (.bool false):=zBj 93
 have DF:Pu TF 179 [.int .u8 93] (.bool false):=zC5 93
 have hto:((i:Int)+1).toNat=i+1:=by omega
 have hsl:(s.take (i+1)).drop i=[93]:=by rw [List.drop_take,show i+1 - i=1 by omega,hd];rfl
 have e1:((i+1:Nat):Int)=(i:Int)+1:=by omega
 rw [e1] at hk
 refine mk_ 165 c165 (s_ ?_)
 have hZ:=j7_ hX hg hY hce hc0 hto hsl
 repeat (first | refine vk_ ?_ | (refine LF _ ?_ _ fun n1 tyn1 hn1 hun1=>⟨rfl,?_⟩;exact fit_;(try dsimp only at hn1)) | (refine DF _ ?_ _ fun n1 tyn1 hn1 hun1=>⟨rfl,?_⟩;exact fit_;(try dsimp only at hn1)) | (refine dk_ ?_;refine W.loop ?_) | refine W.loop ?_)
 refine rk_ ?_
 refine hk _ _ ?_ ?_;omega;exact ut_
theorem zX5 (s:B8) (hs:s.length<60000) (i:Nat) (r:B8) (hd:s.drop i=61::r) (t:Int) (h:CHeap) (p d:Nat) (hf:Fit h) (hg:zA1 h.ents p=some (lx s (i:Int) 0 t)) (hp:p<h.next) (K:KT) (hk:∀ n' ty,h.next<=n'->zA7 ty n'->K (.agg [.int .i64 4,.str [61],.int .u64 0,.int .i64 (i:Int)]) ⟨zA2 h.ents p (lx s ((i+1:Nat):Int) 0 t),n',ty⟩):Wc TF 165 [.ptr p d 0] h K:=by
 obtain ⟨hu,hut,hX⟩:=fx4 hf
 have hY:=fx5 hf hg;have ⟨hG,hD2,hC2,hN2⟩:=hY
 have hc0:=zBc hd
 obtain ⟨hi,hce⟩:=gs_ hc0
 have hine:¬ ((i:Int)=(s.length:Int)):=by omega
 have LF:Pu TF 177 [.int .u8 61] (.bool false):=zBj 61
 have DF:Pu TF 179 [.int .u8 61] (.bool false):=zC5 61
 have hto:((i:Int)+1).toNat=i+1:=by omega
 have hsl:(s.take (i+1)).drop i=[61]:=by rw [List.drop_take,show i+1 - i=1 by omega,hd];rfl
 have e1:((i+1:Nat):Int)=(i:Int)+1:=by omega
 rw [e1] at hk
 refine mk_ 165 c165 (s_ ?_)
 have hZ:=j7_ hX hg hY hce hc0 hto hsl
 repeat (first | refine vk_ ?_ | (refine LF _ ?_ _ fun n1 tyn1 hn1 hun1=>⟨rfl,?_⟩;exact fit_;(try dsimp only at hn1)) | (refine DF _ ?_ _ fun n1 tyn1 hn1 hun1=>⟨rfl,?_⟩;exact fit_;(try dsimp only at hn1)) | (refine dk_ ?_;refine W.loop ?_) | refine W.loop ?_)
 refine rk_ ?_
 refine hk _ _ ?_ ?_;omega;exact ut_
theorem zYq (s:B8) (hs:s.length<60000) (i:Nat) (r:B8) (hd:s.drop i=59::r) (t:Int) (h:CHeap) (p d:Nat) (hf:Fit h) (hg:zA1 h.ents p=some (lx s (i:Int) 0 t)) (hp:p<h.next) (K:KT) (hk:∀ n' ty,h.next<=n'->zA7 ty n'->K (.agg [.int .i64 4,.str [59],.int .u64 0,.int .i64 (i:Int)]) ⟨zA2 h.ents p (lx s ((i+1:Nat):Int) 0 t),n',ty⟩):Wc TF 165 [.ptr p d 0] h K:=by
 obtain ⟨hu,hut,hX⟩:=fx4 hf
 have hY:=fx5 hf hg;have ⟨hG,hD2,hC2,hN2⟩:=hY
 have hc0:=zBc hd
 obtain ⟨hi,hce⟩:=gs_ hc0
 have hine:¬ ((i:Int)=(s.length:Int)):=by omega
 have LF:Pu TF 177 [.int .u8 59] (.bool false):=zBj 59
 have DF:Pu TF 179 [.int .u8 59] (.bool false):=zC5 59
 have hto:((i:Int)+1).toNat=i+1:=by omega
 have hsl:(s.take (i+1)).drop i=[59]:=by rw [List.drop_take,show i+1 - i=1 by omega,hd];rfl
 have e1:((i+1:Nat):Int)=(i:Int)+1:=by omega
 rw [e1] at hk
 refine mk_ 165 c165 (s_ ?_)
 have hZ:=j7_ hX hg hY hce hc0 hto hsl
 repeat (first | refine vk_ ?_ | (refine LF _ ?_ _ fun n1 tyn1 hn1 hun1=>⟨rfl,?_⟩;exact fit_;(try dsimp only at hn1)) | (refine DF _ ?_ _ fun n1 tyn1 hn1 hun1=>⟨rfl,?_⟩;exact fit_;(try dsimp only at hn1)) | (refine dk_ ?_;refine W.loop ?_) | refine W.loop ?_)
 refine rk_ ?_
 refine hk _ _ ?_ ?_;omega;exact ut_
theorem zYb (s:B8) (hs:s.length<60000) (i:Nat) (r:B8) (hd:s.drop i=44::r) (t:Int) (h:CHeap) (p d:Nat) (hf:Fit h) (hg:zA1 h.ents p=some (lx s (i:Int) 0 t)) (hp:p<h.next) (K:KT) (hk:∀ n' ty,h.next<=n'->zA7 ty n'->K (.agg [.int .i64 4,.str [44],.int .u64 0,.int .i64 (i:Int)]) ⟨zA2 h.ents p (lx s ((i+1:Nat):Int) 0 t),n',ty⟩):Wc TF 165 [.ptr p d 0] h K:=by
 obtain ⟨hu,hut,hX⟩:=fx4 hf
 have hY:=fx5 hf hg;have ⟨hG,hD2,hC2,hN2⟩:=hY
 have hc0:=zBc hd
 obtain ⟨hi,hce⟩:=gs_ hc0
 have hine:¬ ((i:Int)=(s.length:Int)):=by omega
 have LF:Pu TF 177 [.int .u8 44] (.bool false):=zBj 44
 have DF:Pu TF 179 [.int .u8 44] (.bool false):=zC5 44
 have hto:((i:Int)+1).toNat=i+1:=by omega
 have hsl:(s.take (i+1)).drop i=[44]:=by rw [List.drop_take,show i+1 - i=1 by omega,hd];rfl
 have e1:((i+1:Nat):Int)=(i:Int)+1:=by omega
 rw [e1] at hk
 refine mk_ 165 c165 (s_ ?_)
 have hZ:=j7_ hX hg hY hce hc0 hto hsl
 repeat (first | refine vk_ ?_ | (refine LF _ ?_ _ fun n1 tyn1 hn1 hun1=>⟨rfl,?_⟩;exact fit_;(try dsimp only at hn1)) | (refine DF _ ?_ _ fun n1 tyn1 hn1 hun1=>⟨rfl,?_⟩;exact fit_;(try dsimp only at hn1)) | (refine dk_ ?_;refine W.loop ?_) | refine W.loop ?_)
 refine rk_ ?_
 refine hk _ _ ?_ ?_;omega;exact ut_
theorem zY9 (s:B8) (hs:s.length<60000) (i:Nat) (r:B8) (hd:s.drop i=60::r) (t:Int) (h:CHeap) (p d:Nat) (hf:Fit h) (hg:zA1 h.ents p=some (lx s (i:Int) 0 t)) (hp:p<h.next) (K:KT) (hk:∀ n' ty,h.next<=n'->zA7 ty n'->K (.agg [.int .i64 4,.str [60],.int .u64 0,.int .i64 (i:Int)]) ⟨zA2 h.ents p (lx s ((i+1:Nat):Int) 0 t),n',ty⟩):Wc TF 165 [.ptr p d 0] h K:=by
 obtain ⟨hu,hut,hX⟩:=fx4 hf
 have hY:=fx5 hf hg;have ⟨hG,hD2,hC2,hN2⟩:=hY
 have hc0:=zBc hd
 obtain ⟨hi,hce⟩:=gs_ hc0
 have hine:¬ ((i:Int)=(s.length:Int)):=by omega
 have LF:Pu TF 177 [.int .u8 60] (.bool false):=zBj 60
 have DF:Pu TF 179 [.int .u8 60] (.bool false):=zC5 60
 have hto:((i:Int)+1).toNat=i+1:=by omega
 have hsl:(s.take (i+1)).drop i=[60]:=by rw [List.drop_take,show i+1 - i=1 by omega,hd];rfl
 have e1:((i+1:Nat):Int)=(i:Int)+1:=by omega
 rw [e1] at hk
 refine mk_ 165 c165 (s_ ?_)
 have hZ:=j7_ hX hg hY hce hc0 hto hsl
 repeat (first | refine vk_ ?_ | (refine LF _ ?_ _ fun n1 tyn1 hn1 hun1=>⟨rfl,?_⟩;exact fit_;(try dsimp only at hn1)) | (refine DF _ ?_ _ fun n1 tyn1 hn1 hun1=>⟨rfl,?_⟩;exact fit_;(try dsimp only at hn1)) | (refine dk_ ?_;refine W.loop ?_) | refine W.loop ?_)
 refine rk_ ?_
 refine hk _ _ ?_ ?_;omega;exact ut_
theorem zXl (s:B8) (hs:s.length<60000) (i:Nat) (r:B8) (hd:s.drop i=62::r) (t:Int) (h:CHeap) (p d:Nat) (hf:Fit h) (hg:zA1 h.ents p=some (lx s (i:Int) 0 t)) (hp:p<h.next) (K:KT) (hk:∀ n' ty,h.next<=n'->zA7 ty n'->K (.agg [.int .i64 4,.str [62],.int .u64 0,.int .i64 (i:Int)]) ⟨zA2 h.ents p (lx s ((i+1:Nat):Int) 0 t),n',ty⟩):Wc TF 165 [.ptr p d 0] h K:=by
 obtain ⟨hu,hut,hX⟩:=fx4 hf
 have hY:=fx5 hf hg;have ⟨hG,hD2,hC2,hN2⟩:=hY
 have hc0:=zBc hd
 obtain ⟨hi,hce⟩:=gs_ hc0
 have hine:¬ ((i:Int)=(s.length:Int)):=by omega
 have LF:Pu TF 177 [.int .u8 62] (.bool false):=zBj 62
 have DF:Pu TF 179 [.int .u8 62] (.bool false):=zC5 62
 have hto:((i:Int)+1).toNat=i+1:=by omega
 have hsl:(s.take (i+1)).drop i=[62]:=by rw [List.drop_take,show i+1 - i=1 by omega,hd];rfl
 have e1:((i+1:Nat):Int)=(i:Int)+1:=by omega
 rw [e1] at hk
 refine mk_ 165 c165 (s_ ?_)
 have hZ:=j7_ hX hg hY hce hc0 hto hsl
 repeat (first | refine vk_ ?_ | (refine LF _ ?_ _ fun n1 tyn1 hn1 hun1=>⟨rfl,?_⟩;exact fit_;(try dsimp only at hn1)) | (refine DF _ ?_ _ fun n1 tyn1 hn1 hun1=>⟨rfl,?_⟩;exact fit_;(try dsimp only at hn1)) | (refine dk_ ?_;refine W.loop ?_) | refine W.loop ?_)
 refine rk_ ?_
 refine hk _ _ ?_ ?_;omega;exact ut_
theorem zXu (s:B8) (hs:s.length<60000) (i:Nat) (r:B8) (hd:s.drop i=45::r) (t:Int) (h:CHeap) (p d:Nat) (hf:Fit h) (hg:zA1 h.ents p=some (lx s (i:Int) 0 t)) (hp:p<h.next) (K:KT) (hk:∀ n' ty,h.next<=n'->zA7 ty n'->K (.agg [.int .i64 4,.str [45],.int .u64 0,.int .i64 (i:Int)]) ⟨zA2 h.ents p (lx s ((i+1:Nat):Int) 0 t),n',ty⟩):Wc TF 165 [.ptr p d 0] h K:=by
 obtain ⟨hu,hut,hX⟩:=fx4 hf
 have hY:=fx5 hf hg;have ⟨hG,hD2,hC2,hN2⟩:=hY
 have hc0:=zBc hd
 obtain ⟨hi,hce⟩:=gs_ hc0
 have hine:¬ ((i:Int)=(s.length:Int)):=by omega
 have LF:Pu TF 177 [.int .u8 45] (.bool false):=zBj 45
 have DF:Pu TF 179 [.int .u8 45] (.bool false):=zC5 45
 have hto:((i:Int)+1).toNat=i+1:=by omega
 have hsl:(s.take (i+1)).drop i=[45]:=by rw [List.drop_take,show i+1 - i=1 by omega,hd];rfl
 have e1:((i+1:Nat):Int)=(i:Int)+1:=by omega
 rw [e1] at hk
 refine mk_ 165 c165 (s_ ?_)
 have hZ:=j7_ hX hg hY hce hc0 hto hsl
 repeat (first | refine vk_ ?_ | (refine LF _ ?_ _ fun n1 tyn1 hn1 hun1=>⟨rfl,?_⟩;exact fit_;(try dsimp only at hn1)) | (refine DF _ ?_ _ fun n1 tyn1 hn1 hun1=>⟨rfl,?_⟩;exact fit_;(try dsimp only at hn1)) | (refine dk_ ?_;refine W.loop ?_) | refine W.loop ?_)
 refine rk_ ?_
 refine hk _ _ ?_ ?_;omega;exact ut_
theorem zRi (B:Nat) (hB:1<=B):∀ (r:B8) (n:Nat),n<=valF B n r
 | [],n=>Nat.le_refl _
 | c::r,n=>by
  have h1:=zRi B hB r (n * B+digF c)
  have h2:n * 1<=n * B:=Nat.mul_le_mul_left _ hB
  show n<=valF B (n * B+digF c) r
  omega
theorem zS6 (c:UInt8) (h:0<=dgI c):dgI c=(digF c:Int):=by
 have:=zGz (p:=fun c=>!(decide (0<=dgI c)) || decide (dgI c=(digF c:Int))) (by decide +kernel) c
 simpa [h] using this
abbrev Z4:CObj:=.cells [.int .i64 0,.str [],.int .u64 0,.int .i64 0]
theorem zX9 {c:UInt8} (h1:letB c=false) (h2:digB c=false):dgI c=-1:=by
 have:=zGz (p:=fun c=>letB c || digB c || decide (dgI c=-1)) (by decide +kernel) c
 simpa [h1,h2] using this
theorem zUr {c:UInt8} (h2:digB c=true):0<=dgI c:=by
 have:=zGz (p:=fun c=>!digB c || decide (0<=dgI c)) (by decide +kernel) c
 simpa [h2] using this
theorem zXr (s:B8) (hs:s.length<60000) (p d m dm:Nat) (t at':Int) (hmp:m≠p) (R:B8) (hR:Bk R) (b:Nat) (hb:b=8\/b=10) (Q:QT) (v1 v3 v11 v12:CVal):∀ (x:B8) (i v:Nat),(∀ c ∈ x,digB c=true/\digF c<b)->s.drop i=x++R->i<=s.length->valF b v x<100000->∀ (h:CHeap) (w4 w5 w7 w9:CVal),zA1 h.ents p=some (lx s (i:Int) 0 t)->zA1 h.ents m=some Z4->Fit h->p<h.next->m<h.next ->
    (∀ n' ty w4 w5 w7 w9,h.next<=n'->zA7 ty n'->Q (.exit 0) ⟨[.ptr p d 0,v1,.int .i64 at',v3,w4,w5,.int .u64 (b:Int),w7,.int .u64 (valF b v x:Nat),w9,.ptr m dm 0,v11,v12],⟨zA2 h.ents p (lx s ((i+x.length:Nat):Int) 0 t),n',ty⟩,[]⟩) ->
    W TF dgL ⟨[.ptr p d 0,v1,.int .i64 at',v3,w4,w5,.int .u64 (b:Int),w7,.int .u64 (v:Int),w9,.ptr m dm 0,v11,v12],h,[]⟩ Q:=by
 intro x
 induction x with
 | nil =>
  intro i v _ hd hil hv h w4 w5 w7 w9 hg hm hf hp hpm hk
  obtain ⟨hu,hut,hX⟩:=fx4 hf
  have hY:=fx5 hf hg;have ⟨hG,hD2,hC2,hN2⟩:=hY
  have hM2:∀ x,zA1 (zA2 h.ents p x) m=some Z4:=fun x=>by rw [zA0 hmp];exact hm
  have hMS:∀ x,zA2 (zA2 h.ents p x) m Z4=zA2 h.ents p x:=fun x=>zB1 (hM2 x)
  simp only [List.length_nil,Nat.add_zero,zB1 hg] at hk
  change ∀ n' ty w4 w5 w7 w9,h.next<=n'->zA7 ty n'->Q (.exit 0) ⟨[.ptr p d 0,v1,.int .i64 at',v3,w4,w5,.int .u64 (b:Int),w7,.int .u64 (v:Nat),w9,.ptr m dm 0,v11,v12],⟨h.ents,n',ty⟩,[]⟩ at hk
  replace hv:v<100000:=hv
  rw [List.nil_append] at hd
  cases R with
  | nil =>
   have hl:s.length<=i:=List.drop_eq_nil_iff.1 hd
   have hl2:¬ (i:Int)<(s.length:Int):=by omega
   refine W.loop ?_
   repeat (first | refine st_ rfl ?_ | ((first | refine rg_ ?_ | refine go_ ?_);refine gw_ (by simp (disch:=omega) [hX,hg,hY,hm,hM2,hMS,hmp,zAm,hl2];rfl) ?_))
   all_goals ((try simp only [zB3,zA9,zAo]);refine hk _ _ _ _ _ _ ?_ ?_;omega;exact ut_)
  | cons c u =>
   obtain ⟨b1,b2,b3⟩:=hR c u rfl
   have hc0:=zBc hd
   obtain ⟨hi,hce⟩:=gs_ hc0
   have DG:=zPn c
   rw [zX9 b1 b2] at DG
   rcases hb with rfl | rfl
   all_goals (
    refine W.loop ?_
    repeat (first | refine st_ rfl ?_ | ((first | refine rg_ ?_ | refine go_ ?_);refine gw_ (by simp (disch:=omega) [hX,hg,hY,hm,hM2,hMS,hmp,zAm,hce,hc0];rfl) ?_) | (refine DG _ ?_ _ fun n1 tyn1 hn1 hun1=>⟨rfl,?_⟩;exact fit_;(try dsimp only at hn1)))
    all_goals ((try simp only [zB3,zA9,zAo]);refine hk _ _ _ _ _ _ ?_ ?_;omega;exact ut_))
 | cons c x ih =>
  intro i v hx hd hil hv h w4 w5 w7 w9 hg hm hf hp hpm hk
  have hd':s.drop i=c::(x++R):=hd
  have hc0:=zBc hd'
  obtain ⟨hi,hce⟩:=gs_ hc0
  obtain ⟨hu,hut,hX⟩:=fx4 hf
  have hY:=fx5 hf hg;have ⟨hG,hD2,hC2,hN2⟩:=hY
  have hM2:∀ x,zA1 (zA2 h.ents p x) m=some Z4:=fun x=>by rw [zA0 hmp];exact hm
  have hMS:∀ x,zA2 (zA2 h.ents p x) m Z4=zA2 h.ents p x:=fun x=>zB1 (hM2 x)
  obtain ⟨q1,q2⟩:=hx c (List.mem_cons_self ..)
  have DG:=zPn c
  rw [zS6 c (zUr q1)] at DG
  have hvl:valF b v (c::x)=valF b (v * b+digF c) x:=rfl
  rw [hvl] at hk hv
  have hle:=zRi b om_ x (v * b+digF c)
  have NX:∀ (n':Nat) (ty:NN) (w4 w5 w7 w9:CVal) (z:Int),z=((v * b+digF c:Nat):Int)->h.next<=n'->zA7 ty n'->W TF dgL ⟨[.ptr p d 0,v1,.int .i64 at',v3,w4,w5,.int .u64 (b:Int),w7,.int .u64 z,w9,.ptr m dm 0,v11,v12],⟨zA2 h.ents p (lx s ((i:Int)+1) 0 t),n',ty⟩,[]⟩ Q:=fun n' ty w4 w5 w7 w9 z e0 e2 e3=>by
   subst e0
   refine ih (i+1) (v * b+digF c) (fun y hy=>hx y (List.mem_cons_of_mem c hy)) (zEj hd') (by omega) hv ⟨_,n',ty⟩ _ _ _ _ (by dsimp only;rw [zA4 hg];simp) (hM2 _) ⟨hf.1.set.le e2,e3⟩ (by dsimp only;omega) (by dsimp only;omega) ?_
   intro n2 ty w4 w5 w7 w9 g1 g2
   dsimp only at g1 ⊢
   rw [zA8]
   have:=hk n2 ty w4 w5 w7 w9 om_ g2
   rwa [show i+(c::x).length=i+1+x.length by simp;omega] at this
  generalize digF c=y at *
  rcases hb with rfl | rfl
  . have htd:((18446744073709551615:Int) - (y:Int)).tdiv 8=(18446744073709551615 - (y:Int)) / 8:=Int.tdiv_eq_ediv_of_nonneg om_
    refine W.loop ?_
    repeat (first | refine st_ rfl ?_ | ((first | refine rg_ ?_ | refine go_ ?_);refine gw_ (by simp (disch:=omega) [hX,hg,hY,hm,hM2,hMS,hmp,zAm,hce,hc0,htd];rfl) ?_) | (refine DG _ ?_ _ fun n1 tyn1 hn1 hun1=>⟨rfl,?_⟩;exact fit_;(try dsimp only at hn1)))
    show W TF dgL (dropped true _ _) Q
    generalize e:dropped .. = r0
    simp (disch:=omega) [hX,hg,hY,hm,hM2,hMS,hmp,zAm,hce,hc0] at e
    subst e
    try dsimp only
    refine NX _ _ _ _ _ _ _ ?_ ?_ ?_
    . (try push_cast);rfl
    . exact om_
    . exact zA7.le (by assumption) om_
  . have htd:((18446744073709551615:Int) - (y:Int)).tdiv 10=(18446744073709551615 - (y:Int)) / 10:=Int.tdiv_eq_ediv_of_nonneg om_
    refine W.loop ?_
    repeat (first | refine st_ rfl ?_ | ((first | refine rg_ ?_ | refine go_ ?_);refine gw_ (by simp (disch:=omega) [hX,hg,hY,hm,hM2,hMS,hmp,zAm,hce,hc0,htd];rfl) ?_) | (refine DG _ ?_ _ fun n1 tyn1 hn1 hun1=>⟨rfl,?_⟩;exact fit_;(try dsimp only at hn1)))
    show W TF dgL (dropped true _ _) Q
    generalize e:dropped .. = r0
    simp (disch:=omega) [hX,hg,hY,hm,hM2,hMS,hmp,zAm,hce,hc0] at e
    subst e
    try dsimp only
    refine NX _ _ _ _ _ _ _ ?_ ?_ ?_
    . (try push_cast);rfl
    . exact om_
    . exact zA7.le (by assumption) om_
theorem zX6 (s:B8) (hs:s.length<60000) (p d m dm:Nat) (t at' v:Int) (hmp:m≠p) (R:B8) (hR:Bk R) (Q:QT) (i:Nat) (hd:s.drop i=R) (hil:i<=s.length) (h:CHeap) (v1 v3 v4 v5 v6 v7 v9 v11 v12:CVal) (hg:zA1 h.ents p=some (lx s (i:Int) 0 t)) (hm:zA1 h.ents m=some Z4) (hf:Fit h) (hp:p<h.next) (hpm:m<h.next)
    (hk:∀ n' ty w11 w12,h.next<=n'->zA7 ty n'->Q .ret ⟨[.ptr p d 0,v1,.int .i64 at',v3,v4,v5,v6,v7,.int .u64 v,v9,.ptr m dm 0,w11,w12],⟨zA2 h.ents m (.cells [.int .i64 2,.str [],.int .u64 v,.int .i64 at']),n',ty⟩,[]⟩) :
    W TF ntL ⟨[.ptr p d 0,v1,.int .i64 at',v3,v4,v5,v6,v7,.int .u64 v,v9,.ptr m dm 0,v11,v12],h,[]⟩ Q:=by
 obtain ⟨hu,hut,hX⟩:=fx4 hf
 have hY:=fx5 hf hg;have ⟨hG,hD2,hC2,hN2⟩:=hY
 have hM2:∀ x,zA1 (zA2 h.ents p x) m=some Z4:=fun x=>by rw [zA0 hmp];exact hm
 have hMS:∀ x,zA2 (zA2 h.ents p x) m Z4=zA2 h.ents p x:=fun x=>zB1 (hM2 x)
 cases R with
 | nil =>
  have hl:s.length<=i:=List.drop_eq_nil_iff.1 hd
  have B0:∀ (h:CHeap) (hf:Fit h) (hg:zA1 h.ents p=some (lx s (i:Int) 0 t)) (hp:p<h.next) (K:KT) (hk:∀ n' ty,h.next<=n'->zA7 ty n'->K (.int .u8 0) ⟨h.ents,n',ty⟩),Wc TF 178 [.ptr p d 0,.int .i64 0] h K:=fun h hf hg hp K hk=>zUn s i 0 0 t hs hil om_ om_ h p d hf hg hp K hk
  have hZ:=j7_ hX hg hY hm hM2 hMS hmp
  repeat (first | refine wk_ ?_ | (refine B0 _ ?_ ?_ ?_ _ fun n1 tyn1 hn1 hun1=>⟨rfl,?_⟩;exact fit_;exact ge_;exact om_;(try dsimp only at hn1)) | (refine zOh _ ?_ _ fun n1 tyn1 hn1 hun1=>⟨rfl,?_⟩;exact fit_;(try dsimp only at hn1)) | (refine zQc _ ?_ _ fun n1 tyn1 hn1 hun1=>⟨rfl,?_⟩;exact fit_;(try dsimp only at hn1)))
  all_goals ((try refine W.ret ?_);(try simp only [zB3,zA9,zAo,hMS]);refine hk _ _ _ _ ?_ ?_;omega;exact ut_)
 | cons c u =>
  obtain ⟨b1,b2,b3⟩:=hR c u rfl
  have hc0:=zBc hd
  obtain ⟨hi,hce⟩:=gs_ hc0
  have LF:=zBj c
  have DF:=zC5 c
  rw [b1] at LF
  rw [b2] at DF
  have B0:∀ (h:CHeap) (hf:Fit h) (hg:zA1 h.ents p=some (lx s (i:Int) 0 t)) (hp:p<h.next) (K:KT) (hk:∀ n' ty,h.next<=n'->zA7 ty n'->K (.int .u8 (c.toNat:Int)) ⟨h.ents,n',ty⟩),Wc TF 178 [.ptr p d 0,.int .i64 0] h K:=fun h hf hg hp K hk=>zPq s i 0 0 t c hs om_ hc0 h p d hf hg hp K hk
  have hZ:=j10_ hX hg hY hm hM2 hMS hmp hce hc0 b3
  repeat (first | refine wk_ ?_ | (refine B0 _ ?_ ?_ ?_ _ fun n1 tyn1 hn1 hun1=>⟨rfl,?_⟩;exact fit_;exact ge_;exact om_;(try dsimp only at hn1)) | (refine LF _ ?_ _ fun n1 tyn1 hn1 hun1=>⟨rfl,?_⟩;exact fit_;(try dsimp only at hn1)) | (refine DF _ ?_ _ fun n1 tyn1 hn1 hun1=>⟨rfl,?_⟩;exact fit_;(try dsimp only at hn1)))
  all_goals ((try refine W.ret ?_);(try simp only [zB3,zA9,zAo,hMS]);refine hk _ _ _ _ ?_ ?_;omega;exact ut_)
theorem DLT (c:UInt8) (h:digB c=true):digF c<10:=by
 have:=zGz (p:=fun c=>!digB c || decide (digF c<10)) (by decide +kernel) c
 simpa [h] using this
theorem nb_d (s:B8) (hs:s.length<60000) (i:Nat) (c:UInt8) (x:B8) (hc:c≠48) (hx:∀ y ∈ c::x,digB y=true) (hbig:valF 10 0 (c::x)<100000) (R:B8) (hR:Bk R) (hd:s.drop i=c::(x++R)) (t:Int) (h:CHeap) (p d:Nat) (hf:Fit h) (hg:zA1 h.ents p=some (lx s (i:Int) 0 t)) (hp:p<h.next) (K:KT) (hk:∀ n' ty,h.next<=n'->zA7 ty n'->K (.agg [.int .i64 2,.str [],.int .u64 ((valF 10 0 (c::x):Nat):Int),.int .i64 (i:Int)]) ⟨zA2 h.ents p (lx s ((i+(x.length+1):Nat):Int) 0 t),n',ty⟩):Wc TF 180 [.ptr p d 0] h K:=by
 obtain ⟨hu,hut,hX⟩:=fx4 hf
 have hY:=fx5 hf hg;have ⟨hG,hD2,hC2,hN2⟩:=hY
 have hc0:=zBc hd
 obtain ⟨hi,hce⟩:=gs_ hc0
 have hc48:¬ c.toNat=48:=fun e=>hc (UInt8.toNat_inj.1 e)
 have NS:∀ (y:UInt8),letB y=true->((s.drop i).take 2 == [48,y])=false:=fun y _=>by
  rw [hd]
  cases x++R with
  | nil=>simp
  | cons b u=>simp [hc]
 have S1:∀ (h:CHeap) (hf:Fit h) (hg:zA1 h.ents p=some (lx s (i:Int) 0 t)) (hp:p<h.next) (K:KT) (hk:∀ n' ty,h.next<=n'->zA7 ty n'->K (.bool false) ⟨h.ents,n',ty⟩),Wc TF 175 [.ptr p d 0,.str [48,120]] h K:=fun h hf hg hp K hk=>by
  by_cases hle:i+2<=s.length
  . exact zGv s i 0 t [48,120] hs hle (NS 120 (by decide)) h p d hf hg hp K hk
  . exact zH4 s i 0 t [48,120] hs (by omega) (by simp) (by simp;omega) h p d hf hg hp K hk
 have S2:∀ (h:CHeap) (hf:Fit h) (hg:zA1 h.ents p=some (lx s (i:Int) 0 t)) (hp:p<h.next) (K:KT) (hk:∀ n' ty,h.next<=n'->zA7 ty n'->K (.bool false) ⟨h.ents,n',ty⟩),Wc TF 175 [.ptr p d 0,.str [48,88]] h K:=fun h hf hg hp K hk=>by
  by_cases hle:i+2<=s.length
  . exact zGv s i 0 t [48,88] hs hle (NS 88 (by decide)) h p d hf hg hp K hk
  . exact zH4 s i 0 t [48,88] hs (by omega) (by simp) (by simp;omega) h p d hf hg hp K hk
 refine mk_ 180 c180 (s_ ?_)
 have hZ:=j6_ hX hg hY hce hc0 hc48
 repeat (first | refine wk_ ?_ | (refine S1 _ ?_ ?_ ?_ _ fun n1 tyn1 hn1 hun1=>⟨rfl,?_⟩;exact fit_;exact ge_;exact om_;(try dsimp only at hn1)) | (refine S2 _ ?_ ?_ ?_ _ fun n1 tyn1 hn1 hun1=>⟨rfl,?_⟩;exact fit_;exact ge_;exact om_;(try dsimp only at hn1)))
 have hle:i+(x.length+1)<=s.length:=by have:=congrArg List.length hd;simp only [List.length_drop,List.length_cons,List.length_append] at this;omega
 refine zXr s hs p d _ _ t (i:Int) ?_ R hR 10 om_ _ _ _ _ _ (c::x) i 0 (fun y hy=>⟨hx y hy,DLT y (hx y hy)⟩) hd om_ hbig _ _ _ _ _ ?_ ?_ ?_ ?_ ?_ ?_
 . omega
 . (simp (disch:=omega) [zA1,zA2,zCg,zD1,zA8,hg,hG])
 . (simp (disch:=omega) [zA1,zA2,zCg,zD1,zA8,hg,hG])
 . exact fit_
 . exact om_
 . exact om_
 . intro n' ty w4 w5 w7 w9 g1 g2
   try dsimp only at g1
   try simp only [zB3,zA9,zAe,zBd,zAo,reduceIte]
   refine zX6 s hs p d _ _ t (i:Int) _ ?_ R hR _ (i+(x.length+1)) ?_ hle _ _ _ _ _ _ _ _ _ _ ?_ ?_ ?_ ?_ ?_ ?_
   . omega
   . rw [<- List.drop_drop,hd];exact List.drop_left (l₁:=c::x)
   . (simp (disch:=omega) [zA1,zA2,zCg,zD1,zA8,hg,hG])
   . (simp (disch:=omega) [zA1,zA2,zCg,zD1,zA8,hg,hG])
   . refine ⟨Under.set (Under.cons (by (try dsimp only);omega) (hu.le (by (try dsimp only);omega))),?_⟩;exact ut_
   . exact om_
   . exact om_
   . intro n2 ty2 w11 w12 g3 g4
     try dsimp only at g3
     refine endW.of (.inl rfl) rfl ?_
     generalize e:zCa .. = r
     simp (disch:=omega) [hX,hg,hY,hce,hc0] at e
     subst e
     refine hk _ _ ?_ ?_
     . omega
     . exact ut_
theorem nb_0 (s:B8) (hs:s.length<60000) (i:Nat)  (R:B8) (hR:Bk R) (hd:s.drop i=48::R) (t:Int) (h:CHeap) (p d:Nat) (hf:Fit h) (hg:zA1 h.ents p=some (lx s (i:Int) 0 t)) (hp:p<h.next) (K:KT) (hk:∀ n' ty,h.next<=n'->zA7 ty n'->K (.agg [.int .i64 2,.str [],.int .u64 ((valF 8 0 [48]:Nat):Int),.int .i64 (i:Int)]) ⟨zA2 h.ents p (lx s ((i+1:Nat):Int) 0 t),n',ty⟩):Wc TF 180 [.ptr p d 0] h K:=by
 obtain ⟨hu,hut,hX⟩:=fx4 hf
 have hY:=fx5 hf hg;have ⟨hG,hD2,hC2,hN2⟩:=hY
 have hc0:=zBc hd
 obtain ⟨hi,hce⟩:=gs_ hc0
 have hc48:(48:UInt8).toNat=48:=rfl
 have hbig:valF 8 0 [48]<100000:=by decide
 have NS:∀ (y:UInt8),letB y=true->((s.drop i).take 2 == [48,y])=false:=fun y hy=>by
  rw [hd]
  cases hR0:R with
  | nil=>simp
  | cons b u =>
   have:=(hR b u hR0).1
   have hne:¬ b=y:=fun e=>by rw [e,hy] at this;cases this
   simp [hne]
 have S1:∀ (h:CHeap) (hf:Fit h) (hg:zA1 h.ents p=some (lx s (i:Int) 0 t)) (hp:p<h.next) (K:KT) (hk:∀ n' ty,h.next<=n'->zA7 ty n'->K (.bool false) ⟨h.ents,n',ty⟩),Wc TF 175 [.ptr p d 0,.str [48,120]] h K:=fun h hf hg hp K hk=>by
  by_cases hle:i+2<=s.length
  . exact zGv s i 0 t [48,120] hs hle (NS 120 (by decide)) h p d hf hg hp K hk
  . exact zH4 s i 0 t [48,120] hs (by omega) (by simp) (by simp;omega) h p d hf hg hp K hk
 have S2:∀ (h:CHeap) (hf:Fit h) (hg:zA1 h.ents p=some (lx s (i:Int) 0 t)) (hp:p<h.next) (K:KT) (hk:∀ n' ty,h.next<=n'->zA7 ty n'->K (.bool false) ⟨h.ents,n',ty⟩),Wc TF 175 [.ptr p d 0,.str [48,88]] h K:=fun h hf hg hp K hk=>by
  by_cases hle:i+2<=s.length
  . exact zGv s i 0 t [48,88] hs hle (NS 88 (by decide)) h p d hf hg hp K hk
  . exact zH4 s i 0 t [48,88] hs (by omega) (by simp) (by simp;omega) h p d hf hg hp K hk
 refine mk_ 180 c180 (s_ ?_)
 have hZ:=j6_ hX hg hY hce hc0 hc48
 repeat (first | refine wk_ ?_ | (refine S1 _ ?_ ?_ ?_ _ fun n1 tyn1 hn1 hun1=>⟨rfl,?_⟩;exact fit_;exact ge_;exact om_;(try dsimp only at hn1)) | (refine S2 _ ?_ ?_ ?_ _ fun n1 tyn1 hn1 hun1=>⟨rfl,?_⟩;exact fit_;exact ge_;exact om_;(try dsimp only at hn1)))
 have hle:i+1<=s.length:=by have:=congrArg List.length hd;simp only [List.length_drop,List.length_cons,List.length_append] at this;omega
 refine zXr s hs p d _ _ t (i:Int) ?_ R hR 8 om_ _ _ _ _ _ [48] i 0 (fun y hy=>by obtain rfl:=List.mem_singleton.1 hy;exact ⟨by decide,by decide⟩) hd om_ hbig _ _ _ _ _ ?_ ?_ ?_ ?_ ?_ ?_
 . omega
 . (simp (disch:=omega) [zA1,zA2,zCg,zD1,zA8,hg,hG])
 . (simp (disch:=omega) [zA1,zA2,zCg,zD1,zA8,hg,hG])
 . exact fit_
 . exact om_
 . exact om_
 . intro n' ty w4 w5 w7 w9 g1 g2
   try dsimp only at g1
   try simp only [zB3,zA9,zAe,zBd,zAo,reduceIte]
   refine zX6 s hs p d _ _ t (i:Int) _ ?_ R hR _ (i+1) ?_ hle _ _ _ _ _ _ _ _ _ _ ?_ ?_ ?_ ?_ ?_ ?_
   . omega
   . rw [<- List.drop_drop,hd];exact rfl
   . (simp (disch:=omega) [zA1,zA2,zCg,zD1,zA8,hg,hG])
   . (simp (disch:=omega) [zA1,zA2,zCg,zD1,zA8,hg,hG])
   . refine ⟨Under.set (Under.cons (by (try dsimp only);omega) (hu.le (by (try dsimp only);omega))),?_⟩;exact ut_
   . exact om_
   . exact om_
   . intro n2 ty2 w11 w12 g3 g4
     try dsimp only at g3
     refine endW.of (.inl rfl) rfl ?_
     generalize e:zCa .. = r
     simp (disch:=omega) [hX,hg,hY,hce,hc0] at e
     subst e
     refine hk _ _ ?_ ?_
     . omega
     . exact ut_
theorem wd_d (s:B8) (hs:s.length<60000) (i:Nat) (c:UInt8) (x:B8) (hc:c≠48) (hx:∀ y ∈ c::x,digB y=true) (hbig:valF 10 0 (c::x)<100000) (R:B8) (hR:Bk R) (hd:s.drop i=c::(x++R)) (t:Int) (h:CHeap) (p d:Nat) (hf:Fit h) (hg:zA1 h.ents p=some (lx s (i:Int) 0 t)) (hp:p<h.next) (K:KT) (hk:∀ n' ty,h.next<=n'->zA7 ty n'->K (.agg [.int .i64 2,.str [],.int .u64 ((valF 10 0 (c::x):Nat):Int),.int .i64 (i:Int)]) ⟨zA2 h.ents p (lx s ((i+(x.length+1):Nat):Int) 0 t),n',ty⟩):Wc TF 165 [.ptr p d 0] h K:=by
 obtain ⟨hu,hut,hX⟩:=fx4 hf
 have hY:=fx5 hf hg;have ⟨hG,hD2,hC2,hN2⟩:=hY
 obtain ⟨cq,hcq⟩:∃ cq:UInt8,cq=c:=⟨_,rfl⟩
 have hc0:s[i]? = some cq:=by rw [hcq];exact zBc hd
 obtain ⟨hi,hce⟩:=gs_ hc0
 have hdg:digB cq=true:=by rw [hcq];exact hx c (List.mem_cons_self ..)
 have hl:letB cq=false:=by
  have:=zGz (p:=fun c=>!digB c || !letB c) (by decide +kernel) cq
  simpa [hdg] using this
 have h46:¬ cq.toNat=46:=fun e=>by
  have:=zGz (p:=fun c=>!digB c || decide (¬ c.toNat=46)) (by decide +kernel) cq
  simp [hdg,e] at this
 have LF:=zBj cq
 have DF:=zC5 cq
 rw [hl] at LF
 rw [hdg] at DF
 have hto:((i:Int)+1).toNat=i+1:=by omega
 refine mk_ 165 c165 (s_ ?_)
 have hZ:=j7_ hX hg hY hce hc0 hto h46
 repeat (first | refine wk_ ?_ | (refine LF _ ?_ _ fun n1 tyn1 hn1 hun1=>⟨rfl,?_⟩;exact fit_;(try dsimp only at hn1)) | (refine DF _ ?_ _ fun n1 tyn1 hn1 hun1=>⟨rfl,?_⟩;exact fit_;(try dsimp only at hn1)))
 refine nb_d s hs i c x hc hx hbig R hR hd t _ p d ?_ ?_ ?_ _ (fun n1 ty1 h1 h2=>⟨rfl,?_⟩);exact fit_;exact ge_;exact om_;all_goals (try dsimp only at h1)
 obtain ⟨e9,he9⟩:∃ e9,i+(x.length+1)=e9:=⟨_,rfl⟩
 simp only [he9] at hk ⊢
 have hZ:=j6_ hX hg hY hce hc0 hto
 repeat (first | refine wk_ ?_)
 all_goals ((try refine W.ret ?_);(try simp only [zB3,zA9,zAo]);(first | refine endW.of (.inl rfl) rfl ?_ | refine endW.of (.inr rfl) rfl ?_);generalize e:zCa .. = r;simp (disch:=omega) [hX,hg,hY] at e;subst e;refine hk _ _ ?_ ?_;omega;exact ut_)
theorem wd_0 (s:B8) (hs:s.length<60000) (i:Nat)  (R:B8) (hR:Bk R) (hd:s.drop i=48::R) (t:Int) (h:CHeap) (p d:Nat) (hf:Fit h) (hg:zA1 h.ents p=some (lx s (i:Int) 0 t)) (hp:p<h.next) (K:KT) (hk:∀ n' ty,h.next<=n'->zA7 ty n'->K (.agg [.int .i64 2,.str [],.int .u64 ((valF 8 0 [48]:Nat):Int),.int .i64 (i:Int)]) ⟨zA2 h.ents p (lx s ((i+1:Nat):Int) 0 t),n',ty⟩):Wc TF 165 [.ptr p d 0] h K:=by
 obtain ⟨hu,hut,hX⟩:=fx4 hf
 have hY:=fx5 hf hg;have ⟨hG,hD2,hC2,hN2⟩:=hY
 obtain ⟨cq,hcq⟩:∃ cq:UInt8,cq=48:=⟨_,rfl⟩
 have hc0:s[i]? = some cq:=by rw [hcq];exact zBc hd
 obtain ⟨hi,hce⟩:=gs_ hc0
 have hdg:digB cq=true:=by rw [hcq];rfl
 have hl:letB cq=false:=by
  have:=zGz (p:=fun c=>!digB c || !letB c) (by decide +kernel) cq
  simpa [hdg] using this
 have h46:¬ cq.toNat=46:=fun e=>by
  have:=zGz (p:=fun c=>!digB c || decide (¬ c.toNat=46)) (by decide +kernel) cq
  simp [hdg,e] at this
 have LF:=zBj cq
 have DF:=zC5 cq
 rw [hl] at LF
 rw [hdg] at DF
 have hto:((i:Int)+1).toNat=i+1:=by omega
 refine mk_ 165 c165 (s_ ?_)
 have hZ:=j7_ hX hg hY hce hc0 hto h46
 repeat (first | refine wk_ ?_ | (refine LF _ ?_ _ fun n1 tyn1 hn1 hun1=>⟨rfl,?_⟩;exact fit_;(try dsimp only at hn1)) | (refine DF _ ?_ _ fun n1 tyn1 hn1 hun1=>⟨rfl,?_⟩;exact fit_;(try dsimp only at hn1)))
 refine nb_0 s hs i R hR hd t _ p d ?_ ?_ ?_ _ (fun n1 ty1 h1 h2=>⟨rfl,?_⟩);exact fit_;exact ge_;exact om_;all_goals (try dsimp only at h1)
 obtain ⟨e9,he9⟩:∃ e9,i+1=e9:=⟨_,rfl⟩
 simp only [he9] at hk ⊢
 have hZ:=j6_ hX hg hY hce hc0 hto
 repeat (first | refine wk_ ?_)
 all_goals ((try refine W.ret ?_);(try simp only [zB3,zA9,zAo]);(first | refine endW.of (.inl rfl) rfl ?_ | refine endW.of (.inr rfl) rfl ?_);generalize e:zCa .. = r;simp (disch:=omega) [hX,hg,hY] at e;subst e;refine hk _ _ ?_ ?_;omega;exact ut_)
theorem zcj (s:B8) (hs:s.length<60000) (p d m dm:Nat) (t at':Int) (hmp:m≠p) (R:B8) (Q:QT):∀ (x acc:B8) (i:Nat),(∀ c ∈ x,c.toNat≠34/\c.toNat≠10/\c.toNat≠92)->s.drop i=x++34::R->acc.length<=100->x.length+acc.length<=100->Pu TF 117 [.str (acc++x)] (.bool true)->∀ (h:CHeap) (w2 w3 w5 w7 w9 w10 w11 w12 w13:CVal),zA1 h.ents p=some (lx s (i:Int) 0 t)->zA1 h.ents m=some Z4->Fit h->p<h.next->m<h.next ->
    (∀ n' ty w2 w3 w5 w6 w7 w9 w10 w11 w12 w13,h.next<=n'->zA7 ty n'->Q .ret ⟨[.ptr p d 0,.int .i64 at',w2,w3,.int .u8 34,w5,w6,w7,.ptr m dm 0,w9,w10,w11,w12,w13],⟨zA2 (zA2 h.ents p (lx s ((i+x.length+1:Nat):Int) 0 t)) m (.cells [.int .i64 3,.str (acc++x),.int .u64 0,.int .i64 at']),n',ty⟩,[]⟩) ->
    W TF txL ⟨[.ptr p d 0,.int .i64 at',w2,w3,.int .u8 34,w5,.str acc,w7,.ptr m dm 0,w9,w10,w11,w12,w13],h,[]⟩ Q:=by
 intro x
 induction x with
 | nil =>
  intro acc i _ hd ha _ VA h w2 w3 w5 w7 w9 w10 w11 w12 w13 hg hm hf hp hpm hk
  have hd':s.drop i=34::R:=hd
  have hc0:=zBc hd'
  obtain ⟨hi,hce⟩:=gs_ hc0
  obtain ⟨hu,hut,hX⟩:=fx4 hf
  have hY:=fx5 hf hg;have ⟨hG,hD2,hC2,hN2⟩:=hY
  have hM2:∀ x,zA1 (zA2 h.ents p x) m=some Z4:=fun x=>by rw [zA0 hmp];exact hm
  have hMS:∀ x,zA2 (zA2 h.ents p x) m Z4=zA2 h.ents p x:=fun x=>zB1 (hM2 x)
  have hto:((i:Int)+1).toNat=i+1:=by omega
  rw [List.append_nil] at VA hk
  refine W.loop ?_
  have hZ:=j10_ hX hg hY hm hM2 hMS hmp hce hc0 hto
  repeat (first | refine wk_ ?_ | (refine VA _ ?_ _ fun n1 tyn1 hn1 hun1=>⟨rfl,?_⟩;exact fit_;(try dsimp only at hn1)))
  all_goals ((try refine W.ret ?_);(try simp only [zB3,zA9,zAo,hMS]);refine hk _ _ _ _ _ _ _ _ _ _ _ _ ?_ ?_;omega;exact ut_)
 | cons c x ih =>
  intro acc i hx hd ha hxa VA h w2 w3 w5 w7 w9 w10 w11 w12 w13 hg hm hf hp hpm hk
  have hd':s.drop i=c::(x++34::R):=hd
  have hc0:=zBc hd'
  obtain ⟨hi,hce⟩:=gs_ hc0
  have hsl:(s.take (i+1)).drop i=[c]:=by rw [List.drop_take,show i+1 - i=1 by omega,hd'];rfl
  have hto:((i:Int)+1).toNat=i+1:=by omega
  obtain ⟨hu,hut,hX⟩:=fx4 hf
  have hY:=fx5 hf hg;have ⟨hG,hD2,hC2,hN2⟩:=hY
  have hM2:∀ x,zA1 (zA2 h.ents p x) m=some Z4:=fun x=>by rw [zA0 hmp];exact hm
  have hMS:∀ x,zA2 (zA2 h.ents p x) m Z4=zA2 h.ents p x:=fun x=>zB1 (hM2 x)
  obtain ⟨q1,q2,q3⟩:=hx c (List.mem_cons_self ..)
  simp only [List.length_cons] at hxa
  have eA:acc++c::x=(acc++[c])++x:=by simp
  rw [eA] at VA hk
  have NX:∀ (n':Nat) (ty:NN) (w2 w3 w5 w7 w9 w10 w11 w12 w13:CVal),h.next<=n'->zA7 ty n'->W TF txL ⟨[.ptr p d 0,.int .i64 at',w2,w3,.int .u8 34,w5,.str (acc++[c]),w7,.ptr m dm 0,w9,w10,w11,w12,w13],⟨zA2 h.ents p (lx s ((i:Int)+1) 0 t),n',ty⟩,[]⟩ Q:=fun n' ty w2 w3 w5 w7 w9 w10 w11 w12 w13 e2 e3=>by
   refine ih (acc++[c]) (i+1) (fun y hy=>hx y (List.mem_cons_of_mem c hy)) (zEj hd') (by simp;omega) (by simp;omega) VA ⟨_,n',ty⟩ _ _ _ _ _ _ _ _ _ (by dsimp only;rw [zA4 hg];simp) (hM2 _) ⟨hf.1.set.le e2,e3⟩ (by dsimp only;omega) (by dsimp only;omega) ?_
   intro n2 ty w2 w3 w5 w6 w7 w9 w10 w11 w12 w13 g1 g2
   dsimp only at g1 ⊢
   rw [zA8]
   have:=hk n2 ty w2 w3 w5 w6 w7 w9 w10 w11 w12 w13 om_ g2
   rwa [show i+(c::x).length+1=i+1+x.length+1 by simp;omega] at this
  refine W.loop ?_
  have hZ:=j14_ hX hg hY hm hM2 hMS hmp hce hc0 hsl hto q1 q2 q3
  repeat (first | refine wk_ ?_)
  show W TF txL (dropped true _ _) Q
  generalize e:dropped .. = r0
  simp (disch:=omega) [hX,hg,hY,hm,hM2,hMS,hmp] at e
  subst e
  try dsimp only
  refine NX _ _ _ _ _ _ _ _ _ _ _ ?_ ?_
  . exact om_
  . exact zA7.le (by assumption) om_
theorem tx_F (s:B8) (hs:s.length<60000) (i:Nat) (x R:B8) (hx:∀ c ∈ x,c.toNat≠34/\c.toNat≠10/\c.toNat≠92) (hxl:x.length<=90) (VA:Pu TF 117 [.str x] (.bool true)) (hd:s.drop i=34::(x++34::R)) (t:Int) (h:CHeap) (p d:Nat) (hf:Fit h) (hg:zA1 h.ents p=some (lx s (i:Int) 0 t)) (hp:p<h.next) (K:KT) (hk:∀ n' ty,h.next<=n'->zA7 ty n'->K (.agg [.int .i64 3,.str x,.int .u64 0,.int .i64 (i:Int)]) ⟨zA2 h.ents p (lx s ((i+1+x.length+1:Nat):Int) 0 t),n',ty⟩):Wc TF 181 [.ptr p d 0] h K:=by
 obtain ⟨hu,hut,hX⟩:=fx4 hf
 have hY:=fx5 hf hg;have ⟨hG,hD2,hC2,hN2⟩:=hY
 have hc0:=zBc hd
 obtain ⟨hi,hce⟩:=gs_ hc0
 refine mk_ 181 c181 (s_ ?_)
 have hZ:=j5_ hX hg hY hce hc0
 try refine wk_ ?_
 refine zcj s hs p d _ _ t (i:Int) ?_ R _ x [] (i+1) hx (zEj hd) (by simp) (by simp;omega) VA _ _ _ _ _ _ _ _ _ _ ?_ ?_ ?_ ?_ ?_ ?_
 . omega
 . (simp (disch:=omega) [zA1,zA2,zCg,zD1,zA8,hg,hG])
 . (simp (disch:=omega) [zA1,zA2,zCg,zD1,zA8,hg,hG])
 . exact fit_
 . exact om_
 . exact om_
 . intro n' ty w2 w3 w5 w6 w7 w9 w10 w11 w12 w13 g1 g2
   (try simp only [zB3,zA9,zAo])
   refine endW.of (.inl rfl) rfl ?_
   generalize e:zCa .. = r0
   simp (disch:=omega) [hX,hg,hY] at e
   subst e
   refine hk _ _ ?_ ?_
   . (try dsimp only at g1);omega
   . exact ut_
end Go.Proofs.YtafeofghkhhhkaaGreat.IrM
