/- What the functions of the law 'PruleMade' do: part 1 of 8. -/
import Derived.Test.YtcokdlfmnhjngaaGreatIrE
namespace Go.Proofs.YtcokdlfmnhjngaaGreat.IrE
open Go Go.CI
set_option maxRecDepth 100000
set_option maxHeartbeats 4000000
set_option linter.unusedVariables false
set_option linter.unusedSimpArgs false
attribute [local irreducible] W Wo Wc WoR
attribute [simp] goR regOut zF2 zGy sameAt zK7 CVal.beq beqs CVal.block zIs zCq zB8 zBn zBr zG9 zFl zAl nth zC1 COp.cls COp.isStore CVal.isUndef CVal.whole CVal.cells CHeap.put CHeap.get CHeap.set zC7 zA1 zA2 partOf zBu zGz zGq zJc zBk initVar descOf List.take List.drop CVal.lenOf CVal.isStr CVal.bare CVal.strip CVal.flat zB4 zBw zBt zDx cut zDm setCells szOf zFr elems bytesOf zEw zCn zBm zI8 List.replicate zBh zBi sy_leT sy_leF zA4 dropped sy_wrap64 zBf zAc zBd sy_ibeqF sy_ieqF sy_ileT sy_ileF sy_iltT sy_iltF sy_ltT sy_ltF zL9 zDa zLs extL extE zGa zGh zGu zI7 CHeap.ty zB1 CHeap.note CHeap.tyOk zCc zFo zEy zE7 zGx cellEq zCi zEf zCt pIndexByte pClone pIndex zJe rowOf zD4 idxFrom zEi zE0
abbrev KT:=CVal → CHeap → Prop
abbrev QT:=CExit → CSt → Prop
abbrev B8:=List UInt8
abbrev NN:=List (Nat × Nat)
abbrev EE:=List (Nat × CObj)
theorem fx4 {h:CHeap} (hf:Fit h):Under h.ents h.next ∧ zA9 h.tys h.next ∧ (∀ m,h.next ≤ m → zBf h.ents m = h.ents) ∧ (∀ m,h.next ≤ m → zAc h.ents m = h.ents) ∧ (∀ q,h.next ≤ q → zA1 h.ents q = none) ∧ (∀ q,h.next ≤ q → zB1 h.tys q = none):=by
 obtain ⟨hu,hut⟩:=hf
 exact ⟨hu,hut,fun m hm => zCa (hu.le hm),fun m hm => zAj (hu.le hm),fun q hq => zDl hu hq,fun q hq => zH2 hut hq⟩
theorem fx5 {h:CHeap} {p:Nat} {o:CObj} (hf:Fit h) (hg:zA1 h.ents p = some o):(∀ x,zA1 (zA2 h.ents p x) p = some x) ∧ (∀ x m,h.next ≤ m → zBf (zA2 h.ents p x) m = zA2 h.ents p x) ∧ (∀ x m,h.next ≤ m → zAc (zA2 h.ents p x) m = zA2 h.ents p x) ∧ (∀ x q,h.next ≤ q → zA1 (zA2 h.ents p x) q = none) :=
 have hu:=hf.1
 ⟨fun x => zA6 hg,fun x m hm => zCa (hu.set.le hm),fun x m hm => zAj (hu.set.le hm),fun x q hq => zDl hu.set hq⟩
theorem ut_ {l:List (Nat × Nat)} {n:Nat} (h:zA9 l n:=by repeat (first | exact hut.le (by (try dsimp only); omega) | refine zA9.cons (by (try dsimp only); omega) ?_ | exact zA9.nil | assumption | exact zA9.le (by assumption) (by (try dsimp only); omega))):zA9 l n:=h
theorem fit_ {h:CHeap} (hf:Fit h:=by (refine ⟨?_,?_⟩; (focus ((repeat (first | exact hu.le (by (try dsimp only); omega) | exact hu.set.le (by (try dsimp only); omega) | exact hu.set.set.le (by (try dsimp only); omega) | refine Under.cons (by (try dsimp only); omega) ?_ | exact Under.nil)); done)); (focus ((repeat (first | exact hut.le (by (try dsimp only); omega) | refine zA9.cons (by (try dsimp only); omega) ?_ | exact zA9.nil | assumption | exact zA9.le (by assumption) (by (try dsimp only); omega))); done)))):Fit h:=hf
theorem ge_ {l:List (Nat × CObj)} {p:Nat} {o:CObj} (h:zA1 l p = some o:=by first | exact hg | exact hG _ | exact hY.1 _ | ((try dsimp only); exact hY.1 _) | ((try dsimp only); exact hg) | ((try dsimp only); exact hG _) | (simp (disch:=omega) [zA1,zA2,zBh,zBi,zA4,hg,hG]) | (simp (disch:=omega) [zA1,zA2,zBh,zBi,zA4,hg,hY])):zA1 l p = some o:=h
abbrev bl_:=@W.block
abbrev rg_:=@W.regG
abbrev go_:=@WoR.go
def stN (T:Nat → Option CFn) (c:CCode) (st:CSt) (Q:CExit → CSt → Prop):Option Prop:=match c with
 | .seq a b => some (W T a st (zK6 T b Q))
 | .block id c => some (W T c st fun x st' => Q (zAd id x) st')
 | .cond c a b => match zAl st.tm [] c with
  | .bool true => some (W T a st Q)
  | .bool false => some (W T b st Q)
  | _ => none
 | .skip => some (Q .normal st)
 | .exit i => some (Q (.exit i) st)
 | _ => none
theorem st_ {T:Nat → Option CFn} {c:CCode} {st:CSt} {Q:CExit → CSt → Prop} {P:Prop} (h:stN T c st Q = some P) (hp:P):W T c st Q:=by
 unfold stN at h
 split at h
 · cases h; exact W.seq hp
 · cases h; exact W.block hp
 · split at h
   · rename_i e; cases h; exact W.cond_true e hp
   · rename_i e; cases h; exact W.cond_false e hp
   · cases h
 · cases h; exact W.skip hp
 · cases h; exact W.exit hp
 · cases h
abbrev gwP (T:Nat → Option CFn) (tm:List CVal) (ops0:List COper) (wb:List (Nat × Nat)) (chk:List (Nat × Nat × Nat)) (sw:List (Nat × Nat)) (Q:CExit → CSt → Prop):GoR → Prop
 | .done st => Q .normal st
 | .call id f args r s => Wc T f args s.h fun v h' => v.isUndef = false ∧ WoR T tm ops0 wb chk sw Q (id + 1) r { s with vals:=v :: s.vals,h:=h',hs:=s.h :: s.hs }
theorem gw_ {T:Nat → Option CFn} {tm:List CVal} {ops0:List COper} {wb:List (Nat × Nat)} {chk:List (Nat × Nat × Nat)} {sw:List (Nat × Nat)} {Q:CExit → CSt → Prop} {x:Option GoR} {r:GoR} (e:x = some r) (h:gwP T tm ops0 wb chk sw Q r):goW T tm ops0 wb chk sw Q x:=by
 rw [e]
 cases r <;> exact h
attribute [simp] c6 c10 c19 c20 c21 c22 c23 c24 c25 c26 c28 c29 c37 c54 c55 c56 c57 c58 c59 c60 c61 c62 c63 c64 c66 c67 c68 c69 c70 c71 c72 c73 c74 c75 c76 c77 c78 c79 c84 c110 c116 c123 c124 c125 c126 c127 c128 c129 c130 c132 c133 c134 c135 c137 c138 c139 c140 c141 c142 c143 c144 c145 c146 c147 c148 c149 c150 c163 c165 c170 c171 c172 c173 c174 c175 c177 c178 c179 c180 c181 c182 c183 c184 c185 c186 c187 c188 c189 c190 c191 c192 c193 c194 c195 c196 c197 c198 c199 c200 c201 c202 c203 c204 c205 c213 c214 c215 c232 c237 c238 c239 c241 c242 c243 c244 c245 c246 c247 c248 c250 c251 c253 c254 c255 c256 c270 c273 c274 c275 c276 c277 c285 c286 c287 c288 c289 c291
attribute [simp] Int.lt_irrefl
theorem w0_ {P R:Prop} (r:R) (g:R → P:=by (intro hR_; (first | refine st_ rfl ?_ | ((first | refine W.regG ?_ | refine WoR.go ?_); generalize e:goR .. = r; simp (disch:=omega) at e; replace e:some _ = _:=e; subst e; (try dsimp only [goW]))); (repeat (first | refine st_ rfl ?_ | ((first | refine W.regG ?_ | refine WoR.go ?_); generalize e:goR .. = r; simp (disch:=omega) at e; replace e:some _ = _:=e; subst e; (try dsimp only [goW])))); exact hR_)):P:=g r
theorem v0_ {P R:Prop} (r:R) (g:R → P:=by (intro hR_; (first | refine st_ rfl ?_ | ((first | refine W.regG ?_ | refine WoR.go ?_); generalize e:goR .. = r; simp (disch:=omega) at e; replace e:some _ = _:=e; subst e; (try dsimp only [goW])) | (simp only [zAd,zA3,zA8,zAa,zAb,reduceIte])); (repeat (first | refine st_ rfl ?_ | ((first | refine W.regG ?_ | refine WoR.go ?_); generalize e:goR .. = r; simp (disch:=omega) at e; replace e:some _ = _:=e; subst e; (try dsimp only [goW])) | (simp only [zAd,zA3,zA8,zAa,zAb,reduceIte]))); exact hR_)):P:=g r
theorem wx_ {P R:Prop} (r:R) (g:R → P:=by (intro hR_; (first | refine st_ rfl ?_ | ((first | refine W.regG ?_ | refine WoR.go ?_); generalize e:goR .. = r; simp (disch:=omega) [hX] at e; replace e:some _ = _:=e; subst e; (try dsimp only [goW]))); (repeat (first | refine st_ rfl ?_ | ((first | refine W.regG ?_ | refine WoR.go ?_); generalize e:goR .. = r; simp (disch:=omega) [hX] at e; replace e:some _ = _:=e; subst e; (try dsimp only [goW])))); exact hR_)):P:=g r
theorem vx_ {P R:Prop} (r:R) (g:R → P:=by (intro hR_; (first | refine st_ rfl ?_ | ((first | refine W.regG ?_ | refine WoR.go ?_); generalize e:goR .. = r; simp (disch:=omega) [hX] at e; replace e:some _ = _:=e; subst e; (try dsimp only [goW])) | (simp only [zAd,zA3,zA8,zAa,zAb,reduceIte])); (repeat (first | refine st_ rfl ?_ | ((first | refine W.regG ?_ | refine WoR.go ?_); generalize e:goR .. = r; simp (disch:=omega) [hX] at e; replace e:some _ = _:=e; subst e; (try dsimp only [goW])) | (simp only [zAd,zA3,zA8,zAa,zAb,reduceIte]))); exact hR_)):P:=g r
theorem rx_ {P R:Prop} (r:R) (g:R → P:=by (intro hR_; (first | (refine W.ret ?_; (try simp only [zAd,zA3,zA8,zAb,reduceIte]); refine endW.of (.inl rfl) rfl ?_) | refine endW.of (.inl rfl) rfl ?_ | refine endW.of (.inr rfl) rfl ?_); generalize e:zB4 .. = r; simp (disch:=omega) [hX] at e; subst e; exact hR_)):P:=g r
theorem dx_ {P R:Prop} (r:R) (g:R → P:=by (intro hR_; show W tree.getF _ (dropped true _ _) _; generalize e:dropped _ _ _ = r; simp (disch:=omega) [hX] at e; subst e; exact hR_)):P:=g r
theorem wk_ {P R:Prop} (r:R) (g:R → P:=by (intro hR_; (first | refine st_ rfl ?_ | ((first | refine W.regG ?_ | refine WoR.go ?_); generalize e:goR .. = r; simp (disch:=omega) [hZ] at e; replace e:some _ = _:=e; subst e; (try dsimp only [goW]))); (repeat (first | refine st_ rfl ?_ | ((first | refine W.regG ?_ | refine WoR.go ?_); generalize e:goR .. = r; simp (disch:=omega) [hZ] at e; replace e:some _ = _:=e; subst e; (try dsimp only [goW])))); exact hR_)):P:=g r
theorem vk_ {P R:Prop} (r:R) (g:R → P:=by (intro hR_; (first | refine st_ rfl ?_ | ((first | refine W.regG ?_ | refine WoR.go ?_); generalize e:goR .. = r; simp (disch:=omega) [hZ] at e; replace e:some _ = _:=e; subst e; (try dsimp only [goW])) | (simp only [zAd,zA3,zA8,zAa,zAb,reduceIte])); (repeat (first | refine st_ rfl ?_ | ((first | refine W.regG ?_ | refine WoR.go ?_); generalize e:goR .. = r; simp (disch:=omega) [hZ] at e; replace e:some _ = _:=e; subst e; (try dsimp only [goW])) | (simp only [zAd,zA3,zA8,zAa,zAb,reduceIte]))); exact hR_)):P:=g r
theorem rk_ {P R:Prop} (r:R) (g:R → P:=by (intro hR_; (first | (refine W.ret ?_; (try simp only [zAd,zA3,zA8,zAb,reduceIte]); refine endW.of (.inl rfl) rfl ?_) | refine endW.of (.inl rfl) rfl ?_ | refine endW.of (.inr rfl) rfl ?_); generalize e:zB4 .. = r; simp (disch:=omega) [hZ] at e; subst e; exact hR_)):P:=g r
theorem dk_ {P R:Prop} (r:R) (g:R → P:=by (intro hR_; show W tree.getF _ (dropped true _ _) _; generalize e:dropped _ _ _ = r; simp (disch:=omega) [hZ] at e; subst e; exact hR_)):P:=g r
theorem wn_ {P R:Prop} (r:R) (g:R → P:=by (intro hR_; (first | refine st_ rfl ?_ | ((first | refine W.regG ?_ | refine WoR.go ?_); generalize e:goR .. = r; simp (disch:=omega) [hZ,zA0] at e; replace e:some _ = _:=e; subst e; (try dsimp only [goW]))); (repeat (first | refine st_ rfl ?_ | ((first | refine W.regG ?_ | refine WoR.go ?_); generalize e:goR .. = r; simp (disch:=omega) [hZ,zA0] at e; replace e:some _ = _:=e; subst e; (try dsimp only [goW])))); exact hR_)):P:=g r
theorem mk_ {T:Nat → Option CFn} (f:Nat) (c:CFunc) {a:List CVal} {h:CHeap} {K:KT} (hb:W T c.body (zCq c a h) (endW c h.next K)) (hf:T f = some (.ir c):=by kernel_rfl) (hn:a.length = c.nargs:=by rfl):Wc T f a h K:=Wc.mkG f c hf hn hb
theorem om_ {P:Prop} (h:P:=by (try dsimp only); omega):P:=h
theorem s_ {P R:Prop} (r:R) (g:R → P:=by (intro hR_; generalize e:zCq .. = r; simp (disch:=omega) at e; subst e; exact hR_)):P:=g r
theorem sd_ {P:Prop} (h:P:=by simp (disch:=omega) [zA1,zA2,hZ] <;> fail):P:=h
theorem sn_ {P:Prop} (h:P:=by simp (disch:=omega) [zA1,zA2,hZ,zA0] <;> fail):P:=h
theorem s0_ {P:Prop} (h:P:=by simp (disch:=omega) [zA1,zA2] <;> fail):P:=h
theorem j2_ {A0 A1:Prop} (x0:A0) (x1:A1):A0 ∧ A1:=⟨x0,x1⟩
theorem j3_ {A0 A1 A2:Prop} (x0:A0) (x1:A1) (x2:A2):A0 ∧ A1 ∧ A2:=⟨x0,x1,x2⟩
theorem j4_ {A0 A1 A2 A3:Prop} (x0:A0) (x1:A1) (x2:A2) (x3:A3):A0 ∧ A1 ∧ A2 ∧ A3:=⟨x0,x1,x2,x3⟩
theorem j5_ {A0 A1 A2 A3 A4:Prop} (x0:A0) (x1:A1) (x2:A2) (x3:A3) (x4:A4):A0 ∧ A1 ∧ A2 ∧ A3 ∧ A4:=⟨x0,x1,x2,x3,x4⟩
theorem j6_ {A0 A1 A2 A3 A4 A5:Prop} (x0:A0) (x1:A1) (x2:A2) (x3:A3) (x4:A4) (x5:A5):A0 ∧ A1 ∧ A2 ∧ A3 ∧ A4 ∧ A5:=⟨x0,x1,x2,x3,x4,x5⟩
theorem j7_ {A0 A1 A2 A3 A4 A5 A6:Prop} (x0:A0) (x1:A1) (x2:A2) (x3:A3) (x4:A4) (x5:A5) (x6:A6):A0 ∧ A1 ∧ A2 ∧ A3 ∧ A4 ∧ A5 ∧ A6:=⟨x0,x1,x2,x3,x4,x5,x6⟩
theorem j8_ {A0 A1 A2 A3 A4 A5 A6 A7:Prop} (x0:A0) (x1:A1) (x2:A2) (x3:A3) (x4:A4) (x5:A5) (x6:A6) (x7:A7):A0 ∧ A1 ∧ A2 ∧ A3 ∧ A4 ∧ A5 ∧ A6 ∧ A7:=⟨x0,x1,x2,x3,x4,x5,x6,x7⟩
theorem j9_ {A0 A1 A2 A3 A4 A5 A6 A7 A8:Prop} (x0:A0) (x1:A1) (x2:A2) (x3:A3) (x4:A4) (x5:A5) (x6:A6) (x7:A7) (x8:A8):A0 ∧ A1 ∧ A2 ∧ A3 ∧ A4 ∧ A5 ∧ A6 ∧ A7 ∧ A8:=⟨x0,x1,x2,x3,x4,x5,x6,x7,x8⟩
theorem j10_ {A0 A1 A2 A3 A4 A5 A6 A7 A8 A9:Prop} (x0:A0) (x1:A1) (x2:A2) (x3:A3) (x4:A4) (x5:A5) (x6:A6) (x7:A7) (x8:A8) (x9:A9):A0 ∧ A1 ∧ A2 ∧ A3 ∧ A4 ∧ A5 ∧ A6 ∧ A7 ∧ A8 ∧ A9:=⟨x0,x1,x2,x3,x4,x5,x6,x7,x8,x9⟩
theorem j11_ {A0 A1 A2 A3 A4 A5 A6 A7 A8 A9 A10:Prop} (x0:A0) (x1:A1) (x2:A2) (x3:A3) (x4:A4) (x5:A5) (x6:A6) (x7:A7) (x8:A8) (x9:A9) (x10:A10):A0 ∧ A1 ∧ A2 ∧ A3 ∧ A4 ∧ A5 ∧ A6 ∧ A7 ∧ A8 ∧ A9 ∧ A10:=⟨x0,x1,x2,x3,x4,x5,x6,x7,x8,x9,x10⟩
theorem j12_ {A0 A1 A2 A3 A4 A5 A6 A7 A8 A9 A10 A11:Prop} (x0:A0) (x1:A1) (x2:A2) (x3:A3) (x4:A4) (x5:A5) (x6:A6) (x7:A7) (x8:A8) (x9:A9) (x10:A10) (x11:A11):A0 ∧ A1 ∧ A2 ∧ A3 ∧ A4 ∧ A5 ∧ A6 ∧ A7 ∧ A8 ∧ A9 ∧ A10 ∧ A11:=⟨x0,x1,x2,x3,x4,x5,x6,x7,x8,x9,x10,x11⟩
theorem j13_ {A0 A1 A2 A3 A4 A5 A6 A7 A8 A9 A10 A11 A12:Prop} (x0:A0) (x1:A1) (x2:A2) (x3:A3) (x4:A4) (x5:A5) (x6:A6) (x7:A7) (x8:A8) (x9:A9) (x10:A10) (x11:A11) (x12:A12):A0 ∧ A1 ∧ A2 ∧ A3 ∧ A4 ∧ A5 ∧ A6 ∧ A7 ∧ A8 ∧ A9 ∧ A10 ∧ A11 ∧ A12:=⟨x0,x1,x2,x3,x4,x5,x6,x7,x8,x9,x10,x11,x12⟩
theorem j15_ {A0 A1 A2 A3 A4 A5 A6 A7 A8 A9 A10 A11 A12 A13 A14:Prop} (x0:A0) (x1:A1) (x2:A2) (x3:A3) (x4:A4) (x5:A5) (x6:A6) (x7:A7) (x8:A8) (x9:A9) (x10:A10) (x11:A11) (x12:A12) (x13:A13) (x14:A14):A0 ∧ A1 ∧ A2 ∧ A3 ∧ A4 ∧ A5 ∧ A6 ∧ A7 ∧ A8 ∧ A9 ∧ A10 ∧ A11 ∧ A12 ∧ A13 ∧ A14:=⟨x0,x1,x2,x3,x4,x5,x6,x7,x8,x9,x10,x11,x12,x13,x14⟩
theorem j17_ {A0 A1 A2 A3 A4 A5 A6 A7 A8 A9 A10 A11 A12 A13 A14 A15 A16:Prop} (x0:A0) (x1:A1) (x2:A2) (x3:A3) (x4:A4) (x5:A5) (x6:A6) (x7:A7) (x8:A8) (x9:A9) (x10:A10) (x11:A11) (x12:A12) (x13:A13) (x14:A14) (x15:A15) (x16:A16):A0 ∧ A1 ∧ A2 ∧ A3 ∧ A4 ∧ A5 ∧ A6 ∧ A7 ∧ A8 ∧ A9 ∧ A10 ∧ A11 ∧ A12 ∧ A13 ∧ A14 ∧ A15 ∧ A16:=⟨x0,x1,x2,x3,x4,x5,x6,x7,x8,x9,x10,x11,x12,x13,x14,x15,x16⟩
theorem j18_ {A0 A1 A2 A3 A4 A5 A6 A7 A8 A9 A10 A11 A12 A13 A14 A15 A16 A17:Prop} (x0:A0) (x1:A1) (x2:A2) (x3:A3) (x4:A4) (x5:A5) (x6:A6) (x7:A7) (x8:A8) (x9:A9) (x10:A10) (x11:A11) (x12:A12) (x13:A13) (x14:A14) (x15:A15) (x16:A16) (x17:A17):A0 ∧ A1 ∧ A2 ∧ A3 ∧ A4 ∧ A5 ∧ A6 ∧ A7 ∧ A8 ∧ A9 ∧ A10 ∧ A11 ∧ A12 ∧ A13 ∧ A14 ∧ A15 ∧ A16 ∧ A17:=⟨x0,x1,x2,x3,x4,x5,x6,x7,x8,x9,x10,x11,x12,x13,x14,x15,x16,x17⟩
theorem j19_ {A0 A1 A2 A3 A4 A5 A6 A7 A8 A9 A10 A11 A12 A13 A14 A15 A16 A17 A18:Prop} (x0:A0) (x1:A1) (x2:A2) (x3:A3) (x4:A4) (x5:A5) (x6:A6) (x7:A7) (x8:A8) (x9:A9) (x10:A10) (x11:A11) (x12:A12) (x13:A13) (x14:A14) (x15:A15) (x16:A16) (x17:A17) (x18:A18):A0 ∧ A1 ∧ A2 ∧ A3 ∧ A4 ∧ A5 ∧ A6 ∧ A7 ∧ A8 ∧ A9 ∧ A10 ∧ A11 ∧ A12 ∧ A13 ∧ A14 ∧ A15 ∧ A16 ∧ A17 ∧ A18:=⟨x0,x1,x2,x3,x4,x5,x6,x7,x8,x9,x10,x11,x12,x13,x14,x15,x16,x17,x18⟩
theorem j20_ {A0 A1 A2 A3 A4 A5 A6 A7 A8 A9 A10 A11 A12 A13 A14 A15 A16 A17 A18 A19:Prop} (x0:A0) (x1:A1) (x2:A2) (x3:A3) (x4:A4) (x5:A5) (x6:A6) (x7:A7) (x8:A8) (x9:A9) (x10:A10) (x11:A11) (x12:A12) (x13:A13) (x14:A14) (x15:A15) (x16:A16) (x17:A17) (x18:A18) (x19:A19):A0 ∧ A1 ∧ A2 ∧ A3 ∧ A4 ∧ A5 ∧ A6 ∧ A7 ∧ A8 ∧ A9 ∧ A10 ∧ A11 ∧ A12 ∧ A13 ∧ A14 ∧ A15 ∧ A16 ∧ A17 ∧ A18 ∧ A19:=⟨x0,x1,x2,x3,x4,x5,x6,x7,x8,x9,x10,x11,x12,x13,x14,x15,x16,x17,x18,x19⟩
theorem j21_ {A0 A1 A2 A3 A4 A5 A6 A7 A8 A9 A10 A11 A12 A13 A14 A15 A16 A17 A18 A19 A20:Prop} (x0:A0) (x1:A1) (x2:A2) (x3:A3) (x4:A4) (x5:A5) (x6:A6) (x7:A7) (x8:A8) (x9:A9) (x10:A10) (x11:A11) (x12:A12) (x13:A13) (x14:A14) (x15:A15) (x16:A16) (x17:A17) (x18:A18) (x19:A19) (x20:A20):A0 ∧ A1 ∧ A2 ∧ A3 ∧ A4 ∧ A5 ∧ A6 ∧ A7 ∧ A8 ∧ A9 ∧ A10 ∧ A11 ∧ A12 ∧ A13 ∧ A14 ∧ A15 ∧ A16 ∧ A17 ∧ A18 ∧ A19 ∧ A20:=⟨x0,x1,x2,x3,x4,x5,x6,x7,x8,x9,x10,x11,x12,x13,x14,x15,x16,x17,x18,x19,x20⟩
theorem j24_ {A0 A1 A2 A3 A4 A5 A6 A7 A8 A9 A10 A11 A12 A13 A14 A15 A16 A17 A18 A19 A20 A21 A22 A23:Prop} (x0:A0) (x1:A1) (x2:A2) (x3:A3) (x4:A4) (x5:A5) (x6:A6) (x7:A7) (x8:A8) (x9:A9) (x10:A10) (x11:A11) (x12:A12) (x13:A13) (x14:A14) (x15:A15) (x16:A16) (x17:A17) (x18:A18) (x19:A19) (x20:A20) (x21:A21) (x22:A22) (x23:A23):A0 ∧ A1 ∧ A2 ∧ A3 ∧ A4 ∧ A5 ∧ A6 ∧ A7 ∧ A8 ∧ A9 ∧ A10 ∧ A11 ∧ A12 ∧ A13 ∧ A14 ∧ A15 ∧ A16 ∧ A17 ∧ A18 ∧ A19 ∧ A20 ∧ A21 ∧ A22 ∧ A23:=⟨x0,x1,x2,x3,x4,x5,x6,x7,x8,x9,x10,x11,x12,x13,x14,x15,x16,x17,x18,x19,x20,x21,x22,x23⟩
theorem j26_ {A0 A1 A2 A3 A4 A5 A6 A7 A8 A9 A10 A11 A12 A13 A14 A15 A16 A17 A18 A19 A20 A21 A22 A23 A24 A25:Prop} (x0:A0) (x1:A1) (x2:A2) (x3:A3) (x4:A4) (x5:A5) (x6:A6) (x7:A7) (x8:A8) (x9:A9) (x10:A10) (x11:A11) (x12:A12) (x13:A13) (x14:A14) (x15:A15) (x16:A16) (x17:A17) (x18:A18) (x19:A19) (x20:A20) (x21:A21) (x22:A22) (x23:A23) (x24:A24) (x25:A25):A0 ∧ A1 ∧ A2 ∧ A3 ∧ A4 ∧ A5 ∧ A6 ∧ A7 ∧ A8 ∧ A9 ∧ A10 ∧ A11 ∧ A12 ∧ A13 ∧ A14 ∧ A15 ∧ A16 ∧ A17 ∧ A18 ∧ A19 ∧ A20 ∧ A21 ∧ A22 ∧ A23 ∧ A24 ∧ A25:=⟨x0,x1,x2,x3,x4,x5,x6,x7,x8,x9,x10,x11,x12,x13,x14,x15,x16,x17,x18,x19,x20,x21,x22,x23,x24,x25⟩
theorem j31_ {A0 A1 A2 A3 A4 A5 A6 A7 A8 A9 A10 A11 A12 A13 A14 A15 A16 A17 A18 A19 A20 A21 A22 A23 A24 A25 A26 A27 A28 A29 A30:Prop} (x0:A0) (x1:A1) (x2:A2) (x3:A3) (x4:A4) (x5:A5) (x6:A6) (x7:A7) (x8:A8) (x9:A9) (x10:A10) (x11:A11) (x12:A12) (x13:A13) (x14:A14) (x15:A15) (x16:A16) (x17:A17) (x18:A18) (x19:A19) (x20:A20) (x21:A21) (x22:A22) (x23:A23) (x24:A24) (x25:A25) (x26:A26) (x27:A27) (x28:A28) (x29:A29) (x30:A30):A0 ∧ A1 ∧ A2 ∧ A3 ∧ A4 ∧ A5 ∧ A6 ∧ A7 ∧ A8 ∧ A9 ∧ A10 ∧ A11 ∧ A12 ∧ A13 ∧ A14 ∧ A15 ∧ A16 ∧ A17 ∧ A18 ∧ A19 ∧ A20 ∧ A21 ∧ A22 ∧ A23 ∧ A24 ∧ A25 ∧ A26 ∧ A27 ∧ A28 ∧ A29 ∧ A30:=⟨x0,x1,x2,x3,x4,x5,x6,x7,x8,x9,x10,x11,x12,x13,x14,x15,x16,x17,x18,x19,x20,x21,x22,x23,x24,x25,x26,x27,x28,x29,x30⟩
theorem j32_ {A0 A1 A2 A3 A4 A5 A6 A7 A8 A9 A10 A11 A12 A13 A14 A15 A16 A17 A18 A19 A20 A21 A22 A23 A24 A25 A26 A27 A28 A29 A30 A31:Prop} (x0:A0) (x1:A1) (x2:A2) (x3:A3) (x4:A4) (x5:A5) (x6:A6) (x7:A7) (x8:A8) (x9:A9) (x10:A10) (x11:A11) (x12:A12) (x13:A13) (x14:A14) (x15:A15) (x16:A16) (x17:A17) (x18:A18) (x19:A19) (x20:A20) (x21:A21) (x22:A22) (x23:A23) (x24:A24) (x25:A25) (x26:A26) (x27:A27) (x28:A28) (x29:A29) (x30:A30) (x31:A31):A0 ∧ A1 ∧ A2 ∧ A3 ∧ A4 ∧ A5 ∧ A6 ∧ A7 ∧ A8 ∧ A9 ∧ A10 ∧ A11 ∧ A12 ∧ A13 ∧ A14 ∧ A15 ∧ A16 ∧ A17 ∧ A18 ∧ A19 ∧ A20 ∧ A21 ∧ A22 ∧ A23 ∧ A24 ∧ A25 ∧ A26 ∧ A27 ∧ A28 ∧ A29 ∧ A30 ∧ A31:=⟨x0,x1,x2,x3,x4,x5,x6,x7,x8,x9,x10,x11,x12,x13,x14,x15,x16,x17,x18,x19,x20,x21,x22,x23,x24,x25,x26,x27,x28,x29,x30,x31⟩
theorem j43_ {A0 A1 A2 A3 A4 A5 A6 A7 A8 A9 A10 A11 A12 A13 A14 A15 A16 A17 A18 A19 A20 A21 A22 A23 A24 A25 A26 A27 A28 A29 A30 A31 A32 A33 A34 A35 A36 A37 A38 A39 A40 A41 A42:Prop} (x0:A0) (x1:A1) (x2:A2) (x3:A3) (x4:A4) (x5:A5) (x6:A6) (x7:A7) (x8:A8) (x9:A9) (x10:A10) (x11:A11) (x12:A12) (x13:A13) (x14:A14) (x15:A15) (x16:A16) (x17:A17) (x18:A18) (x19:A19) (x20:A20) (x21:A21) (x22:A22) (x23:A23) (x24:A24) (x25:A25) (x26:A26) (x27:A27) (x28:A28) (x29:A29) (x30:A30) (x31:A31) (x32:A32) (x33:A33) (x34:A34) (x35:A35) (x36:A36) (x37:A37) (x38:A38) (x39:A39) (x40:A40) (x41:A41) (x42:A42):A0 ∧ A1 ∧ A2 ∧ A3 ∧ A4 ∧ A5 ∧ A6 ∧ A7 ∧ A8 ∧ A9 ∧ A10 ∧ A11 ∧ A12 ∧ A13 ∧ A14 ∧ A15 ∧ A16 ∧ A17 ∧ A18 ∧ A19 ∧ A20 ∧ A21 ∧ A22 ∧ A23 ∧ A24 ∧ A25 ∧ A26 ∧ A27 ∧ A28 ∧ A29 ∧ A30 ∧ A31 ∧ A32 ∧ A33 ∧ A34 ∧ A35 ∧ A36 ∧ A37 ∧ A38 ∧ A39 ∧ A40 ∧ A41 ∧ A42:=⟨x0,x1,x2,x3,x4,x5,x6,x7,x8,x9,x10,x11,x12,x13,x14,x15,x16,x17,x18,x19,x20,x21,x22,x23,x24,x25,x26,x27,x28,x29,x30,x31,x32,x33,x34,x35,x36,x37,x38,x39,x40,x41,x42⟩
theorem j44_ {A0 A1 A2 A3 A4 A5 A6 A7 A8 A9 A10 A11 A12 A13 A14 A15 A16 A17 A18 A19 A20 A21 A22 A23 A24 A25 A26 A27 A28 A29 A30 A31 A32 A33 A34 A35 A36 A37 A38 A39 A40 A41 A42 A43:Prop} (x0:A0) (x1:A1) (x2:A2) (x3:A3) (x4:A4) (x5:A5) (x6:A6) (x7:A7) (x8:A8) (x9:A9) (x10:A10) (x11:A11) (x12:A12) (x13:A13) (x14:A14) (x15:A15) (x16:A16) (x17:A17) (x18:A18) (x19:A19) (x20:A20) (x21:A21) (x22:A22) (x23:A23) (x24:A24) (x25:A25) (x26:A26) (x27:A27) (x28:A28) (x29:A29) (x30:A30) (x31:A31) (x32:A32) (x33:A33) (x34:A34) (x35:A35) (x36:A36) (x37:A37) (x38:A38) (x39:A39) (x40:A40) (x41:A41) (x42:A42) (x43:A43):A0 ∧ A1 ∧ A2 ∧ A3 ∧ A4 ∧ A5 ∧ A6 ∧ A7 ∧ A8 ∧ A9 ∧ A10 ∧ A11 ∧ A12 ∧ A13 ∧ A14 ∧ A15 ∧ A16 ∧ A17 ∧ A18 ∧ A19 ∧ A20 ∧ A21 ∧ A22 ∧ A23 ∧ A24 ∧ A25 ∧ A26 ∧ A27 ∧ A28 ∧ A29 ∧ A30 ∧ A31 ∧ A32 ∧ A33 ∧ A34 ∧ A35 ∧ A36 ∧ A37 ∧ A38 ∧ A39 ∧ A40 ∧ A41 ∧ A42 ∧ A43:=⟨x0,x1,x2,x3,x4,x5,x6,x7,x8,x9,x10,x11,x12,x13,x14,x15,x16,x17,x18,x19,x20,x21,x22,x23,x24,x25,x26,x27,x28,x29,x30,x31,x32,x33,x34,x35,x36,x37,x38,x39,x40,x41,x42,x43⟩
theorem j45_ {A0 A1 A2 A3 A4 A5 A6 A7 A8 A9 A10 A11 A12 A13 A14 A15 A16 A17 A18 A19 A20 A21 A22 A23 A24 A25 A26 A27 A28 A29 A30 A31 A32 A33 A34 A35 A36 A37 A38 A39 A40 A41 A42 A43 A44:Prop} (x0:A0) (x1:A1) (x2:A2) (x3:A3) (x4:A4) (x5:A5) (x6:A6) (x7:A7) (x8:A8) (x9:A9) (x10:A10) (x11:A11) (x12:A12) (x13:A13) (x14:A14) (x15:A15) (x16:A16) (x17:A17) (x18:A18) (x19:A19) (x20:A20) (x21:A21) (x22:A22) (x23:A23) (x24:A24) (x25:A25) (x26:A26) (x27:A27) (x28:A28) (x29:A29) (x30:A30) (x31:A31) (x32:A32) (x33:A33) (x34:A34) (x35:A35) (x36:A36) (x37:A37) (x38:A38) (x39:A39) (x40:A40) (x41:A41) (x42:A42) (x43:A43) (x44:A44):A0 ∧ A1 ∧ A2 ∧ A3 ∧ A4 ∧ A5 ∧ A6 ∧ A7 ∧ A8 ∧ A9 ∧ A10 ∧ A11 ∧ A12 ∧ A13 ∧ A14 ∧ A15 ∧ A16 ∧ A17 ∧ A18 ∧ A19 ∧ A20 ∧ A21 ∧ A22 ∧ A23 ∧ A24 ∧ A25 ∧ A26 ∧ A27 ∧ A28 ∧ A29 ∧ A30 ∧ A31 ∧ A32 ∧ A33 ∧ A34 ∧ A35 ∧ A36 ∧ A37 ∧ A38 ∧ A39 ∧ A40 ∧ A41 ∧ A42 ∧ A43 ∧ A44:=⟨x0,x1,x2,x3,x4,x5,x6,x7,x8,x9,x10,x11,x12,x13,x14,x15,x16,x17,x18,x19,x20,x21,x22,x23,x24,x25,x26,x27,x28,x29,x30,x31,x32,x33,x34,x35,x36,x37,x38,x39,x40,x41,x42,x43,x44⟩
end Go.Proofs.YtcokdlfmnhjngaaGreat.IrE
namespace Go.LexF
set_option linter.unusedVariables false
set_option linter.unusedSimpArgs false
abbrev Bytes:=List UInt8
abbrev spacesB:Bytes:=[9,10,11,12,13,32]
abbrev lettersB:Bytes:=[65,66,67,68,69,70,71,72,73,74,75,76,77,78,79,80,81,82,83,84,85,86,87,88,89,90,97,98,99,100,101,102,103,104,105,106,107,108,109,110,111,112,113,114,115,116,117,118,119,120,121,122,95]
abbrev D10:Bytes:=[48,49,50,51,52,53,54,55,56,57]
abbrev D8:Bytes:=[48,49,50,51,52,53,54,55]
abbrev zB3:Bytes:=[48,49,50,51,52,53,54,55,56,57,97,98,99,100,101,102,65,66,67,68,69,70]
abbrev zB2:Bytes:=lettersB ++ D10
abbrev zIi:Bytes:=[123,125,40,41,91,93,61,59,44,60,62,45]
def fr (cs s:Bytes):Bytes:=s.takeWhile cs.contains
def bk (cs s:Bytes):Bytes:=s.dropWhile cs.contains
theorem fr_bk (cs s:Bytes):fr cs s ++ bk cs s = s:=List.takeWhile_append_dropWhile
theorem zJi (cs s:Bytes):(fr cs s).length + (bk cs s).length = s.length:=by
 rw [← List.length_append,fr_bk]
theorem zC3 (cs s:Bytes):s.drop (fr cs s).length = bk cs s:=by
 have:=congrArg (List.drop (fr cs s).length) (fr_bk cs s)
 rw [← this,List.drop_left]
def zAz:Bytes → Bytes
 | [] => []
 | c :: r => if c = 10 then c :: r else zAz r
def zB6:Bytes → Option Bytes
 | [] => none
 | c :: r => if c = 42 then (match r with
  | [] => none
  | d :: r' => if d = 47 then some r' else zB6 (d :: r')) else zB6 r
theorem zDg:∀ s:Bytes,(zAz s).length ≤ s.length
 | [] => Nat.le_refl _
 | c :: r => by unfold zAz; split <;> simp; have:=zDg r; omega
theorem zCy:∀ {s u:Bytes},zB6 s = some u → u.length + 2 ≤ s.length
 | [],_,h => by cases h
 | c :: r,u,h => by
  unfold zB6 at h
  split at h
  · split at h
    · cases h
    · split at h
      · cases h; simp
      · have:=zCy h; simp at this ⊢; omega
  · have:=zCy h; simp at this ⊢; omega
def zBp (s:Bytes):Bytes × Bool:=match s with
 | [] => ([],true)
 | c :: r => if spacesB.contains c then zBp r else if c = 47 then (match hr:r with
  | [] => (c :: r,true)
  | d :: r' => if d = 47 then zBp (zAz r') else if d = 42 then (match hd:zB6 r' with
   | none => (c :: r,false)
   | some u => zBp u) else (c :: r,true)) else (c :: r,true)
 termination_by s.length
 decreasing_by
 · simp
 · have:=zDg r'; simp; omega
 · have:=zCy hd; simp; omega
def zEv:Bytes → Nat
 | [] => 0
 | c :: r => if lettersB.contains c then (fr zB2 (c :: r)).length else 0
theorem wordF_le (s:Bytes):zEv s ≤ s.length:=by
 cases s with
 | nil => exact Nat.le_refl _
 | cons c r =>
  have:=zJi zB2 (c :: r)
  have h0:=Nat.zero_le (c :: r).length
  simp only [zEv]
  split <;> omega
def zHa (s:Bytes):Nat:=match s with
 | [] => 0
 | c :: t => if c = 46 then (if zEv t = 0 then 0 else 1 + zEv t + zHa (t.drop (zEv t))) else 0
 termination_by s.length
 decreasing_by simp; omega
theorem zL0 (s:Bytes):zHa s ≤ s.length:=by
 match s with
 | [] => rw [zHa]; exact Nat.le_refl _
 | c :: t =>
  rw [zHa]
  split
  · split
    · exact Nat.zero_le _
    · have h1:=zL0 (t.drop (zEv t))
      have h2:=wordF_le t
      simp at h1 ⊢; omega
  · exact Nat.zero_le _
 termination_by s.length
 decreasing_by simp; omega
def zE8:Bytes → Nat
 | [] => 0
 | c :: t => if c = 46 then zHa (c :: t) else if zEv (c :: t) = 0 then 0 else zEv (c :: t) + zHa ((c :: t).drop (zEv (c :: t)))
theorem nameF_le (s:Bytes):zE8 s ≤ s.length:=by
 cases s with
 | nil => exact Nat.le_refl _
 | cons c t =>
  have h1:=zL0 ((c :: t).drop (zEv (c :: t)))
  have h2:=wordF_le (c :: t)
  have h3:=zL0 (c :: t)
  have h0:=Nat.zero_le (c :: t).length
  rw [List.length_drop] at h1
  simp only [zE8]
  split
  · exact h3
  · split <;> omega
def digF (c:UInt8):Nat:=if c.toNat ≤ 57 then c.toNat - 48 else if c.toNat ≤ 70 then c.toNat - 55 else c.toNat - 87
def valF (B:Nat):Nat → Bytes → Nat
 | n,[] => n
 | n,c :: r => valF B (n * B + digF c) r
def numF (s:Bytes):Nat × Nat × Bytes :=
 if (s.take 2 = [48,120] ∨ s.take 2 = [48,88]) ∧ 0 < (fr zB3 (s.drop 2)).length then (16,2,fr zB3 (s.drop 2))
 else if s.head? = some 48 then (8,0,fr D8 s) else (10,0,fr D10 s)
inductive Wd where
 | err (e:Nat)
 | tok (kind:Nat) (text:Bytes) (n len:Nat)
def numW (s:Bytes):Wd:=match numF s with
 | (B,n,ds) => if 18446744073709551616 ≤ valF B 0 ds then .err 3 else match s.drop (n + ds.length) with
  | [] => .tok 2 [] (valF B 0 ds) (n + ds.length)
  | c :: _ => if (zB2 ++ [46]).contains c then .err 2 else .tok 2 [] (valF B 0 ds) (n + ds.length)
def meantF (c:UInt8):Option UInt8:=if c = 92 then some 92 else if c = 34 then some 34 else if c = 39 then some 39 else if c = 110 then some 10 else none
def zBe (q:UInt8):Bytes → Bytes → Nat → Option (Bytes × Nat)
 | [],_,_ => none
 | c :: t,acc,k => if c = q then some (acc,k + 1) else if c = 10 then none else if c = 92 then (match t with
  | [] => none
  | x :: u => match meantF x with
   | none => none
   | some m => zBe q u (acc ++ [m]) (k + 2)) else zBe q t (acc ++ [c]) (k + 1)
def zCm (valid:Bytes → Bool) (s:Bytes):Wd:=match s with
 | [] => .err 0
 | c :: r => if 0 < zE8 (c :: r) then .tok 1 ((c :: r).take (zE8 (c :: r))) 0 (zE8 (c :: r)) else
  if D10.contains c then numW (c :: r) else
  if c = 34 ∨ c = 39 then (match zBe c r [] 0 with
   | none => .err 2
   | some (t,k) => if valid t then .tok 3 t 0 (k + 1) else .err 2) else
  if zIi.contains c then .tok 4 [c] 0 1 else .err 2
end Go.LexF
namespace Go.Proofs.YtcokdlfmnhjngaaGreat.IrE
open Go Go.CI Go.LexF
set_option maxRecDepth 100000
set_option maxHeartbeats 4000000
set_option linter.unusedVariables false
set_option linter.unusedSimpArgs false
attribute [local irreducible] W Wo Wc WoR
def letB (c:UInt8):Bool:=decide (97 ≤ c.toNat ∧ c.toNat ≤ 122 ∨ 65 ≤ c.toNat ∧ c.toNat ≤ 90 ∨ c.toNat = 95)
def digB (c:UInt8):Bool:=decide (48 ≤ c.toNat ∧ c.toNat ≤ 57)
def dgI (c:UInt8):Int:=if 48 ≤ c.toNat ∧ c.toNat ≤ 57 then (c.toNat:Int) - 48 else if 97 ≤ c.toNat ∧ c.toNat ≤ 102 then (c.toNat:Int) - 97 + 10 else if 65 ≤ c.toNat ∧ c.toNat ≤ 70 then (c.toNat:Int) - 65 + 10 else -1
theorem dg_1 {c:UInt8} (h:48 ≤ c.toNat ∧ c.toNat ≤ 57):dgI c = (c.toNat:Int) - 48:=by unfold dgI; rw [if_pos h]
theorem dg_2 {c:UInt8} (h:97 ≤ c.toNat ∧ c.toNat ≤ 102):dgI c = (c.toNat:Int) - 97 + 10:=by unfold dgI; rw [if_neg (by omega),if_pos h]
theorem dg_3 {c:UInt8} (h:65 ≤ c.toNat ∧ c.toNat ≤ 70):dgI c = (c.toNat:Int) - 65 + 10:=by unfold dgI; rw [if_neg (by omega),if_neg (by omega),if_pos h]
theorem dg_4 {c:UInt8} (h:¬ (48 ≤ c.toNat ∧ c.toNat ≤ 57 ∨ 97 ≤ c.toNat ∧ c.toNat ≤ 102 ∨ 65 ≤ c.toNat ∧ c.toNat ≤ 70)):dgI c = -1:=by unfold dgI; rw [if_neg (by omega),if_neg (by omega),if_neg (by omega)]
theorem sy_ibneT {a b:Int} (h:a ≠ b):(a != b) = true:=by simp [h]
theorem sy_ibneF {a b:Int} (h:a = b):(a != b) = false:=by simp [h]
theorem zIq {a b:Int} (h:a = b):(a == b) = true:=by simp [h]
attribute [simp] sy_ibneT sy_ibneF zIq
theorem letB_t {c:UInt8} (h:97 ≤ c.toNat ∧ c.toNat ≤ 122 ∨ 65 ≤ c.toNat ∧ c.toNat ≤ 90 ∨ c.toNat = 95):letB c = true:=decide_eq_true h
theorem letB_f {c:UInt8} (h:¬ (97 ≤ c.toNat ∧ c.toNat ≤ 122 ∨ 65 ≤ c.toNat ∧ c.toNat ≤ 90 ∨ c.toNat = 95)):letB c = false:=decide_eq_false h
theorem digB_t {c:UInt8} (h:48 ≤ c.toNat ∧ c.toNat ≤ 57):digB c = true:=decide_eq_true h
theorem digB_f {c:UInt8} (h:¬ (48 ≤ c.toNat ∧ c.toNat ≤ 57)):digB c = false:=decide_eq_false h
theorem zB5 (c:UInt8):Pu tree.getF 188 [.int .u8 (c.toNat:Int)] (.bool (letB c)):=by
 intro h hf K hk
 obtain ⟨hu,hut,hX⟩:=fx4 hf
 have hc8:=c.toNat_lt
 by_cases a1:97 ≤ c.toNat <;> by_cases a2:c.toNat ≤ 122 <;> by_cases a3:65 ≤ c.toNat <;> by_cases a4:c.toNat ≤ 90 <;> by_cases a5:c.toNat = 95 <;> (try (exfalso; omega))
 all_goals
  (first | rw [letB_t (by omega)] at hk | rw [letB_f (by omega)] at hk)
  refine mk_ 188 c188 (s_ ?_)
  repeat (first | refine st_ rfl ?_ | ((first | refine rg_ ?_ | refine go_ ?_); refine gw_ (by simp (disch:=omega) [hX,zIq]; rfl) ?_) | (refine W.loop ?_; try (generalize e:dropped .. = r; simp (disch:=omega) [hX,zIq] at e; subst e; try dsimp only)) | ((first | (refine W.ret ?_; (try simp only [zAd,zA3,zAb]); refine endW.of (.inl rfl) rfl ?_) | refine endW.of (.inr rfl) rfl ?_); generalize e:zB4 .. = r; simp (disch:=omega) [hX,zIq] at e; subst e; (refine hk _ _ ?_ ?_; omega; exact ut_)))
theorem zBq (c:UInt8):Pu tree.getF 190 [.int .u8 (c.toNat:Int)] (.bool (digB c)):=by
 intro h hf K hk
 obtain ⟨hu,hut,hX⟩:=fx4 hf
 have hc8:=c.toNat_lt
 by_cases a1:48 ≤ c.toNat <;> by_cases a2:c.toNat ≤ 57 <;> (try (exfalso; omega))
 all_goals
  (first | rw [digB_t (by omega)] at hk | rw [digB_f (by omega)] at hk)
  refine mk_ 190 c190 (s_ ?_)
  repeat (first | refine wx_ ?_ | (refine W.loop ?_; try (generalize e:dropped .. = r; simp (disch:=omega) [hX] at e; subst e; try dsimp only)) | (refine rx_ ?_; (refine hk _ _ ?_ ?_; omega; exact ut_)))
theorem zHz (c:UInt8):Pu tree.getF 245 [.int .u8 (c.toNat:Int)] (.int .i64 (dgI c)):=by
 intro h hf K hk
 obtain ⟨hu,hut,hX⟩:=fx4 hf
 have hc8:=c.toNat_lt
 by_cases a1:48 ≤ c.toNat <;> by_cases a2:c.toNat ≤ 57 <;> by_cases a3:97 ≤ c.toNat <;> by_cases a4:c.toNat ≤ 102 <;> by_cases a5:65 ≤ c.toNat <;> by_cases a6:c.toNat ≤ 70 <;> (try (exfalso; omega))
 all_goals
  (first | rw [dg_1 (by omega)] at hk | rw [dg_2 (by omega)] at hk | rw [dg_3 (by omega)] at hk | rw [dg_4 (by omega)] at hk)
  refine mk_ 245 c245 (s_ ?_)
  repeat (first | refine st_ rfl ?_ | ((first | refine rg_ ?_ | refine go_ ?_); refine gw_ (by simp (disch:=omega) [hX,zBb]; rfl) ?_) | (refine W.loop ?_; try (generalize e:dropped .. = r; simp (disch:=omega) [hX,zBb] at e; subst e; try dsimp only)) | ((first | (refine W.ret ?_; (try simp only [zAd,zA3,zAb]); refine endW.of (.inl rfl) rfl ?_) | refine endW.of (.inr rfl) rfl ?_); generalize e:zB4 .. = r; simp (disch:=omega) [hX,zBb] at e; subst e; (refine hk _ _ ?_ ?_; omega; exact ut_)))
abbrev lx (s:B8) (i e t:Int):CObj:=.cells [.str s,.int .i64 i,.int .i64 e,.int .i64 t]
theorem zH3 (s:B8) (i:Nat) (e t:Int) (w:B8) (hs:s.length < 60000) (hw:(s.drop i).take w.length = w) (hi:i + w.length ≤ s.length) (h:CHeap) (p d:Nat) (hf:Fit h) (hg:zA1 h.ents p = some (lx s (i:Int) e t)) (hp:p < h.next) (K:KT) (hk:∀ n' ty,h.next ≤ n' → zA9 ty n' → K (.bool true) ⟨h.ents,n',ty⟩):Wc tree.getF 186 [.ptr p d 0,.str w] h K:=by
 obtain ⟨hu,hut,hX⟩:=fx4 hf
 have hY:=fx5 hf hg
 have hc:(s.take (i + w.length)).drop i = w:=by rw [List.drop_take,show i + w.length - i = w.length by omega,hw]
 have e1:((i:Int) + (w.length:Int)).toNat = i + w.length:=by omega
 refine mk_ 186 c186 (s_ ?_)
 have hZ:=j5_ hX hg hY hc e1
 repeat (first | refine wk_ ?_ | (refine W.loop ?_; try (generalize e:dropped .. = r; simp (disch:=omega) [hX,hg,hY,hc,e1] at e; subst e; try dsimp only)) | (refine rk_ ?_; (refine hk _ _ ?_ ?_; omega; exact ut_)))
theorem zH7 (s:B8) (i:Nat) (e t:Int) (w:B8) (hs:s.length < 60000) (hi:i ≤ s.length) (hw:w.length < 100) (hl:s.length < i + w.length) (h:CHeap) (p d:Nat) (hf:Fit h) (hg:zA1 h.ents p = some (lx s (i:Int) e t)) (hp:p < h.next) (K:KT) (hk:∀ n' ty,h.next ≤ n' → zA9 ty n' → K (.bool false) ⟨h.ents,n',ty⟩):Wc tree.getF 186 [.ptr p d 0,.str w] h K:=by
 obtain ⟨hu,hut,hX⟩:=fx4 hf
 have hY:=fx5 hf hg
 refine mk_ 186 c186 (s_ ?_)
 have hZ:=j3_ hX hg hY
 repeat (first | refine wk_ ?_ | (refine W.loop ?_; try (generalize e:dropped .. = r; simp (disch:=omega) [hX,hg,hY] at e; subst e; try dsimp only)) | (refine rk_ ?_; (refine hk _ _ ?_ ?_; omega; exact ut_)))
theorem zHm (s:B8) (i:Nat) (e t:Int) (w:B8) (hs:s.length < 60000) (hi:i + w.length ≤ s.length) (hw:((s.drop i).take w.length == w) = false) (h:CHeap) (p d:Nat) (hf:Fit h) (hg:zA1 h.ents p = some (lx s (i:Int) e t)) (hp:p < h.next) (K:KT) (hk:∀ n' ty,h.next ≤ n' → zA9 ty n' → K (.bool false) ⟨h.ents,n',ty⟩):Wc tree.getF 186 [.ptr p d 0,.str w] h K:=by
 obtain ⟨hu,hut,hX⟩:=fx4 hf
 have hY:=fx5 hf hg
 have hc:(((s.take (i + w.length)).drop i) == w) = false:=by rw [List.drop_take,show i + w.length - i = w.length by omega,hw]
 have hc2:¬ ((s.take (i + w.length)).drop i) = w:=by simpa using hc
 have e1:((i:Int) + (w.length:Int)).toNat = i + w.length:=by omega
 refine mk_ 186 c186 (s_ ?_)
 have hZ:=j6_ hX hg hY hc hc2 e1
 repeat (first | refine wk_ ?_ | (refine W.loop ?_; try (generalize e:dropped .. = r; simp (disch:=omega) [hX,hg,hY,hc,hc2,e1] at e; subst e; try dsimp only)) | (refine rk_ ?_; (refine hk _ _ ?_ ?_; omega; exact ut_)))
theorem zId (s:B8) (i k:Nat) (e t:Int) (c:UInt8) (hs:s.length < 60000) (hk0:k < 100) (hc:s[i + k]? = some c) (h:CHeap) (p d:Nat) (hf:Fit h) (hg:zA1 h.ents p = some (lx s (i:Int) e t)) (hp:p < h.next) (K:KT) (hk:∀ n' ty,h.next ≤ n' → zA9 ty n' → K (.int .u8 (c.toNat:Int)) ⟨h.ents,n',ty⟩):Wc tree.getF 189 [.ptr p d 0,.int .i64 (k:Int)] h K:=by
 obtain ⟨hu,hut,hX⟩:=fx4 hf
 have hY:=fx5 hf hg
 obtain ⟨hi,hce⟩:=List.getElem?_eq_some_iff.1 hc
 have e1:((i:Int) + (k:Int)).toNat = i + k:=by omega
 refine mk_ 189 c189 (s_ ?_)
 have hZ:=j6_ hX hg hY hc e1 hce
 repeat (first | refine wk_ ?_ | (refine W.loop ?_; try (generalize e:dropped .. = r; simp (disch:=omega) [hX,hg,hY,hc,e1,hce] at e; subst e; try dsimp only)) | (refine rk_ ?_; (refine hk _ _ ?_ ?_; omega; exact ut_)))
theorem zJu (s:B8) (i k:Nat) (e t:Int) (hs:s.length < 60000) (hi:i ≤ s.length) (hk0:k < 100) (hl:s.length ≤ i + k) (h:CHeap) (p d:Nat) (hf:Fit h) (hg:zA1 h.ents p = some (lx s (i:Int) e t)) (hp:p < h.next) (K:KT) (hk:∀ n' ty,h.next ≤ n' → zA9 ty n' → K (.int .u8 0) ⟨h.ents,n',ty⟩):Wc tree.getF 189 [.ptr p d 0,.int .i64 (k:Int)] h K:=by
 obtain ⟨hu,hut,hX⟩:=fx4 hf
 have hY:=fx5 hf hg
 refine mk_ 189 c189 (s_ ?_)
 have hZ:=j3_ hX hg hY
 repeat (first | refine wk_ ?_ | (refine W.loop ?_; try (generalize e:dropped .. = r; simp (disch:=omega) [hX,hg,hY] at e; subst e; try dsimp only)) | (refine rk_ ?_; (refine hk _ _ ?_ ?_; omega; exact ut_)))
theorem zEc (s:B8) (i e t e' t':Int) (h:CHeap) (p d:Nat) (hf:Fit h) (hg:zA1 h.ents p = some (lx s i e t)) (hp:p < h.next) (K:KT) (hk:∀ n' ty,h.next ≤ n' → zA9 ty n' → K (.agg [.int .i64 0,.str [],.int .u64 0,.int .i64 0]) ⟨zA2 h.ents p (lx s i e' t'),n',ty⟩):Wc tree.getF 187 [.ptr p d 0,.int .i64 e',.int .i64 t'] h K:=by
 obtain ⟨hu,hut,hX⟩:=fx4 hf
 have hY:=fx5 hf hg
 refine mk_ 187 c187 (s_ ?_)
 have hZ:=j3_ hX hg hY
 repeat (first | refine wk_ ?_ | (refine W.loop ?_; try (generalize e:dropped .. = r; simp (disch:=omega) [hX,hg,hY] at e; subst e; try dsimp only)) | (refine rk_ ?_; (refine hk _ _ ?_ ?_; omega; exact ut_)))
end Go.Proofs.YtcokdlfmnhjngaaGreat.IrE
namespace Go.Proofs.YtcokdlfmnhjngaaGreat.IrE
open Go Go.CI
set_option maxRecDepth 100000
set_option maxHeartbeats 4000000
set_option linter.unusedVariables false
set_option linter.unusedSimpArgs false
attribute [local irreducible] W Wo Wc WoR
attribute [local simp] stepR zB8 zBn zBr zG9 zFl zAl nth zC1 COp.cls COp.isStore CVal.isUndef CVal.whole CVal.cells CHeap.put CHeap.get CHeap.set zC7 zA1 zA2 partOf zBu zGz zGq zJc zBk initVar descOf List.take List.drop CVal.lenOf CVal.isStr CVal.bare CVal.strip CVal.flat zB4 zBw zBt zDx cut zDm setCells szOf zFr elems bytesOf zEw zCn zBm List.replicate zBh zBi sy_leT sy_leF zA4 dropped sy_wrap64 zBf zAc zBd zIa callAtG sy_ibeqF sy_ieqF sy_ileT sy_ileF sy_iltT sy_iltF sy_ltT sy_ltF
theorem zA0 {l:EE} {m n:Nat} {x:CObj} (h:n ≠ m):zA1 (zA2 l m x) n = zA1 l n:=by
 induction l with
 | nil => rfl
 | cons a r ih =>
  obtain ⟨i,o⟩:=a
  by_cases hi:i = m
  · subst hi
    have:(i == n) = false:=by simp; omega
    simp [zA2,zA1,Ne.symm h]
  · by_cases hn:i = n
    · subst hn; simp [zA2,zA1,hi]
    · simp [zA2,zA1,hi,hn,ih]
theorem zAe:∀ {l:EE} {m:Nat} {x:CObj},zA1 l m = some x → zA2 l m x = l
 | [],_,_,h => by cases h
 | (i,o) :: r,m,x,h => by
  by_cases hi:i = m
  · subst hi; simp [zA1] at h; subst h; simp [zA2]
  · simp [zA1,hi] at h; simp [zA2,hi,zAe h]
abbrev lettersB:B8:=[65,66,67,68,69,70,71,72,73,74,75,76,77,78,79,80,81,82,83,84,85,86,87,88,89,90,97,98,99,100,101,102,103,104,105,106,107,108,109,110,111,112,113,114,115,116,117,118,119,120,121,122,95]
end Go.Proofs.YtcokdlfmnhjngaaGreat.IrE
namespace Go.Proofs.YtcokdlfmnhjngaaGreat.IrE
open Go Go.CI
open Go.LexF hiding spacesB lettersB
set_option maxRecDepth 100000
set_option maxHeartbeats 4000000
set_option linter.unusedVariables false
set_option linter.unusedSimpArgs false
attribute [local irreducible] W Wo Wc WoR
abbrev rdr (s:B8) (a:Int) (l:CVal) (e to:Int):CObj:=.cells [.str s,.int .i64 a,l,.int .i64 e,.int .i64 to]
theorem zIy:∀ (s:B8),s.drop (s.length - (zAz s).length) = zAz s
 | [] => rfl
 | c :: r => by
  have h1:=zDg r
  unfold zAz
  by_cases hc:c = 10
  · rw [if_pos hc]; simp
  · rw [if_neg hc,show (c :: r).length - (zAz r).length = (r.length - (zAz r).length) + 1 by simp; omega]
    simp only [List.drop_succ_cons]
    exact zIy r
theorem idx_cmt:∀ (s:B8) (i:Nat),match zB6 s with | none => zE0 [42,47] s i = -1 | some u => zE0 [42,47] s i = ((i + (s.length - u.length - 2):Nat):Int) ∧ s.drop (s.length - u.length) = u
 | [],i => by simp [zB6,zE0]
 | [c],i => by
  by_cases hc:c = 42
  · subst hc; simp [zB6,zE0,zEi]
  · have hb:(c == 42) = false:=by simp [hc]
    simp [zB6,zE0,zEi,hc]
 | c :: d :: r,i => by
  have ih:=idx_cmt (d :: r) (i + 1)
  by_cases hc:c = 42
  · subst hc
    by_cases hd:d = 47
    · subst hd
      have:zB6 (42 :: 47 :: r) = some r:=by unfold zB6; simp
      rw [this]
      refine ⟨?_,?_⟩
      · have e:zE0 [42,47] (42 :: 47 :: r) i = (i:Int):=by unfold zE0; simp [zEi]
        rw [e]; simp; omega
      · rw [show (42 :: 47 :: r).length - r.length = 2 by simp; omega]; rfl
    · have e1:zB6 (42 :: d :: r) = zB6 (d :: r):=by
       conv => lhs; unfold zB6
       simp [hd]
      have hb:(d == 47) = false:=by simp [hd]
      have e2:zE0 [42,47] (42 :: d :: r) i = zE0 [42,47] (d :: r) (i + 1):=by
          conv => lhs; unfold zE0
          simp [zEi,hd,hb]
      rw [e1,e2]
      cases hu:zB6 (d :: r) with
      | none => rw [hu] at ih; exact ih
      | some u =>
       rw [hu] at ih
       have:=zCy hu
       refine ⟨?_,?_⟩
       · rw [ih.1]; simp at this ⊢; omega
       · rw [show (42 :: d :: r).length - u.length = ((d :: r).length - u.length) + 1 by simp at this ⊢; omega,List.drop_succ_cons]; exact ih.2
  · have e1:zB6 (c :: d :: r) = zB6 (d :: r):=by
     conv => lhs; unfold zB6
     simp [hc]
    have hb:(c == 42) = false:=by simp [hc]
    have e2:zE0 [42,47] (c :: d :: r) i = zE0 [42,47] (d :: r) (i + 1):=by
        conv => lhs; unfold zE0
        simp [zEi,hc,hb]
    rw [e1,e2]
    cases hu:zB6 (d :: r) with
    | none => rw [hu] at ih; exact ih
    | some u =>
     rw [hu] at ih
     have:=zCy hu
     refine ⟨?_,?_⟩
     · rw [ih.1]; simp at this ⊢; omega
     · rw [show (c :: d :: r).length - u.length = ((d :: r).length - u.length) + 1 by simp at this ⊢; omega,List.drop_succ_cons]; exact ih.2
theorem zFq:zBp [] = ([],true):=by rw [zBp.eq_def]
theorem zE4 (c:UInt8) (r:B8):zBp (c :: r) = if Go.LexF.spacesB.contains c then zBp r else if c = 47 then (match r with
    | [] => (c :: r,true)
    | d :: r' => if d = 47 then zBp (zAz r') else if d = 42 then (match zB6 r' with
     | none => (c :: r,false)
     | some u => zBp u) else (c :: r,true)) else (c :: r,true):=by
 rw [zBp.eq_def]
 dsimp only
 split
 · rfl
 · split
   · cases r with
     | nil => rfl
     | cons d r' =>
      dsimp only
      split
      · rfl
      · split
        · split
          · rename_i h; rw [h]
          · rename_i h; rw [h]
        · rfl
   · rfl
theorem zIu:∀ (m:Nat) (s:B8),s.length ≤ m → (zBp s).1.length ≤ s.length
 | _,[],_ => by rw [zFq]; exact Nat.le_refl _
 | 0,c :: r,h => by simp at h
 | m + 1,c :: r,h => by
  rw [zE4]
  simp only [List.length_cons] at h
  split
  · have:=zIu m r (by omega); simp; omega
  · split
    · cases r with
      | nil => simp
      | cons d r' =>
       simp only [List.length_cons] at h
       dsimp only
       split
       · have h1:=zDg r'; have:=zIu m (zAz r') (by omega); simp; omega
       · split
         · split
           · simp
           · rename_i u hd; have h1:=zCy hd; have:=zIu m u (by omega); simp; omega
         · simp
    · simp
abbrev zKy:CCode:=(.loop true (.seq (.seq (.R [.v 0,.n 0,.f 1 0,.l 0,.v 0,.n 0,.f 0 0,.l 0,.g (.len true (.loc 0)),.h .lss 5 0,.m (.loc 0),.Q (.v 0) 0 true,.Q (.n 0) 1 true,.Q (.f 0 0) 2 true,.Q (.l 0) 3 true,.Q (.v 0) 4 true,.Q (.n 0) 5 true,.Q (.f 1 0) 6 true,.Q (.l 0) 7 true,.q (.idxStr (.loc 4) (.loc 0)) 8 true,.Q (.x .neq 0 (.u 10)) 9 true,.p 10 0] [(5,21)]) (.cond (.var 5) .skip (.exit 3))) (.block 4 (.R [.v 0,.n 0,.f 1 0,.l 0,.x .add 0 (.k 1),.n 4,.f 1 0,.s 1 0 2] []))))
abbrev cmtLoop:CCode:=(.loop true (.seq (.seq (.R [.v 0,.n 0,.f 1 0,.l 0,.v 0,.n 0,.f 0 0,.l 0,.g (.len true (.loc 0)),.h .lss 5 0,.m (.loc 0),.Q (.v 0) 0 true,.q (.call false 186 [(.loc 0),(.const (.str [42,47]))]) 1 true,.q (.not (.loc 0)) 2 true,.p 3 0] [(7,14)]) (.cond (.var 7) .skip (.exit 5))) (.block 6 (.R [.v 0,.n 0,.f 1 0,.l 0,.x .add 0 (.k 1),.n 4,.f 1 0,.s 1 0 2] []))))
theorem zB0 {s r:B8} {c:UInt8} {i:Nat} (h:s.drop i = c :: r):s[i]? = some c:=by
 have:=congrArg List.head? h
 simpa using this
theorem zB9 {s r:B8} {c:UInt8} {i:Nat} (h:s.drop i = c :: r):s.drop (i + 1) = r:=by
 have:=congrArg (List.drop 1) h
 rw [List.drop_drop] at this
 simpa using this
theorem ref_line (s:B8) (hs:s.length < 60000) (p d:Nat) (t:Int) (Q:QT) (v1 v2 v3 v4 v6 v7 v8 v9:CVal):∀ (r:B8) (i:Nat),s.drop i = r → i + r.length = s.length → ∀ (h:CHeap) (v5:CVal),zA1 h.ents p = some (lx s (i:Int) 0 t) → Fit h → p < h.next →
    (∀ n' ty w5,h.next ≤ n' → zA9 ty n' → Q (.exit 3) ⟨[.ptr p d 0,v1,v2,v3,v4,w5,v6,v7,v8,v9],⟨zA2 h.ents p (lx s ((s.length - (zAz r).length:Nat):Int) 0 t),n',ty⟩,[]⟩) →
    W tree.getF zKy ⟨[.ptr p d 0,v1,v2,v3,v4,v5,v6,v7,v8,v9],h,[]⟩ Q:=by
 intro r
 induction r with
 | nil =>
  intro i hd hlen h v5 hg hf hp hk
  simp only [List.length_nil,Nat.add_zero] at hlen
  subst hlen
  have e0:s.length - (zAz []).length = s.length:=by simp [zAz]
  rw [e0,zAe hg] at hk
  obtain ⟨hu,hut,hX⟩:=fx4 hf
  have hY:=fx5 hf hg; have ⟨hG,hD2,hC2,hN2⟩:=hY
  refine W.loop ?_
  have hZ:=j3_ hX hg hY
  try refine wk_ ?_
  all_goals (refine hk _ _ _ ?_ ?_; omega; exact ut_)
 | cons c r ih =>
  intro i hd hlen h v5 hg hf hp hk
  simp only [List.length_cons] at hlen
  have hc0:=zB0 hd
  obtain ⟨hi,hce⟩:=List.getElem?_eq_some_iff.1 hc0
  obtain ⟨hu,hut,hX⟩:=fx4 hf
  have hY:=fx5 hf hg; have ⟨hG,hD2,hC2,hN2⟩:=hY
  by_cases hc:c.toNat = 10
  · have hc1:c = 10:=UInt8.toNat_inj.1 hc
    have e0:s.length - (zAz (c :: r)).length = i:=by unfold zAz; rw [if_pos hc1]; simp; omega
    rw [e0,zAe hg] at hk
    refine W.loop ?_
    have hZ:=j5_ hX hg hY hce hc0
    try refine wk_ ?_
    all_goals (refine hk _ _ _ ?_ ?_; omega; exact ut_)
  · have hc1:¬ c = 10:=fun e => hc (by rw [e]; rfl)
    have e0:zAz (c :: r) = zAz r:=by
        conv => lhs; unfold zAz
        rw [if_neg hc1]
    rw [e0] at hk
    have hcont:∀ (h':CHeap) (w5:CVal),h'.ents = zA2 h.ents p (lx s ((i:Int) + 1) 0 t) → h.next ≤ h'.next → zA9 h'.tys h'.next → W tree.getF zKy ⟨[.ptr p d 0,v1,v2,v3,v4,w5,v6,v7,v8,v9],h',[]⟩ Q:=by
     intro h' w5 e1 e2 e3
     have e4:((i:Int) + 1) = ((i + 1:Nat):Int):=by omega
     rw [e4] at e1
     refine ih (i + 1) (zB9 hd) (by omega) h' w5 (by rw [e1]; exact hG _) ⟨by rw [e1]; exact hu.set.le e2,e3⟩ (by omega) ?_
     intro n' ty u5 g1 g2
     rw [e1,zA4]
     exact hk n' ty u5 (by omega) g2
    refine W.loop ?_
    have hZ:=j5_ hX hg hY hce hc0
    try refine wk_ ?_
    show W tree.getF zKy (dropped true _ _) Q
    generalize e:dropped .. = r0
    simp (disch:=omega) [hX,hg,hY] at e
    subst e
    try dsimp only
    refine hcont _ _ ?_ ?_ ?_
    · rfl
    · exact om_
    · exact zA9.le (by assumption) om_
theorem ref_cmt (s:B8) (hs:s.length < 60000) (p d:Nat) (t:Int) (Q:QT) (v1 v2 v3 v4 v5 v6 v8 v9:CVal):∀ (r:B8) (i:Nat),s.drop i = r → i + r.length = s.length → ∀ (h:CHeap) (v7:CVal),zA1 h.ents p = some (lx s (i:Int) 0 t) → Fit h → p < h.next →
    (∀ n' ty w7,h.next ≤ n' → zA9 ty n' → zB6 r = none → Q (.exit 5) ⟨[.ptr p d 0,v1,v2,v3,v4,v5,v6,w7,v8,v9],⟨zA2 h.ents p (lx s (s.length:Int) 0 t),n',ty⟩,[]⟩) →
    (∀ n' ty w7 u,h.next ≤ n' → zA9 ty n' → zB6 r = some u → Q (.exit 5) ⟨[.ptr p d 0,v1,v2,v3,v4,v5,v6,w7,v8,v9],⟨zA2 h.ents p (lx s ((s.length - u.length - 2:Nat):Int) 0 t),n',ty⟩,[]⟩) →
    W tree.getF cmtLoop ⟨[.ptr p d 0,v1,v2,v3,v4,v5,v6,v7,v8,v9],h,[]⟩ Q:=by
 intro r
 induction r with
 | nil =>
  intro i hd hlen h v7 hg hf hp hk1 hk2
  simp only [List.length_nil,Nat.add_zero] at hlen
  subst hlen
  rw [zAe hg] at hk1
  obtain ⟨hu,hut,hX⟩:=fx4 hf
  have hY:=fx5 hf hg; have ⟨hG,hD2,hC2,hN2⟩:=hY
  refine W.loop ?_
  have hZ:=j3_ hX hg hY
  try refine wk_ ?_
  all_goals (refine hk1 _ _ _ ?_ ?_ rfl; omega; exact ut_)
 | cons c r ih =>
  intro i hd hlen h v7 hg hf hp hk1 hk2
  have hlen0:=hlen
  simp only [List.length_cons] at hlen
  have hc0:=zB0 hd
  obtain ⟨hi,hce⟩:=List.getElem?_eq_some_iff.1 hc0
  obtain ⟨hu,hut,hX⟩:=fx4 hf
  have hY:=fx5 hf hg; have ⟨hG,hD2,hC2,hN2⟩:=hY
  by_cases hq:(c :: r).take 2 = [42,47]
  · obtain ⟨u,hu1⟩:∃ u,c :: r = 42 :: 47 :: u:=⟨(c :: r).drop 2,by have:=List.take_append_drop 2 (c :: r); rw [hq] at this; exact this.symm⟩
    have e0:zB6 (c :: r) = some u:=by rw [hu1]; unfold zB6; simp
    have hl2:(c :: r).length = u.length + 2:=by rw [hu1]; rfl
    rw [List.length_cons] at hl2
    have e1:s.length - u.length - 2 = i:=by omega
    have hk2':∀ n' ty w7,h.next ≤ n' → zA9 ty n' → Q (.exit 5) ⟨[.ptr p d 0,v1,v2,v3,v4,v5,v6,w7,v8,v9],⟨h.ents,n',ty⟩,[]⟩:=fun n' ty w7 g1 g2 => by
     have:=hk2 n' ty w7 u g1 g2 e0
     rw [e1,zAe hg] at this; exact this
    have S0:=zH3 s i 0 t [42,47] hs (by rw [hd]; exact hq) (by simp; omega)
    refine W.loop ?_
    have hZ:=j5_ hX hg hY hce hc0
    repeat (first | refine wk_ ?_ | (refine S0 _ p d ?_ ?_ ?_ _ fun n1 tyn1 hn1 hun1 => ⟨rfl,?_⟩; exact fit_; exact ge_; exact om_; (try dsimp only at hn1)))
    all_goals (refine hk2' _ _ _ ?_ ?_; omega; exact ut_)
  · have e0:zB6 (c :: r) = zB6 r:=by
     conv => lhs; unfold zB6
     by_cases h42:c = 42
     · subst h42
       rw [if_pos rfl]
       cases r with
       | nil => rfl
       | cons b r' =>
        dsimp only
        rw [if_neg (fun e => hq (by rw [e]; rfl))]
     · rw [if_neg h42]
    rw [e0] at hk1 hk2
    have hcont:∀ (h':CHeap) (w7:CVal),h'.ents = zA2 h.ents p (lx s ((i:Int) + 1) 0 t) → h.next ≤ h'.next → zA9 h'.tys h'.next → W tree.getF cmtLoop ⟨[.ptr p d 0,v1,v2,v3,v4,v5,v6,w7,v8,v9],h',[]⟩ Q:=by
     intro h' w7 e1 e2 e3
     have e4:((i:Int) + 1) = ((i + 1:Nat):Int):=by omega
     rw [e4] at e1
     refine ih (i + 1) (zB9 hd) (by omega) h' w7 (by rw [e1]; exact hG _) ⟨by rw [e1]; exact hu.set.le e2,e3⟩ (by omega) ?_ ?_
     · intro n' ty u7 g1 g2 g3
       rw [e1,zA4]
       exact hk1 n' ty u7 (by omega) g2 g3
     · intro n' ty u7 u g1 g2 g3
       rw [e1,zA4]
       exact hk2 n' ty u7 u (by omega) g2 g3
    have S0:∀ (h:CHeap) (hf:Fit h) (hg:zA1 h.ents p = some (lx s (i:Int) 0 t)) (hp:p < h.next) (K:KT) (hk:∀ n' ty,h.next ≤ n' → zA9 ty n' → K (.bool false) ⟨h.ents,n',ty⟩),Wc tree.getF 186 [.ptr p d 0,.str [42,47]] h K:=fun h hf hg hp K hk => by
     by_cases hle:i + 2 ≤ s.length
     · exact zHm s i 0 t [42,47] hs hle (by rw [hd]; simpa using hq) h p d hf hg hp K hk
     · exact zH7 s i 0 t [42,47] hs (by omega) (by simp) (by simp; omega) h p d hf hg hp K hk
    refine W.loop ?_
    have hZ:=j5_ hX hg hY hce hc0
    repeat (first | refine wk_ ?_ | (refine S0 _ ?_ ?_ ?_ _ fun n1 tyn1 hn1 hun1 => ⟨rfl,?_⟩; exact fit_; exact ge_; exact om_; (try dsimp only at hn1)))
    show W tree.getF cmtLoop (dropped true _ _) Q
    generalize e:dropped .. = r0
    simp (disch:=omega) [hX,hg,hY] at e
    subst e
    try dsimp only
    refine hcont _ _ ?_ ?_ ?_
    · rfl
    · exact om_
    · exact zA9.le (by assumption) om_
theorem zDn {p:UInt8 → Bool} (h:(List.range 256).all (fun k => p (UInt8.ofNat k)) = true) (c:UInt8):p c = true:=by
 have h1:=List.all_eq_true.1 h c.toNat (List.mem_range.2 c.toNat_lt)
 rwa [show UInt8.ofNat c.toNat = c by simp] at h1
theorem sp_eq (c:UInt8):Go.LexF.spacesB.contains c = decide (9 ≤ c.toNat ∧ c.toNat ≤ 13 ∨ c.toNat = 32):=by
 have:=zDn (p:=fun c => Go.LexF.spacesB.contains c == decide (9 ≤ c.toNat ∧ c.toNat ≤ 13 ∨ c.toNat = 32)) (by decide +kernel) c
 simpa using this
abbrev zEs:CCode:=(.loop true (.seq (.seq (.R [.v 0,.n 0,.f 1 0,.l 0,.v 0,.n 0,.f 0 0,.l 0,.g (.len true (.loc 0)),.h .lss 5 0,.m (.loc 0),.Q (.v 0) 0 true,.Q (.n 0) 1 true,.Q (.f 2 0) 2 true,.Q (.l 0) 3 true,.Q (.x .eql 0 (.k 0)) 4 true,.p 5 0] [(1,16)]) (.cond (.var 1) .skip (.exit 0))) (.block 1 (.seq (.R [.v 0,.n 0,.f 0 0,.l 0,.v 0,.n 0,.f 1 0,.l 0,.g (.idxStr (.loc 4) (.loc 0)),.m (.loc 0)] [(2,9)]) (.block 2 (.seq (.R [.v 2,.x .geq 0 (.u 9),.m (.loc 0),.Q (.v 2) 0 true,.Q (.x .leq 0 (.u 13)) 1 true,.p 2 0,.m (.loc 0),.Q (.v 2) 0 false,.Q (.x .eql 0 (.u 32)) 1 false,.r 2 0,.m (.loc 0)] [(3,10)]) (.cond (.var 3) (.R [.v 0,.n 0,.f 1 0,.l 0,.x .add 0 (.k 1),.n 4,.f 1 0,.s 1 0 2] []) (.seq (.R [.v 0,.g (.call false 186 [(.loc 0),(.const (.str [47,47]))]),.m (.loc 0)] [(4,2)]) (.cond (.var 4) (.block 3 (.loop true (.seq (.seq (.R [.v 0,.n 0,.f 1 0,.l 0,.v 0,.n 0,.f 0 0,.l 0,.g (.len true (.loc 0)),.h .lss 5 0,.m (.loc 0),.Q (.v 0) 0 true,.Q (.n 0) 1 true,.Q (.f 0 0) 2 true,.Q (.l 0) 3 true,.Q (.v 0) 4 true,.Q (.n 0) 5 true,.Q (.f 1 0) 6 true,.Q (.l 0) 7 true,.q (.idxStr (.loc 4) (.loc 0)) 8 true,.Q (.x .neq 0 (.u 10)) 9 true,.p 10 0] [(5,21)]) (.cond (.var 5) .skip (.exit 3))) (.block 4 (.R [.v 0,.n 0,.f 1 0,.l 0,.x .add 0 (.k 1),.n 4,.f 1 0,.s 1 0 2] []))))) (.seq (.R [.v 0,.g (.call false 186 [(.loc 0),(.const (.str [47,42]))]),.m (.loc 0)] [(6,2)]) (.cond (.var 6) (.seq (.R [.v 0,.n 0,.f 1 0,.l 0,.m (.loc 0)] [(9,4)]) (.seq (.R [.v 0,.v 0,.n 0,.f 1 0,.l 0,.x .add 0 (.k 2),.n 5,.f 1 0,.s 1 0 2] []) (.seq (.block 5 (.loop true (.seq (.seq (.R [.v 0,.n 0,.f 1 0,.l 0,.v 0,.n 0,.f 0 0,.l 0,.g (.len true (.loc 0)),.h .lss 5 0,.m (.loc 0),.Q (.v 0) 0 true,.q (.call false 186 [(.loc 0),(.const (.str [42,47]))]) 1 true,.q (.not (.loc 0)) 2 true,.p 3 0] [(7,14)]) (.cond (.var 7) .skip (.exit 5))) (.block 6 (.R [.v 0,.n 0,.f 1 0,.l 0,.x .add 0 (.k 1),.n 4,.f 1 0,.s 1 0 2] []))))) (.seq (.seq (.R [.v 0,.n 0,.f 1 0,.l 0,.v 0,.n 0,.f 0 0,.l 0,.g (.len true (.loc 0)),.h .geq 5 0] [(8,9)]) (.cond (.var 8) (.seq (.R [.v 0,.v 9,.c 187 [(.loc 1),(.k 2),(.loc 0)]] []) .ret) .skip)) (.R [.v 0,.v 0,.n 0,.f 1 0,.l 0,.x .add 0 (.k 2),.n 5,.f 1 0,.s 1 0 2] []))))) .ret)))))))))))
theorem ref_space (s:B8) (hs:s.length < 60000) (p d:Nat) (t:Int) (Q:QT):∀ (m:Nat) (r:B8) (i:Nat),r.length ≤ m → s.drop i = r → i + r.length = s.length → ∀ (h:CHeap) (v1 v2 v3 v4 v5 v6 v7 v8 v9:CVal),zA1 h.ents p = some (lx s (i:Int) 0 t) → Fit h → p < h.next →
    (∀ x n' ty v1 v2 v3 v4 v5 v6 v7 v8 v9,(x = .ret ∨ x = .exit 0) → h.next ≤ n' → zA9 ty n' → (zBp r).2 = true → Q x ⟨[.ptr p d 0,v1,v2,v3,v4,v5,v6,v7,v8,v9],⟨zA2 h.ents p (lx s ((s.length - (zBp r).1.length:Nat):Int) 0 t),n',ty⟩,[]⟩) →
    (∀ n' ty v1 v2 v3 v4 v5 v6 v7 v8 v9,h.next ≤ n' → zA9 ty n' → (zBp r).2 = false → Q .ret ⟨[.ptr p d 0,v1,v2,v3,v4,v5,v6,v7,v8,v9],⟨zA2 h.ents p (lx s (s.length:Int) 2 ((s.length - (zBp r).1.length:Nat):Int)),n',ty⟩,[]⟩) →
    W tree.getF zEs ⟨[.ptr p d 0,v1,v2,v3,v4,v5,v6,v7,v8,v9],h,[]⟩ Q:=by
 intro m
 induction m with
 | zero =>
  intro r i hm hd hlen h v1 v2 v3 v4 v5 v6 v7 v8 v9 hg hf hp hk1 hk2
  obtain rfl:r = []:=List.length_eq_zero_iff.1 (by omega)
  rw [zFq] at hk1
  simp only [List.length_nil,Nat.add_zero] at hlen
  subst hlen
  simp only [List.length_nil,Nat.sub_zero,zAe hg] at hk1
  obtain ⟨hu,hut,hX⟩:=fx4 hf
  have hY:=fx5 hf hg; have ⟨hG,hD2,hC2,hN2⟩:=hY
  refine W.loop ?_
  have hZ:=j3_ hX hg hY
  try refine wk_ ?_
  all_goals ((try refine W.ret ?_); (try simp only [zAd,zA3,zAb]); (first | refine hk1 _ _ _ _ _ _ _ _ _ _ _ _ (.inl rfl) ?_ ?_ (by first | rfl | trivial) | refine hk1 _ _ _ _ _ _ _ _ _ _ _ _ (.inr rfl) ?_ ?_ (by first | rfl | trivial)); omega; exact ut_)
 | succ m ih =>
  intro r i hm hd hlen h v1 v2 v3 v4 v5 v6 v7 v8 v9 hg hf hp hk1 hk2
  have hnext:∀ (j:Nat) (r':B8),r'.length ≤ m → s.drop j = r' → j + r'.length = s.length → zBp r = zBp r' → ∀ (h':CHeap) (w1 w2 w3 w4 w5 w6 w7 w8 w9:CVal),h'.ents = zA2 h.ents p (lx s (j:Int) 0 t) → h.next ≤ h'.next → zA9 h'.tys h'.next → W tree.getF zEs ⟨[.ptr p d 0,w1,w2,w3,w4,w5,w6,w7,w8,w9],h',[]⟩ Q:=by
   intro j r' hm' hd' hl' hsk h' w1 w2 w3 w4 w5 w6 w7 w8 w9 e1 e2 e3
   rw [hsk] at hk1 hk2
   have hG:∀ x,zA1 (zA2 h.ents p x) p = some x:=fun x => zA6 hg
   refine ih r' j hm' hd' hl' h' _ _ _ _ _ _ _ _ _ (by rw [e1]; exact hG _) ⟨by rw [e1]; exact hf.1.set.le e2,e3⟩ (by omega) ?_ ?_
   · intro x n' ty u1 u2 u3 u4 u5 u6 u7 u8 u9 g0 g1 g2 g3
     rw [e1,zA4]
     exact hk1 x n' ty u1 u2 u3 u4 u5 u6 u7 u8 u9 g0 (by omega) g2 g3
   · intro n' ty u1 u2 u3 u4 u5 u6 u7 u8 u9 g1 g2 g3
     rw [e1,zA4]
     exact hk2 n' ty u1 u2 u3 u4 u5 u6 u7 u8 u9 (by omega) g2 g3
  cases r with
  | nil =>
   rw [zFq] at hk1
   simp only [List.length_nil,Nat.add_zero] at hlen
   subst hlen
   simp only [List.length_nil,Nat.sub_zero,zAe hg] at hk1
   obtain ⟨hu,hut,hX⟩:=fx4 hf
   have hY:=fx5 hf hg; have ⟨hG,hD2,hC2,hN2⟩:=hY
   refine W.loop ?_
   have hZ:=j3_ hX hg hY
   try refine wk_ ?_
   all_goals ((try refine W.ret ?_); (try simp only [zAd,zA3,zAb]); (first | refine hk1 _ _ _ _ _ _ _ _ _ _ _ _ (.inl rfl) ?_ ?_ (by first | rfl | trivial) | refine hk1 _ _ _ _ _ _ _ _ _ _ _ _ (.inr rfl) ?_ ?_ (by first | rfl | trivial)); omega; exact ut_)
  | cons c r =>
   simp only [List.length_cons] at hlen hm
   have hc0:=zB0 hd
   obtain ⟨hi,hce⟩:=List.getElem?_eq_some_iff.1 hc0
   obtain ⟨hu,hut,hX⟩:=fx4 hf
   have hY:=fx5 hf hg; have ⟨hG,hD2,hC2,hN2⟩:=hY
   by_cases hsp:9 ≤ c.toNat ∧ c.toNat ≤ 13 ∨ c.toNat = 32
   · have hsk:zBp (c :: r) = zBp r:=by rw [zE4,sp_eq,if_pos (by simpa using hsp)]
     rcases hsp with ⟨hs1,hs2⟩ | hs1
     · refine W.loop ?_
       have hZ:=j7_ hX hg hY hce hc0 hs1 hs2
       try refine wk_ ?_
       show W tree.getF zEs (dropped true _ _) Q
       generalize e:dropped .. = r0
       simp (disch:=omega) [hX,hg,hY] at e
       subst e
       try dsimp only
       refine hnext (i + 1) r ?_ ?_ ?_ ?_ _ _ _ _ _ _ _ _ _ _ ?_ ?_ ?_
       · omega
       · exact zB9 hd
       · omega
       · exact hsk
       · rfl
       · exact om_
       · exact zA9.le (by assumption) om_
     · refine W.loop ?_
       have hZ:=j6_ hX hg hY hce hc0 hs1
       try refine wk_ ?_
       show W tree.getF zEs (dropped true _ _) Q
       generalize e:dropped .. = r0
       simp (disch:=omega) [hX,hg,hY] at e
       subst e
       try dsimp only
       refine hnext (i + 1) r ?_ ?_ ?_ ?_ _ _ _ _ _ _ _ _ _ _ ?_ ?_ ?_
       · omega
       · exact zB9 hd
       · omega
       · exact hsk
       · rfl
       · exact om_
       · exact zA9.le (by assumption) om_
   · have hnsp:Go.LexF.spacesB.contains c = false:=by rw [sp_eq]; simpa using hsp
     have hlen':i + (c :: r).length = s.length:=by simp; omega
     by_cases hT1:(c :: r).take 2 = [47,47]
     · obtain ⟨u,hu1⟩:∃ u,c :: r = 47 :: 47 :: u:=⟨(c :: r).drop 2,by have:=List.take_append_drop 2 (c :: r); rw [hT1] at this; exact this.symm⟩
       have hl2:(c :: r).length = u.length + 2:=by rw [hu1]; rfl
       have edl:zAz (c :: r) = zAz u:=by rw [hu1]; rfl
       have hsk:zBp (c :: r) = zBp (zAz (c :: r)):=by
        rw [edl,hu1,zE4,if_neg (by decide),if_pos rfl]
        rfl
       have hdle:=zDg u
       rw [List.length_cons] at hl2
       have hc47:c.toNat = 47:=by injection hu1 with a _; rw [a]; rfl
       have hdd:s.drop (s.length - (zAz (c :: r)).length) = zAz (c :: r):=by
        have:=zIy (c :: r)
        rw [← hd,List.drop_drop] at this
        rw [hd] at this
        rw [← this]; congr 1; rw [this,edl,List.length_cons]; omega
       have hrel:=ref_line s hs p d t
       have S1:=zH3 s i 0 t [47,47] hs (by rw [hd]; exact hT1) (by simp; omega)
       refine W.loop ?_
       have hZ:=j6_ hX hg hY hce hc0 hc47
       repeat (first | refine wk_ ?_ | (refine S1 _ p d ?_ ?_ ?_ _ fun n1 tyn1 hn1 hun1 => ⟨rfl,?_⟩; exact fit_; exact ge_; exact om_; (try dsimp only at hn1)))
       refine ref_line s hs p d t _ _ _ _ _ _ _ _ _ (c :: r) i hd hlen' _ _ ?_ ?_ ?_ ?_
       · exact hg
       · exact fit_
       · exact om_
       intro n2 ty2 w5 g1 g2
       try dsimp only at g1
       try simp only [zAd,zA3,zAb]
       have hZ:=j6_ hX hg hY hce hc0 hc47
       try refine wk_ ?_
       show W tree.getF zEs (dropped true _ _) Q
       generalize e:dropped .. = r0
       simp (disch:=omega) [hX,hg,hY] at e
       subst e
       try dsimp only
       refine hnext (s.length - (zAz (c :: r)).length) (zAz (c :: r)) ?_ ?_ ?_ ?_ _ _ _ _ _ _ _ _ _ _ ?_ ?_ ?_
       · rw [edl]; omega
       · exact hdd
       · rw [edl]; omega
       · exact hsk
       · rfl
       · exact om_
       · exact zA9.le (by assumption) om_
     · have S1:∀ (h:CHeap) (hf:Fit h) (hg:zA1 h.ents p = some (lx s (i:Int) 0 t)) (hp:p < h.next) (K:KT) (hk:∀ n' ty,h.next ≤ n' → zA9 ty n' → K (.bool false) ⟨h.ents,n',ty⟩),Wc tree.getF 186 [.ptr p d 0,.str [47,47]] h K:=fun h hf hg hp K hk => by
        by_cases hle:i + 2 ≤ s.length
        · exact zHm s i 0 t [47,47] hs hle (by rw [hd]; simpa using hT1) h p d hf hg hp K hk
        · exact zH7 s i 0 t [47,47] hs (by omega) (by simp) (by simp; omega) h p d hf hg hp K hk
       by_cases hT2:(c :: r).take 2 = [47,42]
       · obtain ⟨u,hu1⟩:∃ u,c :: r = 47 :: 42 :: u:=⟨(c :: r).drop 2,by have:=List.take_append_drop 2 (c :: r); rw [hT2] at this; exact this.symm⟩
         have hl2:(c :: r).length = u.length + 2:=by rw [hu1]; rfl
         rw [List.length_cons] at hl2
         have hc47:c.toNat = 47:=by injection hu1 with a _; rw [a]; rfl
         have hdu:s.drop (i + 2) = u:=by rw [← List.drop_drop,hd,hu1]; rfl
         have S2:=zH3 s i 0 t [47,42] hs (by rw [hd]; exact hT2) (by simp; omega)
         have hskn:zB6 u = none → zBp (c :: r) = (c :: r,false):=fun e => by
          rw [hu1,zE4,if_neg (by decide),if_pos rfl]; simp [e]
         have hsks:∀ u2,zB6 u = some u2 → zBp (c :: r) = zBp u2:=fun u2 e => by
          rw [hu1,zE4,if_neg (by decide),if_pos rfl]; simp [e]
         have hk2f:∀ n' ty v1 v2 v3 v4 v5 v6 v7 v8 v9,h.next ≤ n' → zA9 ty n' → zBp (c :: r) = (c :: r,false) → Q .ret ⟨[.ptr p d 0,v1,v2,v3,v4,v5,v6,v7,v8,v9],⟨zA2 h.ents p (lx s (s.length:Int) 2 (i:Int)),n',ty⟩,[]⟩:=fun n' ty u1 u2 u3 u4 u5 u6 u7 u8 u9 g1 g2 g3 => by
          have:=hk2 n' ty u1 u2 u3 u4 u5 u6 u7 u8 u9 g1 g2 (by rw [g3])
          rw [g3,show s.length - (c :: r,false).1.length = i by simp only [List.length_cons]; omega] at this
          exact this
         refine W.loop ?_
         have hZ:=j6_ hX hg hY hce hc0 hc47
         repeat (first | refine wk_ ?_ | (refine S1 _ ?_ ?_ ?_ _ fun n1 tyn1 hn1 hun1 => ⟨rfl,?_⟩; exact fit_; exact ge_; exact om_; (try dsimp only at hn1)) | (refine S2 _ p d ?_ ?_ ?_ _ fun n1 tyn1 hn1 hun1 => ⟨rfl,?_⟩; exact fit_; exact ge_; exact om_; (try dsimp only at hn1)))
         have ec:((i + 2:Nat):Int) = (i:Int) + 2:=by omega
         refine ref_cmt s hs p d t _ _ _ _ _ _ _ _ _ u (i + 2) hdu (by omega) _ _ ?_ ?_ ?_ ?_ ?_
         · rw [ec]; exact hG _
         · exact fit_
         · exact om_
         · intro n2 ty2 w7 g1 g2 g3
           try dsimp only at g1
           try simp only [zAd,zA3,zAb,zA4]
           have hZ:=j6_ hX hg hY hce hc0 hc47
           repeat (first | refine wk_ ?_ | (refine zEc s (s.length:Int) 0 t _ _ _ p d ?_ ?_ ?_ _ fun n3 tyn3 hn3 hun3 => ⟨rfl,?_⟩; exact fit_; (focus (((first | exact hG _ | (try dsimp only); exact hG _)); done)); exact om_; (try dsimp only at hn3)))
           all_goals ((try refine W.ret ?_); (try simp only [zAd,zA3,zAb,zA4]))
           all_goals (refine hk2f _ _ _ _ _ _ _ _ _ _ _ ?_ ?_ (hskn g3); omega; exact ut_)
         · intro n2 ty2 w7 u2 g1 g2 g3
           try dsimp only at g1
           have hcl:=zCy g3
           have hdc:s.drop (s.length - u2.length - 2 + 2) = u2:=by
            have hh:=idx_cmt u 0
            rw [g3] at hh
            have h2:=hh.2
            rw [← hdu,List.drop_drop,hdu] at h2
            rw [show s.length - u2.length - 2 + 2 = i + 2 + (u.length - u2.length) by omega]; exact h2
           try simp only [zAd,zA3,zAb,zA4]
           have hZ:=j6_ hX hg hY hce hc0 hc47
           try refine wk_ ?_
           show W tree.getF zEs (dropped true _ _) Q
           generalize e:dropped .. = r0
           simp (disch:=omega) [hX,hg,hY] at e
           subst e
           try dsimp only
           refine hnext (s.length - u2.length - 2 + 2) u2 ?_ ?_ ?_ ?_ _ _ _ _ _ _ _ _ _ _ ?_ ?_ ?_
           · omega
           · exact hdc
           · omega
           · exact hsks u2 g3
           · rfl
           · exact om_
           · exact zA9.le (by assumption) om_
       · have S2:∀ (h:CHeap) (hf:Fit h) (hg:zA1 h.ents p = some (lx s (i:Int) 0 t)) (hp:p < h.next) (K:KT) (hk:∀ n' ty,h.next ≤ n' → zA9 ty n' → K (.bool false) ⟨h.ents,n',ty⟩),Wc tree.getF 186 [.ptr p d 0,.str [47,42]] h K:=fun h hf hg hp K hk => by
          by_cases hle:i + 2 ≤ s.length
          · exact zHm s i 0 t [47,42] hs hle (by rw [hd]; simpa using hT2) h p d hf hg hp K hk
          · exact zH7 s i 0 t [47,42] hs (by omega) (by simp) (by simp; omega) h p d hf hg hp K hk
         have hsk:zBp (c :: r) = (c :: r,true):=by
          rw [zE4,if_neg (by rw [hnsp]; decide)]
          split
          · rename_i hc
            cases r with
            | nil => rfl
            | cons b r' =>
             dsimp only
             rw [if_neg (fun e => hT1 (by rw [e,hc]; rfl)),if_neg (fun e => hT2 (by rw [e,hc]; rfl))]
          · rfl
         have hpos:s.length - (c :: r).length = i:=by omega
         rw [hsk] at hk1
         simp only [hpos,zAe hg] at hk1
         have h32:¬ c.toNat = 32:=fun e => hsp (.inr e)
         by_cases h9:9 ≤ c.toNat
         · have h13:¬ c.toNat ≤ 13:=fun e => hsp (.inl ⟨h9,e⟩)
           refine W.loop ?_
           have hZ:=j8_ hX hg hY hce hc0 h9 h32 h13
           repeat (first | refine wk_ ?_ | (refine S1 _ ?_ ?_ ?_ _ fun n1 tyn1 hn1 hun1 => ⟨rfl,?_⟩; exact fit_; exact ge_; exact om_; (try dsimp only at hn1)) | (refine S2 _ ?_ ?_ ?_ _ fun n1 tyn1 hn1 hun1 => ⟨rfl,?_⟩; exact fit_; exact ge_; exact om_; (try dsimp only at hn1)))
           all_goals ((try refine W.ret ?_); (try simp only [zAd,zA3,zAb]); (first | refine hk1 _ _ _ _ _ _ _ _ _ _ _ _ (.inl rfl) ?_ ?_ (by first | rfl | trivial) | refine hk1 _ _ _ _ _ _ _ _ _ _ _ _ (.inr rfl) ?_ ?_ (by first | rfl | trivial)); omega; exact ut_)
         · refine W.loop ?_
           have hZ:=j7_ hX hg hY hce hc0 h9 h32
           repeat (first | refine wk_ ?_ | (refine S1 _ ?_ ?_ ?_ _ fun n1 tyn1 hn1 hun1 => ⟨rfl,?_⟩; exact fit_; exact ge_; exact om_; (try dsimp only at hn1)) | (refine S2 _ ?_ ?_ ?_ _ fun n1 tyn1 hn1 hun1 => ⟨rfl,?_⟩; exact fit_; exact ge_; exact om_; (try dsimp only at hn1)))
           all_goals ((try refine W.ret ?_); (try simp only [zAd,zA3,zAb]); (first | refine hk1 _ _ _ _ _ _ _ _ _ _ _ _ (.inl rfl) ?_ ?_ (by first | rfl | trivial) | refine hk1 _ _ _ _ _ _ _ _ _ _ _ _ (.inr rfl) ?_ ?_ (by first | rfl | trivial)); omega; exact ut_)
theorem space_L (s:B8) (hs:s.length < 60000) (i:Nat) (r:B8) (hd:s.drop i = r) (hlen:i + r.length = s.length) (t:Int) (h:CHeap) (p d:Nat) (hf:Fit h) (hg:zA1 h.ents p = some (lx s (i:Int) 0 t)) (hp:p < h.next) (K:KT)
    (hk1:∀ n' ty,h.next ≤ n' → zA9 ty n' → (zBp r).2 = true → K (.tup []) ⟨zA2 h.ents p (lx s ((s.length - (zBp r).1.length:Nat):Int) 0 t),n',ty⟩)
    (hk2:∀ n' ty,h.next ≤ n' → zA9 ty n' → (zBp r).2 = false → K (.tup []) ⟨zA2 h.ents p (lx s (s.length:Int) 2 ((s.length - (zBp r).1.length:Nat):Int)),n',ty⟩):Wc tree.getF 138 [.ptr p d 0] h K:=by
 obtain ⟨hu,hut,hX⟩:=fx4 hf
 have hY:=fx5 hf hg
 refine mk_ 138 c138 (s_ ?_)
 refine bl_ ?_
 refine ref_space s hs p d t _ r.length r i (Nat.le_refl _) hd hlen _ _ _ _ _ _ _ _ _ _ hg ?_ ?_ ?_ ?_
 · exact ⟨hu.le om_,zA9.le hut om_⟩
 · exact om_
 · intro x n' ty w1 w2 w3 w4 w5 w6 w7 w8 w9 g0 g1 g2 g3
   try dsimp only at g1
   rcases g0 with rfl | rfl
   all_goals ((try simp only [zAd,zA3,zAb]); (first | refine endW.of (.inl rfl) rfl ?_ | refine endW.of (.inr rfl) rfl ?_); generalize e:zB4 .. = r; simp (disch:=omega) [hX,hg,hY] at e; subst e)
   all_goals (refine hk1 _ _ ?_ ?_ g3; omega; exact ut_)
 · intro n' ty w1 w2 w3 w4 w5 w6 w7 w8 w9 g1 g2 g3
   try dsimp only at g1
   all_goals ((try simp only [zAd,zA3,zAb]); (first | refine endW.of (.inl rfl) rfl ?_ | refine endW.of (.inr rfl) rfl ?_); generalize e:zB4 .. = r; simp (disch:=omega) [hX,hg,hY] at e; subst e)
   all_goals (refine hk2 _ _ ?_ ?_ g3; omega; exact ut_)
def nmR:B8 → Nat
 | [] => 0
 | c :: r => if letB c = true ∨ digB c = true ∨ c.toNat = 46 ∧ letB (r.headD 0) = true then 1 + nmR r else 0
theorem zIv:Pu tree.getF 188 [.int .u8 0] (.bool false):=zB5 0
theorem digit_0:Pu tree.getF 190 [.int .u8 0] (.bool false):=zBq 0
abbrev nmLoop:CCode:=(.loop true (.seq (.seq (.R [.v 0,.c 189 [(.loc 0),(.k 0)],.c 188 [(.loc 0)],.m (.loc 0),.Q (.v 0) 0 false,.Q (.c 189 [(.loc 0),(.k 0)]) 1 false,.Q (.c 190 [(.loc 0)]) 2 false,.r 3 0,.m (.loc 0),.Q (.v 0) 0 false,.Q (.c 189 [(.loc 0),(.k 0)]) 1 false,.Q (.x .eql 0 (.u 46)) 2 false,.Q (.m (.loc 0)) 3 false,.Q (.v 0) 0 true,.Q (.c 189 [(.loc 0),(.k 1)]) 1 true,.Q (.c 188 [(.loc 0)]) 2 true,.q (.pick (.loc 3) (.loc 0) (.b false)) 7 false,.r 8 0] [(6,17)]) (.cond (.var 6) .skip (.exit 1))) (.block 2 (.R [.v 0,.n 0,.f 1 0,.l 0,.x .add 0 (.k 1),.n 4,.f 1 0,.s 1 0 2] []))))
theorem ref_name (s:B8) (hs:s.length < 60000) (p d:Nat) (t:Int) (Q:QT) (v1 v2 v3 v4 v5 v7 v8 v9 v10 v11:CVal):∀ (r:B8) (i:Nat),s.drop i = r → i + r.length = s.length → ∀ (h:CHeap) (v6:CVal),zA1 h.ents p = some (lx s (i:Int) 0 t) → Fit h → p < h.next →
    (∀ n' ty w6,h.next ≤ n' → zA9 ty n' → Q (.exit 1) ⟨[.ptr p d 0,v1,v2,v3,v4,v5,w6,v7,v8,v9,v10,v11],⟨zA2 h.ents p (lx s ((i + nmR r:Nat):Int) 0 t),n',ty⟩,[]⟩) →
    W tree.getF nmLoop ⟨[.ptr p d 0,v1,v2,v3,v4,v5,v6,v7,v8,v9,v10,v11],h,[]⟩ Q:=by
 intro r
 induction r with
 | nil =>
  intro i hd hlen h v6 hg hf hp hk
  simp only [List.length_nil,Nat.add_zero] at hlen
  have e0:i + nmR [] = i:=rfl
  rw [e0,zAe hg] at hk
  have B0:∀ (h:CHeap) (hf:Fit h) (hg:zA1 h.ents p = some (lx s (i:Int) 0 t)) (hp:p < h.next) (K:KT) (hk:∀ n' ty,h.next ≤ n' → zA9 ty n' → K (.int .u8 0) ⟨h.ents,n',ty⟩),Wc tree.getF 189 [.ptr p d 0,.int .i64 0] h K:=fun h hf hg hp K hk => zJu s i 0 0 t hs (by omega) (by omega) (by omega) h p d hf hg hp K hk
  obtain ⟨hu,hut,hX⟩:=fx4 hf
  have hY:=fx5 hf hg; have ⟨hG,hD2,hC2,hN2⟩:=hY
  refine W.loop ?_
  have hZ:=j3_ hX hg hY
  repeat (first | refine wk_ ?_ | (refine B0 _ ?_ ?_ ?_ _ fun n1 tyn1 hn1 hun1 => ⟨rfl,?_⟩; exact fit_; exact ge_; exact om_; (try dsimp only at hn1)) | (refine zIv _ ?_ _ fun n1 tyn1 hn1 hun1 => ⟨rfl,?_⟩; exact fit_; (try dsimp only at hn1)) | (refine digit_0 _ ?_ _ fun n1 tyn1 hn1 hun1 => ⟨rfl,?_⟩; exact fit_; (try dsimp only at hn1)))
  all_goals ((try simp only [zAd,zA3,zAb]); refine hk _ _ _ ?_ ?_; omega; exact ut_)
 | cons c r ih =>
  intro i hd hlen h v6 hg hf hp hk
  simp only [List.length_cons] at hlen
  have hc0:=zB0 hd
  obtain ⟨hi,hce⟩:=List.getElem?_eq_some_iff.1 hc0
  have B0:∀ (h:CHeap) (hf:Fit h) (hg:zA1 h.ents p = some (lx s (i:Int) 0 t)) (hp:p < h.next) (K:KT) (hk:∀ n' ty,h.next ≤ n' → zA9 ty n' → K (.int .u8 (c.toNat:Int)) ⟨h.ents,n',ty⟩),Wc tree.getF 189 [.ptr p d 0,.int .i64 0] h K:=fun h hf hg hp K hk => zId s i 0 0 t c hs (by omega) hc0 h p d hf hg hp K hk
  obtain ⟨hu,hut,hX⟩:=fx4 hf
  have hY:=fx5 hf hg; have ⟨hG,hD2,hC2,hN2⟩:=hY
  have hcont:(letB c = true ∨ digB c = true ∨ c.toNat = 46 ∧ letB (r.headD 0) = true) → ∀ (h':CHeap) (w6:CVal),h'.ents = zA2 h.ents p (lx s ((i:Int) + 1) 0 t) → h.next ≤ h'.next → zA9 h'.tys h'.next → W tree.getF nmLoop ⟨[.ptr p d 0,v1,v2,v3,v4,v5,w6,v7,v8,v9,v10,v11],h',[]⟩ Q:=by
   intro hyes h' w6 e1 e2 e3
   have e4:((i:Int) + 1) = ((i + 1:Nat):Int):=by omega
   rw [e4] at e1
   have e5:i + nmR (c :: r) = i + 1 + nmR r:=by
       conv => lhs; unfold nmR
       rw [if_pos hyes]; omega
   rw [e5] at hk
   refine ih (i + 1) (zB9 hd) (by omega) h' w6 (by rw [e1]; exact hG _) ⟨by rw [e1]; exact hu.set.le e2,e3⟩ (by omega) ?_
   intro n' ty u6 g1 g2
   rw [e1,zA4]
   exact hk n' ty u6 (by omega) g2
  have hno:¬ (letB c = true ∨ digB c = true ∨ c.toNat = 46 ∧ letB (r.headD 0) = true) → ∀ n' ty w6,h.next ≤ n' → zA9 ty n' → Q (.exit 1) ⟨[.ptr p d 0,v1,v2,v3,v4,v5,w6,v7,v8,v9,v10,v11],⟨h.ents,n',ty⟩,[]⟩:=by
   intro hn n' ty w6 g1 g2
   have:=hk n' ty w6 g1 g2
   have e5:i + nmR (c :: r) = i:=by
       conv => lhs; unfold nmR
       rw [if_neg hn]; omega
   rw [e5,zAe hg] at this
   exact this
  have LF:=zB5 c
  have DF:=zBq c
  by_cases hl:letB c = true
  · rw [hl] at LF
    refine W.loop ?_
    have hZ:=j5_ hX hg hY hce hc0
    repeat (first | refine wk_ ?_ | (refine B0 _ ?_ ?_ ?_ _ fun n1 tyn1 hn1 hun1 => ⟨rfl,?_⟩; exact fit_; exact ge_; exact om_; (try dsimp only at hn1)) | (refine LF _ ?_ _ fun n1 tyn1 hn1 hun1 => ⟨rfl,?_⟩; exact fit_; (try dsimp only at hn1)))
    show W tree.getF nmLoop (dropped true _ _) Q
    generalize e:dropped .. = r0
    simp (disch:=omega) [hX,hg,hY] at e
    subst e
    try dsimp only
    refine hcont (.inl hl) _ _ ?_ ?_ ?_
    · rfl
    · exact om_
    · exact zA9.le (by assumption) om_
  · rw [Bool.not_eq_true] at hl
    rw [hl] at LF
    by_cases hdg:digB c = true
    · rw [hdg] at DF
      refine W.loop ?_
      have hZ:=j5_ hX hg hY hce hc0
      repeat (first | refine wk_ ?_ | (refine B0 _ ?_ ?_ ?_ _ fun n1 tyn1 hn1 hun1 => ⟨rfl,?_⟩; exact fit_; exact ge_; exact om_; (try dsimp only at hn1)) | (refine LF _ ?_ _ fun n1 tyn1 hn1 hun1 => ⟨rfl,?_⟩; exact fit_; (try dsimp only at hn1)) | (refine DF _ ?_ _ fun n1 tyn1 hn1 hun1 => ⟨rfl,?_⟩; exact fit_; (try dsimp only at hn1)))
      show W tree.getF nmLoop (dropped true _ _) Q
      generalize e:dropped .. = r0
      simp (disch:=omega) [hX,hg,hY] at e
      subst e
      try dsimp only
      refine hcont (.inr (.inl hdg)) _ _ ?_ ?_ ?_
      · rfl
      · exact om_
      · exact zA9.le (by assumption) om_
    · rw [Bool.not_eq_true] at hdg
      rw [hdg] at DF
      by_cases h46:c.toNat = 46
      · cases r with
        | nil =>
         have B1:∀ (h:CHeap) (hf:Fit h) (hg:zA1 h.ents p = some (lx s (i:Int) 0 t)) (hp:p < h.next) (K:KT) (hk:∀ n' ty,h.next ≤ n' → zA9 ty n' → K (.int .u8 0) ⟨h.ents,n',ty⟩),Wc tree.getF 189 [.ptr p d 0,.int .i64 1] h K:=fun h hf hg hp K hk => zJu s i 1 0 t hs (by omega) (by omega) (by simp at hlen; omega) h p d hf hg hp K hk
         have hn:¬ (letB c = true ∨ digB c = true ∨ c.toNat = 46 ∧ letB (([]:B8).headD 0) = true):=by rw [hl,hdg]; rintro (h | h | ⟨_,h⟩) <;> cases h
         refine W.loop ?_
         have hZ:=j5_ hX hg hY hce hc0
         repeat (first | refine wk_ ?_ | (refine B0 _ ?_ ?_ ?_ _ fun n1 tyn1 hn1 hun1 => ⟨rfl,?_⟩; exact fit_; exact ge_; exact om_; (try dsimp only at hn1)) | (refine B1 _ ?_ ?_ ?_ _ fun n1 tyn1 hn1 hun1 => ⟨rfl,?_⟩; exact fit_; exact ge_; exact om_; (try dsimp only at hn1)) | (refine LF _ ?_ _ fun n1 tyn1 hn1 hun1 => ⟨rfl,?_⟩; exact fit_; (try dsimp only at hn1)) | (refine DF _ ?_ _ fun n1 tyn1 hn1 hun1 => ⟨rfl,?_⟩; exact fit_; (try dsimp only at hn1)) | (refine zIv _ ?_ _ fun n1 tyn1 hn1 hun1 => ⟨rfl,?_⟩; exact fit_; (try dsimp only at hn1)))
         all_goals ((try simp only [zAd,zA3,zAb]); refine hno hn _ _ _ ?_ ?_; omega; exact ut_)
        | cons b r' =>
         have B1:∀ (h:CHeap) (hf:Fit h) (hg:zA1 h.ents p = some (lx s (i:Int) 0 t)) (hp:p < h.next) (K:KT) (hk:∀ n' ty,h.next ≤ n' → zA9 ty n' → K (.int .u8 (b.toNat:Int)) ⟨h.ents,n',ty⟩),Wc tree.getF 189 [.ptr p d 0,.int .i64 1] h K:=fun h hf hg hp K hk => zId s i 1 0 t b hs (by omega) (zB0 (zB9 hd)) h p d hf hg hp K hk
         have LF1:=zB5 b
         by_cases hb:letB b = true
         · rw [hb] at LF1
           refine W.loop ?_
           have hZ:=j5_ hX hg hY hce hc0
           repeat (first | refine wk_ ?_ | (refine B0 _ ?_ ?_ ?_ _ fun n1 tyn1 hn1 hun1 => ⟨rfl,?_⟩; exact fit_; exact ge_; exact om_; (try dsimp only at hn1)) | (refine B1 _ ?_ ?_ ?_ _ fun n1 tyn1 hn1 hun1 => ⟨rfl,?_⟩; exact fit_; exact ge_; exact om_; (try dsimp only at hn1)) | (refine LF1 _ ?_ _ fun n1 tyn1 hn1 hun1 => ⟨rfl,?_⟩; exact fit_; (try dsimp only at hn1)) | (refine LF _ ?_ _ fun n1 tyn1 hn1 hun1 => ⟨rfl,?_⟩; exact fit_; (try dsimp only at hn1)) | (refine DF _ ?_ _ fun n1 tyn1 hn1 hun1 => ⟨rfl,?_⟩; exact fit_; (try dsimp only at hn1)))
           show W tree.getF nmLoop (dropped true _ _) Q
           generalize e:dropped .. = r0
           simp (disch:=omega) [hX,hg,hY] at e
           subst e
           try dsimp only
           refine hcont (.inr (.inr ⟨h46,hb⟩)) _ _ ?_ ?_ ?_
           · rfl
           · exact om_
           · exact zA9.le (by assumption) om_
         · rw [Bool.not_eq_true] at hb
           rw [hb] at LF1
           have hn:¬ (letB c = true ∨ digB c = true ∨ c.toNat = 46 ∧ letB ((b :: r').headD 0) = true):=by rw [hl,hdg]; rintro (h | h | ⟨_,h⟩); cases h; cases h; rw [List.headD_cons,hb] at h; cases h
           refine W.loop ?_
           have hZ:=j5_ hX hg hY hce hc0
           repeat (first | refine wk_ ?_ | (refine B0 _ ?_ ?_ ?_ _ fun n1 tyn1 hn1 hun1 => ⟨rfl,?_⟩; exact fit_; exact ge_; exact om_; (try dsimp only at hn1)) | (refine B1 _ ?_ ?_ ?_ _ fun n1 tyn1 hn1 hun1 => ⟨rfl,?_⟩; exact fit_; exact ge_; exact om_; (try dsimp only at hn1)) | (refine LF1 _ ?_ _ fun n1 tyn1 hn1 hun1 => ⟨rfl,?_⟩; exact fit_; (try dsimp only at hn1)) | (refine LF _ ?_ _ fun n1 tyn1 hn1 hun1 => ⟨rfl,?_⟩; exact fit_; (try dsimp only at hn1)) | (refine DF _ ?_ _ fun n1 tyn1 hn1 hun1 => ⟨rfl,?_⟩; exact fit_; (try dsimp only at hn1)))
           all_goals ((try simp only [zAd,zA3,zAb]); refine hno hn _ _ _ ?_ ?_; omega; exact ut_)
      · have hn:¬ (letB c = true ∨ digB c = true ∨ c.toNat = 46 ∧ letB (r.headD 0) = true):=by rw [hl,hdg]; rintro (h | h | ⟨h,_⟩); cases h; cases h; exact h46 h
        refine W.loop ?_
        have hZ:=j5_ hX hg hY hce hc0
        repeat (first | refine wk_ ?_ | (refine B0 _ ?_ ?_ ?_ _ fun n1 tyn1 hn1 hun1 => ⟨rfl,?_⟩; exact fit_; exact ge_; exact om_; (try dsimp only at hn1)) | (refine LF _ ?_ _ fun n1 tyn1 hn1 hun1 => ⟨rfl,?_⟩; exact fit_; (try dsimp only at hn1)) | (refine DF _ ?_ _ fun n1 tyn1 hn1 hun1 => ⟨rfl,?_⟩; exact fit_; (try dsimp only at hn1)))
        all_goals ((try simp only [zAd,zA3,zAb]); refine hno hn _ _ _ ?_ ?_; omega; exact ut_)
theorem zLr (B:Nat) (hB:1 ≤ B):∀ (r:B8) (n:Nat),n ≤ valF B n r
 | [],n => Nat.le_refl _
 | c :: r,n => by
  have h1:=zLr B hB r (n * B + digF c)
  have h2:n * 1 ≤ n * B:=Nat.mul_le_mul_left _ hB
  show n ≤ valF B (n * B + digF c) r
  omega
abbrev Z4:CObj:=.cells [.int .i64 0,.str [],.int .u64 0,.int .i64 0]
abbrev zDv:CCode:=(.loop true (.seq (.seq (.R [.v 0,.n 0,.f 1 0,.l 0,.v 0,.n 0,.f 0 0,.l 0,.g (.len true (.loc 0)),.h .lss 5 0] [(4,9)]) (.cond (.var 4) .skip (.exit 0))) (.block 1 (.seq (.R [.v 0,.n 0,.f 0 0,.l 0,.v 0,.n 0,.f 1 0,.l 0,.g (.idxStr (.loc 4) (.loc 0)),.c 245 [(.loc 0)],.m (.loc 0)] [(5,10)]) (.seq (.seq (.R [.v 5,.x .lss 0 (.k 0),.m (.loc 0),.Q (.v 5) 0 false,.q (.conv .u64 (.loc 0)) 1 false,.Q (.v 6) 2 false,.Q (.h .geq 1 0) 3 false,.r 4 0] [(7,7)]) (.cond (.var 7) (.exit 0) .skip)) (.seq (.seq (.R [.v 8,.v 5,.g (.conv .u64 (.loc 0)),.g (.bin .sub (.const (.int .u64 18446744073709551615)) (.loc 0)),.v 6,.h .quo 1 0,.h .gtr 5 0] [(9,6)]) (.cond (.var 9) (.seq (.R [.v 0,.v 2,.c 187 [(.loc 1),(.k 3),(.loc 0)],.t 4 10 0] []) .ret) .skip)) (.seq (.R [.v 8,.v 6,.h .mul 1 0,.v 5,.g (.conv .u64 (.loc 0)),.h .add 2 0,.m (.loc 0)] [(8,6)]) (.R [.v 0,.n 0,.f 1 0,.l 0,.x .add 0 (.k 1),.n 4,.f 1 0,.s 1 0 2] []))))))))
theorem zJj {cs r:B8} {c:UInt8} (h:cs.contains c = true):fr cs (c :: r) = c :: fr cs r:=by unfold fr; rw [List.takeWhile_cons,if_pos h]
theorem fr_no {cs r:B8} {c:UInt8} (h:cs.contains c = false):fr cs (c :: r) = []:=by unfold fr; rw [List.takeWhile_cons,if_neg (by rw [h]; decide)]
theorem dig_in8 (c:UInt8):D8.contains c = decide (0 ≤ dgI c ∧ dgI c < 8):=by
 have:=zDn (p:=fun c => D8.contains c == decide (0 ≤ dgI c ∧ dgI c < 8)) (by decide +kernel) c
 simpa using this
theorem dig_in10 (c:UInt8):D10.contains c = decide (0 ≤ dgI c ∧ dgI c < 10):=by
 have:=zDn (p:=fun c => D10.contains c == decide (0 ≤ dgI c ∧ dgI c < 10)) (by decide +kernel) c
 simpa using this
theorem dig_in16 (c:UInt8):zB3.contains c = decide (0 ≤ dgI c ∧ dgI c < 16):=by
 have:=zDn (p:=fun c => zB3.contains c == decide (0 ≤ dgI c ∧ dgI c < 16)) (by decide +kernel) c
 simpa using this
theorem zLm (c:UInt8) (h:0 ≤ dgI c):dgI c = (digF c:Int):=by
 have:=zDn (p:=fun c => !(decide (0 ≤ dgI c)) || decide (dgI c = (digF c:Int))) (by decide +kernel) c
 simpa [h] using this
theorem ref_dig8 (s:B8) (hs:s.length < 60000) (p d m dm:Nat) (t at':Int) (hmp:m ≠ p) (Q:QT) (v1 v3 v11 v12:CVal):∀ (r:B8) (i v:Nat),s.drop i = r → i + r.length = s.length → v < 18446744073709551616 → ∀ (h:CHeap) (v4 v5 v7 v9:CVal),zA1 h.ents p = some (lx s (i:Int) 0 t) → zA1 h.ents m = some Z4 → Fit h → p < h.next → m < h.next →
    (∀ n' ty w4 w5 w7 w9,h.next ≤ n' → zA9 ty n' → valF 8 v (fr D8 r) < 18446744073709551616 → Q (.exit 0) ⟨[.ptr p d 0,v1,.int .i64 at',v3,w4,w5,.int .u64 8,w7,.int .u64 (valF 8 v (fr D8 r):Nat),w9,.ptr m dm 0,v11,v12],⟨zA2 h.ents p (lx s ((i + (fr D8 r).length:Nat):Int) 0 t),n',ty⟩,[]⟩) →
    (∀ n' ty w4 w5 w7 w8 w9 (j:Int),h.next ≤ n' → zA9 ty n' → 18446744073709551616 ≤ valF 8 v (fr D8 r) → Q .ret ⟨[.ptr p d 0,v1,.int .i64 at',v3,w4,w5,.int .u64 8,w7,w8,w9,.ptr m dm 0,v11,v12],⟨zA2 h.ents p (lx s j 3 at'),n',ty⟩,[]⟩) →
    W tree.getF zDv ⟨[.ptr p d 0,v1,.int .i64 at',v3,v4,v5,.int .u64 8,v7,.int .u64 (v:Int),v9,.ptr m dm 0,v11,v12],h,[]⟩ Q:=by
 intro r
 induction r with
 | nil =>
  intro i v hd hlen hv h v4 v5 v7 v9 hg hm hf hp hpm hk1 hk2
  simp only [List.length_nil,Nat.add_zero] at hlen
  have e0:i + (fr D8 []).length = i:=rfl
  rw [e0,zAe hg] at hk1
  obtain ⟨hu,hut,hX⟩:=fx4 hf
  have hY:=fx5 hf hg; have ⟨hG,hD2,hC2,hN2⟩:=hY
  have hM2:∀ x,zA1 (zA2 h.ents p x) m = some Z4:=fun x => by rw [zA0 hmp]; exact hm
  have hMS:∀ x,zA2 (zA2 h.ents p x) m Z4 = zA2 h.ents p x:=fun x => zAe (hM2 x)
  refine W.loop ?_
  repeat (first | refine st_ rfl ?_ | ((first | refine rg_ ?_ | refine go_ ?_); refine gw_ (by simp (disch:=omega) [hX,hg,hY,hm,hM2,hMS,hmp,zAh]; rfl) ?_))
  all_goals ((try simp only [zAd,zA3,zAb]); refine hk1 _ _ _ _ _ _ ?_ ?_ ?_; omega; exact ut_; exact hv)
 | cons c r ih =>
  intro i v hd hlen hv h v4 v5 v7 v9 hg hm hf hp hpm hk1 hk2
  simp only [List.length_cons] at hlen
  have hc0:=zB0 hd
  obtain ⟨hi,hce⟩:=List.getElem?_eq_some_iff.1 hc0
  obtain ⟨hu,hut,hX⟩:=fx4 hf
  have hY:=fx5 hf hg; have ⟨hG,hD2,hC2,hN2⟩:=hY
  have hM2:∀ x,zA1 (zA2 h.ents p x) m = some Z4:=fun x => by rw [zA0 hmp]; exact hm
  have hMS:∀ x,zA2 (zA2 h.ents p x) m Z4 = zA2 h.ents p x:=fun x => zAe (hM2 x)
  have DG:=zHz c
  obtain ⟨x,hx⟩:∃ x,dgI c = x:=⟨_,rfl⟩
  rw [hx] at DG
  by_cases hin:0 ≤ x ∧ x < 8
  · obtain ⟨hx0,hx1⟩:=hin
    have hfr:fr D8 (c :: r) = c :: fr D8 r:=zJj (by rw [dig_in8]; simp [hx,hx0,hx1])
    have hdx:=zLm c (by omega)
    rw [hx] at hdx
    obtain ⟨y,hy⟩:∃ y,digF c = y:=⟨_,rfl⟩
    rw [hy] at hdx
    subst hdx
    have htd:((18446744073709551615:Int) - (y:Int)).tdiv 8 = (18446744073709551615 - (y:Int)) / 8:=Int.tdiv_eq_ediv_of_nonneg (by omega)
    rw [hfr] at hk1 hk2
    have hvl:valF 8 v (c :: fr D8 r) = valF 8 (v * 8 + y) (fr D8 r):=by show valF 8 (v * 8 + digF c) _ = _; rw [hy]
    rw [hvl] at hk1 hk2
    by_cases hov:18446744073709551616 ≤ v * 8 + y
    · have hbig:=zLr 8 (by omega) (fr D8 r) (v * 8 + y)
      refine W.loop ?_
      repeat (first | refine st_ rfl ?_ | ((first | refine rg_ ?_ | refine go_ ?_); refine gw_ (by simp (disch:=omega) [hX,hg,hY,hce,hc0,hm,hM2,hMS,hmp,zAh,htd]; rfl) ?_) | (refine DG _ ?_ _ fun n2 tyn2 hn2 hun2 => ⟨rfl,?_⟩; exact fit_; (try dsimp only at hn2)) | (refine zEc s (i:Int) 0 t _ _ _ p d ?_ ?_ ?_ _ fun n3 tyn3 hn3 hun3 => ⟨rfl,?_⟩; exact fit_; (focus (((first | exact hg | exact hG _ | (try dsimp only); exact hg)); done)); exact om_; (try dsimp only at hn3)))
      all_goals ((try refine W.ret ?_); (try simp only [zAd,zA3,zAb,hMS]); refine hk2 _ _ _ _ _ _ _ _ ?_ ?_ ?_; omega; exact ut_; omega)
    · have hnext:∀ (h':CHeap) (w4 w5 w7 w9:CVal) (z:Int),h'.ents = zA2 h.ents p (lx s ((i:Int) + 1) 0 t) → z = ((v * 8 + y:Nat):Int) → h.next ≤ h'.next → zA9 h'.tys h'.next → W tree.getF zDv ⟨[.ptr p d 0,v1,.int .i64 at',v3,w4,w5,.int .u64 8,w7,.int .u64 z,w9,.ptr m dm 0,v11,v12],h',[]⟩ Q:=by
       intro h' w4 w5 w7 w9 z e1 e0 e2 e3
       subst e0
       have e4:((i:Int) + 1) = ((i + 1:Nat):Int):=by omega
       rw [e4] at e1
       refine ih (i + 1) (v * 8 + y) (zB9 hd) (by omega) (by omega) h' w4 w5 w7 w9 (by rw [e1]; exact hG _) (by rw [e1]; exact hM2 _) ⟨by rw [e1]; exact hu.set.le e2,e3⟩ (by omega) (by omega) ?_ ?_
       · intro n' ty u4 u5 u7 u9 g1 g2 g3
         rw [e1,zA4]
         have:=hk1 n' ty u4 u5 u7 u9 (by omega) g2 g3
         rw [show i + (c :: fr D8 r).length = i + 1 + (fr D8 r).length by simp; omega] at this
         exact this
       · intro n' ty u4 u5 u7 u8 u9 j g1 g2 g3
         rw [e1,zA4]
         exact hk2 n' ty u4 u5 u7 u8 u9 j (by omega) g2 g3
      refine W.loop ?_
      repeat (first | refine st_ rfl ?_ | ((first | refine rg_ ?_ | refine go_ ?_); refine gw_ (by simp (disch:=omega) [hX,hg,hY,hce,hc0,hm,hM2,hMS,hmp,zAh,htd]; rfl) ?_) | (refine DG _ ?_ _ fun n2 tyn2 hn2 hun2 => ⟨rfl,?_⟩; exact fit_; (try dsimp only at hn2)))
      show W tree.getF zDv (dropped true _ _) Q
      generalize e:dropped .. = r0
      simp (disch:=omega) [hX,hg,hY,hce,hc0,hm,hM2,hMS,hmp,zAh] at e
      subst e
      try dsimp only
      refine hnext _ _ _ _ _ _ ?_ ?_ ?_ ?_
      · rfl
      · exact om_
      · exact om_
      · exact zA9.le (by assumption) om_
  · have hfr:fr D8 (c :: r) = []:=fr_no (by rw [dig_in8,hx]; simpa using hin)
    have hl0:(fr D8 (c :: r)).length = 0:=by rw [hfr]; rfl
    have e0:i + (fr D8 (c :: r)).length = i:=by omega
    rw [e0,zAe hg] at hk1
    rw [hfr] at hk1
    have hmx:-1 ≤ x ∧ x < 16:=by
     have:=zDn (p:=fun c => decide (-1 ≤ dgI c ∧ dgI c < 16)) (by decide +kernel) c
     rw [← hx]; simpa using this
    by_cases hx0:x < 0
    · refine W.loop ?_
      repeat (first | refine st_ rfl ?_ | ((first | refine rg_ ?_ | refine go_ ?_); refine gw_ (by simp (disch:=omega) [hX,hg,hY,hce,hc0,hm,hM2,hMS,hmp,zAh]; rfl) ?_) | (refine DG _ ?_ _ fun n2 tyn2 hn2 hun2 => ⟨rfl,?_⟩; exact fit_; (try dsimp only at hn2)))
      all_goals ((try simp only [zAd,zA3,zAb]); refine hk1 _ _ _ _ _ _ ?_ ?_ ?_; omega; exact ut_; exact hv)
    · refine W.loop ?_
      repeat (first | refine st_ rfl ?_ | ((first | refine rg_ ?_ | refine go_ ?_); refine gw_ (by simp (disch:=omega) [hX,hg,hY,hce,hc0,hm,hM2,hMS,hmp,zAh]; rfl) ?_) | (refine DG _ ?_ _ fun n2 tyn2 hn2 hun2 => ⟨rfl,?_⟩; exact fit_; (try dsimp only at hn2)))
      all_goals ((try simp only [zAd,zA3,zAb]); refine hk1 _ _ _ _ _ _ ?_ ?_ ?_; omega; exact ut_; exact hv)
theorem ref_dig10 (s:B8) (hs:s.length < 60000) (p d m dm:Nat) (t at':Int) (hmp:m ≠ p) (Q:QT) (v1 v3 v11 v12:CVal):∀ (r:B8) (i v:Nat),s.drop i = r → i + r.length = s.length → v < 18446744073709551616 → ∀ (h:CHeap) (v4 v5 v7 v9:CVal),zA1 h.ents p = some (lx s (i:Int) 0 t) → zA1 h.ents m = some Z4 → Fit h → p < h.next → m < h.next →
    (∀ n' ty w4 w5 w7 w9,h.next ≤ n' → zA9 ty n' → valF 10 v (fr D10 r) < 18446744073709551616 → Q (.exit 0) ⟨[.ptr p d 0,v1,.int .i64 at',v3,w4,w5,.int .u64 10,w7,.int .u64 (valF 10 v (fr D10 r):Nat),w9,.ptr m dm 0,v11,v12],⟨zA2 h.ents p (lx s ((i + (fr D10 r).length:Nat):Int) 0 t),n',ty⟩,[]⟩) →
    (∀ n' ty w4 w5 w7 w8 w9 (j:Int),h.next ≤ n' → zA9 ty n' → 18446744073709551616 ≤ valF 10 v (fr D10 r) → Q .ret ⟨[.ptr p d 0,v1,.int .i64 at',v3,w4,w5,.int .u64 10,w7,w8,w9,.ptr m dm 0,v11,v12],⟨zA2 h.ents p (lx s j 3 at'),n',ty⟩,[]⟩) →
    W tree.getF zDv ⟨[.ptr p d 0,v1,.int .i64 at',v3,v4,v5,.int .u64 10,v7,.int .u64 (v:Int),v9,.ptr m dm 0,v11,v12],h,[]⟩ Q:=by
 intro r
 induction r with
 | nil =>
  intro i v hd hlen hv h v4 v5 v7 v9 hg hm hf hp hpm hk1 hk2
  simp only [List.length_nil,Nat.add_zero] at hlen
  have e0:i + (fr D10 []).length = i:=rfl
  rw [e0,zAe hg] at hk1
  obtain ⟨hu,hut,hX⟩:=fx4 hf
  have hY:=fx5 hf hg; have ⟨hG,hD2,hC2,hN2⟩:=hY
  have hM2:∀ x,zA1 (zA2 h.ents p x) m = some Z4:=fun x => by rw [zA0 hmp]; exact hm
  have hMS:∀ x,zA2 (zA2 h.ents p x) m Z4 = zA2 h.ents p x:=fun x => zAe (hM2 x)
  refine W.loop ?_
  repeat (first | refine st_ rfl ?_ | ((first | refine rg_ ?_ | refine go_ ?_); refine gw_ (by simp (disch:=omega) [hX,hg,hY,hm,hM2,hMS,hmp,zAh]; rfl) ?_))
  all_goals ((try simp only [zAd,zA3,zAb]); refine hk1 _ _ _ _ _ _ ?_ ?_ ?_; omega; exact ut_; exact hv)
 | cons c r ih =>
  intro i v hd hlen hv h v4 v5 v7 v9 hg hm hf hp hpm hk1 hk2
  simp only [List.length_cons] at hlen
  have hc0:=zB0 hd
  obtain ⟨hi,hce⟩:=List.getElem?_eq_some_iff.1 hc0
  obtain ⟨hu,hut,hX⟩:=fx4 hf
  have hY:=fx5 hf hg; have ⟨hG,hD2,hC2,hN2⟩:=hY
  have hM2:∀ x,zA1 (zA2 h.ents p x) m = some Z4:=fun x => by rw [zA0 hmp]; exact hm
  have hMS:∀ x,zA2 (zA2 h.ents p x) m Z4 = zA2 h.ents p x:=fun x => zAe (hM2 x)
  have DG:=zHz c
  obtain ⟨x,hx⟩:∃ x,dgI c = x:=⟨_,rfl⟩
  rw [hx] at DG
  by_cases hin:0 ≤ x ∧ x < 10
  · obtain ⟨hx0,hx1⟩:=hin
    have hfr:fr D10 (c :: r) = c :: fr D10 r:=zJj (by rw [dig_in10]; simp [hx,hx0,hx1])
    have hdx:=zLm c (by omega)
    rw [hx] at hdx
    obtain ⟨y,hy⟩:∃ y,digF c = y:=⟨_,rfl⟩
    rw [hy] at hdx
    subst hdx
    have htd:((18446744073709551615:Int) - (y:Int)).tdiv 10 = (18446744073709551615 - (y:Int)) / 10:=Int.tdiv_eq_ediv_of_nonneg (by omega)
    rw [hfr] at hk1 hk2
    have hvl:valF 10 v (c :: fr D10 r) = valF 10 (v * 10 + y) (fr D10 r):=by show valF 10 (v * 10 + digF c) _ = _; rw [hy]
    rw [hvl] at hk1 hk2
    by_cases hov:18446744073709551616 ≤ v * 10 + y
    · have hbig:=zLr 10 (by omega) (fr D10 r) (v * 10 + y)
      refine W.loop ?_
      repeat (first | refine st_ rfl ?_ | ((first | refine rg_ ?_ | refine go_ ?_); refine gw_ (by simp (disch:=omega) [hX,hg,hY,hce,hc0,hm,hM2,hMS,hmp,zAh,htd]; rfl) ?_) | (refine DG _ ?_ _ fun n2 tyn2 hn2 hun2 => ⟨rfl,?_⟩; exact fit_; (try dsimp only at hn2)) | (refine zEc s (i:Int) 0 t _ _ _ p d ?_ ?_ ?_ _ fun n3 tyn3 hn3 hun3 => ⟨rfl,?_⟩; exact fit_; (focus (((first | exact hg | exact hG _ | (try dsimp only); exact hg)); done)); exact om_; (try dsimp only at hn3)))
      all_goals ((try refine W.ret ?_); (try simp only [zAd,zA3,zAb,hMS]); refine hk2 _ _ _ _ _ _ _ _ ?_ ?_ ?_; omega; exact ut_; omega)
    · have hnext:∀ (h':CHeap) (w4 w5 w7 w9:CVal) (z:Int),h'.ents = zA2 h.ents p (lx s ((i:Int) + 1) 0 t) → z = ((v * 10 + y:Nat):Int) → h.next ≤ h'.next → zA9 h'.tys h'.next → W tree.getF zDv ⟨[.ptr p d 0,v1,.int .i64 at',v3,w4,w5,.int .u64 10,w7,.int .u64 z,w9,.ptr m dm 0,v11,v12],h',[]⟩ Q:=by
       intro h' w4 w5 w7 w9 z e1 e0 e2 e3
       subst e0
       have e4:((i:Int) + 1) = ((i + 1:Nat):Int):=by omega
       rw [e4] at e1
       refine ih (i + 1) (v * 10 + y) (zB9 hd) (by omega) (by omega) h' w4 w5 w7 w9 (by rw [e1]; exact hG _) (by rw [e1]; exact hM2 _) ⟨by rw [e1]; exact hu.set.le e2,e3⟩ (by omega) (by omega) ?_ ?_
       · intro n' ty u4 u5 u7 u9 g1 g2 g3
         rw [e1,zA4]
         have:=hk1 n' ty u4 u5 u7 u9 (by omega) g2 g3
         rw [show i + (c :: fr D10 r).length = i + 1 + (fr D10 r).length by simp; omega] at this
         exact this
       · intro n' ty u4 u5 u7 u8 u9 j g1 g2 g3
         rw [e1,zA4]
         exact hk2 n' ty u4 u5 u7 u8 u9 j (by omega) g2 g3
      refine W.loop ?_
      repeat (first | refine st_ rfl ?_ | ((first | refine rg_ ?_ | refine go_ ?_); refine gw_ (by simp (disch:=omega) [hX,hg,hY,hce,hc0,hm,hM2,hMS,hmp,zAh,htd]; rfl) ?_) | (refine DG _ ?_ _ fun n2 tyn2 hn2 hun2 => ⟨rfl,?_⟩; exact fit_; (try dsimp only at hn2)))
      show W tree.getF zDv (dropped true _ _) Q
      generalize e:dropped .. = r0
      simp (disch:=omega) [hX,hg,hY,hce,hc0,hm,hM2,hMS,hmp,zAh] at e
      subst e
      try dsimp only
      refine hnext _ _ _ _ _ _ ?_ ?_ ?_ ?_
      · rfl
      · exact om_
      · exact om_
      · exact zA9.le (by assumption) om_
  · have hfr:fr D10 (c :: r) = []:=fr_no (by rw [dig_in10,hx]; simpa using hin)
    have hl0:(fr D10 (c :: r)).length = 0:=by rw [hfr]; rfl
    have e0:i + (fr D10 (c :: r)).length = i:=by omega
    rw [e0,zAe hg] at hk1
    rw [hfr] at hk1
    have hmx:-1 ≤ x ∧ x < 16:=by
     have:=zDn (p:=fun c => decide (-1 ≤ dgI c ∧ dgI c < 16)) (by decide +kernel) c
     rw [← hx]; simpa using this
    by_cases hx0:x < 0
    · refine W.loop ?_
      repeat (first | refine st_ rfl ?_ | ((first | refine rg_ ?_ | refine go_ ?_); refine gw_ (by simp (disch:=omega) [hX,hg,hY,hce,hc0,hm,hM2,hMS,hmp,zAh]; rfl) ?_) | (refine DG _ ?_ _ fun n2 tyn2 hn2 hun2 => ⟨rfl,?_⟩; exact fit_; (try dsimp only at hn2)))
      all_goals ((try simp only [zAd,zA3,zAb]); refine hk1 _ _ _ _ _ _ ?_ ?_ ?_; omega; exact ut_; exact hv)
    · refine W.loop ?_
      repeat (first | refine st_ rfl ?_ | ((first | refine rg_ ?_ | refine go_ ?_); refine gw_ (by simp (disch:=omega) [hX,hg,hY,hce,hc0,hm,hM2,hMS,hmp,zAh]; rfl) ?_) | (refine DG _ ?_ _ fun n2 tyn2 hn2 hun2 => ⟨rfl,?_⟩; exact fit_; (try dsimp only at hn2)))
      all_goals ((try simp only [zAd,zA3,zAb]); refine hk1 _ _ _ _ _ _ ?_ ?_ ?_; omega; exact ut_; exact hv)
theorem ref_dig16 (s:B8) (hs:s.length < 60000) (p d m dm:Nat) (t at':Int) (hmp:m ≠ p) (Q:QT) (v1 v3 v11 v12:CVal):∀ (r:B8) (i v:Nat),s.drop i = r → i + r.length = s.length → v < 18446744073709551616 → ∀ (h:CHeap) (v4 v5 v7 v9:CVal),zA1 h.ents p = some (lx s (i:Int) 0 t) → zA1 h.ents m = some Z4 → Fit h → p < h.next → m < h.next →
    (∀ n' ty w4 w5 w7 w9,h.next ≤ n' → zA9 ty n' → valF 16 v (fr zB3 r) < 18446744073709551616 → Q (.exit 0) ⟨[.ptr p d 0,v1,.int .i64 at',v3,w4,w5,.int .u64 16,w7,.int .u64 (valF 16 v (fr zB3 r):Nat),w9,.ptr m dm 0,v11,v12],⟨zA2 h.ents p (lx s ((i + (fr zB3 r).length:Nat):Int) 0 t),n',ty⟩,[]⟩) →
    (∀ n' ty w4 w5 w7 w8 w9 (j:Int),h.next ≤ n' → zA9 ty n' → 18446744073709551616 ≤ valF 16 v (fr zB3 r) → Q .ret ⟨[.ptr p d 0,v1,.int .i64 at',v3,w4,w5,.int .u64 16,w7,w8,w9,.ptr m dm 0,v11,v12],⟨zA2 h.ents p (lx s j 3 at'),n',ty⟩,[]⟩) →
    W tree.getF zDv ⟨[.ptr p d 0,v1,.int .i64 at',v3,v4,v5,.int .u64 16,v7,.int .u64 (v:Int),v9,.ptr m dm 0,v11,v12],h,[]⟩ Q:=by
 intro r
 induction r with
 | nil =>
  intro i v hd hlen hv h v4 v5 v7 v9 hg hm hf hp hpm hk1 hk2
  simp only [List.length_nil,Nat.add_zero] at hlen
  have e0:i + (fr zB3 []).length = i:=rfl
  rw [e0,zAe hg] at hk1
  obtain ⟨hu,hut,hX⟩:=fx4 hf
  have hY:=fx5 hf hg; have ⟨hG,hD2,hC2,hN2⟩:=hY
  have hM2:∀ x,zA1 (zA2 h.ents p x) m = some Z4:=fun x => by rw [zA0 hmp]; exact hm
  have hMS:∀ x,zA2 (zA2 h.ents p x) m Z4 = zA2 h.ents p x:=fun x => zAe (hM2 x)
  refine W.loop ?_
  repeat (first | refine st_ rfl ?_ | ((first | refine rg_ ?_ | refine go_ ?_); refine gw_ (by simp (disch:=omega) [hX,hg,hY,hm,hM2,hMS,hmp,zAh]; rfl) ?_))
  all_goals ((try simp only [zAd,zA3,zAb]); refine hk1 _ _ _ _ _ _ ?_ ?_ ?_; omega; exact ut_; exact hv)
 | cons c r ih =>
  intro i v hd hlen hv h v4 v5 v7 v9 hg hm hf hp hpm hk1 hk2
  simp only [List.length_cons] at hlen
  have hc0:=zB0 hd
  obtain ⟨hi,hce⟩:=List.getElem?_eq_some_iff.1 hc0
  obtain ⟨hu,hut,hX⟩:=fx4 hf
  have hY:=fx5 hf hg; have ⟨hG,hD2,hC2,hN2⟩:=hY
  have hM2:∀ x,zA1 (zA2 h.ents p x) m = some Z4:=fun x => by rw [zA0 hmp]; exact hm
  have hMS:∀ x,zA2 (zA2 h.ents p x) m Z4 = zA2 h.ents p x:=fun x => zAe (hM2 x)
  have DG:=zHz c
  obtain ⟨x,hx⟩:∃ x,dgI c = x:=⟨_,rfl⟩
  rw [hx] at DG
  by_cases hin:0 ≤ x ∧ x < 16
  · obtain ⟨hx0,hx1⟩:=hin
    have hfr:fr zB3 (c :: r) = c :: fr zB3 r:=zJj (by rw [dig_in16]; simp [hx,hx0,hx1])
    have hdx:=zLm c (by omega)
    rw [hx] at hdx
    obtain ⟨y,hy⟩:∃ y,digF c = y:=⟨_,rfl⟩
    rw [hy] at hdx
    subst hdx
    have htd:((18446744073709551615:Int) - (y:Int)).tdiv 16 = (18446744073709551615 - (y:Int)) / 16:=Int.tdiv_eq_ediv_of_nonneg (by omega)
    rw [hfr] at hk1 hk2
    have hvl:valF 16 v (c :: fr zB3 r) = valF 16 (v * 16 + y) (fr zB3 r):=by show valF 16 (v * 16 + digF c) _ = _; rw [hy]
    rw [hvl] at hk1 hk2
    by_cases hov:18446744073709551616 ≤ v * 16 + y
    · have hbig:=zLr 16 (by omega) (fr zB3 r) (v * 16 + y)
      refine W.loop ?_
      repeat (first | refine st_ rfl ?_ | ((first | refine rg_ ?_ | refine go_ ?_); refine gw_ (by simp (disch:=omega) [hX,hg,hY,hce,hc0,hm,hM2,hMS,hmp,zAh,htd]; rfl) ?_) | (refine DG _ ?_ _ fun n2 tyn2 hn2 hun2 => ⟨rfl,?_⟩; exact fit_; (try dsimp only at hn2)) | (refine zEc s (i:Int) 0 t _ _ _ p d ?_ ?_ ?_ _ fun n3 tyn3 hn3 hun3 => ⟨rfl,?_⟩; exact fit_; (focus (((first | exact hg | exact hG _ | (try dsimp only); exact hg)); done)); exact om_; (try dsimp only at hn3)))
      all_goals ((try refine W.ret ?_); (try simp only [zAd,zA3,zAb,hMS]); refine hk2 _ _ _ _ _ _ _ _ ?_ ?_ ?_; omega; exact ut_; omega)
    · have hnext:∀ (h':CHeap) (w4 w5 w7 w9:CVal) (z:Int),h'.ents = zA2 h.ents p (lx s ((i:Int) + 1) 0 t) → z = ((v * 16 + y:Nat):Int) → h.next ≤ h'.next → zA9 h'.tys h'.next → W tree.getF zDv ⟨[.ptr p d 0,v1,.int .i64 at',v3,w4,w5,.int .u64 16,w7,.int .u64 z,w9,.ptr m dm 0,v11,v12],h',[]⟩ Q:=by
       intro h' w4 w5 w7 w9 z e1 e0 e2 e3
       subst e0
       have e4:((i:Int) + 1) = ((i + 1:Nat):Int):=by omega
       rw [e4] at e1
       refine ih (i + 1) (v * 16 + y) (zB9 hd) (by omega) (by omega) h' w4 w5 w7 w9 (by rw [e1]; exact hG _) (by rw [e1]; exact hM2 _) ⟨by rw [e1]; exact hu.set.le e2,e3⟩ (by omega) (by omega) ?_ ?_
       · intro n' ty u4 u5 u7 u9 g1 g2 g3
         rw [e1,zA4]
         have:=hk1 n' ty u4 u5 u7 u9 (by omega) g2 g3
         rw [show i + (c :: fr zB3 r).length = i + 1 + (fr zB3 r).length by simp; omega] at this
         exact this
       · intro n' ty u4 u5 u7 u8 u9 j g1 g2 g3
         rw [e1,zA4]
         exact hk2 n' ty u4 u5 u7 u8 u9 j (by omega) g2 g3
      refine W.loop ?_
      repeat (first | refine st_ rfl ?_ | ((first | refine rg_ ?_ | refine go_ ?_); refine gw_ (by simp (disch:=omega) [hX,hg,hY,hce,hc0,hm,hM2,hMS,hmp,zAh,htd]; rfl) ?_) | (refine DG _ ?_ _ fun n2 tyn2 hn2 hun2 => ⟨rfl,?_⟩; exact fit_; (try dsimp only at hn2)))
      show W tree.getF zDv (dropped true _ _) Q
      generalize e:dropped .. = r0
      simp (disch:=omega) [hX,hg,hY,hce,hc0,hm,hM2,hMS,hmp,zAh] at e
      subst e
      try dsimp only
      refine hnext _ _ _ _ _ _ ?_ ?_ ?_ ?_
      · rfl
      · exact om_
      · exact om_
      · exact zA9.le (by assumption) om_
  · have hfr:fr zB3 (c :: r) = []:=fr_no (by rw [dig_in16,hx]; simpa using hin)
    have hl0:(fr zB3 (c :: r)).length = 0:=by rw [hfr]; rfl
    have e0:i + (fr zB3 (c :: r)).length = i:=by omega
    rw [e0,zAe hg] at hk1
    rw [hfr] at hk1
    have hmx:-1 ≤ x ∧ x < 16:=by
     have:=zDn (p:=fun c => decide (-1 ≤ dgI c ∧ dgI c < 16)) (by decide +kernel) c
     rw [← hx]; simpa using this
    by_cases hx0:x < 0
    · refine W.loop ?_
      repeat (first | refine st_ rfl ?_ | ((first | refine rg_ ?_ | refine go_ ?_); refine gw_ (by simp (disch:=omega) [hX,hg,hY,hce,hc0,hm,hM2,hMS,hmp,zAh]; rfl) ?_) | (refine DG _ ?_ _ fun n2 tyn2 hn2 hun2 => ⟨rfl,?_⟩; exact fit_; (try dsimp only at hn2)))
      all_goals ((try simp only [zAd,zA3,zAb]); refine hk1 _ _ _ _ _ _ ?_ ?_ ?_; omega; exact ut_; exact hv)
    · exfalso; omega
end Go.Proofs.YtcokdlfmnhjngaaGreat.IrE
