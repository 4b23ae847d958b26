/- A deterministic interpreter over values, proved sound against the model's rules (part 7 of 7): what a run of it gives, a call in the model gives. -/
import Derived.Test.YtafeofghkhhhkaaGreatCi6
import Derived.Shelf.Strings.Search2
import Derived.Handed
import Derived.SizedLaws
import Derived.Shelf.Vars
import Derived.Stop.LaidErr
import Derived.Shelf.Strconv.Clone
import Derived.ChangeSlices
import Derived.ChangeShapes
set_option linter.unusedVariables false
set_option linter.unusedSimpArgs false
namespace Go.CI
open Go.Shelf Go.RowKit Go.Lib Go.Proofs
section
variable {P:Program} {base:Base} {G:Gh} {h:CHeap} {w:World} {ρ:Ren}
set_option maxHeartbeats 1000000 in
set_option maxHeartbeats 1000000 in
end
end Go.CI
namespace Go.CI
open Go.Shelf Go.RowKit Go.Lib Go.Proofs
section
variable {P:Program} {base:Base}
end
end Go.CI
namespace Go.CI
open Go.RowKit
section
variable {P:Program} {base:Base}
theorem TOk.getF {H:Hints} {t:CTree} (h:TOk P H base t.get):TOk P H base t.getF:=by
 have e:t.getF=t.get:=funext fun f=>t.getF_eq f
 rw [e];exact h
end
end Go.CI
namespace Go.CI
open Go.Shelf Go.RowKit Go.Lib Go.Proofs
section
variable {P:Program} {base:Base} {ρ:Ren}
end
end Go.CI
namespace Go
open Go.RowKit
variable {H:Type} {enc:TypeId × Value->H}
namespace CI
def Fw (w:World) (ab o:Nat):Option CVal:=match w.cell? ⟨ab,o,none⟩ with
 | some (.int k n)=>some (.int k n)
 | some (.string s)=>some (.str s.data.toList)
 | some (.iface t (.pointer (some a)))=>match w.cell? a with
  | some (.string s)=>some (.ifc t (.cptr [.str s.data.toList] 0))
  | _=>none
 | _=>none
theorem zS5 {w:World} {ab o:Nat} {c:CVal} (h:Fw w ab o=some c):Holds (Gh.of (Fw w)) w ab o c:=by
 unfold Fw at h
 split at h
 . rename_i k n hc;cases h;exact ⟨_,hc,.int _ _⟩
 . rename_i s hc;cases h;exact ⟨_,hc,.str _⟩
 . rename_i t a hc
   split at h
   . rename_i s hs
     cases h
     have hsp:a.spot=none:=World.cell?_spot hs
     obtain ⟨b,p,sp⟩:=a
     have hsp:sp=none:=hsp
     subst hsp
     refine ⟨_,hc,.ifc (VR.cptr (o:=0) (ao:=p) fun i c hi=>?_)⟩
     match i,hi with
     | 0,hi=>cases hi;exact ⟨rfl,by show Fw w b (p+0)=_;unfold Fw;rw [Nat.add_zero,hs]⟩
     | i+1,hi=>simp at hi
   . cases h
 . cases h
def GlOk (w:World) (gl:List (Nat × List CVal)):Prop:=∀ g cs,zD5 gl g=some cs->∀ (i:Nat) (c:CVal),cs[i]? = some c->c.flat=true/\Fw w g i=some c
theorem GlOk.nil {w:World}:GlOk w []:=fun g cs h=>by cases h
theorem GlOk.cons {w:World} {g:Nat} {c:CVal} {gl:List (Nat × List CVal)} (hc:c.flat=true) (h:Fw w g 0=some c) (r:GlOk w gl):GlOk w ((g,[c])::gl):=fun g' cs h' i c' hi=>by
 simp only [zD5] at h'
 split at h'
 . rename_i e
   cases h'
   have e:g=g':=by simpa using e
   subst e
   match i,hi with
   | 0,hi=>cases hi;exact ⟨hc,h⟩
   | i+1,hi=>simp at hi
 . exact r g' cs h' i c' hi
theorem GlOk.int {w:World} {g:Nat} {k:IntKind} {m:Int} {gl:List (Nat × List CVal)} (h:w.cell? ⟨g,0,none⟩=some (.int k m)) (r:GlOk w gl):GlOk w ((g,[.int k m])::gl) :=
 .cons rfl (by unfold Fw;rw [h]) r
theorem begins_w {w:World} {gl:List (Nat × List CVal)} (h:GlOk w gl):Begins w gl (Fw w):=⟨fun ab o c hc=>zS5 hc,h⟩
theorem zDn.cons {a:List (Nat × List CVal)} {g:Nat} {c:List CVal} (h:zD5 a g=none):zDn a ((g,c)::a):=fun g' cs h'=>by
 unfold zD5
 by_cases e:g=g'
 . subst e;rw [h] at h';cases h'
 . rw [if_neg (by simpa using e)];exact h'
end CI
end Go
namespace Go.CI
open Go.Shelf Go.RowKit Go.Lib Go.Proofs
theorem Inv.below {base:Base} {G:Gh} {h:CHeap} {w w':World} (I:Inv base G h w) (hb:Below w.heap.size w w'):Inv base G h w':=by
 obtain ⟨own,I⟩:=I
 have hc:∀ ab i v,w.cell? ⟨ab,i,none⟩=some v->w'.cell? ⟨ab,i,none⟩=some v:=fun ab i v hv=>by rw [hb.cell (p:=⟨ab,i,none⟩) (zE3 hv)];exact hv
 have hl:∀ ab i,Live w ab i->Live w' ab i:=fun ab i ⟨⟨v,h1⟩,h2⟩=>⟨⟨v,hc _ _ _ h1⟩,by rw [hb.frozen (p:=⟨ab,i,none⟩) (zE3 h1)];exact h2⟩
 have hh:∀ ab i c,Holds G w ab i c->Holds G w' ab i c:=fun ab i c ⟨v,h1,h2⟩=>⟨v,hc _ _ _ h1,h2⟩
 have hg:∀ (ab:Nat) (o:Obj),w.heap[ab]? = some o->w'.heap[ab]? = some o:=fun ab o ho=>by
  rw [hb.block ab (by rcases Nat.lt_or_ge ab w.heap.size with h | h;exact h;rw [Array.getElem?_eq_none h] at ho;cases ho)];exact ho
 have hsh:∀ ab x,w.shape? ab=some x->w'.shape? ab=some x:=fun ab x hx=>by
  unfold World.shape? at hx ⊢
  cases ho:w.heap[ab]? with
  | none=>rw [ho] at hx;cases hx
  | some o=>rw [hg ab o ho];rw [ho] at hx;exact hx
 have hrb:∀ ab T,RowB w ab T->RowB w' ab T:=fun ab T ⟨c,lo,hi,h1,h2⟩=>⟨c,lo,hi,hg _ _ h1,h2⟩
 refine ⟨own,fun ab o c hf=>⟨(I.fzs ab o c hf).1,hh _ _ _ (I.fzs ab o c hf).2⟩,fun b ab k hm=>⟨(I.mus b ab k hm).1,(I.mus b ab k hm).2.1,fun i hi=>⟨((I.mus b ab k hm).2.2.1 i hi).1,hl _ _ ((I.mus b ab k hm).2.2.1 i hi).2⟩,fun hk=>⟨((I.mus b ab k hm).2.2.2.1 hk).1,let ⟨es,ck,h1⟩:=((I.mus b ab k hm).2.2.2.1 hk).2;⟨es,ck,hg _ _ h1⟩⟩,fun hk=>hsh _ _ ((I.mus b ab k hm).2.2.2.2 hk)⟩,I.rws,I.tks,fun b o ho=>⟨(I.ents b o ho).1,?_⟩,fun ab o x hx=>Nat.lt_of_lt_of_le (I.old ab o x hx) hb.size,Nat.le_trans I.top hb.size,I.nod,
  fun b v x hx=>⟨Nat.lt_of_lt_of_le (I.cln b v x hx).1 hb.size,fun st T n hq=>by
   have hlt:=(I.cln b v x hx).1
   rw [hb.frozen (p:=⟨x.1,n,none⟩) hlt]
   refine (I.cln b v x hx).2 st T n ?_
   unfold World.shape? at hq ⊢
   rw [<- hb.block x.1 hlt];exact hq⟩,I.gls,I.tyk,fun b T ht v x hx=>⟨hrb _ _ (I.tys b T ht v x hx).1,(I.tys b T ht v x hx).2⟩⟩
 have he:=(I.ents b o ho).2
 cases o with
 | cells cs=>exact fun ab k hm=>⟨(he ab k hm).1,fun i c hi=>⟨((he ab k hm).2 i c hi).1,hh _ _ _ ((he ab k hm).2 i c hi).2⟩⟩
 | row ver es=>exact ⟨he.1,fun ab ao k cap hr=>let ⟨h1,h2,h3,h4⟩:=he.2 ab ao k cap hr;⟨h1,h2,fun i hi=>⟨(h3 i hi).1,hl _ _ (h3 i hi).2⟩,fun i e hie=>⟨(h4 i e hie).1,fun j c hj=>⟨((h4 i e hie).2 j c hj).1,hh _ _ _ ((h4 i e hie).2 j c hj).2⟩⟩⟩⟩
 | frow ver es=>exact ⟨he.1,fun ab ao k cap hr=>let ⟨h0,h1,h2,h3⟩:=he.2 ab ao k cap hr;⟨h0,h1,fun i hi=>⟨(h2 i hi).1,Nat.lt_of_lt_of_le (h2 i hi).2 hb.size⟩,fun i e hie=>⟨(h3 i e hie).1,fun j c hj=>⟨((h3 i e hie).2 j c hj).1,hh _ _ _ ((h3 i e hie).2 j c hj).2⟩⟩⟩⟩
 | map ck kvs=>exact fun ab hm=>let ⟨es,h1,h2⟩:=he ab hm;⟨es,hg _ _ h1,h2⟩
 | tok ver=>exact ⟨he.1,fun ab e k room ht=>⟨(he.2 ab e k room ht).1,fun i hi=>⟨((he.2 ab e k room ht).2 i hi).1,hl _ _ ((he.2 ab e k room ht).2 i hi).2⟩⟩⟩
section
variable {P:Program}
end
def zXn (xs:List CVal) (h:CHeap):Option (CVal × CHeap) :=
 match xs with
 | [.str s]=>if decide (s.length<=281474976710656) then some (.str s,h) else none
 | _=>none
section
variable {P:Program} {base:Base} {ρ:Ren}
end
end Go.CI
namespace Go.CI
def zNn (ex ex':CCode->CSt->Option (CExit × CSt)):Prop:=∀ c st r,ex c st=some r->ex' c st=some r
def zTp (cf cf':Nat->List CVal->CHeap->Option (CVal × CHeap)):Prop:=∀ f a h r,cf f a h=some r->cf' f a h=some r
section
variable {T:Nat->Option CFn}
theorem zGt {ex ex':CCode->CSt->Option (CExit × CSt)} (hx:zNn ex ex') {cd cd':List (Nat × List CVal)->CHeap->Option CHeap} (hcd:∀ d h r,cd d h=some r->cd' d h=some r)
    {fn:CFunc} {args:List CVal} {h:CHeap} {r:CVal × CHeap} (hr:zCd ex cd fn args h=some r):zCd ex' cd' fn args h=some r:=by
 unfold zCd at hr ⊢
 split at hr
 . rename_i hn
   rw [if_pos hn]
   cases hb:ex fn.body ⟨fn.params.map (initVar args),h,[]⟩ with
   | none=>rw [hb] at hr;cases hr
   | some p =>
    rw [hb] at hr
    rw [hx _ _ _ hb]
    obtain ⟨x,st⟩:=p
    cases hc:cd st.defs st.h with
    | none=>cases x <;> simp [hc] at hr
    | some h1=>cases x <;> simp only [hc,hcd _ _ _ hc] at hr ⊢ <;> exact hr
 . cases hr
theorem zN8:∀ (d:List (Nat × List CVal)) (h:CHeap) (r:CHeap),zI9 d h=some r->zI9 d h=some r:=fun _ _ _ h=>h
theorem zDl {ex ex':CCode->CSt->Option (CExit × CSt)} (hx:zNn ex ex'):∀ (d:List (Nat × List CVal)) (h:CHeap) (r:CHeap),zEf T ex d h=some r->zEf T ex' d h=some r
 | [],h,r,hr=>hr
 | (f,args)::d,h,r,hr=>by
  unfold zEf at hr ⊢
  cases hc:zEx T ex f args h with
  | none=>rw [hc] at hr;cases hr
  | some p =>
   have:zEx T ex' f args h=some p:=by
    unfold zEx at hc ⊢
    split at hc
    . exact zGt hx zN8 hc
    . cases hc
   rw [hc] at hr
   rw [this]
   exact zDl hx d _ _ hr
theorem zGh {ex ex':CCode->CSt->Option (CExit × CSt)} (hx:zNn ex ex'):zTp (zDp T ex) (zDp T ex'):=fun f a h r hr=>by
 unfold zDp at hr ⊢
 split at hr
 . exact zGt hx (zDl hx) hr
 . exact hr
 . cases hr
theorem zOy {cf cf':Nat->List CVal->CHeap->Option (CVal × CHeap)} (hc:zTp cf cf') {ev:COpnd->CVal} {h:CHeap} {id:Nat} {op:COp} {r:CVal × CHeap} (hr:zBq cf ev h id op=some r):zBq cf' ev h id op=some r:=by
 cases op with
 | lit m a z n ps=>cases m <;> exact hr
 | mkslice m a z l c=>cases m <;> exact hr
 | s2b m x=>cases m <;> exact hr
 | call keep f args=>exact hc _ _ _ _ hr
 | callv keep x args =>
  unfold zBq at hr ⊢
  cases hx:ev x <;> simp only [hx] at hr ⊢ <;> try (cases hr;done)
  rename_i f a b
  cases f <;> simp only at hr ⊢ <;> first | exact hc _ _ _ _ hr | (cases hr;done)
 | _=>exact hr
theorem zF6 {cf cf':Nat->List CVal->CHeap->Option (CVal × CHeap)} (hc:zTp cf cf') {tm:List CVal} {id:Nat} {o:COper} {s r:RS} (hr:zBo cf tm id o s=some r):zBo cf' tm id o s=some r:=by
 unfold zBo at hr ⊢
 split at hr
 . rename_i hg
   rw [if_pos hg]
   cases hcls:o.op.cls <;> simp only [hcls] at hr ⊢ <;> try exact hr
   cases he:zBq cf (zAq tm s.vals) s.h id o.op with
   | none=>rw [he] at hr;cases hr
   | some p=>rw [zOy hc he];rw [he] at hr;exact hr
 . rename_i hg
   rw [if_neg hg];exact hr
theorem zDg {cf cf':Nat->List CVal->CHeap->Option (CVal × CHeap)} (hc:zTp cf cf') {tm:List CVal}:∀ {ops:List COper} {id:Nat} {s r:RS},zB8 cf tm id ops s=some r->zB8 cf' tm id ops s=some r
 | [],_,_,_,hr=>hr
 | o::ops,id,s,r,hr=>by
  unfold zB8 at hr ⊢
  cases he:zBo cf tm id o s with
  | none=>rw [he] at hr;cases hr
  | some s'=>rw [zF6 hc he];rw [he] at hr;exact zDg hc hr
theorem zL4 {ex ex':CCode->CSt->Option (CExit × CSt)} (hx:zNn ex ex'):zNn (zAx T ex) (zAx T ex'):=fun c st r hr=>by
 cases c with
 | region ops wb chk sw =>
  simp only [zAx] at hr ⊢
  cases he:zB8 (zDp T ex) st.tm st.h.next ops ⟨[],{ st.h with next:=st.h.next+ops.length },st.defs,[]⟩ with
  | none=>rw [he] at hr;cases hr
  | some s=>rw [zDg (zGh hx) he];rw [he] at hr;exact hr
 | seq a b =>
  simp only [zAx] at hr ⊢
  cases he:ex a st with
  | none=>rw [he] at hr;cases hr
  | some p =>
   rw [hx _ _ _ he];rw [he] at hr
   obtain ⟨x,st'⟩:=p
   cases x <;> simp only at hr ⊢ <;> first | exact hx _ _ _ hr | exact hr
 | cond c a b =>
  simp only [zAx] at hr ⊢
  generalize zAq st.tm [] c=v at hr ⊢
  cases v with
  | bool q=>cases q <;> exact hx _ _ _ hr
  | _=>cases hr
 | block i b =>
  simp only [zAx] at hr ⊢
  cases he:ex b st with
  | none=>rw [he] at hr;cases hr
  | some p=>rw [hx _ _ _ he];rw [he] at hr;exact hr
 | loop d b =>
  simp only [zAx] at hr ⊢
  cases he:ex b st with
  | none=>rw [he] at hr;cases hr
  | some p =>
   rw [hx _ _ _ he];rw [he] at hr
   obtain ⟨x,st'⟩:=p
   cases x <;> simp only at hr ⊢ <;> first | exact hx _ _ _ hr | exact hr
 | skip=>exact hr
 | exit i=>exact hr
 | ret=>exact hr
 | stuck=>exact hr
theorem zDf (n:Nat):exec T (n+1)=zAx T (exec T n):=rfl
theorem zKd:∀ n,zNn (exec T n) (exec T (n+1))
 | 0=>fun c st r hr=>by cases hr
 | n+1=>zL4 (zKd n)
theorem zC8 {n m:Nat} (h:n<=m):zNn (exec T n) (exec T m):=by
 induction h with
 | refl=>exact fun _ _ _ h=>h
 | step _ ih=>exact fun c st r hr=>zKd _ c st r (ih c st r hr)
def Ev (T:Nat->Option CFn) (c:CCode) (st:CSt) (x:CExit) (st':CSt):Prop:=∃ n,exec T n c st=some (x,st')
def Cl (T:Nat->Option CFn) (f:Nat) (args:List CVal) (h:CHeap) (v:CVal) (h':CHeap):Prop:=∃ n,zDp T (exec T n) f args h=some (v,h')
def Ops (T:Nat->Option CFn) (tm:List CVal) (id:Nat) (ops:List COper) (s s':RS):Prop:=∃ n,zB8 (zDp T (exec T n)) tm id ops s=some s'
theorem Ev.skip {st:CSt}:Ev T .skip st .normal st:=⟨1,rfl⟩
theorem Ev.ret {st:CSt}:Ev T .ret st .ret st:=⟨1,rfl⟩
theorem Ev.exit {st:CSt} {i:Nat}:Ev T (.exit i) st (.exit i) st:=⟨1,rfl⟩
theorem Ev.seq {a b:CCode} {st st1 st':CSt} {x:CExit} (h1:Ev T a st .normal st1) (h2:Ev T b st1 x st'):Ev T (.seq a b) st x st':=by
 obtain ⟨n,h1⟩:=h1
 obtain ⟨m,h2⟩:=h2
 refine ⟨max n m+1,?_⟩
 rw [zDf]
 simp only [zAx]
 rw [zC8 (Nat.le_max_left n m) _ _ _ h1]
 exact zC8 (Nat.le_max_right n m) _ _ _ h2
theorem Ev.seq_out {a b:CCode} {st st':CSt} {x:CExit} (h1:Ev T a st x st') (hx:x≠.normal):Ev T (.seq a b) st x st':=by
 obtain ⟨n,h1⟩:=h1
 refine ⟨n+1,?_⟩
 rw [zDf]
 simp only [zAx]
 rw [h1]
 cases x <;> first | rfl | exact absurd rfl hx
theorem Ev.cond_true {c:COpnd} {a b:CCode} {st st':CSt} {x:CExit} (hc:zAq st.tm [] c=.bool true) (h:Ev T a st x st'):Ev T (.cond c a b) st x st':=by
 obtain ⟨n,h⟩:=h
 refine ⟨n+1,?_⟩
 rw [zDf]
 simp only [zAx]
 rw [hc];exact h
theorem Ev.cond_false {c:COpnd} {a b:CCode} {st st':CSt} {x:CExit} (hc:zAq st.tm [] c=.bool false) (h:Ev T b st x st'):Ev T (.cond c a b) st x st':=by
 obtain ⟨n,h⟩:=h
 refine ⟨n+1,?_⟩
 rw [zDf]
 simp only [zAx]
 rw [hc];exact h
def zB3 (id:Nat):CExit->CExit
 | .exit i=>if i=id then .normal else .exit i
 | x=>x
theorem Ev.block {id:Nat} {c:CCode} {st st':CSt} {x:CExit} (h:Ev T c st x st'):Ev T (.block id c) st (zB3 id x) st':=by
 obtain ⟨n,h⟩:=h
 refine ⟨n+1,?_⟩
 rw [zDf]
 simp only [zAx]
 rw [h]
 cases x <;> simp only [zB3]
 split <;> rfl
def dropped (drop:Bool) (n:Nat) (st:CSt):CSt:=if drop then { st with h:={ st.h with ents:=zA5 st.h.ents n } } else st
theorem Ev.loop_step {drop:Bool} {c:CCode} {st st1 st':CSt} {x:CExit} (h1:Ev T c st .normal st1) (h2:Ev T (.loop drop c) (dropped drop st.h.next st1) x st'):Ev T (.loop drop c) st x st':=by
 obtain ⟨n,h1⟩:=h1
 obtain ⟨m,h2⟩:=h2
 refine ⟨max n m+1,?_⟩
 rw [zDf]
 simp only [zAx]
 rw [zC8 (Nat.le_max_left n m) _ _ _ h1]
 exact zC8 (Nat.le_max_right n m) _ _ _ h2
theorem Ev.loop_out {drop:Bool} {c:CCode} {st st':CSt} {x:CExit} (h1:Ev T c st x st') (hx:x≠.normal):Ev T (.loop drop c) st x st':=by
 obtain ⟨n,h1⟩:=h1
 refine ⟨n+1,?_⟩
 rw [zDf]
 simp only [zAx]
 rw [h1]
 cases x <;> first | rfl | exact absurd rfl hx
theorem Ops.nil {tm:List CVal} {id:Nat} {s:RS}:Ops T tm id [] s s:=⟨0,rfl⟩
theorem Ops.plain {tm:List CVal} {id:Nat} {o:COper} {r:List COper} {s s1 s':RS} (h1:zBo (fun _ _ _=>none) tm id o s=some s1) (h2:Ops T tm (id+1) r s1 s'):Ops T tm id (o::r) s s':=by
 obtain ⟨n,h2⟩:=h2
 refine ⟨n,?_⟩
 unfold zB8
 rw [zF6 (cf:=fun _ _ _=>none) (fun _ _ _ _ h=>by cases h) h1]
 exact h2
open Classical in
theorem Ops.call {tm:List CVal} {id:Nat} {o:COper} {r:List COper} {s s1 s':RS} {f:Nat} {args:List CVal} {v:CVal} {h':CHeap} (hc:Cl T f args s.h v h')
    (h1:zBo (fun g a h=>if g=f/\a=args/\h=s.h then some (v,h') else none) tm id o s=some s1) (h2:Ops T tm (id+1) r s1 s'):Ops T tm id (o::r) s s':=by
 obtain ⟨n,hc⟩:=hc
 obtain ⟨m,h2⟩:=h2
 refine ⟨max n m,?_⟩
 unfold zB8
 rw [zF6 (cf:=fun g a h=>if g=f/\a=args/\h=s.h then some (v,h') else none) (fun g a h q hq=>by
  by_cases e:g=f/\a=args/\h=s.h
  . obtain ⟨rfl,rfl,rfl⟩:=e
    simp at hq
    subst hq
    exact zGh (zC8 (Nat.le_max_left n m)) _ _ _ _ hc
  . simp only [if_neg e] at hq;cases hq) h1]
 exact zDg (zGh (zC8 (Nat.le_max_right n m))) h2
theorem Ev.region {ops:List COper} {wb:List (Nat × Nat)} {chk:List (Nat × Nat × Nat)} {sw:List (Nat × Nat)} {st:CSt} {s:RS} (h:Ops T st.tm st.h.next ops ⟨[],{ st.h with next:=st.h.next+ops.length },st.defs,[]⟩ s)
    (hc:(chk.all (zF5 st.tm ops ops.length s.vals (s.h::s.hs).reverse) && sw.all (zGk st.tm ops ops.length s.vals))=true) :
    Ev T (.region ops wb chk sw) st .normal ⟨zBu ops.length s.vals st.tm wb,s.h,s.defs⟩:=by
 obtain ⟨n,h⟩:=h
 refine ⟨n+1,?_⟩
 rw [zDf]
 simp only [zAx]
 rw [h]
 simp only [hc,if_true]
def Defs (T:Nat->Option CFn) (d:List (Nat × List CVal)) (h h':CHeap):Prop:=∃ n,zEf T (exec T n) d h=some h'
theorem Defs.nil {h:CHeap}:Defs T [] h h:=⟨0,rfl⟩
theorem Defs.cons {f:Nat} {fn:CFunc} {args:List CVal} {d:List (Nat × List CVal)} {h h1 h':CHeap} {st:CSt} {x:CExit} {vs:List CVal} {v:CVal} (hf:T f=some (.ir fn)) (hn:args.length=fn.nargs)
    (hb:Ev T fn.body ⟨fn.params.map (initVar args),h,[]⟩ x st) (hx:∀ i,x≠.exit i) (hd:st.defs=[]) (hr:zBr st.h st.tm fn.results=some vs) (hfin:zDx fn h.next (zBs vs) st.h=some (v,h1)) (h2:Defs T d h1 h'):Defs T ((f,args)::d) h h':=by
 obtain ⟨n,hb⟩:=hb
 obtain ⟨m,h2⟩:=h2
 refine ⟨max n m,?_⟩
 unfold zEf
 have:zEx T (exec T (max n m)) f args h=some (v,h1):=by
  unfold zEx
  rw [hf]
  show zCd _ _ _ _ _=_
  unfold zCd
  rw [if_pos hn,zC8 (Nat.le_max_left n m) _ _ _ hb]
  cases x with
  | exit i=>exact absurd rfl (hx i)
  | normal=>simp only [hd,zI9,hr,hfin]
  | ret=>simp only [hd,zI9,hr,hfin]
 rw [this]
 exact zDl (zC8 (Nat.le_max_right n m)) _ _ _ h2
theorem Cl.mk {f:Nat} {fn:CFunc} {args:List CVal} {h h1 h':CHeap} {st:CSt} {x:CExit} {vs:List CVal} {v:CVal} (hf:T f=some (.ir fn)) (hn:args.length=fn.nargs)
    (hb:Ev T fn.body ⟨fn.params.map (initVar args),h,[]⟩ x st) (hx:∀ i,x≠.exit i) (hd:Defs T st.defs st.h h1) (hr:zBr h1 st.tm fn.results=some vs) (hfin:zDx fn h.next (zBs vs) h1=some (v,h')):Cl T f args h v h':=by
 obtain ⟨n,hb⟩:=hb
 obtain ⟨m,hd⟩:=hd
 refine ⟨max n m,?_⟩
 unfold zDp
 rw [hf]
 show zCd _ _ _ _ _=_
 unfold zCd
 rw [if_pos hn,zC8 (Nat.le_max_left n m) _ _ _ hb]
 cases x with
 | exit i=>exact absurd rfl (hx i)
 | normal=>simp only [zDl (zC8 (Nat.le_max_right n m)) _ _ _ hd,hr,hfin]
 | ret=>simp only [zDl (zC8 (Nat.le_max_right n m)) _ _ _ hd,hr,hfin]
theorem Cl.prim {f:Nat} {p:List CVal->CHeap->Option (CVal × CHeap)} {args:List CVal} {h h':CHeap} {v:CVal} (hf:T f=some (.prim p)) (hp:p args h=some (v,h')):Cl T f args h v h':=by
 refine ⟨0,?_⟩
 unfold zDp
 rw [hf];exact hp
end
end Go.CI
namespace Go.CI
section
variable {T:Nat->Option CFn}
def W (T:Nat->Option CFn) (c:CCode) (st:CSt) (Q:CExit->CSt->Prop):Prop:=∃ x st',Ev T c st x st'/\Q x st'
def Wc (T:Nat->Option CFn) (f:Nat) (args:List CVal) (h:CHeap) (K:CVal->CHeap->Prop):Prop:=∃ v h',Cl T f args h v h'/\K v h'
def Wo (T:Nat->Option CFn) (tm:List CVal) (id:Nat) (ops:List COper) (s:RS) (K:RS->Prop):Prop:=∃ s',Ops T tm id ops s s'/\K s'
def zMo (T:Nat->Option CFn) (b:CCode) (Q:CExit->CSt->Prop) (x:CExit) (st:CSt):Prop:=match x with
 | .normal=>W T b st Q
 | x=>Q x st
theorem zBd {b:CCode} {Q:CExit->CSt->Prop} {st:CSt}:zMo T b Q .normal st=W T b st Q:=rfl
theorem zA9 {b:CCode} {Q:CExit->CSt->Prop} {st:CSt}:zMo T b Q .ret st=Q .ret st:=rfl
theorem zAe {b:CCode} {Q:CExit->CSt->Prop} {st:CSt} {i:Nat}:zMo T b Q (.exit i) st=Q (.exit i) st:=rfl
theorem W.skip {st:CSt} {Q:CExit->CSt->Prop} (h:Q .normal st):W T .skip st Q:=⟨_,_,Ev.skip,h⟩
theorem W.ret {st:CSt} {Q:CExit->CSt->Prop} (h:Q .ret st):W T .ret st Q:=⟨_,_,Ev.ret,h⟩
theorem W.exit {st:CSt} {i:Nat} {Q:CExit->CSt->Prop} (h:Q (.exit i) st):W T (.exit i) st Q:=⟨_,_,Ev.exit,h⟩
theorem W.seq {a b:CCode} {st:CSt} {Q:CExit->CSt->Prop} (h:W T a st (zMo T b Q)):W T (.seq a b) st Q:=by
 obtain ⟨x,st1,h1,h2⟩:=h
 cases x with
 | normal=>obtain ⟨y,st2,h3,h4⟩:=h2;exact ⟨y,st2,h1.seq h3,h4⟩
 | ret=>exact ⟨_,_,h1.seq_out (by simp),h2⟩
 | exit i=>exact ⟨_,_,h1.seq_out (by simp),h2⟩
theorem W.cond {c:COpnd} {a b:CCode} {st:CSt} {Q:CExit->CSt->Prop} (h:match zAq st.tm [] c with | .bool true=>W T a st Q | .bool false=>W T b st Q | _=>False):W T (.cond c a b) st Q:=by
 split at h
 . rename_i e;obtain ⟨x,st',h1,h2⟩:=h;exact ⟨x,st',Ev.cond_true e h1,h2⟩
 . rename_i e;obtain ⟨x,st',h1,h2⟩:=h;exact ⟨x,st',Ev.cond_false e h1,h2⟩
 . exact h.elim
theorem W.cond_true {c:COpnd} {a b:CCode} {st:CSt} {Q:CExit->CSt->Prop} (e:zAq st.tm [] c=.bool true) (h:W T a st Q):W T (.cond c a b) st Q:=W.cond (by rw [e];exact h)
theorem W.cond_false {c:COpnd} {a b:CCode} {st:CSt} {Q:CExit->CSt->Prop} (e:zAq st.tm [] c=.bool false) (h:W T b st Q):W T (.cond c a b) st Q:=W.cond (by rw [e];exact h)
theorem W.block {id:Nat} {c:CCode} {st:CSt} {Q:CExit->CSt->Prop} (h:W T c st fun x st'=>Q (zB3 id x) st'):W T (.block id c) st Q:=by
 obtain ⟨x,st',h1,h2⟩:=h
 exact ⟨_,_,h1.block,h2⟩
def zAo (T:Nat->Option CFn) (drop:Bool) (c:CCode) (n:Nat) (Q:CExit->CSt->Prop) (x:CExit) (st:CSt):Prop:=match x with
 | .normal=>W T (.loop drop c) (dropped drop n st) Q
 | x=>Q x st
theorem W.loop {drop:Bool} {c:CCode} {st:CSt} {Q:CExit->CSt->Prop} (h:W T c st (zAo T drop c st.h.next Q)):W T (.loop drop c) st Q:=by
 obtain ⟨x,st1,h1,h2⟩:=h
 cases x with
 | normal=>obtain ⟨y,st2,h3,h4⟩:=h2;exact ⟨y,st2,h1.loop_step h3,h4⟩
 | ret=>exact ⟨_,_,h1.loop_out (by simp),h2⟩
 | exit i=>exact ⟨_,_,h1.loop_out (by simp),h2⟩
theorem W.mono {c:CCode} {st:CSt} {Q R:CExit->CSt->Prop} (h:W T c st Q) (hq:∀ x st',Q x st'->R x st'):W T c st R:=by
 obtain ⟨x,st',h1,h2⟩:=h
 exact ⟨x,st',h1,hq _ _ h2⟩
theorem Wo.nil {tm:List CVal} {id:Nat} {s:RS} {K:RS->Prop} (h:K s):Wo T tm id [] s K:=⟨s,Ops.nil,h⟩
theorem Wo.plain {tm:List CVal} {id:Nat} {o:COper} {r:List COper} {s s1:RS} {K:RS->Prop} (h1:zBo (fun _ _ _=>none) tm id o s=some s1) (h:Wo T tm (id+1) r s1 K):Wo T tm id (o::r) s K:=by
 obtain ⟨s',h2,h3⟩:=h
 exact ⟨s',Ops.plain h1 h2,h3⟩
theorem Wo.all {tm:List CVal} {id:Nat} {ops:List COper} {s s1:RS} {K:RS->Prop} (h1:zB8 (fun _ _ _=>none) tm id ops s=some s1) (h:K s1):Wo T tm id ops s K :=
 ⟨s1,⟨0,zDg (fun _ _ _ _ h=>by cases h) h1⟩,h⟩
theorem zG9 {cf:Nat->List CVal->CHeap->Option (CVal × CHeap)} {tm:List CVal}:∀ {a b:List COper} {id:Nat} {s:RS},zB8 cf tm id (a++b) s=(zB8 cf tm id a s).bind (zB8 cf tm (id+a.length) b)
 | [],b,id,s=>by simp [zB8]
 | o::a,b,id,s=>by
  simp only [List.cons_append,zB8]
  cases zBo cf tm id o s with
  | none=>rfl
  | some s1=>simp only;rw [zG9];simp [Nat.add_comm,Nat.add_left_comm]
theorem Wo.front {tm:List CVal} {id:Nat} {a b:List COper} {s s1:RS} {K:RS->Prop} (h1:zB8 (fun _ _ _=>none) tm id a s=some s1) (h:Wo T tm (id+a.length) b s1 K):Wo T tm id (a++b) s K:=by
 obtain ⟨s',⟨n,h2⟩,h3⟩:=h
 refine ⟨s',⟨n,?_⟩,h3⟩
 rw [zG9,zDg (fun _ _ _ _ h=>by cases h) h1]
 exact h2
theorem Wo.call {tm:List CVal} {id:Nat} {keep:Bool} {f:Nat} {xs:List COpnd} {r:List COper} {s:RS} {K:RS->Prop}
    (h:Wc T f (if keep then xs.map (zAq tm s.vals) else xs.map fun x=>(zAq tm s.vals x).bare) s.h fun v h'=>v.isUndef=false/\Wo T tm (id+1) r { s with vals:=v::s.vals,h:=h',hs:=s.h::s.hs } K) :
    Wo T tm id (⟨.call keep f xs,none⟩::r) s K:=by
 obtain ⟨v,h',hc,hu,s',h2,h3⟩:=h
 refine ⟨s',Ops.call hc (s1:={ s with vals:=v::s.vals,h:=h',hs:=s.h::s.hs }) ?_ h2,h3⟩
 simp [zBo,zC4,COp.cls,zBq,hu]
theorem W.region {ops:List COper} {wb:List (Nat × Nat)} {st:CSt} {Q:CExit->CSt->Prop} (h:Wo T st.tm st.h.next ops ⟨[],{ st.h with next:=st.h.next+ops.length },st.defs,[]⟩ fun s=>Q .normal ⟨zBu ops.length s.vals st.tm wb,s.h,s.defs⟩) :
    W T (.region ops wb [] []) st Q:=by
 obtain ⟨s,h1,h2⟩:=h
 exact ⟨_,_,Ev.region h1 rfl,h2⟩
theorem Wc.mk {f:Nat} {fn:CFunc} {args:List CVal} {h:CHeap} {K:CVal->CHeap->Prop} (hf:T f=some (.ir fn)) (hn:args.length=fn.nargs)
    (hb:W T fn.body ⟨fn.params.map (initVar args),h,[]⟩ fun x st=>(∀ i,x≠.exit i)/\st.defs=[]/\∃ vs v h',zBr st.h st.tm fn.results=some vs/\zDx fn h.next (zBs vs) st.h=some (v,h')/\K v h'):Wc T f args h K:=by
 obtain ⟨x,st,h1,hx,hd,vs,v,h',h2,h3,h4⟩:=hb
 exact ⟨v,h',Cl.mk hf hn h1 hx (by rw [hd];exact Defs.nil) h2 h3,h4⟩
def zCa (fn:CFunc) (n:Nat) (st:CSt):Option (CVal × CHeap):=match zBr st.h st.tm fn.results with
 | some vs=>zDx fn n (zBs vs) st.h
 | none=>none
def endW (fn:CFunc) (n:Nat) (K:CVal->CHeap->Prop) (x:CExit) (st:CSt):Prop:=(∀ i,x≠.exit i)/\st.defs=[]/\match zCa fn n st with
 | some p=>K p.1 p.2
 | none=>False
theorem Wc.mk' {f:Nat} {fn:CFunc} {args:List CVal} {h:CHeap} {K:CVal->CHeap->Prop} (hf:T f=some (.ir fn)) (hn:args.length=fn.nargs)
    (hb:W T fn.body ⟨fn.params.map (initVar args),h,[]⟩ (endW fn h.next K)):Wc T f args h K:=by
 refine Wc.mk hf hn (hb.mono fun x st ⟨h1,h2,h3⟩=>⟨h1,h2,?_⟩)
 unfold zCa at h3
 cases hr:zBr st.h st.tm fn.results with
 | none=>rw [hr] at h3;exact h3.elim
 | some vs =>
  rw [hr] at h3
  dsimp only at h3
  cases hf:zDx fn h.next (zBs vs) st.h with
  | none=>rw [hf] at h3;exact h3.elim
  | some p=>rw [hf] at h3;exact ⟨vs,p.1,p.2,rfl,hf,h3⟩
theorem endW.intro {fn:CFunc} {n:Nat} {K:CVal->CHeap->Prop} {st:CSt} (hd:st.defs=[]) (h:match zCa fn n st with | some p=>K p.1 p.2 | none=>False):endW fn n K .ret st:=⟨by simp,hd,h⟩
theorem Wc.mono {f:Nat} {args:List CVal} {h:CHeap} {K L:CVal->CHeap->Prop} (hc:Wc T f args h K) (hk:∀ v h',K v h'->L v h'):Wc T f args h L:=by
 obtain ⟨v,h',h1,h2⟩:=hc
 exact ⟨v,h',h1,hk _ _ h2⟩
theorem Wc.prim {f:Nat} {p:List CVal->CHeap->Option (CVal × CHeap)} {args:List CVal} {h h':CHeap} {v:CVal} {K:CVal->CHeap->Prop} (hf:T f=some (.prim p)) (hp:p args h=some (v,h')) (hk:K v h'):Wc T f args h K :=
 ⟨v,h',Cl.prim hf hp,hk⟩
def zY4 (st:CSt) (ops:List COper) (wb:List (Nat × Nat)):Option CSt :=
 (zB8 (fun _ _ _=>none) st.tm st.h.next ops ⟨[],{ st.h with next:=st.h.next+ops.length },st.defs,[]⟩).map fun s=>⟨zBu ops.length s.vals st.tm wb,s.h,s.defs⟩
theorem W.reg {ops:List COper} {wb:List (Nat × Nat)} {st:CSt} {Q:CExit->CSt->Prop} (h:match zY4 st ops wb with | some st1=>Q .normal st1 | none=>False):W T (.region ops wb [] []) st Q:=by
 unfold zY4 at h
 cases he:zB8 (fun _ _ _=>none) st.tm st.h.next ops ⟨[],{ st.h with next:=st.h.next+ops.length },st.defs,[]⟩ with
 | none=>rw [he] at h;exact h.elim
 | some s=>rw [he] at h;exact W.region (Wo.all he h)
theorem Wo.upto (k:Nat) {tm:List CVal} {id:Nat} {ops:List COper} {s:RS} {K:RS->Prop} (hk:(ops.take k).length=k) (h:match zB8 (fun _ _ _=>none) tm id (ops.take k) s with | some s1=>Wo T tm (id+k) (ops.drop k) s1 K | none=>False):Wo T tm id ops s K:=by
 cases he:zB8 (fun _ _ _=>none) tm id (ops.take k) s with
 | none=>rw [he] at h;exact h.elim
 | some s1 =>
  rw [he] at h
  have:=Wo.front (b:=ops.drop k) (K:=K) he (by rw [hk];exact h)
  rwa [List.take_append_drop] at this
theorem Wo.rest {tm:List CVal} {id:Nat} {ops:List COper} {s:RS} {K:RS->Prop} (h:match zB8 (fun _ _ _=>none) tm id ops s with | some s1=>K s1 | none=>False):Wo T tm id ops s K:=by
 cases he:zB8 (fun _ _ _=>none) tm id ops s with
 | none=>rw [he] at h;exact h.elim
 | some s1=>rw [he] at h;exact Wo.all he h
def Under (l:List (Nat × CObj)) (n:Nat):Prop:=∀ x ∈ l,x.1<n
theorem zCj:∀ {l:List (Nat × CObj)} {n:Nat},Under l n->zBe l n=l
 | [],_,_=>rfl
 | (i,o)::r,n,h=>by
  have h1:¬ n<=i:=by have:=h (i,o) (by simp);simp at this;omega
  have h2:=zCj (l:=r) (n:=n) fun x hx=>h x (by simp [hx])
  simp only [zBe,if_neg h1,h2]
theorem zAa:∀ {l:List (Nat × CObj)} {n:Nat},Under l n->zA5 l n=l
 | [],_,_=>rfl
 | (i,o)::r,n,h=>by
  have h1:¬ n<=i:=by have:=h (i,o) (by simp);simp at this;omega
  have h2:=zAa (l:=r) (n:=n) fun x hx=>h x (by simp [hx])
  simp only [zA5,if_neg h1,h2]
theorem zAc {l:List (Nat × CObj)} {n b:Nat} (h:Under l n) (hb:n<=b):zA1 l b=none:=by
 induction l with
 | nil=>rfl
 | cons x r ih =>
  obtain ⟨i,o⟩:=x
  unfold zA1
  rw [if_neg (by have:=h (i,o) (by simp);simp;omega)]
  exact ih fun x hx=>h x (by simp [hx])
end
end Go.CI
set_option maxRecDepth 100000
namespace Go.CI
open Go.RowKit
theorem zCg {a b:Nat} (h:a≠b):(a == b)=false:=by simp [h]
theorem zD1 {a b:Nat} (h:a≠b):(a=b)=False:=by simp [h]
theorem zXg {a b:Nat} (h:a<=b):(a<=b)=True:=by simp [h]
theorem zYm {a b:Nat} (h:b<a):(a<=b)=False:=by simp [h]
theorem zA8:∀ (l:List (Nat × CObj)) (m:Nat) (x y:CObj),zA2 (zA2 l m x) m y=zA2 l m y
 | [],_,_,_=>rfl
 | (i,o)::r,m,x,y=>by
  by_cases h:i=m
  . subst h;simp [zA2]
  . simp [zA2,h,zA8 r m x y]
theorem zA4:∀ {l:List (Nat × CObj)} {m:Nat} {o x:CObj},zA1 l m=some o->zA1 (zA2 l m x) m=some x
 | [],_,_,_,h=>by cases h
 | (i,q)::r,m,o,x,h=>by
  by_cases hi:i=m
  . subst hi;simp [zA2,zA1]
  . simp [zA1,hi] at h
    simp [zA2,zA1,hi,zA4 h]
theorem Under.set {l:List (Nat × CObj)} {n m:Nat} {x:CObj} (h:Under l n):Under (zA2 l m x) n:=by
 induction l with
 | nil=>exact h
 | cons a r ih =>
  obtain ⟨i,o⟩:=a
  have h1:i<n:=h (i,o) (by simp)
  have h2:Under r n:=fun y hy=>h y (by simp [hy])
  unfold zA2
  split
  . rename_i e;intro y hy;rcases List.mem_cons.1 hy with rfl | hy;exact h1;exact h2 y hy
  . intro y hy;rcases List.mem_cons.1 hy with rfl | hy;exact h1;exact ih h2 y hy
theorem Under.cons {l:List (Nat × CObj)} {n i:Nat} {o:CObj} (hi:i<n) (h:Under l n):Under ((i,o)::l) n:=fun y hy=>by
 rcases List.mem_cons.1 hy with rfl | hy
 . exact hi
 . exact h y hy
theorem Under.le {l:List (Nat × CObj)} {n m:Nat} (h:Under l n) (hnm:n<=m):Under l m:=fun y hy=>Nat.lt_of_lt_of_le (h y hy) hnm
theorem zRr {x:Int} (h:-4611686018427387904<=x) (h2:x<4611686018427387904):IntKind.i64.wrap x=x:=by
 simp [IntKind.wrap,IntKind.bits,IntKind.signed];omega
theorem Under.nil {n:Nat}:Under [] n:=fun x hx=>by cases hx
theorem law_calls {P:Program} {H:Hints} {T:Nat->Option CFn} {n f:Nat} {fn:CFunc} (w:World) {F:Nat->Nat->Option CVal} {gl:List (Nat × List CVal)} {cs:List CVal} {args:List Value} (hgl:zDn H.globals gl) (hmixed:P.follows .mixedOrders=true) (hT:TOk P H ⟨w.heap.size,gl⟩ T) (hf:T f=some (.ir fn)) (B:Begins w gl F)
    (ha:VRs (Gh.of F) cs args) (hrun:zL9 (crun T n f cs zDc)=true):Calls P f ⟨args⟩ w fun e w'=>e=.returned (.bool true)/\Below w.heap.size w w':=by
 cases hr:crun T n f cs zDc with
 | none=>rw [hr] at hrun;cases hrun
 | some x =>
  obtain ⟨v,h'⟩:=x
  rw [hr] at hrun
  have hv:v=.bool true:=by cases v <;> simp_all [zL9]
  subst hv
  refine Calls.mono (zP3 hgl hmixed hT hf B ha hr) ?_
  rintro e w' ⟨u,G,rfl,_,hu,hb,_⟩
  rw [zN0 hu]
  exact ⟨rfl,hb⟩
section
variable {T:Nat->Option CFn}
def Wd (T:Nat->Option CFn) (d:List (Nat × List CVal)) (h:CHeap) (K:CHeap->Prop):Prop:=∃ h',Defs T d h h'/\K h'
theorem Wd.nil {h:CHeap} {K:CHeap->Prop} (hk:K h):Wd T [] h K:=⟨h,Defs.nil,hk⟩
theorem Wd.cons {f:Nat} {fn:CFunc} {args:List CVal} {d:List (Nat × List CVal)} {h:CHeap} {K:CHeap->Prop} (hf:T f=some (.ir fn)) (hn:args.length=fn.nargs)
    (hb:W T fn.body ⟨fn.params.map (initVar args),h,[]⟩ (endW fn h.next fun _ h1=>Wd T d h1 K)):Wd T ((f,args)::d) h K:=by
 obtain ⟨x,st,h1,hx,hd,h2⟩:=hb
 unfold zCa at h2
 cases hr:zBr st.h st.tm fn.results with
 | none=>rw [hr] at h2;exact h2.elim
 | some vs =>
  rw [hr] at h2
  dsimp only at h2
  cases hfin:zDx fn h.next (zBs vs) st.h with
  | none=>rw [hfin] at h2;exact h2.elim
  | some p =>
   rw [hfin] at h2
   obtain ⟨h',h3,h4⟩:=h2
   exact ⟨h',Defs.cons hf hn h1 hx hd hr hfin h3,h4⟩
def zXy (T:Nat->Option CFn) (fn:CFunc) (n:Nat) (K:CVal->CHeap->Prop) (x:CExit) (st:CSt):Prop:=(∀ i,x≠.exit i)/\Wd T st.defs st.h fun h1=>match zCa fn n { st with h:=h1 } with
 | some p=>K p.1 p.2
 | none=>False
theorem zXy.intro {fn:CFunc} {n:Nat} {K:CVal->CHeap->Prop} {st:CSt} (h:Wd T st.defs st.h fun h1=>match zCa fn n { st with h:=h1 } with | some p=>K p.1 p.2 | none=>False):zXy T fn n K .ret st:=⟨by simp,h⟩
end
theorem says_of {T:Nat->Option CFn} {f:Nat} {args:List CVal} (h:Wc T f args zDc fun v h=>v=.bool true):∃ m,zL9 (crun T m f args zDc)=true:=by
 obtain ⟨v,h',⟨m,hc⟩,rfl⟩:=h
 refine ⟨m,?_⟩
 have:crun T m f args zDc=some (.bool true,h'):=hc
 rw [this];rfl
theorem zAm {x:Int} (h:0<=x) (h2:x<18446744073709551616):IntKind.u64.wrap x=x:=by
 simp [IntKind.wrap,IntKind.bits,IntKind.signed];omega
theorem zDh {x:Int} (h:0<=x) (h2:x<256):IntKind.u8.wrap x=x:=by
 simp [IntKind.wrap,IntKind.bits,IntKind.signed];omega
theorem zXe {v c s:Nat} (hv:v<2 ^ s):v ||| (c * 2 ^ s)=v+c * 2 ^ s:=by
 have:=Nat.shiftLeft_add_eq_or_of_lt hv c
 rw [Nat.shiftLeft_eq] at this
 rw [Nat.or_comm,<- this,Nat.add_comm]
theorem zMb {v c s:Nat} (hv:v<2 ^ s) (hm:v+c * 2 ^ s<2 ^ 64):zD0 .or .u64 (v:Int) ((c * 2 ^ s:Nat):Int)=some (.int .u64 ((v+c * 2 ^ s:Nat):Int)):=by
 have h1:v<2 ^ 64:=by omega
 have h2:c * 2 ^ s<2 ^ 64:=by omega
 have e1:(BitVec.ofInt 64 (v:Int)).toNat=v:=by rw [BitVec.ofInt_natCast,BitVec.toNat_ofNat];exact Nat.mod_eq_of_lt h1
 have e2:(BitVec.ofInt 64 ((c * 2 ^ s:Nat):Int)).toNat=c * 2 ^ s:=by rw [BitVec.ofInt_natCast,BitVec.toNat_ofNat];exact Nat.mod_eq_of_lt h2
 have e3:(BitVec.ofInt 64 (v:Int) ||| BitVec.ofInt 64 ((c * 2 ^ s:Nat):Int)).toNat=v+c * 2 ^ s:=by
  rw [BitVec.toNat_or,e1,e2,zXe hv]
 show some (CVal.int .u64 (IntKind.u64.wrap ((BitVec.ofInt 64 (v:Int) ||| BitVec.ofInt 64 ((c * 2 ^ s:Nat):Int)).toNat)))=_
 rw [e3,zAm (by omega) (by omega)]
def vb (x:Nat):List UInt8:=if x<128 then [UInt8.ofNat x] else UInt8.ofNat (x % 128+128)::vb (x / 128)
termination_by x
decreasing_by omega
def zJ1:List COper->Nat
 | []=>0
 | ⟨.call _ _ _,none⟩::_=>0
 | _::r=>zJ1 r+1
theorem zLo:∀ ops:List COper,zJ1 ops<=ops.length
 | []=>Nat.le_refl _
 | o::r=>by
  unfold zJ1
  split
  . exact Nat.zero_le _
  . exact Nat.zero_le _
  . rename_i h;cases h;have:=zLo r;simp;omega
theorem Wo.next {T:Nat->Option CFn} {tm:List CVal} {id:Nat} {ops:List COper} {s:RS} {K:RS->Prop} (h:match zB8 (fun _ _ _=>none) tm id (ops.take (zJ1 ops)) s with | some s1=>Wo T tm (id+zJ1 ops) (ops.drop (zJ1 ops)) s1 K | none=>False):Wo T tm id ops s K :=
 Wo.upto (zJ1 ops) (by rw [List.length_take];have:=zLo ops;omega) h
theorem zTj {a b:Int} (h:a≠b):(a == b)=false:=by simp [h]
theorem zVf {a b:Int} (h:a≠b):(a=b)=False:=by simp [h]
theorem zVg {a b:Int} (h:a<=b):(a<=b)=True:=by simp [h]
theorem zUz {a b:Int} (h:b<a):(a<=b)=False:=by simp [h]
theorem zW5 {a b:Int} (h:a<b):(a<b)=True:=by simp [h]
theorem zUu {a b:Int} (h:b<=a):(a<b)=False:=by simp [h]
theorem zYt {a b:Nat} (h:a<b):(a<b)=True:=by simp [h]
theorem zZb {a b:Nat} (h:b<=a):(a<b)=False:=by simp [h]
end Go.CI
namespace Go.CI
def zA7 (l:List (Nat × Nat)) (n:Nat):Prop:=∀ x ∈ l,x.1<n
theorem zA7.nil {n:Nat}:zA7 [] n:=fun x hx=>by cases hx
theorem zA7.cons {l:List (Nat × Nat)} {n i t:Nat} (hi:i<n) (h:zA7 l n):zA7 ((i,t)::l) n:=fun y hy=>by
 rcases List.mem_cons.1 hy with rfl | hy
 . exact hi
 . exact h y hy
theorem zA7.le {l:List (Nat × Nat)} {n m:Nat} (h:zA7 l n) (hnm:n<=m):zA7 l m:=fun y hy=>Nat.lt_of_lt_of_le (h y hy) hnm
theorem zBz:∀ {l:List (Nat × Nat)} {n b:Nat},zA7 l n->n<=b->zCy l b=none
 | [],_,_,_,_=>rfl
 | (i,t)::r,n,b,h,hb=>by
  have h1:i<n:=h (i,t) (by simp)
  have h2:=zBz (l:=r) (fun x hx=>h x (by simp [hx])) hb
  have:(i == b)=false:=by simp;omega
  simp [zCy,this,h2]
theorem zA0 {l:List (Nat × CObj)} {m n:Nat} {x:CObj} (h:n≠m):zA1 (zA2 l m x) n=zA1 l n:=by
 induction l with
 | nil=>rfl
 | cons a r ih =>
  obtain ⟨i,o⟩:=a
  by_cases hi:i=m
  . subst hi
    simp [zA2,zA1,Ne.symm h]
  . by_cases hn:i=n
    . subst hn;simp [zA2,zA1,hi]
    . simp [zA2,zA1,hi,hn,ih]
theorem zB1:∀ {l:List (Nat × CObj)} {m:Nat} {x:CObj},zA1 l m=some x->zA2 l m x=l
 | [],_,_,h=>by cases h
 | (i,o)::r,m,x,h=>by
  by_cases hi:i=m
  . subst hi;simp [zA1] at h;simp [zA2,h]
  . simp [zA1,hi] at h;simp [zA2,hi,zB1 h]
section
variable {T:Nat->Option CFn}
theorem Wc.primM {f:Nat} {p:List CVal->CHeap->Option (CVal × CHeap)} {args:List CVal} {h:CHeap} {K:CVal->CHeap->Prop} (hf:T f=some (.prim p)) (hm:match p args h with | some r=>K r.1 r.2 | none=>False):Wc T f args h K:=by
 cases hp:p args h with
 | none=>rw [hp] at hm;exact hm.elim
 | some r=>rw [hp] at hm;exact Wc.prim hf hp hm
def Fit (h:CHeap):Prop:=Under h.ents h.next/\zA7 h.tys h.next
def Pu (T:Nat->Option CFn) (f:Nat) (args:List CVal) (v:CVal):Prop:=∀ (h:CHeap),Fit h->∀ (K:CVal->CHeap->Prop),(∀ n' ty,h.next<=n'->zA7 ty n'->K v ⟨h.ents,n',ty⟩)->Wc T f args h K
def zM8 (tm:List CVal) (ops:List COper) (wb:List (Nat × Nat)) (chk:List (Nat × Nat × Nat)) (sw:List (Nat × Nat)) (s:RS):Option CSt :=
 if chk.all (zF5 tm ops ops.length s.vals (s.h::s.hs).reverse) && sw.all (zGk tm ops ops.length s.vals) then some ⟨zBu ops.length s.vals tm wb,s.h,s.defs⟩ else none
inductive GoR where
 | done (st:CSt)
 | call (id f:Nat) (args:List CVal) (r:List COper) (s:RS)
def goR (tm:List CVal) (ops0:List COper) (wb:List (Nat × Nat)) (chk:List (Nat × Nat × Nat)) (sw:List (Nat × Nat)):Nat->List COper->RS->Option GoR
 | _,[],s=>match zM8 tm ops0 wb chk sw s with
  | some st=>some (.done st)
  | none=>none
 | id,o::r,s=>match zC4 s.vals o.guard,o.op with
  | true,.call keep f xs=>some (.call id f (if keep then xs.map (zAq tm s.vals) else xs.map fun x=>(zAq tm s.vals x).bare) r s)
  | true,.callv keep x xs=>match zAq tm s.vals x with
   | .fn (.func f) first cap=>some (.call id f (first++((if keep then xs.map (zAq tm s.vals) else xs.map fun x=>(zAq tm s.vals x).bare)++cap)) r s)
   | _=>none
  | _,_=>match zBo (fun _ _ _=>none) tm id o s with
   | some s'=>goR tm ops0 wb chk sw (id+1) r s'
   | none=>none
def WoR (T:Nat->Option CFn) (tm:List CVal) (ops0:List COper) (wb:List (Nat × Nat)) (chk:List (Nat × Nat × Nat)) (sw:List (Nat × Nat)) (Q:CExit->CSt->Prop) (id:Nat) (ops:List COper) (s:RS):Prop :=
 Wo T tm id ops s fun s=>match zM8 tm ops0 wb chk sw s with | some st=>Q .normal st | none=>False
def goW (T:Nat->Option CFn) (tm:List CVal) (ops0:List COper) (wb:List (Nat × Nat)) (chk:List (Nat × Nat × Nat)) (sw:List (Nat × Nat)) (Q:CExit->CSt->Prop):Option GoR->Prop
 | some (.done st)=>Q .normal st
 | some (.call id f args r s)=>Wc T f args s.h fun v h'=>v.isUndef=false/\WoR T tm ops0 wb chk sw Q (id+1) r { s with vals:=v::s.vals,h:=h',hs:=s.h::s.hs }
 | none=>False
theorem Wo.callAny {tm:List CVal} {id:Nat} {o:COper} {f:Nat} {args:List CVal} {r:List COper} {s:RS} {K:RS->Prop} (hw:zC4 s.vals o.guard=true)
    (ho:∀ cf,zBq cf (zAq tm s.vals) s.h id o.op=cf f args s.h) (hc:o.op.cls=.e)
    (h:Wc T f args s.h fun v h'=>v.isUndef=false/\Wo T tm (id+1) r { s with vals:=v::s.vals,h:=h',hs:=s.h::s.hs } K):Wo T tm id (o::r) s K:=by
 obtain ⟨v,h',hc',hu,s',h2,h3⟩:=h
 refine ⟨s',Ops.call hc' (s1:={ s with vals:=v::s.vals,h:=h',hs:=s.h::s.hs }) ?_ h2,h3⟩
 unfold zBo
 rw [hw,if_pos rfl,hc]
 simp only [ho]
 simp [hu]
theorem WoR.go {tm:List CVal} {ops0:List COper} {wb:List (Nat × Nat)} {chk:List (Nat × Nat × Nat)} {sw:List (Nat × Nat)} {Q:CExit->CSt->Prop}:∀ {ops:List COper} {id:Nat} {s:RS},goW T tm ops0 wb chk sw Q (goR tm ops0 wb chk sw id ops s)->WoR T tm ops0 wb chk sw Q id ops s
 | [],id,s,h=>by
  unfold goR at h
  refine Wo.nil ?_
  cases hr:zM8 tm ops0 wb chk sw s with
  | none=>rw [hr] at h;exact h
  | some st=>rw [hr] at h;exact h
 | o::r,id,s,h=>by
  have plain:(match zBo (fun _ _ _=>none) tm id o s with | some s'=>goR tm ops0 wb chk sw (id+1) r s' | none=>none)=goR tm ops0 wb chk sw id (o::r) s->WoR T tm ops0 wb chk sw Q id (o::r) s:=fun e=>by
   rw [<- e] at h
   cases he:zBo (fun _ _ _=>none) tm id o s with
   | none=>rw [he] at h;exact h.elim
   | some s'=>rw [he] at h;exact Wo.plain he (WoR.go h)
  obtain ⟨op,g⟩:=o
  cases hw:zC4 s.vals g with
  | false=>refine plain ?_;conv=>rhs;unfold goR;simp only [hw]
  | true =>
   cases op
   case call keep f xs =>
    unfold goR at h
    simp only [hw] at h
    exact Wo.callAny (f:=f) hw (fun cf=>rfl) rfl h
   case callv keep x xs =>
    unfold goR at h
    simp only [hw] at h
    split at h
    . rename_i f first cap e
      exact Wo.callAny (f:=f) hw (fun cf=>by simp [zBq,e]) rfl h
    . exact h.elim
   all_goals (refine plain ?_;conv=>rhs;unfold goR;simp only [hw])
theorem W.regG {ops:List COper} {wb:List (Nat × Nat)} {chk:List (Nat × Nat × Nat)} {sw:List (Nat × Nat)} {st:CSt} {Q:CExit->CSt->Prop}
    (h:goW T st.tm ops wb chk sw Q (goR st.tm ops wb chk sw st.h.next ops ⟨[],{ st.h with next:=st.h.next+ops.length },st.defs,[]⟩)):W T (.region ops wb chk sw) st Q:=by
 have:=WoR.go h
 unfold WoR at this
 obtain ⟨s,h1,h2⟩:=this
 unfold zM8 at h2
 split at h2
 . rename_i st' e
   split at e
   . rename_i hc
     cases e
     exact ⟨_,_,Ev.region h1 hc,h2⟩
   . cases e
 . exact h2.elim
theorem zS7 {m f n:Nat} {args:List CVal} (hr:(match zY2 T m f args ⟨[],n,[]⟩ with | some (.bool true,⟨[],k,ty⟩)=>decide (n<=k) && ty.all (fun x=>decide (x.1<k)) | _=>false)=true) {K:CVal->CHeap->Prop} (hk:∀ n' ty,n<=n'->zA7 ty n'->K (.bool true) ⟨[],n',ty⟩):Wc T f args ⟨[],n,[]⟩ K:=by
 split at hr
 . rename_i k ty e
   simp only [Bool.and_eq_true,decide_eq_true_eq] at hr
   exact ⟨_,_,⟨m,by have:=e;rw [zSf] at this;exact this⟩,hk k ty hr.1 fun x hx=>by have:=List.all_eq_true.1 hr.2 x hx;simpa using this⟩
 . cases hr
theorem zCc {α:Type} (f:α->CVal):∀ (s:List α) (i:Nat) (c:α),s[i]? = some c->nth (s.map f) i=f c
 | [],i,c,h=>by simp at h
 | a::r,0,c,h=>by simp at h;subst h;rfl
 | a::r,i+1,c,h=>by simp at h;exact zCc f r i c h
theorem zFk {α:Type} {s r:List α} {i:Nat} {c:α} (h:s.drop i=c::r):i<s.length/\s[i]? = some c/\s.drop (i+1)=r:=by
 have h1:i<s.length:=by
  rcases Nat.lt_or_ge i s.length with h' | h'
  . exact h'
  . rw [List.drop_eq_nil_of_le h'] at h;cases h
 rw [List.drop_eq_getElem_cons h1] at h
 simp only [List.cons.injEq] at h
 exact ⟨h1,by rw [List.getElem?_eq_getElem h1,h.1],h.2⟩
def zEm (fn:CFunc) (args:List CVal) (h:CHeap):CSt:=⟨fn.params.map (initVar args),h,[]⟩
theorem Wc.mkG (f:Nat) (fn:CFunc) {args:List CVal} {h:CHeap} {K:CVal->CHeap->Prop} (hf:T f=some (.ir fn)) (hn:args.length=fn.nargs) (hb:W T fn.body (zEm fn args h) (endW fn h.next K)):Wc T f args h K:=Wc.mk' hf hn hb
theorem endW.of {fn:CFunc} {n:Nat} {K:CVal->CHeap->Prop} {x:CExit} {st:CSt} (hx:x=.ret\/x=.normal) (hd:st.defs=[]) (h:match zCa fn n st with | some p=>K p.1 p.2 | none=>False):endW fn n K x st:=⟨by rcases hx with rfl | rfl <;> simp,hd,h⟩
end
end Go.CI
namespace Go.CI
mutual
theorem zB4:∀ v:CVal,CVal.beq v v=true
 | .undef=>rfl
 | .bool b=>by simp [CVal.beq]
 | .int k n=>by simp [CVal.beq]
 | .str s=>by simp [CVal.beq]
 | .nilp=>rfl
 | .ptr _ _ _=>by simp [CVal.beq]
 | .cptr cs _=>by simp [CVal.beq,zCk cs]
 | .eptr _ _ _ _=>by simp [CVal.beq]
 | .nils=>rfl
 | .imm _ _ es=>by simp [CVal.beq,zCk es]
 | .ref _ _ _ _ _=>by simp [CVal.beq]
 | .nilm=>rfl
 | .map _=>by simp [CVal.beq]
 | .fn _ a b=>by simp [CVal.beq,zCk a,zCk b]
 | .nilf=>rfl
 | .ifc _ v=>by simp [CVal.beq,zB4 v]
 | .nili=>rfl
 | .agg cs=>by simp [CVal.beq,zCk cs]
 | .tup cs=>by simp [CVal.beq,zCk cs]
theorem zCk:∀ l:List CVal,beqs l l=true
 | []=>rfl
 | a::l=>by simp [beqs,zB4 a,zCk l]
end
end Go.CI
namespace Go
open Go.RowKit Go.ChangeShapes Go.WideShapes
variable {H:Type} {enc:TypeId × Value->H}
theorem CI.open_nums {P:Program} {t e:TypeId} {k:IntKind} (ht:P.underlying t=some (.slice e)) (he:P.underlying e=some (.int k)) (hc:P.cellsOf e=1) {w:World} {b0:Nat} {v:Value} {d:DataW H} {ps:List MemPlace}
    (hval:Value.okWide P w .any b0 t v) (hd:DataW.Trod enc P w 0 (fun _=>true) true t v d ps) :
    ∃ (xs:List Int) (c:CI.CVal),(∀ x ∈ xs,(Lit.int k x).wf=true)/\(c=.nils/\xs=[]\/c=.imm .none 1 (xs.map (CI.CVal.int k)))/\CI.VR (CI.Gh.of (CI.Fw w)) c v /\
     ∀ w',Below w.heap.size w w'->∀ sp:Nat->Bool,(∀ p ∈ ps,sp p.block=true)->DataW.Trod enc P w' 0 sp true t v d ps:=by
 obtain ⟨fuel,hf⟩:=hd
 have hsh:v=.slice none 0 0\/∃ a len cap,v=.slice (some a) len cap/\a.spot=none:=by
  unfold Value.okWide at hval
  rw [ht] at hval
  simp only at hval
  unfold Cell.okWide at hval
  rw [ht] at hval
  simp only at hval
  unfold Cell.ok at hval
  rw [ht] at hval
  cases v with
  | slice a len cap =>
   cases a with
   | none =>
    cases len with
    | zero =>
     cases cap with
     | zero=>exact .inl rfl
     | succ n=>exact hval.elim
    | succ n=>exact hval.elim
   | some a=>exact .inr ⟨a,len,cap,rfl,hval.2.2.2.1⟩
  | _=>exact hval.elim
 rcases open_ints ht he hc hf with ⟨hcs,hx⟩ | ⟨a,len,cap,zs,hcs,hb,hl,hm,hz,hx,hcell,hw⟩
 . rcases hsh with rfl | ⟨a,len,cap,rfl,_⟩
   . obtain ⟨rfl,rfl⟩:=Prod.mk.inj hx
     exact ⟨[],.nils,by simp,.inl ⟨rfl,rfl⟩,.nils,fun w' hB sp _=>shut_slice_nil ht⟩
   . simp [Value.cells] at hcs
 . rcases hsh with rfl | ⟨a',len',cap',rfl,hspot⟩
   . simp [Value.cells] at hcs
   . simp [Value.cells] at hcs
     obtain ⟨rfl,rfl,rfl⟩:=hcs
     obtain ⟨rfl,rfl⟩:=Prod.mk.inj hx
     simp only [if_true] at hz
     obtain ⟨blk,off,spot⟩:=a'
     simp only at hspot
     subst hspot
     have hcell2:∀ i,i<zs.length->w.cell? ⟨blk,off+i,none⟩=some (.int k (zs.getD i 0)):=fun i hi=>by have:=hcell i hi;rwa [add_plain] at this
     have hlt:(zs.take len').length=len':=by simp;omega
     refine ⟨zs.take len',.imm .none 1 ((zs.take len').map (CI.CVal.int k)),fun x hx=>hw x (List.mem_of_mem_take hx),.inr rfl,?_,?_⟩
     . have:=CI.VR.imm (G:=CI.Gh.of (CI.Fw w)) (t:=.none) (k:=1) (es:=(zs.take len').map (CI.CVal.int k)) (a:=⟨blk,off,none⟩) (cap:=cap') rfl (by decide) (by simp;omega) ?_ trivial
       . rwa [List.length_map,hlt] at this
       . intro i el hel
         rw [List.getElem?_map] at hel
         cases hq:(zs.take len')[i]? with
         | none=>rw [hq] at hel;cases hel
         | some x =>
          rw [hq] at hel
          cases hel
          refine ⟨rfl,fun j c hc'=>?_⟩
          have hi:i<len':=by have:=(List.getElem?_eq_some_iff.1 hq).1;omega
          have hx:zs.getD i 0=x:=by
           rw [List.getElem?_take] at hq
           simp only [hi,if_true] at hq
           simp [List.getD,hq]
          cases j with
          | succ j=>simp [CI.CVal.cells] at hc'
          | zero =>
           simp [CI.CVal.cells] at hc'
           subst hc'
           refine ⟨rfl,?_⟩
           show CI.Fw w blk (off+i * 1+0)=_
           unfold CI.Fw
           rw [show off+i * 1+0=off+i by omega,hcell2 i (by omega),hx]
     . intro w' hB sp hsp
       have hcell':∀ i,i<zs.length->w'.cell? ((⟨blk,off,none⟩:Addr).add i)=some (.int k (zs.getD i 0)):=fun i hi=>by
        have h1:=hcell i hi
        have h2:=World.block_lt_of_cell? _ _ h1
        rw [hB.cell h2];exact h1
       refine ⟨2,?_⟩
       show DataW.trod enc P w' 0 sp true 2 t [.slice (some ⟨blk,off,none⟩) len' cap']=_
       refine shut_ints (enc:=enc) (w:=w') (base:=0) (spare:=sp) (held:=true) 0 ht he hc (Nat.zero_le _) hl hm ?_ hcell' hw
       rcases Nat.eq_zero_or_pos zs.length with h0 | h0
       . rw [h0];split <;> omega
       . have:sp blk=true:=hsp (.cell blk (off+0)) (by
          unfold MemPlace.row
          exact List.mem_map.2 ⟨0,List.mem_range.2 h0,rfl⟩)
         rw [this];simpa using hz
end Go
namespace Go.CI
@[simp,reducible] def COper.v (j:Nat):COper:=⟨.mv (.var j),none⟩
@[simp,reducible] def COper.m (x:COpnd):COper:=⟨.mv x,none⟩
@[simp,reducible] def COper.n (j:Nat):COper:=⟨.nilck (.loc j),none⟩
@[simp,reducible] def COper.f (o j:Nat):COper:=⟨.fieldAddr o (.loc j),none⟩
@[simp,reducible] def COper.l (j:Nat):COper:=⟨.load none (.loc j),none⟩
@[simp,reducible] def COper.g (o:COp):COper:=⟨o,none⟩
@[simp,reducible] def COpnd.k (n:Int):COpnd:=.const (.int .i64 n)
@[simp,reducible] def COpnd.u (n:Int):COpnd:=.const (.int .u8 n)
@[simp,reducible] def COpnd.b (x:Bool):COpnd:=.const (.bool x)
@[simp,reducible] def COper.q (o:COp) (k:Nat) (b:Bool):COper:=⟨o,some (k,b)⟩
@[simp,reducible] def COper.h (o:BinOp) (a b:Nat):COper:=⟨.bin o (.loc a) (.loc b),none⟩
@[simp,reducible] def COper.x (o:BinOp) (a:Nat) (b:COpnd):COper:=⟨.bin o (.loc a) b,none⟩
end Go.CI
namespace Go.CI
@[simp,reducible] def COper.c (f:Nat) (l:List COpnd):COper:=⟨.call false f l,none⟩
@[simp,reducible] def COper.k (o j:Nat):COper:=⟨.fieldAddr o (.var j),none⟩
@[simp,reducible] def COper.s (n a b:Nat):COper:=⟨.store n (.loc a) (.loc b),none⟩
@[simp,reducible] def COper.t (n a b:Nat):COper:=⟨.store n (.var a) (.loc b),none⟩
@[simp,reducible] def COper.i (k a b:Nat):COper:=⟨.idxAddr k (.loc a) (.loc b),none⟩
@[simp,reducible] def COper.e (k a:Nat):COper:=⟨.extract k (.loc a),none⟩
@[simp,reducible] def COper.j (a:Nat):COper:=⟨.len false (.loc a),none⟩
@[simp,reducible] def COper.p (a b:Nat):COper:=⟨.pick (.loc a) (.loc b) (.const (.bool false)),none⟩
@[simp,reducible] def COper.r (a b:Nat):COper:=⟨.pick (.loc a) (.const (.bool true)) (.loc b),none⟩
@[simp,reducible] def COper.y (k a:Nat):COper:=⟨.load (some k) (.var a),none⟩
@[simp,reducible] def COper.z (k a:Nat):COper:=⟨.load (some k) (.loc a),none⟩
@[simp,reducible] def COper.o (n:Nat):COper:=⟨.lazy n,none⟩
@[simp,reducible] def COper.u (k a b:Nat):COper:=⟨.init k (.loc a) (.loc b),none⟩
@[simp,reducible] def COper.d (k n a b:Nat):COper:=⟨.append .imm k n (.loc a) (.loc b),none⟩
@[simp,reducible] def COper.Q (o:COper) (k:Nat) (b:Bool):COper:=⟨o.op,some (k,b)⟩
@[simp,reducible] def CCode.R (l:List COper) (w:List (Nat × Nat)):CCode:=.region l w [] []
end Go.CI
namespace Go.CI
@[simp,reducible] def COper.a (k:Nat):COper:=⟨.mv (.loc k),none⟩
@[simp,reducible] def CCode.S (l:List COper) (w:List (Nat × Nat)) (c:CCode):CCode:=.seq (.region l w [] []) c
end Go.CI
