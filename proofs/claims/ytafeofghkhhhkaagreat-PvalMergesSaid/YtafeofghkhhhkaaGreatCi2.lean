/- A deterministic interpreter over values, proved sound against the model's rules (part 2 of 7): what a run of it gives, a call in the model gives. -/
import Derived.Test.YtafeofghkhhhkaaGreatCi1
import Derived.Laws.Slices
import Derived.Laws.IdiomStrings
import Derived.Laws.IdiomCopy
set_option linter.unusedVariables false
set_option linter.unusedSimpArgs false
namespace Go.CI
open Go.RowKit
mutual
theorem zCu (G:Gh):∀ (v:Value) (c:CVal),ofValue v=some c->VR G c v
 | .bool b,c,h=>by simp only [ofValue] at h;cases h;exact .bool b
 | .int k n,c,h=>by simp only [ofValue] at h;cases h;exact .int k n
 | .float ..,c,h=>by simp [ofValue] at h
 | .complex ..,c,h=>by simp [ofValue] at h
 | .string s,c,h=>by simp only [ofValue] at h;cases h;exact .str s
 | .pointer none,c,h=>by simp only [ofValue] at h;cases h;exact .nilp
 | .pointer (some _),c,h=>by simp [ofValue] at h
 | .slice none 0 0,c,h=>by simp only [ofValue] at h;cases h;exact .nils
 | .slice none 0 (n+1),c,h=>by simp [ofValue] at h
 | .slice none (m+1) n,c,h=>by simp [ofValue] at h
 | .slice (some _) _ _,c,h=>by simp [ofValue] at h
 | .map none,c,h=>by simp only [ofValue] at h;cases h;exact .nilm
 | .map (some _),c,h=>by simp [ofValue] at h
 | .chan _,c,h=>by simp [ofValue] at h
 | .func f ⟨a⟩ ⟨b⟩,c,h=>by
  simp only [ofValue] at h
  split at h
  . rename_i x y hx hy
    cases h
    have h1:=zC3 G a x hx
    have h2:=zC3 G b y hy
    exact .fn h1.1 h2.1 h1.2 h2.2
  . cases h
 | .nilFunc,c,h=>by simp only [ofValue] at h;cases h;exact .nilf
 | .iface t v,c,h=>by
  simp only [ofValue] at h
  split at h
  . rename_i x hx;cases h;exact .ifc (zCu G v x hx)
  . cases h
 | .nilIface,c,h=>by simp only [ofValue] at h;cases h;exact .nili
 | .agg ⟨cs⟩,c,h=>by
  simp only [ofValue] at h
  split at h
  . rename_i l hl
    split at h
    . rename_i hf
      cases h
      have h1:=zC3 G cs l hl
      exact .agg h1.1 (fun c hc=>List.all_eq_true.1 hf c hc) h1.2
    . cases h
  . cases h
 | .tuple ⟨cs⟩,c,h=>by
  simp only [ofValue] at h
  split at h
  . rename_i l hl
    cases h
    have h1:=zC3 G cs l hl
    exact .tup h1.1 h1.2
  . cases h
theorem zC3 (G:Gh):∀ (vs:List Value) (cs:List CVal),ofValues vs=some cs->VRs G cs vs
 | [],cs,h=>by simp only [ofValues] at h;cases h;exact VRs.nil G
 | v::r,cs,h=>by
  simp only [ofValues] at h
  split at h
  . rename_i x y hx hy
    cases h
    exact VRs.cons (zCu G v x hx) (zC3 G r y hy)
  . cases h
end
inductive Both {α β:Type} (R:α->β->Prop):List α->List β->Prop where
 | nil:Both R [] []
 | cons {a:α} {b:β} {l₁:List α} {l₂:List β} (h:R a b) (t:Both R l₁ l₂):Both R (a::l₁) (b::l₂)
structure InfoOk (P:Program) (t:TypeId) (f:ElemInfo) (i:TypeInfo) (d:TypeDesc) (z:Value):Prop where
 info:P.info? t=some i
 und:P.underlying t=some d
 zero:i.zero=some z
 zs:ofValues z.cells.toList=some f.zero
 size:f.size=i.size
 agg:f.agg=zEe d
 pos:0<f.size
 len:f.zero.length=f.size
 one:f.agg=false->f.size=1
 flat:∀ c ∈ f.zero,c.flat=true
 bytes:f.bytes=i.bytes
theorem zAz {P:Program} {t:TypeId} {f:ElemInfo} (h:zAt P t=some f):∃ i d z,InfoOk P t f i d z:=by
 unfold zAt at h
 split at h
 . rename_i i d hi hd
   split at h
   . rename_i z hz
     split at h
     . rename_i zs hzs
       split at h
       . rename_i hc
         cases h
         simp only [Bool.and_eq_true,decide_eq_true_eq,Bool.or_eq_true,beq_iff_eq] at hc
         obtain ⟨⟨h1,h2⟩,h3,h4⟩:=hc
         exact ⟨i,d,z,⟨hi,hd,hz,hzs,rfl,rfl,h1,h2,fun ha=>h3.resolve_left (by simp_all),fun c hc=>List.all_eq_true.1 h4 c hc,rfl⟩⟩
       . cases h
     . cases h
   . cases h
 . cases h
section
variable {P:Program} {base:Base} {G:Gh} {h:CHeap} {w:World}
theorem InfoOk.zeros {t:TypeId} {f:ElemInfo} {i:TypeInfo} {d:TypeDesc} {z:Value} (I:InfoOk P t f i d z) (G:Gh):VRs G f.zero z.cells.toList:=zC3 G _ _ I.zs
theorem InfoOk.zsize {t:TypeId} {f:ElemInfo} {i:TypeInfo} {d:TypeDesc} {z:Value} (I:InfoOk P t f i d z):z.cells.size=f.size:=by
 have:=(I.zeros default_gh).1
 rw [Array.length_toList] at this
 rw [<- this,I.len]
 where default_gh:Gh:=⟨fun _ _=>none,fun _=>none,fun _ _=>none,fun _ _=>none⟩
def ORel (G:Gh) (E:Env) (dsts:List (Option Tmp)) (ev:COpnd->CVal) (ρ:Operand->Value):Prop:=∀ X x,zDb E dsts X=some x->VR G (ev x) (ρ X)
theorem ORel.list {E:Env} {dsts:List (Option Tmp)} {ev:COpnd->CVal} {ρ:Operand->Value} (hr:ORel G E dsts ev ρ):∀ (Xs:List Operand) (xs:List COpnd),zBp E dsts Xs=some xs->VRs G (xs.map ev) (Xs.map ρ)
 | [],xs,h=>by simp only [zBp] at h;cases h;exact VRs.nil G
 | X::Xs,xs,h=>by
  simp only [zBp] at h
  split at h
  . rename_i x ys hx hys
    cases h
    exact VRs.cons (hr X x hx) (hr.list Xs ys hys)
  . cases h
theorem ORel.parts {E:Env} {dsts:List (Option Tmp)} {ev:COpnd->CVal} {ρ:Operand->Value} (hr:ORel G E dsts ev ρ):∀ (Ps:List (Nat × Operand)) (ps:List (Nat × COpnd)),zKi E dsts Ps=some ps ->
    Both (fun p Q=>p.1=Q.1/\VR G (ev p.2) (ρ Q.2)) ps Ps
 | [],ps,h=>by simp only [zKi] at h;cases h;exact .nil
 | (i,X)::Ps,ps,h=>by
  simp only [zKi] at h
  split at h
  . rename_i x ys hx hys
    cases h
    exact .cons ⟨rfl,hr X x hx⟩ (hr.parts Ps ys hys)
  . cases h
theorem zMt {cs vc:List CVal} {a b:Nat} (h1:∀ c ∈ cs,c.flat=true) (h2:∀ c ∈ vc,c.flat=true):∀ c ∈ cs.take a++(vc++cs.drop b),c.flat=true:=by
 intro c hc
 rcases List.mem_append.1 hc with hc | hc
 . exact h1 c (List.mem_of_mem_take hc)
 . rcases List.mem_append.1 hc with hc | hc
   . exact h2 c hc
   . exact h1 c (List.mem_of_mem_drop hc)
theorem zL2 (place:Nat->Option (Nat × Nat)) (ev:COpnd->CVal) (ρ:Operand->Value):∀ (ps:List (Nat × COpnd)) (Ps:List (Nat × Operand)) (qs:List (Nat × Nat × COpnd)) (cs:List CVal) (arr:Array Value) (out:List CVal),
    Both (fun p Q=>p.1=Q.1/\VR G (ev p.2) (ρ Q.2)) ps Ps->placed place ps=some qs->VRs G cs arr.toList->(∀ c ∈ cs,c.flat=true) ->
    zE0 cs (qs.map fun p=>(p.1,p.2.1,ev p.2.2))=some out->∃ arr',Instr.fill place arr (Ps.map fun p=>(p.1,ρ p.2))=some arr'/\VRs G out arr'.toList/\∀ c ∈ out,c.flat=true
 | _,_,qs,cs,arr,out,.nil,hq,hv,hf,ho=>by
  simp only [placed] at hq
  cases hq
  simp only [List.map_nil,zE0] at ho
  cases ho
  exact ⟨arr,rfl,hv,hf⟩
 | _,_,qs,cs,arr,out,.cons (a:=p) (b:=Q) (l₁:=ps) (l₂:=Ps) ⟨he,hr⟩ hrest,hq,hv,hf,ho=>by
  obtain ⟨i,x⟩:=p
  obtain ⟨i',X⟩:=Q
  simp only at he hr
  subst he
  simp only [placed] at hq
  split at hq
  . rename_i off size rest hp hpl
    cases hq
    simp only [List.map_cons,zE0] at ho
    split at ho
    . rename_i hc
      simp only [Bool.and_eq_true,decide_eq_true_eq] at hc
      obtain ⟨hw,hl,ho2⟩:=hc
      obtain ⟨hcell,hflat⟩:=hr.cells hw
      obtain ⟨arr',h1,h2,h3⟩:=zL2 place ev ρ ps Ps rest _ _ out hrest hpl (VRs.splice hv hcell hl ho2) (zMt hf hflat) ho
      refine ⟨arr',?_,h2,h3⟩
      have e1:(ρ X).cells.size=size:=by rw [<- Array.length_toList,<- hcell.1,hl]
      have e2:arr.size=cs.length:=by rw [<- Array.length_toList,hv.1]
      simp only [List.map_cons,Instr.fill,hp]
      rw [if_neg (by simp;omega)]
      exact h1
    . cases ho
  . cases hq
theorem zJ9 (fields:Array Field) (hf:∀ f ∈ fields.toList,∃ t,P.info? f.type=some t) :
    (fields.mapM fun f=>do pure (f.offset,<- sizeOf f.type):Sem (Array (Nat × Nat))).run P w=.ok ((fields.toList.map fun f=>(f.offset,((P.info? f.type).map (·.size)).getD 0)).toArray) w:=by
 rw [Array.mapM_eq_mapM_toList]
 have key:∀ l:List Field,(∀ f ∈ l,∃ t,P.info? f.type=some t)->(l.mapM fun f=>do pure (f.offset,<- sizeOf f.type):Sem (List (Nat × Nat))).run P w=.ok (l.map fun f=>(f.offset,((P.info? f.type).map (·.size)).getD 0)) w:=by
  intro l
  induction l with
  | nil=>intro _;rfl
  | cons f r ih =>
   intro hl
   obtain ⟨t,ht⟩:=hl f (by simp)
   have:=ih (fun g hg=>hl g (by simp [hg]))
   rw [List.mapM_cons]
   simp only [Sem.run_bind,zCe ht,Result.andThen_ok,Sem.run_pure] at this ⊢
   rw [this]
   simp [ht]
 have:=key fields.toList hf
 simp only [Sem.run_map]
 rw [this];rfl
end
end Go.CI
namespace Go.CI
open Go.RowKit
def Out (P:Program) (base:Base) (G:Gh) (h:CHeap) (id:Nat) (v:CVal) (s:Sem Next) (w:World):Prop :=
 Gives P s w fun u w'=>∃ G',VR G' v u/\Post base (· = id) G h w G' h w'
section
variable {P:Program} {base:Base} {G:Gh} {h:CHeap} {w:World} {id:Nat}
theorem zAg {v:CVal} {u:Value} {s:Sem Next} (I:Inv base G h w) (hs:s.run P w=.ok (.value u) w) (hv:VR G v u):Out P base G h id v s w :=
 .inl ⟨u,w,hs,G,hv,.refl I⟩
theorem zYf {a b c v:CVal} {x y z:Value} (I:Inv base G h w) (hv:(match c with | .bool true=>some a | .bool false=>some b | _=>none)=some v) (hc:VR G c z) (ha:VR G a x) (hb:VR G b y)  :
    Out P base G h id v (do pure (.value (if <- asBool z then x else y))) w:=by
 cases hc <;> first | (cases hv;done) | skip
 rename_i q
 cases q <;> cases hv
 . exact zAg I (by simp [asBool]) hb
 . exact zAg I (by simp [asBool]) ha
theorem zbj {c v:CVal} {z:Value} (I:Inv base G h w) (hv:(match c with | .bool b=>some (CVal.bool (!b)) | _=>none)=some v) (hc:VR G c z)  :
    Out P base G h id v (do pure (.value (<- Op.unary .not z))) w:=by
 cases hc <;> cases hv
 exact zAg I (by simp [Op.unary]) (.bool _)
theorem za8 {c v:CVal} {z:Value} (I:Inv base G h w) (hv:(match c with | .int k n=>some (CVal.int k (k.wrap (0 - n))) | _=>none)=some v) (hc:VR G c z)  :
    Out P base G h id v (do pure (.value (<- Op.unary .neg z))) w:=by
 cases hc <;> cases hv
 exact zAg I (by simp [Op.unary,Op.intArith]) (.int _ _)
theorem zak {c v:CVal} {z:Value} (I:Inv base G h w) (hv:(match c with | .int k n=>zD0 .xor k (if k.signed then -1 else k.max) n | _=>none)=some v) (hc:VR G c z)  :
    Out P base G h id v (do pure (.value (<- Op.unary .xor z))) w:=by
 cases hc <;> first | (cases hv;done) | skip
 obtain ⟨⟨u,hu,hr⟩,_⟩:=zOb (P:=P) (w:=w) (G:=G) hv
 exact zAg I (by simp [Op.unary,hu]) hr
theorem zZh {s d : TypeId} {k l : IntKind} {c v : CVal} {z : Value} (I : Inv base G h w) (hv : (match c with | .int _ n => some (CVal.int k (k.wrap n)) | _ => none) = some v) (hs : P.underlying s = some (.int l)) (hd : P.underlying d = some (.int k)) (hc : VR G c z)
     : Out P base G h id v (do pure (.value (<- convert s d z))) w:=by
 cases hc <;> cases hv
 exact zAg I (by simp [convert,zB5 hs,zB5 hd,Conv.intToInt]) (.int _ _)
theorem zZ9 {s d : TypeId} {c v : CVal} {z : Value} (I : Inv base G h w) (hv : (match c with | .str s => some (CVal.str s) | _ => none) = some v) (hs : P.underlying s = some .string) (hd : P.underlying d = some .string) (hc : VR G c z)
     : Out P base G h id v (do pure (.value (<- convert s d z))) w:=by
 cases hc <;> cases hv
 exact zAg I (by simp [convert,zB5 hs,zB5 hd]) (.str _)
theorem zVp {c v:CVal} {X:Operand} {ρ:Operand->Value} {o:Oper} (ho:o.op=.nilCheck X) (I:Inv base G h w)
    (hv:(match c with | .ptr b s o=>some (CVal.ptr b s o) | .cptr cs o=>some (CVal.cptr cs o) | .eptr b v i o=>some (CVal.eptr b v i o) | _=>none)=some v) (hc:VR G c (ρ X)):Out P base G h id v (execOp ρ o) w:=by
 generalize hz:ρ X=z at hc
 have hc':=hc
 cases hc <;> first | (cases hv;done) | skip
 all_goals
  cases hv
  exact zAg I (by simp [execOp,ho,hz]) hc'
theorem zbw {t:TypeId} {d:TypeDesc} {c:CVal} {z:Value} (I:Inv base G h w) (hd:P.underlying t=some d) (hn:∀ ms,d≠.interface ms) (hc:VR G c z) :
    Out P base G h id (.ifc t c) (do pure (.value (<- Instr.makeInterface t z))) w:=by
 refine zAg (u:=.iface t z) I ?_ (.ifc hc)
 simp only [Instr.makeInterface,Sem.run_bind,zB5 hd,Result.andThen_ok]
 cases d <;> first | exact absurd rfl (hn _) | rfl
theorem o_fn {f:Fn} {a b:List CVal} {x y:List Value} (I:Inv base G h w) (ha:VRs G a x) (hb:VRs G b y):Out P base G h id (.fn f a b) (do pure (.value (<- Instr.makeFunc f ⟨x⟩ ⟨y⟩))) w :=
 zAg I (by simp [Instr.makeFunc]) (.fn ha.1 hb.1 ha.2 hb.2)
theorem zRc {i:Nat} {c v:CVal} {z:Value} (I:Inv base G h w) (hv:(match c with | .tup vs=>if i<vs.length then some (nth vs i) else none | _=>none)=some v) (hc:VR G c z)  :
    Out P base G h id v (do pure (.value (<- Instr.extract z i))) w:=by
 cases hc <;> first | (cases hv;done) | skip
 rename_i vs us hl hh
 by_cases hi:i<vs.length
 . simp only [if_pos hi] at hv
   cases hv
   have hi':i<us.length:=by omega
   refine zAg (u:=us[i]) I ?_ (hh i _ _ (getElem?_nth hi) (List.getElem?_eq_getElem hi'))
   simp [Instr.extract,hi']
 . simp only [if_neg hi] at hv
   cases hv
theorem zZ6 {t:TypeId} {d:TypeDesc} {str:Bool} {ty:TypeId} {c v:CVal} {z:Value} (I:Inv base G h w) (hd:P.underlying t=some d) (hds:str=true/\d=.string\/str=false/\∃ e,d=.slice e) (hc:VR G c z)
    (hv:(if c.isStr=str then c.lenOf.map fun n=>CVal.int .i64 n else none)=some v):Out P base G h id v (do pure (.value (<- Builtin.len_ #[t] ty #[z]))) w:=by
 split at hv
 . rename_i hs
   obtain ⟨n,hn,rfl⟩:=Option.map_eq_some_iff.1 hv
   rcases hds with ⟨rfl,rfl⟩ | ⟨rfl,e,rfl⟩
   . cases c <;> simp only [CVal.isStr] at hs <;> first | (cases hs;done) | skip
     cases hc
     cases hn
     refine zAg (u:=.int .i64 _) I ?_ (.int _ _)
     simp [Builtin.len_,zB5 hd,goInt]
   . cases c <;> simp only [CVal.lenOf] at hn <;> first | (cases hn;done) | (cases hs;done) | (cases hn;cases hc)
     all_goals
      refine zAg (u:=.int .i64 _) I ?_ (.int _ _)
      simp [Builtin.len_,zB5 hd,goInt]
 . cases hv
theorem zOc {mx : Bool} {a b v : CVal} {x y : Value} {ts : Array TypeId} {ty : TypeId} (I : Inv base G h w) (hv : (match a, b with | .int k a, .int l b => if k = l then some (CVal.int k (if mx then (if a < b then b else a) else (if b < a then b else a))) else none | _, _ => none) = some v) (ha : VR G a x) (hb : VR G b y)
     :
    Out P base G h id v (do pure (.value (<- if mx then Builtin.max_ ts ty #[x,y] else Builtin.min_ ts ty #[x,y]))) w:=by
 cases ha <;> first | (cases hv;done) | skip
 cases hb <;> first | (cases hv;done) | skip
 rename_i k a l b
 by_cases hk:k=l
 . simp only [if_pos hk] at hv
   subst hk
   cases hv
   refine zAg (u:=.int k (if mx then (if a<b then b else a) else (if b<a then b else a))) I ?_ (.int _ _)
   cases mx <;> simp [Builtin.max_,Builtin.min_,Builtin.max2,Builtin.min2]
 . simp only [if_neg hk] at hv
   cases hv
theorem zN5 {t:TypeId} {fields:Array Field} {f:Nat} {fd:Field} {ti:TypeInfo} {c v:CVal} {z:Value} (I:Inv base G h w) (hv:(match c with | .ptr b s o=>some (CVal.ptr b s (o+fd.offset)) | .cptr cs o=>some (CVal.cptr cs (o+fd.offset)) | .eptr b v i o=>some (CVal.eptr b v i (o+fd.offset)) | _=>none)=some v) (ht:P.underlying t=some (.struct fields)) (hf:fields[f]? = some fd)
    (hi:P.info? fd.type=some ti) (hp:0<ti.size) (hc:VR G c z)
     :
    Out P base G h id v (do pure (.value (<- Instr.fieldAt t z f))) w:=by
 have add0:∀ a:Addr,a.spot=none->a.add fd.offset=⟨a.block,a.off+fd.offset,none⟩:=by
  intro a ha
  obtain ⟨b,o,s⟩:=a
  simp only at ha;subst ha
  unfold Addr.add
  split
  . rename_i h0;rw [h0];rfl
  . rfl
 have run:∀ a:Addr,a.spot=none->(Instr.fieldAt t (.pointer (some a)) f).run P w=.ok (.pointer (some ⟨a.block,a.off+fd.offset,none⟩)) w:=by
  intro a ha
  have:¬ ti.size=0:=by omega
  simp [Instr.fieldAt,zB5 ht,hf,Instr.sureAddr,fieldPlace,zCe hi,this,add0 a ha]
 cases hc <;> first | (cases hv;done) | skip
 . rename_i hh;cases hv;exact zAg I (by rw [Sem.run_bind,run _ rfl];rfl) (.ptr hh)
 . rename_i hh;cases hv;exact zAg I (by rw [Sem.run_bind,run _ rfl];rfl) (by rw [Nat.add_assoc];exact .cptr hh)
 . rename_i i o _ _ _ _ hh;cases hv
   exact zAg I (by rw [Sem.run_bind,run _ rfl];rfl) (by have:=VR.eptr (i:=i) (o:=o+fd.offset) hh;rw [<- Nat.add_assoc] at this;exact this)
theorem zV5 {cs:List CVal} {vs:List Value} {off:Nat} {v:CVal} {t:TypeId} {g:ElemInfo} (hg:zAt P t=some g) (hcv:VRs G cs vs) (hf:∀ c ∈ cs,c.flat=true)
    (hv:partOf cs off (kOf g)=some v):∃ u,(part t ⟨vs⟩ off).run P w=.ok u w/\VR G v u:=by
 obtain ⟨i,d,z,ok⟩:=zAz hg
 cases hag:g.agg with
 | false =>
  simp only [kOf,hag,partOf,Bool.false_eq_true,if_false] at hv
  split at hv
  . rename_i ho
    cases hv
    have hl:=hcv.1
    have hu:vs[off]? = some vs[off]:=List.getElem?_eq_getElem (by omega)
    refine ⟨vs[off],?_,hcv.2 _ _ _ (getElem?_nth ho) hu⟩
    have ha:zEe d=false:=by rw [<- ok.agg,hag]
    simp [part,zMa ok.und,ha,show off<vs.length from by omega]
  . cases hv
 | true =>
  simp only [kOf,hag,partOf,if_true] at hv
  split at hv
  . rename_i ho
    cases hv
    have ha:zEe d=true:=by rw [<- ok.agg,hag]
    refine ⟨.agg ⟨cut off (off+g.size) vs⟩,?_,.agg ?_ ?_ ?_⟩
    . have e:(⟨vs⟩:Array Value).extract off (off+g.size)=⟨cut off (off+g.size) vs⟩:=by
       apply Array.ext'
       simp [cut,List.drop_take]
      simp only [part,Sem.run_bind,zMa ok.und,ha,Result.andThen_ok,if_true,zCe ok.info,<- ok.size,Sem.run_pure,e]
    . rw [zBv _ _ _ ho,zBv _ _ _ (by rw [<- hcv.1];exact ho)]
    . intro c hc;exact hf c (List.mem_of_mem_take (List.mem_of_mem_drop hc))
    . exact ((hcv.take _).drop _).2
  . cases hv
end
end Go.CI
namespace Go.CI
open Go.RowKit
section
variable {P:Program} {base:Base} {G:Gh} {h:CHeap} {w:World} {id:Nat}
theorem zE8 {a:Addr} (ha:a.spot=none) (n:Nat):a.add n=⟨a.block,a.off+n,none⟩:=by
 obtain ⟨b,o,s⟩:=a
 simp only at ha;subst ha
 unfold Addr.add
 split
 . rename_i h0;rw [h0];rfl
 . rfl
theorem zRf {t e:TypeId} {g:ElemInfo} {c i v:CVal} {z y:Value} (I:Inv base G h w) (ht:P.underlying t=some (.slice e)) (hg:zAt P e=some g)
    (hv:(match c,i with
    | .imm _ l es,.int _ n=>if g.size=l && (decide (0<=n) && decide (n<es.length)) then some (CVal.cptr (nth es n.toNat).cells 0) else none
    | .ref b ver l off len,.int _ n=>if g.size=l && (decide (0<=n) && decide (n<len)) then some (CVal.eptr b ver (off+n.toNat) 0) else none
    | _,_=>none)=some v) (hc:VR G c z) (hi:VR G i y) :
    Out P base G h id v (do pure (.value (<- Instr.indexAt t z y))) w:=by
 obtain ⟨inf,d,zz,ok⟩:=zAz hg
 cases c <;> first | (cases hv;done) | skip
 all_goals cases i <;> first | (cases hv;done) | skip
 . rename_i tg l es k n
   dsimp only at hv
   split at hv
   . rename_i hb
     simp only [Bool.and_eq_true,decide_eq_true_eq] at hb
     obtain ⟨rfl,h0,h1⟩:=hb
     cases hv;cases hi
     cases hc with
     | imm hs hk hcap hf ht2 =>
      rename_i a cap
      have hlt:n.toNat<es.length:=by omega
      obtain ⟨hl,hcell⟩:=hf n.toNat _ (getElem?_nth hlt)
      refine zAg (u:=.pointer (some ⟨a.block,(a.off+n.toNat * g.size)+0,none⟩)) I ?_ (.cptr fun j c hj=>⟨(hcell j c hj).1,(hcell j c hj).2⟩)
      simp [Instr.indexAt,asIntOf,zB5 ht,h0,h1,zCe ok.info,zE8 hs,ok.size]
   . cases hv
 . rename_i b ver l off len k n
   dsimp only at hv
   split at hv
   . rename_i hb
     simp only [Bool.and_eq_true,decide_eq_true_eq] at hb
     obtain ⟨rfl,h0,h1⟩:=hb
     cases hv;cases hi
     cases hc with
     | ref hh hk hl hs ha =>
      rename_i ab ao cap a
      have hpos:¬ cap - off=0:=by omega
      have ha':=ha.resolve_left hpos
      subst ha'
      refine zAg (u:=.pointer (some ⟨ab,ao+(off+n.toNat) * g.size+0,none⟩)) I ?_ (.eptr hh)
      simp [Instr.indexAt,asIntOf,zB5 ht,h0,h1,zCe ok.info,zE8,ok.size,Nat.add_mul,Nat.add_assoc]
   . cases hv
theorem zRu {t e:TypeId} {n:Nat} {g:ElemInfo} {c i v:CVal} {z y:Value} (I:Inv base G h w) (ht:P.underlying t=some (.array n e)) (hg:zAt P e=some g)
    (hv:(match c,i with
    | .ptr b s o,.int _ m=>if decide (0<=m) && decide (m<n) then some (CVal.ptr b s (o+m.toNat * g.size)) else none
    | .cptr cs o,.int _ m=>if decide (0<=m) && decide (m<n) then some (CVal.cptr cs (o+m.toNat * g.size)) else none
    | .eptr b v j o,.int _ m=>if decide (0<=m) && decide (m<n) then some (CVal.eptr b v j (o+m.toNat * g.size)) else none
    | _,_=>none)=some v) (hc:VR G c z) (hi:VR G i y) :
    Out P base G h id v (do pure (.value (<- Instr.indexAt t z y))) w:=by
 obtain ⟨inf,d,zz,ok⟩:=zAz hg
 have run:∀ (a:Addr) (k:IntKind) (m:Int),a.spot=none->0<=m->m<n->(Instr.indexAt t (.pointer (some a)) (.int k m)).run P w=.ok (.pointer (some ⟨a.block,a.off+m.toNat * g.size,none⟩)) w:=by
  intro a k m ha h0 h1
  simp [Instr.indexAt,asIntOf,zB5 ht,Instr.sureAddr,h0,h1,zCe ok.info,zE8 ha,ok.size]
 cases c <;> first | (cases hv;done) | skip
 all_goals cases i <;> first | (cases hv;done) | skip
 all_goals
  dsimp only at hv
  split at hv <;> first | (cases hv;done) | skip
  rename_i hb
  simp only [Bool.and_eq_true,decide_eq_true_eq] at hb
  obtain ⟨h0,h1⟩:=hb
  cases hv;cases hi
 . cases hc with | ptr hh=>exact zAg I (by rw [Sem.run_bind,run _ _ _ rfl h0 h1];rfl) (.ptr hh)
 . cases hc with | cptr hh=>exact zAg I (by rw [Sem.run_bind,run _ _ _ rfl h0 h1];rfl) (by rw [Nat.add_assoc];exact .cptr hh)
 . rename_i b ver j o k m
   cases hc with
   | eptr hh=>exact zAg I (by rw [Sem.run_bind,run _ _ _ rfl h0 h1];rfl) (by have:=VR.eptr (i:=j) (o:=o+m.toNat * g.size) hh;rw [<- Nat.add_assoc] at this;exact this)
theorem zSc {t:TypeId} {c i v:CVal} {z y:Value} (I:Inv base G h w) (ht:P.underlying t=some .string)
    (hv:(match c,i with
    | .str s,.int _ n=>if 0<=n then match s[n.toNat]? with
     | some b=>some (CVal.int .u8 b.toNat)
     | none=>none else none
    | _,_=>none)=some v) (hc:VR G c z) (hi:VR G i y) :
    Out P base G h id v (do pure (.value (<- Instr.index t z y))) w:=by
 cases c <;> first | (cases hv;done) | skip
 cases i <;> first | (cases hv;done) | skip
 rename_i s k n
 dsimp only at hv
 split at hv
 . rename_i h0
   split at hv
   . rename_i b hb
     cases hv;cases hi
     obtain ⟨ba,rfl,rfl⟩:=zFc hc
     refine zAg (u:=.int .u8 b.toNat) I ?_ (.int _ _)
     have hget:ba[n.toNat]? = some b:=by
      have h1:n.toNat<ba.data.toList.length:=(List.getElem?_eq_some_iff.1 hb).1
      have h2:n.toNat<ba.size:=by rw [size_eq] at h1;exact h1
      rw [getElem?_pos ba n.toNat h2]
      have:=List.getElem?_eq_getElem h1
      rw [this] at hb
      rw [<- Option.some.inj hb];rfl
     simp [Instr.index,asIntOf,zB5 ht,h0,hget]
   . cases hv
 . cases hv
theorem zDz {lo:Option CVal} {x:Option Value} {d n y:Nat} {code:BoundsCode} (hr:match lo,x with | none,none=>True | some c,some v=>VR G c v | _,_=>False) (hb:zCx d lo=some n) (hle:n<=y) :
    (match x with | some v=>Instr.sliceBound v y code | none=>pure d:Sem Nat).run P w=.ok n w:=by
 cases lo with
 | none =>
  cases x with
  | none=>simp only [zCx] at hb;cases hb;rfl
  | some v=>exact hr.elim
 | some c =>
  cases x with
  | none=>exact hr.elim
  | some v =>
   cases hr <;> simp only [zCx] at hb <;> first | (cases hb;done) | skip
   split at hb
   . rename_i k m h0
     cases hb
     have:m<=(y:Int):=by omega
     simp [Instr.sliceBound,asIntOf,h0,this]
   . cases hb
theorem zY7 {k0:Nat} {t:TypeId} {d:TypeDesc} {c v:CVal} {z:Value} {lo hi:Option CVal} {x y:Option Value} (I:Inv base G h w) (ht:P.underlying t=some d)
    (hd:d=.string/\k0=0\/∃ e g,d=.slice e/\zAt P e=some g/\k0=g.size) (hc:VR G c z)
    (hlo:match lo,x with | none,none=>True | some c,some v=>VR G c v | _,_=>False) (hhi:match hi,y with | none,none=>True | some c,some v=>VR G c v | _,_=>False)
    (hv:zKr k0 c lo hi=some v):Out P base G h id v (do pure (.value (<- Instr.sliceAt t z x y none))) w:=by
 unfold zKr at hv
 split at hv
 . cases hv
 rename_i n hn
 split at hv
 . cases hv
 rename_i hh hhb
 split at hv
 . cases hv
 rename_i ll hlb
 split at hv
 . rename_i hle
   simp only [Bool.and_eq_true,decide_eq_true_eq] at hle
   obtain ⟨hl1,hl2⟩:=hle
   have bounds:∀ (isS:Bool) (cap:Nat),n<=cap->(isS=false->cap=n)->(Instr.sliceBounds isS n cap x y none).run P w=.ok (ll,hh,cap) w:=by
    intro isS cap hcap hS
    have e1:=zDz (P:=P) (w:=w) (code:=if isS then .sliceAcap else .sliceAlen) (y:=cap) hhi hhb (by omega)
    have e2:=zDz (P:=P) (w:=w) (code:=.sliceB) (y:=hh) hlo hlb hl1
    unfold Instr.sliceBounds
    cases y <;> cases x <;> simp_all
   rcases hd with ⟨rfl,rfl⟩ | ⟨e,g,rfl,hg,rfl⟩
   . cases c <;> simp only [CVal.lenOf] at hn <;> first | (cases hn;done) | skip
     all_goals dsimp only at hv
     case nils=>simp at hv
     case imm=>cases hc with | imm hs hk hcap hf ht2=>split at hv <;> first | (cases hv;done) | omega
     case ref=>cases hc with | ref hw hk hl hs ha=>split at hv <;> first | (cases hv;done) | omega
     simp only [if_true] at hv
     cases hv
     obtain ⟨ba,rfl,rfl⟩:=zFc hc
     simp only [size_eq] at hn
     cases hn
     refine zAg (u:=.string (ba.extract ll hh)) I ?_ (zIg ?_)
     . simp [Instr.sliceAt,Instr.slice,zB5 ht,bounds false ba.size (Nat.le_refl _) (fun _=>rfl)]
     . simp [ByteArray.data_extract,cut,List.drop_take]
   . obtain ⟨inf,d,zz,ok⟩:=zAz hg
     have run:∀ (a:Option Addr) (cap:Nat),n<=cap->(Instr.sliceAt t (.slice a n cap) x y none).run P w=.ok (.slice (if cap=ll then a else a.map (·.add (ll * g.size))) (hh - ll) (cap - ll)) w:=by
      intro a cap hcap
      simp [Instr.sliceAt,Instr.slice,zB5 ht,bounds true cap hcap (by simp),zCe ok.info,ok.size]
     cases c <;> simp only [CVal.lenOf] at hn <;> first | (cases hn;done) | skip
     case str=>have:=ok.pos;dsimp only at hv;rw [if_neg (by omega)] at hv;cases hv
     . cases hn;cases hc;dsimp only at hv
       have:=ok.pos
       rw [if_neg (by omega)] at hv
       cases hv
       have:hh=0:=by omega
       have:ll=0:=by omega
       subst hh ll
       exact zAg I (by rw [Sem.run_bind,run none 0 (Nat.le_refl _)];rfl) .nils
     . rename_i tg k es
       cases hn
       cases hc with | imm hs hk hcap hf htag=>?_
       rename_i a cap
       dsimp only at hv
       split at hv
       . rename_i hke
         subst hke
         cases hv
         have hlen:(cut ll hh es).length=hh - ll:=zBv _ _ _ hl2
         have hfz:∀ a':Addr,(cap=ll\/a'=⟨a.block,a.off+ll * g.size,none⟩)->Froz G a'.block a'.off g.size (cut ll hh es):=by
          intro a' ha' i e he
          rw [getElem?_cut] at he
          split at he
          . rename_i hlt
            have ha2:=ha'.resolve_left (by omega)
            subst ha2
            obtain ⟨h1,h2⟩:=hf _ _ he
            refine ⟨h1,fun j c hc=>⟨(h2 j c hc).1,?_⟩⟩
            have:=(h2 j c hc).2
            rw [Nat.add_mul,<- Nat.add_assoc] at this
            exact this
          . cases he
         have htg:∀ a':Addr,(cap=ll\/a'=⟨a.block,a.off+ll * g.size,none⟩)->zR4 G (if hh=es.length then tg else .none) a' (cut ll hh es).length g.size (cap - ll):=by
          intro a' ha'
          rw [hlen]
          split
          . rename_i he
            subst he
            cases tg with
            | none=>trivial
            | full=>have:cap=es.length:=htag;show cap - ll=_;omega
            | own id ver =>
             obtain ⟨ab,e,room,h1,h2,h3⟩:=htag
             refine ⟨ab,e,room,h1,by omega,?_⟩
             by_cases hr:room=0
             . exact .inl hr
             . obtain ⟨h4,h5⟩:=h3.resolve_left hr
               have ha2:=ha'.resolve_left (by omega)
               subst ha2
               refine .inr ⟨h4,?_⟩
               show a.off+ll * g.size+(es.length - ll) * g.size=e
               rw [Nat.add_assoc,<- Nat.add_mul,show ll+(es.length - ll)=es.length from by omega]
               exact h5
          . trivial
         by_cases hcl:cap=ll
         . have:=VR.imm (G:=G) (t:=if hh=es.length then tg else .none) (a:=a) (cap:=cap - ll) hs hk (by omega) (hfz a (.inl hcl)) (htg a (.inl hcl))
           rw [hlen] at this
           exact zAg I (by rw [Sem.run_bind,run (some a) cap hcap,if_pos hcl];rfl) this
         . have:=VR.imm (G:=G) (t:=if hh=es.length then tg else .none) (a:=⟨a.block,a.off+ll * g.size,none⟩) (cap:=cap - ll) rfl hk (by omega) (hfz _ (.inr rfl)) (htg _ (.inr rfl))
           rw [hlen] at this
           exact zAg I (by rw [Sem.run_bind,run (some a) cap hcap,if_neg hcl,Option.map_some,zE8 hs];rfl) this
       . cases hv
     . rename_i b ver k off len
       cases hc with | ref hw hk hl hs ha=>?_
       rename_i ab ao cap a
       have hn':len=n:=Option.some.inj hn
       subst hn'
       dsimp only at hv
       split at hv
       . rename_i hke
         subst hke
         cases hv
         by_cases hcl:cap - off=ll
         . have:=VR.ref (off:=off+ll) (len:=hh - ll) (a:=a) hw hk (by omega) hs (.inl (by omega))
           rw [show cap - (off+ll)=cap - off - ll from by omega] at this
           exact zAg I (by rw [Sem.run_bind,run (some a) (cap - off) (by omega),if_pos hcl];rfl) this
         . have ha2:=ha.resolve_left (by omega)
           subst ha2
           have:=VR.ref (off:=off+ll) (len:=hh - ll) (a:=⟨ab,ao+(off+ll) * g.size,none⟩) hw hk (by omega) rfl (.inr rfl)
           rw [show cap - (off+ll)=cap - off - ll from by omega,Nat.add_mul,<- Nat.add_assoc] at this
           exact zAg I (by rw [Sem.run_bind,run _ (cap - off) (by omega),if_neg hcl,Option.map_some,zE8 rfl];rfl) this
       . cases hv
 . cases hv
end
end Go.CI
namespace Go.CI
open Go.RowKit
section
variable {P:Program} {base:Base} {G:Gh} {h:CHeap} {w:World} {id:Nat}
def Gh.withMu (G:Gh) (id ab k:Nat):Gh:={ G with mu:=fun b=>if b=id then some (ab,k) else G.mu b }
theorem zMl {G:Gh} {id ab k:Nat} (hf:G.mu id=none):G.le (G.withMu id ab k) :=
 ⟨fun _ _ _ h=>h,fun b x hb=>by show (if b=id then _ else _)=_;rw [if_neg (by intro e;subst e;rw [hf] at hb;cases hb)];exact hb,fun _ _ _ h=>h,fun _ _ _ h=>h⟩
theorem zNg (I:Inv base G h w) (hf:zCw G h id) (hid:id<h.next) (arr:Array Value) (T:TypeId) (hbm:arr.size<zBn) (h':CHeap) (hn:h.next<=h'.next)
    (hty:h'.tys=h.tys) (he:h'=h\/∃ cs,h'.ents=(id,.cells cs)::h.ents/\VRs G cs arr.toList/\∀ c ∈ cs,c.flat=true) :
    Post base (· = id) G h w (G.withMu id w.heap.size (descOf T arr.size)) h' (w.alloc (.cells arr T)):=by
 obtain ⟨own,I⟩:=I
 have hle:G.le (G.withMu id w.heap.size (descOf T arr.size)):=zMl hf.1
 have live:∀ i,i<arr.size->Live (w.alloc (.cells arr T)) w.heap.size i:=fun i hi =>
  ⟨⟨arr[i],by rw [zEs];exact Array.getElem?_eq_getElem hi⟩,zFz arr T 0 0 i (.inl (Nat.le_refl _))⟩
 have same:∀ b,b≠id->G.Same (G.withMu id w.heap.size (descOf T arr.size)) b:=fun b hb=>⟨by show (if b=id then _ else _)=_;rw [if_neg hb],fun _=>rfl,fun _=>rfl⟩
 have hget:∀ b,b≠id->h'.get b=h.get b:=by
  intro b hb
  rcases he with rfl | ⟨cs,he,_⟩
  . rfl
  . show zA1 h'.ents b=_
    rw [he]
    simp only [zA1]
    rw [if_neg (by simp;exact fun e=>hb e.symm)]
    rfl
 refine ⟨hle,⟨_,I.step (own':=fun a i=>if a=w.heap.size then (if i<arr.size then some (.m id) else none) else own a i) (x:=.r id) hle (zGu I arr T (0,0) (fun i=>if i<arr.size then some (.m id) else none) _) hn
  (fun ab o c hf=>.inl hf) ?_ (fun b v y hy=>.inl hy) (fun b v y hy=>.inl hy) ?_ ?_ ?_ (fun b T h1=>.inl ⟨by unfold CHeap.ty at h1 ⊢;rw [<- hty];exact h1,fun _ _ h=>h⟩)⟩,(Below.refl _ _).alloc I.top _,hn,fun i hi hne hfr=>?_⟩
 . intro b ab k hm
   by_cases hb:b=id
   . subst hb
     have hm:(if b=b then some (w.heap.size,descOf T arr.size) else G.mu b)=some (ab,k):=hm
     rw [if_pos rfl] at hm
     cases hm
     refine .inr ⟨by omega,I.top,fun i hi=>?_,fun e=>absurd e zPp,fun _=>?_⟩
     . rw [zGx hbm] at hi;exact ⟨by simp [hi],live i hi⟩
     . rw [zGx hbm,zQ6 hbm]
       unfold World.shape?
       rw [zFx]
   . have hm:(if b=id then some (w.heap.size,descOf T arr.size) else G.mu b)=some (ab,k):=hm
     rw [if_neg hb] at hm
     exact .inl hm
 . intro b o hb
   by_cases hbi:b=id
   . subst hbi
     rcases he with rfl | ⟨cs,he,hv,hfl⟩
     . rw [hf.2.2.2] at hb;cases hb
     . have:h'.get b=some (.cells cs):=by show zA1 h'.ents b=_;rw [he];simp [zA1]
       rw [this] at hb
       cases hb
       refine .inr ⟨by omega,fun ab k hm=>?_⟩
       have hm:(if b=b then some (w.heap.size,descOf T arr.size) else G.mu b)=some (ab,k):=hm
       rw [if_pos rfl] at hm
       cases hm
       refine ⟨by rw [hv.1,Array.length_toList,zGx hbm],fun i c hc=>⟨hfl c (List.mem_of_getElem? hc),?_⟩⟩
       have hi:i<arr.toList.length:=by rw [<- hv.1];exact (List.getElem?_eq_some_iff.1 hc).1
       refine ⟨arr.toList[i],?_,(hv.2 i c _ hc (List.getElem?_eq_getElem hi)).mono hle⟩
       rw [zEs,<- Array.getElem?_toList,List.getElem?_eq_getElem hi]
   . rw [hget b hbi] at hb
     exact .inl ⟨hb,same b hbi,by simp,by simp;exact fun e=>hbi e.symm,by simp⟩
 . intro ab o y ho
   show ab<(w.heap.push _).size
   rw [Array.size_push]
   have ho:(if ab=w.heap.size then (if o<arr.size then some (Own.m id) else none) else own ab o)=some y:=ho
   split at ho
   . omega
   . have:=I.old _ _ _ ho;omega
 . rcases he with rfl | ⟨cs,he,_⟩
   . exact I.nod
   . rw [he,List.map_cons,List.nodup_cons]
     refine ⟨fun hm=>?_,I.nod⟩
     exact zFs hm hf.2.2.2
 . obtain ⟨h1,h2,h3,h4⟩:=hfr
   exact ⟨by rw [(same i hne).1];exact h1,h2,h3,by rw [hget i hne];exact h4⟩
theorem zYn {t:TypeId} {f:ElemInfo} (I:Inv base G h w) (hf:zCw G h id) (hid:id<h.next) (ht:zAt P t=some f) (hbm:f.size<zBn) :
    Out P base G h id (.ptr id (descOf t f.size) 0) (do pure (.value (<- Instr.alloc t true (.tuple #[])))) w:=by
 obtain ⟨i,d,z,ok⟩:=zAz ht
 refine .inl ⟨.pointer (some ⟨w.heap.size,0,none⟩),w.alloc (.cells z.cells t),?_,G.withMu id w.heap.size (descOf t f.size),.ptr ?_,?_⟩
 . simp [Instr.alloc,zGa ok.info ok.zero,newVar,newRow]
 . show (if id=id then _ else _)=_
   rw [if_pos rfl]
 . have:=zNg I hf hid z.cells t (by rw [ok.zsize];exact hbm) h (Nat.le_refl _) rfl (.inl rfl)
   rw [ok.zsize] at this
   exact this
theorem zBl {f:ElemInfo} {i:TypeInfo} {t:TypeId} {d:TypeDesc} {z:Value} (ok:InfoOk P t f i d z):(zBk f.agg f.zero).cells=f.zero:=by
 unfold zBk
 split
 . rfl
 . rename_i ha
   have h1:=ok.one (by simpa using ha)
   have h2:=ok.len
   match hz:f.zero with
   | []=>rw [hz] at h2;simp at h2;omega
   | [a] =>
    have:=ok.flat a (by rw [hz];simp)
    exact CVal.cells_flat this
   | _::_::_=>rw [hz] at h2;simp at h2;omega
theorem zH7 {f:ElemInfo} {i:TypeInfo} {t:TypeId} {d:TypeDesc} {z:Value} (ok:InfoOk P t f i d z) (G:Gh) (n:Nat) :
    VRs G (zAp (List.replicate n (zBk f.agg f.zero))) ((Array.range (n * f.size)).map fun i=>z.cells[i % z.cells.size]!).toList:=by
 have hk:AllK f.size (List.replicate n (zBk f.agg f.zero)):=by
  intro e he
  rw [(List.mem_replicate.1 he).2,zBl ok,ok.len]
 have hlen:(zAp (List.replicate n (zBk f.agg f.zero))).length=n * f.size:=by rw [zAl hk,List.length_replicate]
 refine ⟨by rw [hlen];simp,fun j c v hc hv=>?_⟩
 have hj:j<n * f.size:=by rw [<- hlen];exact (List.getElem?_eq_some_iff.1 hc).1
 have hmod:j % f.size<f.zero.length:=by rw [ok.len];exact Nat.mod_lt _ ok.pos
 have hdiv:j / f.size<n:=Nat.div_lt_of_lt_mul (by rw [Nat.mul_comm];exact hj)
 have h1:(zAp (List.replicate n (zBk f.agg f.zero)))[j / f.size * f.size+j % f.size]? = some f.zero[j % f.size] :=
  zDk hk (e:=zBk f.agg f.zero) (by rw [List.getElem?_replicate,if_pos hdiv]) (by rw [zBl ok];exact List.getElem?_eq_getElem hmod)
 rw [Nat.mul_comm,Nat.div_add_mod,hc] at h1
 cases h1
 have hzs:=ok.zsize
 have h2:v=z.cells[j % z.cells.size]!:=by
  simp only [Array.toList_map,List.getElem?_map,Array.toList_range,List.getElem?_range hj,Option.map_some,Option.some.injEq] at hv
  exact hv.symm
 have hlt:j % z.cells.size<z.cells.size:=by rw [hzs];exact Nat.mod_lt _ ok.pos
 rw [h2,getElem!_pos z.cells _ hlt]
 refine (ok.zeros G).2 (j % f.size) _ _ (List.getElem?_eq_getElem hmod) ?_
 rw [Array.getElem?_toList,<- hzs]
 exact Array.getElem?_eq_getElem hlt
theorem zHv (k:Nat) (hk:0<k) (ev:COpnd->CVal) (ρ:Operand->Value):∀ (ps:List (Nat × COpnd)) (Ps:List (Nat × Operand)) (es:List CVal) (arr:Array Value) (out:List CVal),
    Both (fun p Q=>p.1=Q.1/\VR G (ev p.2) (ρ Q.2)) ps Ps->AllK k es->VRs G (zAp es) arr.toList->(∀ e ∈ es,∀ c ∈ e.cells,c.flat=true) ->
    zD2 k es (ps.map fun p=>(p.1,(ev p.2).bare))=some out->∃ arr',Instr.fill (fun i=>some (i * k,k)) arr (Ps.map fun p=>(p.1,ρ p.2))=some arr'/\AllK k out/\VRs G (zAp out) arr'.toList/\(∀ e ∈ out,∀ c ∈ e.cells,c.flat=true)/\out.length=es.length
 | _,_,es,arr,out,.nil,hak,hv,hf,ho=>by
  simp only [List.map_nil,zD2] at ho
  cases ho
  exact ⟨arr,rfl,hak,hv,hf,rfl⟩
 | _,_,es,arr,out,.cons (a:=p) (b:=Q) (l₁:=ps) (l₂:=Ps) ⟨he,hr⟩ hrest,hak,hv,hf,ho=>by
  obtain ⟨i,x⟩:=p
  obtain ⟨i',X⟩:=Q
  simp only at he hr
  subst he
  simp only [List.map_cons,zD2] at ho
  split at ho
  . rename_i hc
    simp only [Bool.and_eq_true,decide_eq_true_eq] at hc
    obtain ⟨hw,hl,hi⟩:=hc
    have hr':=hr.bare
    obtain ⟨hcell,hflat⟩:=hr'.cells hw
    have hak':AllK k (zBw es i (ev x).bare):=by
     intro e he
     obtain ⟨j,hj⟩:=List.getElem?_of_mem he
     rw [getElem?_setNth] at hj
     split at hj
     . cases hj;exact hl
     . exact hak e (List.mem_of_getElem? hj)
    have hf':∀ e ∈ zBw es i (ev x).bare,∀ c ∈ e.cells,c.flat=true:=by
     intro e he
     obtain ⟨j,hj⟩:=List.getElem?_of_mem he
     rw [getElem?_setNth] at hj
     split at hj
     . cases hj;exact hflat
     . exact hf e (List.mem_of_getElem? hj)
    have hle:i * k+k<=(zAp es).length:=by
     rw [zAl hak]
     have:(i+1) * k<=es.length * k:=Nat.mul_le_mul_right _ (by omega)
     rw [Nat.succ_mul] at this;exact this
    have hsp:zAp (zBw es i (ev x).bare)=(zAp es).take (i * k)++((ev x).bare.cells++(zAp es).drop (i * k+k)):=by
     clear hv ho hle hf' hak' hf
     induction es generalizing i with
     | nil=>simp at hi
     | cons a r ih =>
      have ha:a.cells.length=k:=hak a (by simp)
      cases i with
      | zero =>
       simp only [zBw,zAp,List.flatMap_cons,Nat.zero_mul,List.take_zero,List.nil_append,Nat.zero_add]
       rw [List.drop_append_of_le_length (by omega),List.drop_eq_nil_of_le (by omega),List.nil_append]
      | succ i =>
       have:=ih (fun e he=>hak e (by simp [he])) i (by simpa using hi)
       simp only [zBw,zAp,List.flatMap_cons] at this ⊢
       have e1:(i+1) * k=a.cells.length+i * k:=by rw [Nat.succ_mul,ha,Nat.add_comm]
       rw [this,e1,List.take_length_add_append,Nat.add_assoc,List.drop_length_add_append,List.append_assoc]
    have hv':VRs G (zAp (zBw es i (ev x).bare)) ((ρ X).cells.zipIdx.foldl (fun cs p=>cs.setIfInBounds (i * k+p.2) p.1) arr).toList:=by
     rw [hsp];exact VRs.splice hv hcell hl hle
    obtain ⟨arr',h1,h2,h3,h4,h5⟩:=zHv k hk ev ρ ps Ps _ _ out hrest hak' hv' hf' ho
    refine ⟨arr',?_,h2,h3,h4,by rw [h5,zDr]⟩
    have e1:(ρ X).cells.size=k:=by rw [<- Array.length_toList,<- hcell.1,hl]
    have e2:arr.size=(zAp es).length:=by rw [<- Array.length_toList,hv.1]
    simp only [List.map_cons,Instr.fill]
    rw [if_neg (by simp;omega)]
    exact h1
  . cases ho
theorem run_buildSlice {t e:TypeId} {g:ElemInfo} {i:TypeInfo} {d:TypeDesc} {z:Value} {len:Nat} {Ps:Array (Nat × Value)} {cells:Array Value} (ht:P.underlying t=some (.slice e)) (ok:InfoOk P e g i d z) (hlen:len * g.size<=16777216)
    (hfill:Instr.fill (fun i=>some (i * g.size,g.size)) ((Array.range (len * g.size)).map fun i=>z.cells[i % z.cells.size]!) Ps.toList=some cells) :
    (Instr.buildSlice t len Ps).run P w=.ok (.slice (some ⟨w.heap.size,0,none⟩) len len) (w.alloc (.cells cells e)):=by
 have h1:¬ len * i.size > 2 ^ 24:=by rw [<- ok.size];omega
 rw [ok.size] at hfill
 by_cases hz:len * i.size=0
 . simp [Instr.buildSlice,zB5 ht,zCe ok.info,hz]
   rw [hz,show (Array.range 0)=#[] from rfl,Array.map_empty] at hfill
   rw [show (Array.range 0)=#[] from rfl,Array.map_empty,hfill]
   simp [newRow]
 . simp [Instr.buildSlice,zB5 ht,zCe ok.info,h1,hz,zGa ok.info ok.zero]
   rw [hfill]
   simp [newRow]
end
end Go.CI
namespace Go.CI
open Go.RowKit
section
variable {P:Program} {base:Base} {G:Gh} {h:CHeap} {w:World} {id:Nat}
theorem Inv.drew (I:Inv base G h w):Inv base G h w.drew:=by
 obtain ⟨own,I⟩:=I
 exact ⟨own,⟨I.fzs,I.mus,I.rws,I.tks,I.ents,I.old,I.top,I.nod,I.cln,I.gls,I.tyk,I.tys⟩⟩
theorem Post.drewL {ex:Nat->Prop} {G':Gh} {h':CHeap} {w':World} (p:Post base ex G h w.drew G' h' w'):Post base ex G h w G' h' w' :=
 ⟨p.le,p.inv,((Below.refl base w).drew).trans p.below,p.next,p.fresh⟩
theorem zat {t e:TypeId} {g:ElemInfo} {len:Nat} {ps:List (Nat × COpnd)} {Ps:Array (Nat × Operand)} {ev:COpnd->CVal} {ρ:Operand->Value} {v:CVal} (I:Inv base G h w) (ht:P.underlying t=some (.slice e)) (hg:zAt P e=some g) (hlen:len * g.size<=16777216)
    (hp:Both (fun p Q=>p.1=Q.1/\VR G (ev p.2) (ρ Q.2)) ps Ps.toList) (hv:(zD2 g.zero.length (List.replicate len (zBk g.agg g.zero)) (ps.map fun p=>(p.1,(ev p.2).bare))).map (.imm .full g.zero.length)=some v) :
    Out P base G h id v (do pure (.value (<- Instr.buildSlice t len (Ps.map fun (i,x)=>(i,ρ x))))) w:=by
 obtain ⟨i,d,z,ok⟩:=zAz hg
 rw [ok.len] at hv
 obtain ⟨es,hes,rfl⟩:=Option.map_eq_some_iff.1 hv
 have hk0:AllK g.size (List.replicate len (zBk g.agg g.zero)):=by
  intro e he;rw [(List.mem_replicate.1 he).2,zBl ok,ok.len]
 have hf0:∀ e ∈ List.replicate len (zBk g.agg g.zero),∀ c ∈ e.cells,c.flat=true:=by
  intro e he;rw [(List.mem_replicate.1 he).2,zBl ok];exact ok.flat
 obtain ⟨arr,h1,h2,h3,h4,h5⟩:=zHv g.size ok.pos ev ρ ps Ps.toList _ _ es hp hk0 (zH7 ok G len) hf0 hes
 rw [List.length_replicate] at h5
 have hrun:=run_buildSlice (w:=w) (Ps:=Ps.map fun (i,x)=>(i,ρ x)) ht ok hlen (by rw [Array.toList_map];exact h1)
 obtain ⟨G',hv',hpost⟩:=zIt I (· = id) arr e (0,0) g.size len es .full ok.pos h2 (by omega) (.inr ⟨rfl,h5.symm⟩) h4 (fun j c hc=>by
  have hj:j<arr.toList.length:=by rw [<- h3.1];exact (List.getElem?_eq_some_iff.1 hc).1
  exact ⟨arr.toList[j],by rw [<- Array.getElem?_toList];exact List.getElem?_eq_getElem hj,h3.2 j c _ hc (List.getElem?_eq_getElem hj)⟩)
 rw [h5] at hv'
 exact .inl ⟨_,_,by rw [Sem.run_bind,hrun];rfl,G',hv',hpost⟩
def u8s (l:List UInt8):List CVal:=l.map fun b=>.int .u8 b.toNat
theorem zJ0 (l:List UInt8):zAp (u8s l)=u8s l:=by
 induction l with
 | nil=>rfl
 | cons b r ih=>simp only [zAp,u8s,List.map_cons,List.flatMap_cons] at ih ⊢;rw [ih];rfl
theorem zLj (l:List UInt8):AllK 1 (u8s l):=by
 intro e he
 obtain ⟨b,_,rfl⟩:=List.mem_map.1 he
 rfl
theorem zLh (l:List UInt8):∀ e ∈ u8s l,∀ c ∈ e.cells,c.flat=true:=by
 intro e he c hc
 obtain ⟨b,_,rfl⟩:=List.mem_map.1 he
 simp [CVal.cells] at hc
 subst hc;rfl
theorem zUk (G:Gh) (s:ByteArray) (cap:Nat) (i:Nat) (c:CVal) (hc:(u8s s.data.toList)[i]? = some c):∃ v,(bytesRow s cap)[i]? = some v/\VR G c v:=by
 unfold u8s at hc
 rw [List.getElem?_map] at hc
 cases hb:s.data.toList[i]? with
 | none=>rw [hb] at hc;cases hc
 | some b =>
  rw [hb] at hc;cases hc
  refine ⟨.int .u8 b.toNat,?_,.int _ _⟩
  have hi:i<s.data.size:=by have:=(List.getElem?_eq_some_iff.1 hb).1;rwa [Array.length_toList] at this
  unfold bytesRow
  rw [Array.getElem?_append_left (by simpa using hi)]
  rw [Array.getElem?_map,<- Array.getElem?_toList,hb];rfl
theorem zGd (w:World) (n:Nat) (e:TypeId):n<=grownCap w n 0 e:=by
 unfold grownCap Question.cut;dsimp only;omega
theorem zbm {s d e:TypeId} {c v:CVal} {z:Value} (I:Inv base G h w) (hs:P.underlying s=some .string) (hd:P.underlying d=some (.slice e)) (he:P.underlying e=some (.int .u8))
    (hv:(match c with | .str s=>some (CVal.imm .none 1 (s.map fun b=>.int .u8 b.toNat)) | _=>none)=some v) (hc:VR G c z):Out P base G h id v (do pure (.value (<- convert s d z))) w:=by
 cases c <;> first | (cases hv;done) | skip
 rename_i l
 cases hv
 obtain ⟨ba,rfl,rfl⟩:=zFc hc
 have hcap:=zGd w ba.size e
 have hlen:(u8s ba.data.toList).length=ba.size:=by unfold u8s;rw [List.length_map,size_eq]
 obtain ⟨G',hv',hpost⟩:=zIt (I.drew) (· = id) (bytesRow ba (grownCap w ba.size 0 e)) e ((bytesRow ba (grownCap w ba.size 0 e)).size,(bytesRow ba (grownCap w ba.size 0 e)).size+1) 1 (grownCap w ba.size 0 e) (u8s ba.data.toList) .none
  (by omega) (zLj _) (by rw [hlen];exact hcap) (.inl rfl) (zLh _) (fun i c hc=>by rw [zJ0] at hc;exact zUk G ba _ i c hc)
 rw [hlen] at hv'
 exact .inl ⟨_,_,by rw [Sem.run_bind,run_bytes_of_string w s d e ba hs hd he];rfl,G',hv',hpost.drewL⟩
theorem zLn {fields:Array Field} (hf:∀ f ∈ fields.toList,∃ t,P.info? f.type=some t) {i off size:Nat} (hp:zEv P fields i=some (off,size)) :
    ((fields.toList.map fun f=>(f.offset,((P.info? f.type).map (·.size)).getD 0)).toArray)[i]? = some (off,size):=by
 unfold zEv at hp
 split at hp
 . rename_i f hfi
   split at hp
   . rename_i t ht
     split at hp
     . cases hp
       rw [List.getElem?_toArray,List.getElem?_map,Array.getElem?_toList,hfi]
       simp [ht]
     . cases hp
   . cases hp
 . cases hp
theorem zIv {p q:Nat->Option (Nat × Nat)} (hpq:∀ i x,p i=some x->q i=some x):∀ (ps:List (Nat × COpnd)) (qs:List (Nat × Nat × COpnd)),placed p ps=some qs->placed q ps=some qs
 | [],qs,h=>h
 | (i,x)::ps,qs,h=>by
  simp only [placed] at h ⊢
  split at h
  . rename_i off size rest h1 h2
    rw [hpq i _ h1,zIv hpq ps rest h2];exact h
  . cases h
theorem zQz {t:TypeId} {f:ElemInfo} {ps:List (Nat × COpnd)} {Ps:Array (Nat × Operand)} {qs:List (Nat × Nat × COpnd)} {ev:COpnd->CVal} {ρ:Operand->Value} {v:CVal} (I:Inv base G h w) (hf:zAt P t=some f)
    (hd:(∃ fields:Array Field,P.underlying t=some (.struct fields)/\(∀ f ∈ fields.toList,∃ t,P.info? f.type=some t)/\placed (zEv P fields) ps=some qs) \/
     ∃ n e g,P.underlying t=some (.array n e)/\zAt P e=some g/\placed (fun i=>some (i * g.size,g.size)) ps=some qs)
    (hp:Both (fun p Q=>p.1=Q.1/\VR G (ev p.2) (ρ Q.2)) ps Ps.toList) (hv:(zE0 f.zero (qs.map fun p=>(p.1,p.2.1,ev p.2.2))).map .agg=some v) :
    Out P base G h id v (do pure (.value (<- Instr.build t (Ps.map fun (i,x)=>(i,ρ x))))) w:=by
 obtain ⟨i,d,z,ok⟩:=zAz hf
 obtain ⟨cs,hcs,rfl⟩:=Option.map_eq_some_iff.1 hv
 rcases hd with ⟨fields,hu,hall,hpl⟩ | ⟨n,e,g,hu,hg,hpl⟩
 . obtain ⟨arr,h1,h2,h3⟩:=zL2 _ ev ρ ps Ps.toList qs f.zero z.cells cs hp (zIv (fun i x hx=>zLn hall (by obtain ⟨a,b⟩:=x;exact hx)) ps qs hpl) (ok.zeros G) ok.flat hcs
   refine zAg (u:=.agg arr) I ?_ (.agg h2.1 h3 h2.2)
   have e2:=zJ9 (w:=w) fields hall
   rw [Sem.run_bind]
   have:(Instr.build t (Ps.map fun (i,x)=>(i,ρ x))).run P w=.ok (.agg arr) w:=by
    unfold Instr.build
    simp only [Sem.run_bind,zGa ok.info ok.zero,zB5 hu,Result.andThen_ok] at e2 ⊢
    rw [e2]
    simp only [Result.andThen_ok,Array.toList_map]
    rw [h1];rfl
   rw [this];rfl
 . obtain ⟨i',d',z',ok'⟩:=zAz hg
   obtain ⟨arr,h1,h2,h3⟩:=zL2 _ ev ρ ps Ps.toList qs f.zero z.cells cs hp hpl (ok.zeros G) ok.flat hcs
   refine zAg (u:=.agg arr) I ?_ (.agg h2.1 h3 h2.2)
   rw [Sem.run_bind]
   have:(Instr.build t (Ps.map fun (i,x)=>(i,ρ x))).run P w=.ok (.agg arr) w:=by
    unfold Instr.build
    simp only [Sem.run_bind,zGa ok.info ok.zero,zB5 hu,Result.andThen_ok,zCe ok'.info,Array.toList_map]
    rw [<- ok'.size,h1];rfl
   rw [this];rfl
end
end Go.CI
namespace Go.CI
open Go.RowKit
section
variable {P:Program} {base:Base} {G:Gh} {h:CHeap} {w:World} {id:Nat}
theorem zKw {E:Env} {dsts:List (Option Tmp)} {ev:COpnd->CVal} {ρ:Operand->Value} (hr:ORel G E dsts ev ρ) {X:Option Operand} {x:Option COpnd} (hx:zJ8 E dsts X=some x) :
    match x.map ev,X.map ρ with | none,none=>True | some c,some v=>VR G c v | _,_=>False:=by
 cases X with
 | none=>simp only [zJ8] at hx;cases hx;trivial
 | some X =>
  simp only [zJ8] at hx
  obtain ⟨y,hy,rfl⟩:=Option.map_eq_some_iff.1 hx
  exact hr X y hy
theorem zTr {fields:Array Field} (h:(fields.toList.all fun f=>(P.info? f.type).isSome)=true):∀ f ∈ fields.toList,∃ t,P.info? f.type=some t :=
 fun f hf=>Option.isSome_iff_exists.1 (List.all_eq_true.1 h f hf)
theorem zU3 {e:EqK} {a b:Bool} (h:¬ (decide (e=.ifc) && !(a || b))=true):e=.ifc->a=true\/b=true:=by
 intro he
 rw [he] at h
 cases a <;> cases b <;> simp at h ⊢
theorem zN2 {b:BinOp} {t:TypeId} {X Y:Operand} {x y c:CVal} {u z:Value} (hx:VR G x u) (hc:zHp b x y=some c):(eqGuard b t X Y u z).run P w=.ok () w:=by
 unfold eqGuard
 cases b <;> first | rfl | skip
 all_goals
  cases x <;> first | (cases hx;cases z <;> rfl) | (cases y <;> cases hc)
theorem simP {E:Env} {rg i:Nat} {dsts:List (Option Tmp)} {earlier later:List Oper} {o:Oper} {c:COp} {ev:COpnd->CVal} {ρ:Operand->Value} {v:CVal} (hE:E.P=P) (hc:cop0 E rg i dsts earlier later o=some c) (hcls:c.cls=.p)
    (hr:ORel G E dsts ev ρ) (hv:zGl ev id c=some v) (I:Inv base G h w) (hid:id<h.next) (hf:zCw G h id):Out P base G h id v (execOp ρ o) w:=by
 obtain ⟨dst,op,type,pos,after,guard⟩:=o
 subst hE
 cases op with
 | move x =>
  simp only [cop0] at hc
  obtain ⟨y,hy,rfl⟩:=Option.map_eq_some_iff.1 hc
  simp only [zGl] at hv;cases hv
  exact zAg I rfl (hr x y hy)
 | assign x =>
  simp only [cop0] at hc
  obtain ⟨y,hy,rfl⟩:=Option.map_eq_some_iff.1 hc
  simp only [zGl] at hv;cases hv
  exact zAg I rfl (hr x y hy)
 | pick a b d =>
  simp only [cop0] at hc
  split at hc
  . rename_i x y z hx hy hz
    cases hc
    exact zYf I hv (hr _ _ hx) (hr _ _ hy) (hr _ _ hz)
  . cases hc
 | alloc t =>
  simp only [cop0] at hc
  split at hc
  . rename_i f d hfi
    split at hc
    . split at hc
      . rename_i hbm
        cases hc
        simp only [zGl] at hv;cases hv
        exact zYn I hf hid hfi hbm
      . cases hc
    . cases hc;simp [COp.cls] at hcls
  . cases hc
 | box t x =>
  simp only [cop0] at hc
  obtain ⟨y,hy,rfl⟩:=Option.map_eq_some_iff.1 hc
  simp [COp.cls] at hcls
 | build t parts =>
  simp only [cop0] at hc
  split at hc
  . rename_i f fields ps hfi hu hps
    split at hc
    . rename_i hall
      obtain ⟨qs,hq,rfl⟩:=Option.map_eq_some_iff.1 hc
      exact zQz I hfi (.inl ⟨fields,hu,zTr hall,hq⟩) (hr.parts _ _ hps) hv
    . cases hc
  . rename_i f n e ps hfi hu hps
    split at hc
    . rename_i g hg
      obtain ⟨qs,hq,rfl⟩:=Option.map_eq_some_iff.1 hc
      exact zQz I hfi (.inr ⟨n,e,g,hu,hg,hq⟩) (hr.parts _ _ hps) hv
    . cases hc
  . cases hc
 | buildSlice t len parts =>
  simp only [cop0] at hc
  split at hc
  . rename_i e ps hu hps
    split at hc
    . rename_i g hg
      split at hc
      . rename_i hlen
        cases hc
        cases hm:zEb E rg i with
        | imm =>
         rw [hm] at hv
         exact zat I hu hg hlen (hr.parts _ _ hps) hv
        | ref=>rw [hm] at hcls;simp [COp.cls] at hcls
      . cases hc
    . cases hc
  . cases hc
 | insert t m k x=>simp [cop0] at hc
 | load t a =>
  simp only [cop0] at hc
  split at hc <;> cases hc
  simp [COp.cls] at hcls
 | store t a x =>
  simp only [cop0] at hc
  split at hc
  . split at hc
    . split at hc <;> (cases hc;simp [COp.cls] at hcls)
    . cases hc;simp [COp.cls] at hcls
  . cases hc
 | ready g=>simp [cop0] at hc
 | waits g=>simp [cop0] at hc
 | nilCheck x =>
  simp only [cop0] at hc
  obtain ⟨y,hy,rfl⟩:=Option.map_eq_some_iff.1 hc
  exact zVp rfl I hv (hr x y hy)
 | binOp b t x y yt =>
  simp only [cop0] at hc
  have hbin:∀ a b',zDb E dsts x=some a->zDb E dsts y=some b'->(∀ q,E.P.underlying t≠some (.interface q))->zHp b (ev a) (ev b')=some v->Out E.P base G h id v (do pure (.value (<- (do eqGuard b t x y (ρ x) (ρ y);binOp b t (ρ x) (ρ y):Sem Value)))) w:=by
   intro a b' ha hb' _ hv
   obtain ⟨z,hz,hvz⟩:=zVb (P:=E.P) (w:=w) (t:=t) (hr _ _ ha) (hr _ _ hb') hv
   have hg:(eqGuard b t x y (ρ x) (ρ y)).run E.P w=.ok () w:=zN2 (hr _ _ ha) hv
   refine zAg (u:=z) I ?_ hvz
   simp [hg,hz]
  split at hc
  . rename_i k a b' hu ha hb'
    cases hc
    exact hbin a b' ha hb' (by rw [hu];simp) hv
  . rename_i a b' hu ha hb'
    cases hc
    exact hbin a b' ha hb' (by rw [hu];simp) hv
  . rename_i d a b' hn1 hn2 hu ha hb'
    have hq:∀ (e:EqK),zR1 d=some e->(e=.ifc->zCh x=true\/zCh y=true)->∀ r,zL8 e (ev a) (ev b')=some r ->
        (eqGuard b t x y (ρ x) (ρ y)).run E.P w=.ok () w/\(binOp .eql t (ρ x) (ρ y)).run E.P w=.ok (.bool r) w/\(binOp .neq t (ρ x) (ρ y)).run E.P w=.ok (.bool (!r)) w:=by
     intro e he hcst r hr'
     have h1:=hr _ _ ha
     have h2:=hr _ _ hb'
     have h3:=zPu (P:=E.P) (w:=w) hu he h1 h2 hr'
     exact ⟨zPa h1 h2 hr' b t hcst,zUt h1 h2 hr' h3⟩
    split at hc
    . rename_i e he
      split at hc
      . cases hc
      . rename_i hcst
        cases hc
        simp only [zGl] at hv
        split at hv
        . rename_i r hr'
          cases hv
          obtain ⟨h1,h2,_⟩:=hq e he (zU3 hcst) r hr'
          refine zAg (u:=.bool r) I ?_ (.bool _)
          simp [execOp,h1,h2]
        . cases hv
    . rename_i e he
      split at hc
      . cases hc
      . rename_i hcst
        cases hc
        simp only [zGl] at hv
        split at hv
        . rename_i r hr'
          cases hv
          obtain ⟨h1,_,h2⟩:=hq e he (zU3 hcst) r hr'
          refine zAg (u:=.bool (!r)) I ?_ (.bool _)
          simp [execOp,h1,h2]
        . cases hv
    . cases hc
  . cases hc
 | unOp op t x =>
  simp only [cop0] at hc
  split at hc
  . rename_i y hy;cases hc;exact zbj I hv (hr _ _ hy)
  . rename_i y hy;cases hc;exact za8 I hv (hr _ _ hy)
  . rename_i y hy;cases hc;exact zak I hv (hr _ _ hy)
  . cases hc
 | convert s d x =>
  simp only [cop0] at hc
  split at hc
  . rename_i l k y hs hd hy;cases hc;exact zZh I hv hs hd (hr _ _ hy)
  . rename_i y hs hd hy;cases hc;exact zZ9 I hv hs hd (hr _ _ hy)
  . rename_i e y hs hd hy
    split at hc
    . rename_i he
      cases hc
      cases hm:zEb E rg i with
      | imm=>rw [hm] at hv;exact zbm I hs hd he hv (hr _ _ hy)
      | ref=>rw [hm] at hcls;simp [COp.cls] at hcls
    . cases hc
  . rename_i e y hs hd hy
    split at hc
    . cases hc;simp [COp.cls] at hcls
    . cases hc
  . cases hc
 | sliceToArrayPointer d x=>simp [cop0] at hc
 | makeInterface t x =>
  simp only [cop0] at hc
  split at hc
  . cases hc
  . rename_i d hn hd
    obtain ⟨y,hy,rfl⟩:=Option.map_eq_some_iff.1 hc
    simp only [zGl] at hv;cases hv
    exact zbw I hd (fun ms e=>hn ms e) (hr _ _ hy)
  . cases hc
 | makeFunc f first cap =>
  simp only [cop0] at hc
  split at hc
  . rename_i a b ha hb
    cases hc
    simp only [zGl] at hv;cases hv
    have h1:=hr.list _ _ ha
    have h2:=hr.list _ _ hb
    have e1:first.map ρ=⟨first.toList.map ρ⟩:=by apply Array.ext';simp
    have e2:cap.map ρ=⟨cap.toList.map ρ⟩:=by apply Array.ext';simp
    show Out E.P base G h id _ (do pure (.value (<- Instr.makeFunc f (first.map ρ) (cap.map ρ)))) w
    rw [e1,e2]
    exact o_fn I h1 h2
  . cases hc
 | makeMap t r=>simp [cop0] at hc
 | makeChan t s=>simp [cop0] at hc
 | makeSlice t l cp =>
  simp only [cop0] at hc
  split at hc
  . split at hc
    . split at hc
      . cases hc;cases hm:zEb E rg i <;> (rw [hm] at hcls;simp [COp.cls] at hcls)
      . cases hc
    . cases hc
  . cases hc
 | slice t x lo hi mx =>
  cases mx with
  | some m=>simp [cop0] at hc
  | none =>
   simp only [cop0] at hc
   split at hc
   . rename_i y lo' hi' hu hy hlo hhi
     cases hc
     simp only [zGl] at hv
     exact zY7 I hu (.inl ⟨rfl,rfl⟩) (hr _ _ hy) (zKw hr hlo) (zKw hr hhi) hv
   . rename_i e y lo' hi' hu hy hlo hhi
     split at hc
     . rename_i g hg
       cases hc
       simp only [zGl] at hv
       exact zY7 I hu (.inr ⟨e,g,rfl,zNm hg,rfl⟩) (hr _ _ hy) (zKw hr hlo) (zKw hr hhi) hv
     . cases hc
   . cases hc
 | fieldAddr t x f =>
  simp only [cop0] at hc
  split at hc
  . rename_i fields y hu hy
    split at hc
    . rename_i fd hfd
      split at hc
      . rename_i ti hti
        split at hc
        . rename_i hp
          cases hc
          exact zN5 I hv hu hfd hti hp (hr _ _ hy)
        . cases hc
      . cases hc
    . cases hc
  . cases hc
 | field t x f =>
  simp only [cop0] at hc
  split at hc
  . rename_i fields y hu hy
    split at hc
    . rename_i fd hfd
      split at hc
      . rename_i g hg
        cases hc
        simp only [zGl] at hv
        have h1:=hr _ _ hy
        split at hv
        . rename_i cs hcs
          rw [hcs] at h1
          generalize hz:ρ x=z at h1
          cases h1 with
          | agg hl hfl hh =>
           obtain ⟨u,hu',hvu⟩:=zV5 (w:=w) hg ⟨hl,hh⟩ hfl hv
           refine zAg (u:=u) I ?_ hvu
           simp [execOp,hz,Instr.field,zB5 hu,hfd,asAgg,hu']
        . cases hv
      . cases hc
    . cases hc
  . cases hc
 | indexAddr t x i =>
  simp only [cop0] at hc
  split at hc
  . rename_i e y z hu hy hz
    split at hc
    . rename_i g hg
      cases hc
      exact zRf I hu hg hv (hr _ _ hy) (hr _ _ hz)
    . cases hc
  . rename_i n e y z hu hy hz
    split at hc
    . rename_i g hg
      cases hc
      exact zRu I hu hg hv (hr _ _ hy) (hr _ _ hz)
    . cases hc
  . cases hc
 | index t x i =>
  simp only [cop0] at hc
  split at hc
  . rename_i y z hu hy hz
    cases hc
    exact zSc I hu hv (hr _ _ hy) (hr _ _ hz)
  . cases hc
 | lookup t x i ok=>simp [cop0] at hc
 | mapUpdate t m k x=>simp [cop0] at hc
 | mapEntry t m k=>simp [cop0] at hc
 | entryStore t m s x=>simp [cop0] at hc
 | range t x=>simp [cop0] at hc
 | next it s=>simp [cop0] at hc
 | entry it=>simp [cop0] at hc
 | typeAssert x a b ok=>simp [cop0] at hc
 | extract t i =>
  simp only [cop0] at hc
  obtain ⟨y,hy,rfl⟩:=Option.map_eq_some_iff.1 hc
  exact zRc I hv (hr _ _ hy)
 | call cl =>
  obtain ⟨callee,args,argTypes⟩:=cl
  simp only [cop0] at hc
  split at hc
  . obtain ⟨y,hy,rfl⟩:=Option.map_eq_some_iff.1 hc;simp [COp.cls] at hcls
  . split at hc
    . cases hc;simp [COp.cls] at hcls
    . cases hc
  . split at hc
    . rename_i t x hts hxs
      have e1:argTypes=#[t]:=by apply Array.ext';simpa using hts
      have e2:args=#[x]:=by apply Array.ext';simpa using hxs
      subst e1 e2
      split at hc
      . rename_i hu
        obtain ⟨y,hy,rfl⟩:=Option.map_eq_some_iff.1 hc
        have:=zZ6 (id:=id) (ty:=type) I hu (.inl ⟨rfl,rfl⟩) (hr _ _ hy) hv
        simpa [execOp,resolve,invoke,builtin] using this
      . rename_i e hu
        obtain ⟨y,hy,rfl⟩:=Option.map_eq_some_iff.1 hc
        have:=zZ6 (id:=id) (ty:=type) I hu (.inr ⟨rfl,e,rfl⟩) (hr _ _ hy) hv
        simpa [execOp,resolve,invoke,builtin] using this
      . cases hc
    . cases hc
  . split at hc
    . split at hc
      . split at hc
        . split at hc
          . cases hc;simp [COp.cls] at hcls
          . cases hc
        . cases hc
      . split at hc
        . split at hc
          . cases hc;simp [COp.cls] at hcls
          . cases hc
        . cases hc
      . cases hc
    . cases hc
  . split at hc
    . split at hc
      . split at hc
        . cases hc;simp [COp.cls] at hcls
        . cases hc
      . cases hc
    . cases hc
  . split at hc
    . rename_i x y hxs
      have e2:args=#[x,y]:=by apply Array.ext';simpa using hxs
      subst e2
      split at hc
      . rename_i a b ha hb
        cases hc
        have:=zOc (P:=E.P) (id:=id) (mx:=false) (ts:=argTypes) (ty:=type) I hv (hr _ _ ha) (hr _ _ hb)
        simpa [execOp,resolve,invoke,builtin] using this
      . cases hc
    . cases hc
  . split at hc
    . rename_i x y hxs
      have e2:args=#[x,y]:=by apply Array.ext';simpa using hxs
      subst e2
      split at hc
      . rename_i a b ha hb
        cases hc
        have:=zOc (P:=E.P) (id:=id) (mx:=true) (ts:=argTypes) (ty:=type) I hv (hr _ _ ha) (hr _ _ hb)
        simpa [execOp,resolve,invoke,builtin] using this
      . cases hc
    . cases hc
  . cases hc
 | go cl=>simp [cop0] at hc
 | defer cl =>
  simp only [cop0] at hc
  split at hc
  . split at hc
    . cases hc;simp [COp.cls] at hcls
    . cases hc
  . cases hc
 | panic x=>simp [cop0] at hc
 | send c x=>simp [cop0] at hc
 | recv t c ok=>simp [cop0] at hc
 | select cs b=>simp [cop0] at hc
end
end Go.CI
namespace Go.CI
open Go.RowKit
section
variable {P:Program} {base:Base} {G:Gh} {h:CHeap} {w:World} {id:Nat}
theorem zG1 {G:Gh} {w:World} {ab:Nat}:∀ (cs:List CVal) (o:Nat),(∀ (j:Nat) (c:CVal),cs[j]? = some c->Holds G w ab (o+j) c)->∃ vs:List Value,VRs G cs vs/\∀ (j:Nat) (v:Value),vs[j]? = some v->w.cell? ⟨ab,o+j,none⟩=some v
 | [],o,_=>⟨[],VRs.nil G,fun j v h=>by simp at h⟩
 | c::cs,o,hh=>by
  obtain ⟨v,hv,hr⟩:=hh 0 c rfl
  obtain ⟨vs,h1,h2⟩:=zG1 cs (o+1) (fun j c hc=>by have:=hh (j+1) c (by simpa using hc);rwa [show o+(j+1)=o+1+j by omega] at this)
  refine ⟨v::vs,VRs.cons hr h1,fun j u hu=>?_⟩
  cases j with
  | zero=>simp at hu;subst hu;exact hv
  | succ j=>rw [show o+(j+1)=o+1+j by omega];exact h2 j u (by simpa using hu)
theorem zG3 {t:TypeId} {g:ElemInfo} {cs:List CVal} {ab o off:Nat} {v:CVal} (hg:zAt P t=some g) (hv:partOf cs off (kOf g)=some v)
    (hc:∀ (j:Nat) (c:CVal),cs[j]? = some c->c.flat=true/\Holds G w ab (o+j) c):∃ u,(Instr.loadAt t (.pointer (some ⟨ab,o+off,none⟩))).run P w=.ok u w/\VR G v u:=by
 obtain ⟨i,d,z,ok⟩:=zAz hg
 cases hag:g.agg with
 | false =>
  have ha:zEe d=false:=by rw [<- ok.agg,hag]
  simp only [kOf,hag,partOf,Bool.false_eq_true,if_false] at hv
  split at hv
  . rename_i ho
    cases hv
    obtain ⟨_,u,hu,hr⟩:=hc off _ (getElem?_nth ho)
    refine ⟨u,?_,hr⟩
    simp [Instr.loadAt,Instr.sureAddr,loadVar,zMa ok.und,ha,hu]
  . cases hv
 | true =>
  have ha:zEe d=true:=by rw [<- ok.agg,hag]
  simp only [kOf,hag,partOf,if_true] at hv
  split at hv
  . rename_i ho
    cases hv
    have hcut:∀ (j:Nat) (c:CVal),(cut off (off+g.size) cs)[j]? = some c->c.flat=true/\Holds G w ab (o+off+j) c:=by
     intro j c hj
     rw [getElem?_cut] at hj
     split at hj
     . have:=hc _ _ hj;rw [<- Nat.add_assoc] at this;exact this
     . cases hj
    obtain ⟨vs,h1,h2⟩:=zG1 (cut off (off+g.size) cs) (o+off) (fun j c hj=>(hcut j c hj).2)
    have hlen:vs.length=g.size:=by rw [<- h1.1,zBv _ _ _ ho];omega
    refine ⟨.agg vs.toArray,?_,.agg h1.1 (fun c hc=>?_) h1.2⟩
    . have hl:=run_loadCells_list (P:=P) w ⟨ab,o+off,none⟩ vs (fun j v hj=>by rw [zE8 rfl];exact h2 j v hj)
      rw [hlen] at hl
      simp [Instr.loadAt,Instr.sureAddr,loadVar,zMa ok.und,ha,zCe ok.info,<- ok.size,hl]
    . obtain ⟨j,hj⟩:=List.getElem?_of_mem hc
      exact (hcut j c hj).1
  . cases hv
theorem zEy {own:Nat->Nat->Option Own} (I:InvO base G own h w) {k:Nat} {c:CVal} {z:Value} {es:List CVal} (he:elems h k c=some es) (hc:VR G c z) :
    (∃ s,c=.str s/\k=1/\es=u8s s)\/(c=.nils/\es=[]) \/
    ∃ a cap,z=.slice (some a) es.length cap/\a.spot=none/\AllK k es/\0<k/\es.length<=cap/\∀ (i:Nat) (e:CVal),es[i]? = some e->∀ (j:Nat) (x:CVal),e.cells[j]? = some x->x.flat=true/\Holds G w a.block (a.off+i * k+j) x:=by
 cases c <;> simp only [elems] at he <;> first | (cases he;done) | skip
 . split at he
   . cases he;exact .inl ⟨_,rfl,by assumption,rfl⟩
   . cases he
 . cases he;exact .inr (.inl ⟨rfl,rfl⟩)
 . rename_i t l xs
   split at he
   . rename_i hkl
     subst hkl
     cases he
     cases hc with
     | imm hs hk hcap hf ht =>
      rename_i a cap
      refine .inr (.inr ⟨a,cap,rfl,hs,?_,hk,hcap,fun i e hi j x hx=>?_⟩)
      . intro e hm
        obtain ⟨i,hi⟩:=List.getElem?_of_mem hm
        exact (hf i e hi).1
      . exact ⟨((hf i e hi).2 j x hx).1,(I.fzs _ _ _ ((hf i e hi).2 j x hx).2).2⟩
   . cases he
 . rename_i b ver l off len
   split at he
   . rename_i v xs hg
     split at he
     . rename_i hcond
       simp only [Bool.and_eq_true,decide_eq_true_eq] at hcond
       obtain ⟨rfl,rfl,hle⟩:=hcond
       cases he
       cases hc with
       | ref hw hk hl hs ha =>
        rename_i ab ao cap a
        obtain ⟨_,hrow⟩:=(I.ents b _ hg).2
        obtain ⟨_,hcap,_,hel⟩:=hrow _ _ _ _ hw
        have hlen:(cut off (off+len) xs).length=len:=by rw [zBv _ _ _ hle];omega
        refine .inr (.inr ⟨a,cap - off,by rw [hlen],hs,?_,hk,by omega,fun i e hi j x hx=>?_⟩)
        . intro e hm
          obtain ⟨i,hi⟩:=List.getElem?_of_mem hm
          rw [getElem?_cut] at hi
          split at hi
          . exact (hel _ _ hi).1
          . cases hi
        . rw [getElem?_cut] at hi
          split at hi
          . have ha2:=ha.resolve_left (by omega)
            subst ha2
            have:=(hel _ _ hi).2 j x hx
            rw [Nat.add_mul,<- Nat.add_assoc] at this
            exact this
          . cases hi
     . cases he
   . cases he
theorem zKf:∀ {es:List CVal} {l:List UInt8},bytesOf es=some l->∃ ns:List Int,es=ns.map (CVal.int .u8)/\l=ns.map fun n=>UInt8.ofNat n.toNat
 | [],l,h=>by simp only [bytesOf] at h;cases h;exact ⟨[],rfl,rfl⟩
 | e::es,l,h=>by
  cases e <;> try (simp [bytesOf] at h;done)
  rename_i k n
  cases k <;> simp only [bytesOf] at h <;> first | (cases h;done) | skip
  obtain ⟨l',hl,rfl⟩:=Option.map_eq_some_iff.1 h
  obtain ⟨ns,rfl,rfl⟩:=zKf hl
  exact ⟨n::ns,rfl,rfl⟩
theorem zK2:∀ (ns:List Int) (r:ByteArray),(ns.foldl (fun r n=>r.push (UInt8.ofNat n.toNat)) r).data.toList=r.data.toList++ns.map fun n=>UInt8.ofNat n.toNat
 | [],r=>by simp
 | n::ns,r=>by
  simp only [List.foldl_cons,List.map_cons]
  rw [zK2 ns]
  simp [ByteArray.push]
theorem zVt {s d e:TypeId} {c:CVal} {z:Value} {es:List CVal} {l:List UInt8} (I:Inv base G h w) (hs:P.underlying s=some (.slice e)) (he:P.underlying e=some (.int .u8)) (hd:P.underlying d=some .string)
    (hel:elems h 1 c=some es) (hl:bytesOf es=some l) (hns:c.isStr=false) (hc:VR G c z):∃ u,(convert s d z).run P w=.ok u w/\VR G (.str l) u:=by
 obtain ⟨own,I⟩:=I
 obtain ⟨ns,rfl,rfl⟩:=zKf hl
 rcases zEy I hel hc with ⟨t,rfl,_⟩ | ⟨rfl,hnil⟩ | ⟨a,cap,rfl,hsp,hall,_,hcap,hcell⟩
 . simp [CVal.isStr] at hns
 . have:ns=[]:=by simpa using hnil
   subst this
   cases hc
   exact ⟨.string .empty,by simp [convert,zB5 hs,zB5 hd,zB5 he,Conv.bytesToString],zIg rfl⟩
 . have hlen:(ns.map (CVal.int .u8)).length=ns.length:=by simp
   rw [hlen]
   have hload:(loadCells a ns.length).run P w=.ok (ns.map (Value.int .u8)).toArray w:=by
    have:=run_loadCells_list (P:=P) w a (ns.map (Value.int .u8)) (fun j v hj=>by
     rw [List.getElem?_map] at hj
     cases hn:ns[j]? with
     | none=>rw [hn] at hj;cases hj
     | some n =>
      rw [hn] at hj;cases hj
      have h1:(ns.map (CVal.int .u8))[j]? = some (.int .u8 n):=by rw [List.getElem?_map,hn];rfl
      obtain ⟨_,u,hu,hr⟩:=hcell j _ h1 0 _ rfl
      cases hr
      rw [zE8 hsp]
      simpa using hu)
    simpa using this
   have h1:=run_bytesToString w a ns.length cap ns hload
   rw [<- run_convert_bytes_string w s d e (some a) ns.length cap hs he hd] at h1
   exact ⟨_,h1,zIg (by rw [zK2];rfl)⟩
theorem zc9 {E:Env} {rg i:Nat} {dsts:List (Option Tmp)} {earlier later:List Oper} {o:Oper} {c:COp} (hc:cop0 E rg i dsts earlier later o=some c) (hcls:c.cls=.l) :
    (∃ t a f y,o.op=.load t a/\zAt E.P t=some f/\zDb E dsts a=some y/\c=.load (kOf f) y) \/
    (∃ s d e x y,o.op=.convert s d x/\E.P.underlying s=some (.slice e)/\E.P.underlying e=some (.int .u8)/\E.P.underlying d=some .string/\zDb E dsts x=some y/\c=.b2s y):=by
 obtain ⟨dst,op,type,pos,after,guard⟩:=o
 cases op
 case slice t x lo hi mx =>
  exfalso
  cases mx with
  | some m=>simp [cop0] at hc
  | none =>
   simp only [cop0] at hc
   split at hc
   . cases hc;simp [COp.cls] at hcls
   . split at hc
     . cases hc;simp [COp.cls] at hcls
     . cases hc
   . cases hc
 all_goals simp only [cop0] at hc
 all_goals try (cases hc;done)
 case load t a =>
  split at hc
  . rename_i f y hf hy;cases hc;exact .inl ⟨t,a,f,y,rfl,hf,hy,rfl⟩
  . cases hc
 case convert s d x =>
  split at hc
  . cases hc;simp [COp.cls] at hcls
  . cases hc;simp [COp.cls] at hcls
  . split at hc
    . cases hc;cases hm:zEb E rg i <;> (rw [hm] at hcls;simp [COp.cls] at hcls)
    . cases hc
  . rename_i e y hs hd hy
    split at hc
    . rename_i he;cases hc;exact .inr ⟨s,d,e,x,y,rfl,hs,he,hd,hy,rfl⟩
    . cases hc
  . cases hc
 all_goals
  exfalso
  revert hcls
  first
   | (obtain ⟨y,_,rfl⟩:=Option.map_eq_some_iff.1 hc;simp [COp.cls];done)
   | (repeat' (split at hc))
 all_goals first
  | (cases hc;done)
  | (cases hc;simp [COp.cls];done)
  | (cases hc;cases hm:zEb E rg i <;> simp [COp.cls];done)
  | (obtain ⟨y,_,rfl⟩:=Option.map_eq_some_iff.1 hc;simp [COp.cls];done)
theorem simL {E:Env} {rg i:Nat} {dsts:List (Option Tmp)} {earlier later:List Oper} {o:Oper} {c:COp} {ev:COpnd->CVal} {ρ:Operand->Value} {v:CVal} (hE:E.P=P) (hc:cop0 E rg i dsts earlier later o=some c) (hcls:c.cls=.l)
    (hr:ORel G E dsts ev ρ) (hv:zFi ev h c=some v) (I:Inv base G h w):∃ u,(execOp ρ o).run P w=.ok (.value u) w/\VR G v u:=by
 subst hE
 rcases zc9 hc hcls with ⟨t,a,f,y,ho,hf,hy,rfl⟩ | ⟨s,d,e,x,y,ho,hs,he,hd,hy,rfl⟩
 . have h1:=hr a y hy
   have fin:∀ u,(Instr.loadAt t (ρ a)).run E.P w=.ok u w->(execOp ρ o).run E.P w=.ok (.value u) w:=fun u hu=>by simp [execOp,ho,hu]
   obtain ⟨own,I⟩:=I
   simp only [zFi] at hv
   generalize hz:ρ a=z at h1 fin
   split at hv
   . rename_i b sz o' hev
     rw [hev] at h1
     split at hv
     . rename_i cs hg
       cases h1 with
       | ptr hm =>
        rename_i ab
        obtain ⟨_,hcel⟩:=(I.ents b _ hg).2 ab sz hm
        obtain ⟨u,hu,hr'⟩:=zG3 (w:=w) (o:=0) (ab:=ab) hf hv (fun j c hj=>by rw [Nat.zero_add];exact hcel j c hj)
        rw [Nat.zero_add] at hu
        exact ⟨u,fin u hu,hr'⟩
     . cases hv
   . rename_i cs o' hev
     rw [hev] at h1
     cases h1 with
     | cptr hm =>
      obtain ⟨u,hu,hr'⟩:=zG3 (w:=w) hf hv (fun j c hj=>⟨(hm j c hj).1,(I.fzs _ _ _ (hm j c hj).2).2⟩)
      exact ⟨u,fin u hu,hr'⟩
   . rename_i b ver i' o' hev
     rw [hev] at h1
     split at hv
     . rename_i v' es hg
       split at hv
       . rename_i hcond
         simp only [Bool.and_eq_true,decide_eq_true_eq] at hcond
         obtain ⟨rfl,hlt⟩:=hcond
         cases h1 with
         | eptr hm =>
          obtain ⟨_,hrow⟩:=(I.ents b _ hg).2
          obtain ⟨_,_,_,hel⟩:=hrow _ _ _ _ hm
          obtain ⟨u,hu,hr'⟩:=zG3 (w:=w) hf hv (fun j c hj=>(hel _ _ (getElem?_nth hlt)).2 j c hj)
          exact ⟨u,fin u hu,hr'⟩
       . cases hv
     . cases hv
   . cases hv
 . simp only [zFi] at hv
   split at hv
   . cases hv
   . rename_i hns
     split at hv
     . rename_i es hes
       obtain ⟨l,hl,rfl⟩:=Option.map_eq_some_iff.1 hv
       obtain ⟨u,hu,hr'⟩:=zVt I hs he hd hes hl (by simpa using hns) (hr x y hy)
       exact ⟨u,by simp [execOp,ho,hu],hr'⟩
     . cases hv
end
end Go.CI
namespace Go.CI
open Go.RowKit
def OutE (P:Program) (base:Base) (G:Gh) (h:CHeap) (id:Nat) (v:CVal) (h':CHeap) (s:Sem Next) (w:World):Prop :=
 Gives P s w fun u w'=>∃ G',VR G' v u/\Post base (· = id) G h w G' h' w'
section
variable {P:Program} {base:Base} {G:Gh} {h:CHeap} {w:World} {id:Nat}
theorem setCells_size (b:Nat):∀ (vs:List Value) (o:Nat) (w:World),(w.setCells b o vs).heap.size=w.heap.size
 | [],_,_=>rfl
 | v::r,o,w=>by rw [World.setCells,setCells_size b r];simp [World.setCell]
theorem zL0 (w:World) (p:Addr) (u:Value) (a:Nat):(w.setCell p u).shape? a=w.shape? a:=by
 unfold World.shape? World.setCell
 simp only [Array.getElem?_modify]
 by_cases h:p.block=a
 . rw [if_pos h]
   cases w.heap[a]? with
   | none=>rfl
   | some o =>
    cases o <;> simp
    split <;> simp
 . rw [if_neg h]
theorem zBf (b:Nat):∀ (vs:List Value) (o:Nat) (w:World) (a:Nat),(w.setCells b o vs).shape? a=w.shape? a
 | [],_,_,_=>rfl
 | v::r,o,w,a=>by rw [World.setCells,zBf b r,zL0]
theorem zMu {w:World} {p:Addr} {u:Value} {a:Nat} {es:Array MapEntry} {ck:Nat} (h:w.heap[a]? = some (Obj.map es ck)):(w.setCell p u).heap[a]? = some (Obj.map es ck):=by
 unfold World.setCell
 simp only [Array.getElem?_modify]
 by_cases hp:p.block=a
 . rw [if_pos hp,h];rfl
 . rw [if_neg hp];exact h
theorem zBx (b:Nat) {a:Nat} {es:Array MapEntry} {ck:Nat}:∀ (vs:List Value) (o:Nat) (w:World),w.heap[a]? = some (Obj.map es ck)->(w.setCells b o vs).heap[a]? = some (Obj.map es ck)
 | [],_,_,h=>h
 | v::r,o,w,h=>by rw [World.setCells];exact zBx b r _ _ (zMu h)
theorem zMi {w:World} {p:Addr} {u:Value} {a T:Nat} (h:RowB w a T):RowB (w.setCell p u) a T:=by
 obtain ⟨c,lo,hi,he,h1,h2⟩:=h
 unfold RowB World.setCell
 simp only [Array.getElem?_modify]
 by_cases hp:p.block=a
 . rw [if_pos hp,he]
   exact ⟨_,lo,hi,rfl,h1,by split <;> first | exact h2 | (simp;exact h2)⟩
 . rw [if_neg hp];exact ⟨c,lo,hi,he,h1,h2⟩
theorem zCb (b:Nat) {a T:Nat}:∀ (vs:List Value) (o:Nat) (w:World),RowB w a T->RowB (w.setCells b o vs) a T
 | [],_,_,h=>h
 | v::r,o,w,h=>by rw [World.setCells];exact zCb b r _ _ (zMi h)
theorem zJd {w:World} {p:Addr} {u:Value} {a T:Nat} (h:RowB (w.setCell p u) a T):RowB w a T:=by
 obtain ⟨c,lo,hi,he,h1,h2⟩:=h
 unfold World.setCell at he
 simp only [Array.getElem?_modify] at he
 by_cases hp:p.block=a
 . rw [if_pos hp] at he
   cases ho:w.heap[a]? with
   | none=>rw [ho] at he;cases he
   | some o =>
    rw [ho] at he
    cases o <;> simp at he
    obtain ⟨rfl,rfl,rfl⟩:=he
    refine ⟨_,_,_,ho,h1,?_⟩
    split at h2 <;> first | exact h2 | (simp at h2;exact h2)
 . rw [if_neg hp] at he;exact ⟨c,lo,hi,he,h1,h2⟩
theorem zF7 {b:Nat} {a T:Nat}:∀ {vs:List Value} {o:Nat} {w:World},RowB (w.setCells b o vs) a T->RowB w a T
 | [],_,_,h=>h
 | v::r,o,w,h=>by rw [World.setCells] at h;exact zJd (zF7 h)
theorem zJq {w:World} {p:Addr} {u:Value} {a:Nat} {es:Array MapEntry} {ck:Nat} (h:(w.setCell p u).heap[a]? = some (Obj.map es ck)):w.heap[a]? = some (Obj.map es ck):=by
 unfold World.setCell at h
 simp only [Array.getElem?_modify] at h
 by_cases hp:p.block=a
 . rw [if_pos hp] at h
   cases ho:w.heap[a]? with
   | none=>rw [ho] at h;cases h
   | some o=>rw [ho] at h;cases o <;> simp_all
 . rw [if_neg hp] at h;exact h
theorem zFq {b:Nat} {a:Nat} {es:Array MapEntry} {ck:Nat}:∀ {vs:List Value} {o:Nat} {w:World},(w.setCells b o vs).heap[a]? = some (Obj.map es ck)->w.heap[a]? = some (Obj.map es ck)
 | [],_,_,h=>h
 | v::r,o,w,h=>by rw [World.setCells] at h;exact zJq (zFq h)
theorem zJo {w:World} {ab o a:Nat} {vs:List Value} (hc:Clean w a):Clean (w.setCells ab o vs) a:=by
 refine ⟨by rw [setCells_size];exact hc.1,fun st T n hs=>?_⟩
 rw [World.frozen?_setCells]
 exact hc.2 st T n (by rw [<- zBf ab vs o w a];exact hs)
theorem below_setCells {b:Nat} (hb:base<=b):∀ (vs:List Value) (o:Nat) (w:World),Below base w (w.setCells b o vs)
 | [],_,w=>Below.refl _ _
 | v::r,o,w=>((Below.refl base w).setCell hb v).trans (below_setCells hb r (o+1) _)
theorem zAh {ab o i ab':Nat} {vs:List Value} (h:ab'=ab->i<o\/o+vs.length<=i):(w.setCells ab o vs).cell? ⟨ab',i,none⟩=w.cell? ⟨ab',i,none⟩ :=
 World.cell?_setCells_out ab vs o w _ (fun h1 _=>h h1)
theorem zCr {own:Nat->Nat->Option Own} {ab o:Nat} {vs:List Value} {x:Own} (hx:∀ j,j<vs.length->own ab (o+j)=some x/\Live w ab (o+j)):Chg x own own w (w.setCells ab o vs) where
 live a i hl:=by
  refine ⟨?_,by rw [World.frozen?_setCells];exact hl.2⟩
  by_cases hin:a=ab/\o<=i/\i<o+vs.length
  . obtain ⟨rfl,h1,h2⟩:=hin
    have:=World.cell?_setCells_in a vs o w (fun j hj=>by obtain ⟨v,hv⟩:=(hx j hj).2.1;rw [hv];rfl) (i - o) (by omega)
    rw [show o+(i - o)=i by omega] at this
    exact ⟨_,this⟩
  . obtain ⟨v,hv⟩:=hl.1
    exact ⟨v,by rw [zAh (fun e=>by omega)];exact hv⟩
 cell a i v hne hv:=by
  rw [zAh (fun e=>?_)]
  . exact hv
  . by_cases hin:o<=i/\i<o+vs.length
    . subst e
      have:=(hx (i - o) (by omega)).1
      rw [show o+(i - o)=i by omega] at this
      exact absurd this hne
    . omega
 own _ _ _ _:=rfl
 ownm _ _ _ h:=h
 size:=by rw [setCells_size];exact Nat.le_refl _
 mark a hc:=zJo hc
 shp a x hs:=by rw [zBf];exact hs
 obj a es ck _ he:=zBx ab vs o w he
 objs a es ck he:=⟨es,ck,zBx ab vs o w he⟩
 rowb a T hr:=zCb ab vs o w hr
 sole _ _ _ _ h:=h
theorem zHx {own:Nat->Nat->Option Own} (I:InvO base G own h w) {b ab o:Nat} {x:Own} {vs:List Value} {h':CHeap} {ob:CObj} (hxb:x=.m b\/x=.r b) (hab:base<=ab) (hx:∀ j,j<vs.length->own ab (o+j)=some x/\Live w ab (o+j))
    (hob:h.get b=some ob) (hget:∀ b',b'≠b->h'.get b'=h.get b') (hb:∀ q,h'.get b=some q->zP8 base G own (w.setCells ab o vs) b q) (hn:h'.next=h.next) (hty:h'.tys=h.tys) (nod:(h'.ents.map (·.1)).Nodup) :
    Post base (· = id) G h w G h' (w.setCells ab o vs):=by
 refine ⟨.refl G,⟨own,I.step (x:=x) (.refl G) (zCr hx) (by omega) (fun _ _ _ h=>.inl h) (fun _ _ _ h=>.inl h) (fun _ _ _ h=>.inl h) (fun _ _ _ h=>.inl h) ?_ ?_ nod (fun b T h1=>.inl ⟨by unfold CHeap.ty at h1 ⊢;rw [<- hty];exact h1,fun _ _ h=>h⟩)⟩,below_setCells hab vs o w,by omega,fun i _ _ hf=>?_⟩
 . intro b' q hq
   by_cases hbb:b'=b
   . subst hbb
     exact .inr ⟨by have:=(I.ents b' ob hob).1;omega,hb q hq⟩
   . rw [hget b' hbb] at hq
     refine .inl ⟨hq,⟨rfl,fun _=>rfl,fun _=>rfl⟩,?_⟩
     rcases hxb with rfl | rfl <;> simp <;> exact fun e=>hbb e.symm
 . intro a i y hy
   rw [setCells_size];exact I.old a i y hy
 . obtain ⟨h1,h2,h3,h4⟩:=hf
   refine ⟨h1,h2,h3,?_⟩
   rw [hget i (fun e=>by rw [e,hob] at h4;cases h4)];exact h4
theorem zCv (h:CHeap) (b:Nat) (o:CObj) (hn:(h.ents.map (·.1)).Nodup):((h.set b o).ents.map (·.1)).Nodup:=by
 show ((zA2 h.ents b o).map (·.1)).Nodup
 rw [zNd];exact hn
theorem get_set_other {h:CHeap} {b b':Nat} {o:CObj} (hne:b'≠b):(h.set b o).get b'=h.get b':=by rw [zS1,if_neg (fun e=>hne e.symm)]
theorem zBm {h:CHeap} {b:Nat} {o q:CObj} (hq:h.get b=some q):(h.set b o).get b=some o:=by rw [zS1,if_pos rfl,hq];rfl
theorem zDw (cs:List CVal) (o:Nat) (xs:List CVal) (hle:o+xs.length<=cs.length):(setCells cs o xs).length=cs.length:=by
 unfold setCells;simp;omega
theorem getElem?_setCells (cs:List CVal) (o:Nat) (xs:List CVal) (hle:o+xs.length<=cs.length) (i:Nat):(setCells cs o xs)[i]? = if o<=i/\i<o+xs.length then xs[i - o]? else cs[i]?:=by
 unfold setCells
 by_cases h1:i<o
 . rw [List.getElem?_append_left (by simp;omega),List.getElem?_take,if_pos h1,if_neg (by omega)]
 . rw [List.getElem?_append_right (by simp;omega)]
   have:(cs.take o).length=o:=by simp;omega
   rw [this]
   by_cases h2:i<o+xs.length
   . rw [List.getElem?_append_left (by omega),if_pos ⟨by omega,h2⟩]
   . rw [List.getElem?_append_right (by omega),if_neg (by omega),List.getElem?_drop]
     congr 1;omega
theorem zGs {t:TypeId} {g:ElemInfo} {ab o:Nat} {u:Value} (hg:zAt P t=some g) (hl:u.cells.toList.length=g.size) (hlive:∀ j,j<g.size->Live w ab (o+j)) (h1:∀ v ∈ u.cells.toList,v.oneCell'=true) :
    (Instr.storeAt t (.pointer (some ⟨ab,o,none⟩)) u).run P w=.ok () (w.setCells ab o u.cells.toList):=by
 obtain ⟨i,d,z,ok⟩:=zAz hg
 have hst:=run_storeCells_cells (P:=P) ab o u.cells.toList 0 w (fun j hj=>by
  obtain ⟨v,hv⟩:=(hlive j (by omega)).1
  rw [Nat.add_zero,hv];rfl) (fun j hj=>by rw [Nat.add_zero];exact (hlive j (by omega)).2) h1
 rw [Nat.add_zero] at hst
 have hsz:u.cells.size=i.size:=by rw [<- Array.length_toList,hl,ok.size]
 simp [Instr.storeAt,Instr.sureAddr,storeVar,zCe ok.info,hsz,hst]
theorem zJ6 {c:CVal} {u:Value} (hr:VR G c u) (hw:c.whole=true):∀ v ∈ u.cells.toList,v.oneCell'=true:=by
 intro v hv
 obtain ⟨hc,hf⟩:=hr.cells hw
 obtain ⟨j,hj⟩:=List.getElem?_of_mem hv
 have hlt:j<c.cells.length:=by rw [hc.1];exact (List.getElem?_eq_some_iff.1 hj).1
 exact (hc.2 j _ v (getElem?_nth hlt) hj).oneCell (hf _ (List.mem_of_getElem? (getElem?_nth hlt)))
theorem zFt {ab o i:Nat} {vs:List Value} {xs:List CVal} {c:CVal} (hlive:∀ j,j<vs.length->Live w ab (o+j)) (hv:VRs G xs vs) (hin:o<=i/\i<o+xs.length) (hc:xs[i - o]? = some c):Holds G (w.setCells ab o vs) ab i c:=by
 have hlt:i - o<vs.length:=by rw [<- hv.1];omega
 have:=World.cell?_setCells_in ab vs o w (fun j hj=>by obtain ⟨v,hv⟩:=(hlive j hj).1;rw [hv];rfl) (i - o) hlt
 rw [show o+(i - o)=i by omega] at this
 exact ⟨_,this,hv.2 _ _ _ hc (List.getElem?_eq_getElem hlt)⟩
theorem zN7 {t:TypeId} {g:ElemInfo} {b sz o:Nat} {x:CVal} {cs:List CVal} {z u:Value} (I:Inv base G h w) (hg:zAt P t=some g) (hw:x.whole=true) (hk:x.cells.length=g.size)
    (hp:VR G (.ptr b sz o) z) (hx:VR G x u) (hb:h.get b=some (.cells cs)) (hle:o+g.size<=cs.length) :
    OutE P base G h id .undef (h.set b (.cells (setCells cs o x.cells))) (do Instr.storeAt t z u;pure .skip) w:=by
 obtain ⟨own,I⟩:=I
 cases hp with
 | ptr hm =>
  rename_i ab
  obtain ⟨hbn,hab,hown,hbk⟩:=I.mus b ab sz hm
  obtain ⟨hl,hcel⟩:=(I.ents b _ hb).2 ab sz hm
  obtain ⟨hc,hf⟩:=hx.cells hw
  have hul:u.cells.toList.length=g.size:=by rw [<- hc.1,hk]
  have hlive:∀ j,j<g.size->own ab (o+j)=some (.m b)/\Live w ab (o+j):=fun j hj=>hown (o+j) (by omega)
  refine .inr ⟨_,by rw [Sem.run_bind,zGs hg hul (fun j hj=>(hlive j hj).2) (zJ6 hx hw)];rfl,G,.undef _,?_⟩
  refine zHx I (b:=b) (x:=.m b) (.inl rfl) hab (fun j hj=>hlive j (by omega)) hb (fun b' hne=>get_set_other hne) (fun q hq=>?_) rfl rfl (zCv h b _ I.nod)
  rw [zBm hb] at hq
  cases hq
  intro ab' k hm'
  rw [hm] at hm'
  cases hm'
  have hxl:o+x.cells.length<=cs.length:=by omega
  refine ⟨by rw [zDw _ _ _ hxl,hl],fun i c hi=>?_⟩
  rw [getElem?_setCells _ _ _ hxl] at hi
  split at hi
  . rename_i hin
    exact ⟨hf c (List.mem_of_getElem? hi),zFt (fun j hj=>(hlive j (by omega)).2) hc hin hi⟩
  . rename_i hout
    obtain ⟨h1,v,hv,hr⟩:=hcel i c hi
    exact ⟨h1,v,by rw [zAh (fun _=>by rw [hul,<- hk];omega)];exact hv,hr⟩
theorem zKx {e:CVal} {o:Nat} {xs:List CVal} (hf:∀ c ∈ e.cells,c.flat=true) (hfx:∀ c ∈ xs,c.flat=true) (hle:o+xs.length<=e.cells.length) (hpos:0<xs.length):(zHr e o xs).cells=setCells e.cells o xs:=by
 cases e <;> first | rfl | skip
 all_goals
  simp only [CVal.cells,List.length_singleton] at hle
  have h0:o=0:=by omega
  have h1:xs.length=1:=by omega
  subst h0
  match xs,h1 with
  | [a],_ =>
   simp only [zHr,nth,setCells,CVal.cells,List.take_zero,List.nil_append,List.length_singleton,Nat.zero_add,List.drop_succ_cons,List.drop_nil,List.append_nil]
   exact CVal.cells_flat (hfx a (by simp))
theorem zLp {t:TypeId} {g:ElemInfo} {b ver i o:Nat} {x:CVal} {es:List CVal} {z u:Value} (I:Inv base G h w) (hg:zAt P t=some g) (hw:x.whole=true) (hk:x.cells.length=g.size)
    (hp:VR G (.eptr b ver i o) z) (hx:VR G x u) (hb:h.get b=some (.row ver es)) (hi:i<es.length) (hle:o+g.size<=(nth es i).cells.length) :
    OutE P base G h id .undef (h.set b (.row ver (zBw es i (zHr (nth es i) o x.bare.cells)))) (do Instr.storeAt t z u;pure .skip) w:=by
 obtain ⟨own,I⟩:=I
 cases hp with
 | eptr hm =>
  rename_i ab ao k cap
  obtain ⟨hvmax,hrow⟩:=(I.ents b _ hb).2
  obtain ⟨hab,hcap,hown,hel⟩:=hrow ab ao k cap hm
  have hxb:=hx.bare
  have hwb:x.bare.whole=true:=by rw [zPk];exact hw
  obtain ⟨hc,hf⟩:=hxb.cells hwb
  have hkb:x.bare.cells.length=g.size:=by rw [zEq];exact hk
  have hul:u.cells.toList.length=g.size:=by rw [<- hc.1,hkb]
  obtain ⟨i',d,zz,ok⟩:=zAz hg
  have hgpos:=ok.pos
  obtain ⟨hek,hecell⟩:=hel i _ (getElem?_nth hi)
  have hir:i * k+k<=cap * k:=by
   have:(i+1) * k<=cap * k:=Nat.mul_le_mul_right _ (by omega)
   rw [Nat.succ_mul] at this;exact this
  have hlive:∀ j,j<g.size->own ab (ao+i * k+o+j)=some (.r b)/\Live w ab (ao+i * k+o+j):=fun j hj=>by
   have:=hown (i * k+o+j) (by omega)
   rw [<- Nat.add_assoc,<- Nat.add_assoc] at this;exact this
  refine .inr ⟨_,by rw [Sem.run_bind,zGs hg hul (fun j hj=>(hlive j hj).2) (zJ6 hx hw)];rfl,G,.undef _,?_⟩
  refine zHx I (b:=b) (x:=.r b) (.inr rfl) hab (fun j hj=>hlive j (by omega)) hb (fun b' hne=>get_set_other hne) (fun q hq=>?_) rfl rfl (zCv h b _ I.nod)
  rw [zBm hb] at hq
  cases hq
  have hC:=zCr (w:=w) (ab:=ab) (o:=ao+i * k+o) (vs:=u.cells.toList) (x:=.r b) (own:=own) (fun j hj=>hlive j (by omega))
  refine ⟨hvmax,fun ab' ao' k' cap' hm'=>?_⟩
  rw [hm] at hm'
  cases hm'
  have hse:=zKx (e:=nth es i) (o:=o) (xs:=x.bare.cells) (fun c hc=>by obtain ⟨j,hj⟩:=List.getElem?_of_mem hc;exact (hecell j c hj).1) hf (by omega) (by omega)
  have hxl:o+x.bare.cells.length<=(nth es i).cells.length:=by omega
  refine ⟨hab,by rw [zDr];exact hcap,fun j hj=>⟨(hown j hj).1,hC.live _ _ (hown j hj).2⟩,fun j e he=>?_⟩
  rw [getElem?_setNth] at he
  split at he
  . rename_i hij
    obtain ⟨rfl,_⟩:=hij
    cases he
    rw [hse]
    refine ⟨by rw [zDw _ _ _ hxl];exact hek,fun m c hmc=>?_⟩
    rw [getElem?_setCells _ _ _ hxl] at hmc
    split at hmc
    . rename_i hin
      refine ⟨hf c (List.mem_of_getElem? hmc),?_⟩
      refine zFt (fun j hj=>(hlive j (by omega)).2) hc (by omega) ?_
      rw [show ao+i * k+m - (ao+i * k+o)=m - o by omega];exact hmc
    . rename_i hout
      obtain ⟨h1,v,hv,hr⟩:=hecell m c hmc
      exact ⟨h1,v,by rw [zAh (fun _=>by rw [hul,<- hkb];omega)];exact hv,hr⟩
  . rename_i hij
    obtain ⟨h1,h2⟩:=hel j e he
    refine ⟨h1,fun m c hmc=>⟨(h2 m c hmc).1,?_⟩⟩
    obtain ⟨_,v,hv,hr⟩:=h2 m c hmc
    refine ⟨v,?_,hr⟩
    rw [zAh (fun _=>?_)]
    . exact hv
    . have hm:=(List.getElem?_eq_some_iff.1 hmc).1
      have hj:=(List.getElem?_eq_some_iff.1 he).1
      rw [h1] at hm
      rw [hek] at hxl
      have hne:j≠i:=fun e=>hij ⟨e.symm,hj⟩
      rw [hul,<- hkb]
      rcases Nat.lt_or_gt_of_ne hne with hlt | hgt
      . have:(j+1) * k<=i * k:=Nat.mul_le_mul_right _ hlt
        rw [Nat.succ_mul] at this
        omega
      . have:(i+1) * k<=j * k:=Nat.mul_le_mul_right _ hgt
        rw [Nat.succ_mul] at this
        omega
theorem zYu {t:TypeId} {g:ElemInfo} {b:Nat} {x:CVal} {z u:Value} (I:Inv base G h w) (hg:zAt P t=some g) (hw:x.whole=true) (hk:x.cells.length=g.size)
    {d:Nat} (hd:szOf d=g.size) (hp:VR G (.ptr b d 0) z) (hx:VR G x u) (hb:h.get b=none) :
    OutE P base G h id .undef (h.put b (.cells x.cells)) (do Instr.storeAt t z u;pure .skip) w:=by
 obtain ⟨own,I⟩:=I
 cases hp with
 | ptr hm =>
  rename_i ab
  obtain ⟨hbn,hab,hown,hbk⟩:=I.mus b ab d hm
  rw [hd] at hown
  obtain ⟨hc,hf⟩:=hx.cells hw
  have hul:u.cells.toList.length=g.size:=by rw [<- hc.1,hk]
  refine .inr ⟨_,by rw [Sem.run_bind,zGs hg hul (fun j hj=>by rw [Nat.zero_add];exact (hown j hj).2) (zJ6 hx hw)];rfl,G,.undef _,?_⟩
  have hC:=zCr (w:=w) (ab:=ab) (o:=0) (vs:=u.cells.toList) (x:=.m b) (own:=own) (fun j hj=>by rw [Nat.zero_add];exact hown j (by omega))
  refine ⟨.refl G,⟨own,I.step (x:=.m b) (.refl G) hC (Nat.le_refl _) (fun _ _ _ h=>.inl h) (fun _ _ _ h=>.inl h) (fun _ _ _ h=>.inl h) (fun _ _ _ h=>.inl h) ?_ ?_ ?_ (fun _ _ h=>.inl ⟨h,fun _ _ h=>h⟩)⟩,below_setCells hab _ _ w,Nat.le_refl _,fun i _ hne hfr=>?_⟩
  . intro b' q hq
    rw [zDt] at hq
    split at hq
    . rename_i e
      subst e
      cases hq
      refine .inr ⟨hbn,fun ab' k hm'=>?_⟩
      rw [hm] at hm'
      cases hm'
      refine ⟨by rw [hk,hd],fun i c hi=>⟨hf c (List.mem_of_getElem? hi),?_⟩⟩
      have hil:=(List.getElem?_eq_some_iff.1 hi).1
      exact zFt (fun j hj=>by rw [Nat.zero_add];exact (hown j (by omega)).2) hc (by omega) (by simpa using hi)
    . rename_i hne
      exact .inl ⟨hq,⟨rfl,fun _=>rfl,fun _=>rfl⟩,by simp;exact hne,by simp,by simp⟩
  . intro a i y hy;rw [setCells_size];exact I.old a i y hy
  . show (List.map (·.1) ((b,CObj.cells x.cells)::h.ents)).Nodup
    rw [List.map_cons,List.nodup_cons]
    exact ⟨fun hm=>zFs hm hb,I.nod⟩
  . obtain ⟨h1,h2,h3,h4⟩:=hfr
    exact ⟨h1,h2,h3,by rw [zDt,if_neg (fun e=>by rw [<- e,hm] at h1;cases h1)];exact h4⟩
end
end Go.CI
namespace Go.CI
open Go.RowKit
def Gh.withRw (G:Gh) (b ver:Nat) (x:Nat × Nat × Nat × Nat):Gh:={ G with rw:=fun c v=>if c=b/\v=ver then some x else G.rw c v }
def Gh.withTk (G:Gh) (b ver:Nat) (x:Nat × Nat × Nat × Nat):Gh:={ G with tk:=fun c v=>if c=b/\v=ver then some x else G.tk c v }
theorem zJb {G:Gh} {b ver:Nat} {x:Nat × Nat × Nat × Nat} (hf:G.rw b ver=none):G.le (G.withRw b ver x) :=
 ⟨fun _ _ _ h=>h,fun _ _ h=>h,fun c v y hy=>by
  show (if c=b/\v=ver then _ else _)=_
  rw [if_neg (by rintro ⟨rfl,rfl⟩;rw [hf] at hy;cases hy)];exact hy,fun _ _ _ h=>h⟩
theorem zMh {G:Gh} {b ver:Nat} {x:Nat × Nat × Nat × Nat} (hf:G.tk b ver=none):G.le (G.withTk b ver x) :=
 ⟨fun _ _ _ h=>h,fun _ _ h=>h,fun _ _ _ h=>h,fun c v y hy=>by
  show (if c=b/\v=ver then _ else _)=_
  rw [if_neg (by rintro ⟨rfl,rfl⟩;rw [hf] at hy;cases hy)];exact hy⟩
theorem zBi (G:Gh) (b ver:Nat) (x:Nat × Nat × Nat × Nat):(G.withRw b ver x).rw b ver=some x:=by
 show (if b=b/\ver=ver then _ else _)=_;rw [if_pos ⟨rfl,rfl⟩]
theorem zEu (G:Gh) (b ver:Nat) (x:Nat × Nat × Nat × Nat):(G.withTk b ver x).tk b ver=some x:=by
 show (if b=b/\ver=ver then _ else _)=_;rw [if_pos ⟨rfl,rfl⟩]
theorem zAw {G:Gh} {b c v ver:Nat} {x:Nat × Nat × Nat × Nat} (h:c≠b):(G.withRw b ver x).rw c v=G.rw c v:=by
 show (if c=b/\v=ver then _ else _)=_;rw [if_neg (by rintro ⟨e,_⟩;exact h e)]
theorem zCt {G:Gh} {b c v ver:Nat} {x:Nat × Nat × Nat × Nat} (h:c≠b):(G.withTk b ver x).tk c v=G.tk c v:=by
 show (if c=b/\v=ver then _ else _)=_;rw [if_neg (by rintro ⟨e,_⟩;exact h e)]
section
variable {P:Program} {base:Base} {G:Gh} {h:CHeap} {w:World} {id:Nat}
theorem zRb {G:Gh} {w':World} {ab k:Nat} {es:List CVal} (hk:AllK k es) (hf:∀ e ∈ es,∀ c ∈ e.cells,c.flat=true) {ao:Nat} (hc:∀ (i:Nat) (c:CVal),(zAp es)[i]? = some c->Holds G w' ab (ao+i) c) :
    ∀ (i:Nat) (e:CVal),es[i]? = some e->e.cells.length=k/\∀ (j:Nat) (c:CVal),e.cells[j]? = some c->c.flat=true/\Holds G w' ab (ao+i * k+j) c:=by
 intro i e he
 have hm:=List.mem_of_getElem? he
 refine ⟨hk e hm,fun j c hj=>⟨hf e hm c (List.mem_of_getElem? hj),?_⟩⟩
 rw [Nat.add_assoc]
 exact hc _ _ (zDk hk he hj)
theorem zHb (I:Inv base G h w) {b ver k cap:Nat} {es:List CVal} {h':CHeap} {arr:Array Value} {T:TypeId} {lo hi:Nat} (hfr:hi<=lo\/zG2=false/\arr.size<=lo) (hb:b<h.next) (hver:∀ v x,G.rw b v=some x->v<ver)
    (hk:AllK k es) (hf:∀ e ∈ es,∀ c ∈ e.cells,c.flat=true) (hcap:es.length<=cap) (harr:cap * k<=arr.size) (hc:∀ (i:Nat) (c:CVal),(zAp es)[i]? = some c->∃ v,arr[i]? = some v/\VR G c v)
    (hget:h'.get b=some (.row ver es)) (hoth:∀ b',b'≠b->h'.get b'=h.get b') (hn:h'.next=h.next) (nod:(h'.ents.map (·.1)).Nodup) (hlh:(lo<=hi/\hi<=arr.size)\/∀ T',¬ h'.ty b=some T') (hty:∀ T',h'.ty b=some T'->T'=T/\(h.ty b=some T'\/∀ v,G.rw b v=none)) (htyo:∀ b' T',b'≠b->h'.ty b'=some T'->h.ty b'=some T') :
    Post base (· = b) G h w (G.withRw b ver (w.heap.size,0,k,cap)) h' (w.alloc (.cells arr T (lo,hi))):=by
 obtain ⟨own,I⟩:=I
 have hle:G.le (G.withRw b ver (w.heap.size,0,k,cap)):=zJb (by
  cases hx:G.rw b ver with
  | none=>rfl
  | some x=>exact absurd (hver ver x hx) (by omega))
 refine ⟨hle,⟨_,I.step (own':=fun a i=>if a=w.heap.size then (if i<cap * k then some (.r b) else none) else own a i) (x:=.r b) hle (zGu I arr T (lo,hi) (fun i=>if i<cap * k then some (.r b) else none) _) (by omega)
  (fun ab o c hf=>.inl hf) (fun b ab k hm=>.inl hm) ?_ (fun b v y hy=>.inl hy) ?_ ?_ nod ?_⟩,(Below.refl _ _).alloc I.top _,by omega,fun i hi hne hfr=>?_⟩
 . intro c v y hy
   by_cases hcb:c=b
   . subst hcb
     by_cases hv:v=ver
     . subst hv
       rw [zBi] at hy
       cases hy
       refine .inr ⟨by omega,by show w.heap.size<(w.heap.push _).size;rw [Array.size_push];omega,fun hst T' n _=>?_⟩
       exact zFz arr T lo hi n (.inl (hfr.resolve_right (by rw [hst];simp)))
     . have hy':(if c=c/\v=ver then some (w.heap.size,0,k,cap) else G.rw c v)=some y:=hy
       rw [if_neg (fun e=>hv e.2)] at hy'
       exact .inl hy'
   . rw [zAw hcb] at hy;exact .inl hy
 . intro c o ho
   by_cases hcb:c=b
   . subst hcb
     rw [hget] at ho
     cases ho
     refine .inr ⟨by omega,fun v x hx=>?_,fun ab ao k' cap' hr=>?_⟩
     . have hx:(if c=c/\v=ver then some (w.heap.size,0,k,cap) else G.rw c v)=some x:=hx
       split at hx
       . rename_i e;omega
       . have:=hver v x hx;omega
     . rw [zBi] at hr
       cases hr
       refine ⟨I.top,hcap,fun i hik=>?_,zRb hk hf (fun i c hi=>?_)⟩
       . rw [Nat.zero_add]
         refine ⟨by simp [hik],⟨arr[i],by rw [zEs];exact Array.getElem?_eq_getElem (by omega)⟩,zFz arr T lo hi i (by omega)⟩
       . obtain ⟨v,hv,hr⟩:=hc i c hi
         exact ⟨v,by rw [Nat.zero_add,zEs];exact hv,hr.mono hle⟩
   . rw [hoth c hcb] at ho
     exact .inl ⟨ho,⟨rfl,fun v=>zAw hcb,fun _=>rfl⟩,by simp,by simp;exact fun e=>hcb e.symm,by simp⟩
 . intro a o y ho
   show a<(w.heap.push _).size
   rw [Array.size_push]
   have ho:(if a=w.heap.size then (if o<cap * k then some (Own.r b) else none) else own a o)=some y:=ho
   split at ho
   . omega
   . have:=I.old _ _ _ ho;omega
 . intro b' T' ht
   by_cases hbb:b'=b
   . subst hbb
     refine .inr ⟨⟨ver,by rw [zBi];simp⟩,fun v y hy=>?_⟩
     have hy:(if b'=b'/\v=ver then some (w.heap.size,0,k,cap) else G.rw b' v)=some y:=hy
     obtain ⟨e,hor⟩:=hty T' ht
     subst e
     split at hy
     . cases hy
       refine ⟨⟨arr,lo,hi,zFx _,(hlh.resolve_right (fun h=>h _ ht)).1,(hlh.resolve_right (fun h=>h _ ht)).2⟩,fun i z hz=>?_⟩
       have hz:(if w.heap.size=w.heap.size then (if i<cap * k then some (Own.r b') else none) else own w.heap.size i)=some z:=hz
       rw [if_pos rfl] at hz
       split at hz
       . cases hz;rfl
       . cases hz
     . obtain ⟨h3,h4⟩:=hor.elim (fun h=>I.tys b' _ h v y hy) (fun h=>by rw [h v] at hy;cases hy)
       obtain ⟨c,l,u,he,h5,h6⟩:=h3
       have hlt:=(Array.getElem?_eq_some_iff.1 he).1
       refine ⟨⟨c,l,u,by rw [Below.heap_alloc _ _ _ hlt];exact he,h5,h6⟩,fun i z hz=>h4 i z ?_⟩
       have hz:(if y.1=w.heap.size then (if i<cap * k then some (Own.r b') else none) else own y.1 i)=some z:=hz
       rw [if_neg (by omega)] at hz;exact hz
   . exact .inl ⟨htyo b' T' hbb ht,fun v y hy=>by rw [zAw hbb] at hy;exact hy⟩
 . obtain ⟨h1,h2,h3,h4⟩:=hfr
   exact ⟨h1,fun v=>by rw [zAw hne];exact h2 v,h3,by rw [hoth i hne];exact h4⟩
theorem zC9 (I:Inv base G h w) {b ver k cap:Nat} {es:List CVal} {h':CHeap} {arr:Array Value} {T:TypeId} {lo hi:Nat} (hfr:hi<=lo) (hb:b<h.next) (hver:∀ v x,G.rw b v=some x->v<ver)
    (hk:AllK k es) (hf:∀ e ∈ es,∀ c ∈ e.cells,c.flat=true) (hcap:es.length<=cap) (harr:cap * k<=arr.size) (hc:∀ (i:Nat) (c:CVal),(zAp es)[i]? = some c->∃ v,arr[i]? = some v/\VR G c v)
    (hget:h'.get b=some (.row ver es)) (hoth:∀ b',b'≠b->h'.get b'=h.get b') (hn:h'.next=h.next) (nod:(h'.ents.map (·.1)).Nodup) (hlh:lo<=hi/\hi<=arr.size) (hty:∀ T',h'.ty b=some T'->T'=T/\(h.ty b=some T'\/∀ v,G.rw b v=none)) (htyo:∀ b' T',b'≠b->h'.ty b'=some T'->h.ty b'=some T') :
    Post base (· = b) G h w (G.withRw b ver (w.heap.size,0,k,cap)) h' (w.alloc (.cells arr T (lo,hi))) :=
 zHb I (.inl hfr) hb hver hk hf hcap harr hc hget hoth hn nod (.inl hlh) hty htyo
theorem zFp (I:Inv base G h w) {b ver k room:Nat} {es:List CVal} {h':CHeap} {arr:Array Value} {T:TypeId} (hb:b<h.next) (hver:∀ v x,G.tk b v=some x->v<ver)
    (hk:AllK k es) (hf:∀ e ∈ es,∀ c ∈ e.cells,c.flat=true) (harr:(es.length+room) * k<=arr.size) (hc:∀ (i:Nat) (c:CVal),(zAp es)[i]? = some c->∃ v,arr[i]? = some v/\VR G c v)
    (hget:h'.get b=some (.tok ver)) (hoth:∀ b',b'≠b->h'.get b'=h.get b') (hn:h'.next=h.next) (nod:(h'.ents.map (·.1)).Nodup) (hty:h'.tys=h.tys) :
    Post base (· = b) G h w ((G.withFz w.heap.size (zAp es)).withTk b ver (w.heap.size,es.length * k,k,room)) h' (w.alloc (.cells arr T)):=by
 obtain ⟨own,I⟩:=I
 have hle1:G.le (G.withFz w.heap.size (zAp es)):=⟨fun b o c hb=>by
  obtain ⟨_,v,hv,_⟩:=I.fzs b o c hb
  show (if b=w.heap.size then (zAp es)[o]? else G.fz b o)=some c
  rw [if_neg (by have:=zE3 hv;omega)];exact hb,fun _ _ h=>h,fun _ _ _ h=>h,fun _ _ _ h=>h⟩
 have hle:G.le ((G.withFz w.heap.size (zAp es)).withTk b ver (w.heap.size,es.length * k,k,room)):=hle1.trans (zMh (by
  show G.tk b ver=none
  cases hx:G.tk b ver with
  | none=>rfl
  | some x=>exact absurd (hver ver x hx) (by omega)))
 have hflen:(zAp es).length=es.length * k:=zAl hk
 refine ⟨hle,⟨_,I.step (own':=fun a i=>if a=w.heap.size then (if es.length * k<=i/\i<es.length * k+room * k then some (.t b) else none) else own a i) (x:=.t b) hle (zGu I arr T (0,0) (fun i=>if es.length * k<=i/\i<es.length * k+room * k then some (.t b) else none) _) (by omega)
  ?_ (fun b ab k hm=>.inl hm) (fun b v y hy=>.inl hy) ?_ ?_ ?_ nod (fun b T h1=>.inl ⟨by unfold CHeap.ty at h1 ⊢;rw [<- hty];exact h1,fun _ _ h=>h⟩)⟩,(Below.refl _ _).alloc I.top _,by omega,fun i hi hne hfr=>?_⟩
 . intro ab o c hf'
   by_cases hab:ab=w.heap.size
   . have hf':(if ab=w.heap.size then (zAp es)[o]? else G.fz ab o)=some c:=hf'
     rw [if_pos hab] at hf'
     have hol:o<es.length * k:=by rw [<- hflen];exact (List.getElem?_eq_some_iff.1 hf').1
     obtain ⟨v,hv,hr⟩:=hc o c hf'
     refine .inr ⟨?_,v,by rw [hab,zEs];exact hv,hr.mono hle⟩
     show (if ab=w.heap.size then (if es.length * k<=o/\o<es.length * k+room * k then some (Own.t b) else none) else own ab o)=none
     rw [if_pos hab,if_neg (by omega)]
   . have hf':(if ab=w.heap.size then (zAp es)[o]? else G.fz ab o)=some c:=hf'
     rw [if_neg hab] at hf';exact .inl hf'
 . intro c v y hy
   by_cases hcb:c=b
   . subst hcb;exact .inr (by omega)
   . rw [zCt hcb] at hy;exact .inl hy
 . intro c o ho
   by_cases hcb:c=b
   . subst hcb
     rw [hget] at ho
     cases ho
     refine .inr ⟨by omega,fun v x hx=>?_,fun ab e k' room' hr=>?_⟩
     . have hx:(if c=c/\v=ver then some (w.heap.size,es.length * k,k,room) else G.tk c v)=some x:=hx
       split at hx
       . rename_i e;omega
       . have:=hver v x hx;omega
     . rw [zEu] at hr
       cases hr
       refine ⟨I.top,fun i hi=>⟨by simp;omega,⟨arr[es.length * k+i]'(by rw [Nat.add_mul] at harr;omega),by rw [zEs];exact Array.getElem?_eq_getElem _⟩,zFz arr T 0 0 _ (.inl (Nat.le_refl _))⟩⟩
   . rw [hoth c hcb] at ho
     exact .inl ⟨ho,⟨rfl,fun _=>rfl,fun v=>zCt hcb⟩,by simp,by simp,by simp;exact fun e=>hcb e.symm⟩
 . intro a o y ho
   show a<(w.heap.push _).size
   rw [Array.size_push]
   have ho:(if a=w.heap.size then (if es.length * k<=o/\o<es.length * k+room * k then some (Own.t b) else none) else own a o)=some y:=ho
   split at ho
   . omega
   . have:=I.old _ _ _ ho;omega
 . obtain ⟨h1,h2,h3,h4⟩:=hfr
   exact ⟨h1,h2,fun v=>by rw [zCt hne];exact h3 v,by rw [hoth i hne];exact h4⟩
theorem zHl {b ver k room:Nat} {es:List CVal} {w:World} (hk:AllK k es) (hk0:0<k) (hf:∀ e ∈ es,∀ c ∈ e.cells,c.flat=true) :
    VR ((G.withFz w.heap.size (zAp es)).withTk b ver (w.heap.size,es.length * k,k,room)) (.imm (.own b ver) k es) (.slice (some ⟨w.heap.size,0,none⟩) es.length (es.length+room)):=by
 refine .imm rfl hk0 (by omega) ?_ ⟨w.heap.size,es.length * k,room,zEu _ _ _ _,rfl,.inr ⟨rfl,by simp⟩⟩
 intro i e he
 exact zO6 hk hf w.heap.size i e he
theorem zOk (I:Inv base G h w) {b:Nat} (hf:zCw G h b):h.ty b=none:=by obtain ⟨own,I⟩:=I;exact I.ty_fresh hf
theorem zK1 (I:Inv base G h w) {b:Nat} (hf:zCw G h b) {o:CObj} {Tn e:Nat} (hT:Tn=0\/Tn=e+1):∀ T',((h.put b o).note b Tn).ty b=some T'->T'=e/\(h.ty b=some T'\/∀ v,G.rw b v=none) :=
 fun T' h1=>⟨zM1 (h:=h.put b o) (zOk I hf) hT h1,.inr hf.2.1⟩
theorem zHo {b:Nat} {o:CObj} {Tn:Nat}:∀ b' T',b'≠b->((h.put b o).note b Tn).ty b'=some T'->h.ty b'=some T':=fun b' T' hne h1=>zKs (h:=h.put b o) hne h1
theorem zVq {b T e:Nat} (hT:T=0\/T=e+1) (h1:h.tyOk b T=true) {T':Nat} (h2:h.ty b=some T'):T'=e:=by
 unfold CHeap.tyOk at h1
 rw [h2] at h1
 simp at h1
 omega
theorem zEc {b:Nat} (hf:zCw G h b):(∀ v x,G.rw b v=some x->v<0)/\(∀ v x,G.tk b v=some x->v<0):=by
 refine ⟨fun v x hx=>?_,fun v x hx=>?_⟩
 . have:=hf.2.1 v;rw [this] at hx;cases hx
 . have:=hf.2.2.1 v;rw [this] at hx;cases hx
theorem zE6 (h:CHeap) (b:Nat) (o:CObj):(h.put b o).get b=some o:=by rw [zDt,if_pos rfl]
theorem zDe {h:CHeap} {b b':Nat} {o:CObj} (hne:b'≠b):(h.put b o).get b'=h.get b':=by rw [zDt,if_neg (fun e=>hne e.symm)]
theorem zDd {h:CHeap} {b:Nat} {o:CObj} (hn:(h.ents.map (·.1)).Nodup) (hb:h.get b=none):((h.put b o).ents.map (·.1)).Nodup:=by
 show (List.map (·.1) ((b,o)::h.ents)).Nodup
 rw [List.map_cons,List.nodup_cons]
 exact ⟨fun hm=>zFs hm hb,hn⟩
theorem zFr {ab k cap len b ver:Nat} (hk:0<k) (hl:len<=cap):VR (G.withRw b ver (ab,0,k,cap)) (.ref b ver k 0 len) (.slice (some ⟨ab,0,none⟩) len cap):=by
 have:=VR.ref (G:=G.withRw b ver (ab,0,k,cap)) (off:=0) (len:=len) (a:=⟨ab,0,none⟩) (zBi _ _ _ _) hk (by omega) rfl (.inr (by simp))
 simpa using this
theorem zW4 {t:TypeId} {f:ElemInfo} (I:Inv base G h w) (hf:zCw G h id) (hid:id<h.next) (ht:zAt P t=some f) (hbm:f.zero.length<zBn) :
    OutE P base G h id (.ptr id (descOf t f.zero.length) 0) (h.put id (.cells f.zero)) (do pure (.value (<- Instr.alloc t true (.tuple #[])))) w:=by
 obtain ⟨i,d,z,ok⟩:=zAz ht
 refine .inl ⟨.pointer (some ⟨w.heap.size,0,none⟩),w.alloc (.cells z.cells t),?_,G.withMu id w.heap.size (descOf t f.size),.ptr ?_,?_⟩
 . simp [Instr.alloc,zGa ok.info ok.zero,newVar,newRow]
 . rw [ok.len];show (if id=id then _ else _)=_;rw [if_pos rfl]
 . have:=zNg I hf hid z.cells t (by rw [ok.zsize,<- ok.len];exact hbm) (h.put id (.cells f.zero)) (Nat.le_refl _) rfl (.inr ⟨f.zero,rfl,ok.zeros G,ok.flat⟩)
   rw [ok.zsize] at this
   exact this
theorem zau {t:TypeId} {c:CVal} {u:Value} (I:Inv base G h w) (hf:zCw G h id) (hid:id<h.next) (hw:c.whole=true) (hbm:c.cells.length<zBn) (hc:VR G c u) :
    OutE P base G h id (.ptr id (descOf t c.cells.length) 0) (h.put id (.cells c.cells)) (do pure (.value (<- Instr.box t u))) w:=by
 obtain ⟨hv,hfl⟩:=hc.cells hw
 have hsz:u.cells.size=c.cells.length:=by rw [<- Array.length_toList,hv.1]
 refine .inl ⟨.pointer (some ⟨w.heap.size,0,none⟩),w.alloc (.cells u.cells t),?_,G.withMu id w.heap.size (descOf t c.cells.length),.ptr ?_,?_⟩
 . simp [Instr.box,newVar,newRow]
 . show (if id=id then _ else _)=_;rw [if_pos rfl]
 . have:=zNg I hf hid u.cells t (by rw [hsz];exact hbm) (h.put id (.cells c.cells)) (Nat.le_refl _) rfl (.inr ⟨c.cells,rfl,hv,hfl⟩)
   rw [hsz] at this
   exact this
theorem zTd {t e:TypeId} {g:ElemInfo} {len:Nat} {ps:List (Nat × COpnd)} {Ps:Array (Nat × Operand)} {ev:COpnd->CVal} {ρ:Operand->Value} {es:List CVal} (I:Inv base G h w) (hfr:zCw G h id) (hid:id<h.next) (ht:P.underlying t=some (.slice e)) (hg:zAt P e=some g) (hlen:len * g.size<=16777216)
    (hp:Both (fun p Q=>p.1=Q.1/\VR G (ev p.2) (ρ Q.2)) ps Ps.toList) (hes:zD2 g.zero.length (List.replicate len (zBk g.agg g.zero)) (ps.map fun p=>(p.1,(ev p.2).bare))=some es) :
    OutE P base G h id (.ref id 0 g.zero.length 0 len) (h.put id (.row 0 es)) (do pure (.value (<- Instr.buildSlice t len (Ps.map fun (i,x)=>(i,ρ x))))) w:=by
 obtain ⟨i,d,z,ok⟩:=zAz hg
 rw [ok.len] at hes ⊢
 have hk0:AllK g.size (List.replicate len (zBk g.agg g.zero)):=by
  intro e he;rw [(List.mem_replicate.1 he).2,zBl ok,ok.len]
 have hf0:∀ e ∈ List.replicate len (zBk g.agg g.zero),∀ c ∈ e.cells,c.flat=true:=by
  intro e he;rw [(List.mem_replicate.1 he).2,zBl ok];exact ok.flat
 obtain ⟨arr,h1,h2,h3,h4,h5⟩:=zHv g.size ok.pos ev ρ ps Ps.toList _ _ es hp hk0 (zH7 ok G len) hf0 hes
 rw [List.length_replicate] at h5
 have hrun:=run_buildSlice (w:=w) (Ps:=Ps.map fun (i,x)=>(i,ρ x)) ht ok hlen (by rw [Array.toList_map];exact h1)
 have harr:arr.size=len * g.size:=by rw [<- Array.length_toList,<- h3.1,zAl h2,h5]
 refine .inl ⟨_,_,by rw [Sem.run_bind,hrun];rfl,G.withRw id 0 (w.heap.size,0,g.size,len),zFr ok.pos (Nat.le_refl _),?_⟩
 exact zC9 I (lo:=0) (hi:=0) (Nat.le_refl _) hid (zEc hfr).1 h2 h4 (by omega) (by omega) (fun j c hc=>by
  have hj:j<arr.toList.length:=by rw [<- h3.1];exact (List.getElem?_eq_some_iff.1 hc).1
  exact ⟨arr.toList[j],by rw [<- Array.getElem?_toList];exact List.getElem?_eq_getElem hj,h3.2 j c _ hc (List.getElem?_eq_getElem hj)⟩)
  (zE6 _ _ _) (fun b' hne=>zDe hne) rfl (by obtain ⟨_,I⟩:=I;exact zDd I.nod hfr.2.2.2) ⟨Nat.le_refl _,Nat.zero_le _⟩ (zK1 (Tn:=0) I hfr (.inl rfl)) (zHo (Tn:=0))
end
end Go.CI
