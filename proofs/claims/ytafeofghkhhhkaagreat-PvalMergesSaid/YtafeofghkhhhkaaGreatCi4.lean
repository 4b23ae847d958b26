/- A deterministic interpreter over values, proved sound against the model's rules (part 4 of 7): what a run of it gives, a call in the model gives. -/
import Derived.Test.YtafeofghkhhhkaaGreatCi3
import Derived.Laws.StructEq
import Derived.MapKept
set_option linter.unusedVariables false
set_option linter.unusedSimpArgs false
namespace Go.CI
open Go.RowKit
theorem zHy {E:Env} {dsts:List (Option Tmp)} {op:Op} {c:COp} (h:zGf E dsts op=some c):(∃ k xs,c=.ext k xs)\/(∃ k xs,c=.extl k xs):=by
 unfold zGf at h
 repeat' (split at h)
 all_goals first
  | (cases h;done)
  | (cases h;exact .inl ⟨_,_,rfl⟩)
  | (cases h;exact .inr ⟨_,_,rfl⟩)
def kindOf:KeyK->TypeDesc
 | .int k=>.int k
 | .str=>.string
 | .bool=>.bool
theorem zCq {P:Program} {t:TypeId} {kk:KeyK} (h:zDm P t=some kk):P.underlying t=some (kindOf kk):=by
 unfold zDm at h
 split at h <;> cases h <;> assumption
section
variable {P:Program} {base:Base} {G:Gh} {h:CHeap} {w:World} {id:Nat}
theorem zK0 {kk:KeyK} {k:CVal} {K:Value} (hk:zG6 kk k=true) (hv:VR G k K):MapKept.IsKey (kindOf kk) K:=by
 cases kk <;> cases hv <;> simp_all [zG6,kindOf,MapKept.IsKey]
theorem zQw {s t:ByteArray} (h:s.data.toList=t.data.toList):s=t:=by
 obtain ⟨⟨a⟩⟩:=s
 obtain ⟨⟨b⟩⟩:=t
 simp at h
 rw [h]
theorem zVo {kk:KeyK} {k:CVal} {K L:Value} (hk:zG6 kk k=true) (h1:VR G k K) (h2:VR G k L):K=L:=by
 cases kk <;> cases k <;> simp [zG6] at hk
 . cases h1;cases h2;rfl
 . rename_i s
   obtain ⟨a,rfl,ha⟩:=zFc h1
   obtain ⟨b,rfl,hb⟩:=zFc h2
   rw [zQw (ha.trans hb.symm)]
 . cases h1;cases h2;rfl
theorem zSs {kk:KeyK} {a b:CVal} {A B:Value} (ha:zG6 kk a=true) (hb:zG6 kk b=true) (h1:VR G a A) (h2:VR G b B):Instr.sameNow (kindOf kk) A B=some (a.beq b):=by
 cases kk <;> cases a <;> simp [zG6] at ha <;> cases b <;> simp [zG6] at hb
 . cases h1;cases h2
   subst ha
   rename_i l n m
   subst hb
   simp only [kindOf,Instr.sameNow,CVal.beq,if_true]
   congr 1
 . rename_i s t
   obtain ⟨x,rfl,hx⟩:=zFc h1
   obtain ⟨y,rfl,hy⟩:=zFc h2
   simp only [kindOf,Instr.sameNow,CVal.beq]
   congr 1
   by_cases h:x=y
   . subst h
     have e:s=t:=hx.symm.trans hy
     have h1:=(MapKept.bytes_beq x x).2 rfl
     rw [h1];simp [e]
   . have h1:(x == y)=false:=by
      cases hb:(x == y) with
      | true=>exact absurd ((MapKept.bytes_beq x y).1 hb) h
      | false=>rfl
     rw [h1]
     have:s≠t:=fun e=>h (zQw (by rw [hx,hy,e]))
     simp [this]
 . cases h1;cases h2
   simp [kindOf,Instr.sameNow,CVal.beq]
theorem zCi.cons {x:Nat × CVal × CVal} {kvs:List (Nat × CVal × CVal)} {e:MapEntry} {es:List MapEntry} (h:zCi G (x::kvs) (e::es)):(x.1=e.born/\VR G x.2.1 e.key/\VR G x.2.2 e.val)/\zCi G kvs es :=
 ⟨h.2 0 x e rfl rfl,by have:=h.1;simpa using this,fun i y f hy hf=>h.2 (i+1) y f (by simpa using hy) (by simpa using hf)⟩
theorem zKy {kk:KeyK} {key:CVal} {K:Value} (hk:zG6 kk key=true) (hv:VR G key K):∀ (kvs:List (Nat × CVal × CVal)) (es:List MapEntry) (r:Option Nat) (i:Nat),zCi G kvs es->zG8 kk key kvs=some r ->
    match r with
    | none=>Instr.findNow (kindOf kk) K es i=some none
    | some j=>∃ e,es[j]? = some e/\e.key=K/\kvs[j]? = some (zGn kvs j)/\Instr.findNow (kindOf kk) K es i=some (some (i+j,e.val))
 | [],es,r,i,hm,hf=>by
  simp only [zG8] at hf
  cases hf
  have:es=[]:=by have:=hm.1;simpa using this.symm
  subst this
  rfl
 | x::kvs,es,r,i,hm,hf=>by
  match es,hm with
  | [],hm=>have:=hm.1;simp at this
  | e::es,hm =>
   obtain ⟨⟨_,hx,_⟩,hm'⟩:=hm.cons
   obtain ⟨b,k,v⟩:=x
   simp only [zG8] at hf
   split at hf
   . rename_i hkk
     have hs:=zSs hk hkk hv hx
     split at hf
     . rename_i hb
       cases hf
       have e1:=zH9 _ _ hb
       subst e1
       refine ⟨e,rfl,(zVo hk hv hx).symm,rfl,?_⟩
       simp only [Instr.findNow,hs,hb,Nat.add_zero]
     . rename_i hb
       have hb':key.beq k=false:=by simpa using hb
       split at hf
       . rename_i j hj
         cases hf
         obtain ⟨e',h1,h2,h3,h4⟩:=zKy hk hv kvs es (some j) (i+1) hm' hj
         refine ⟨e',by simpa using h1,h2,by simpa [zGn] using h3,?_⟩
         simp only [Instr.findNow,hs,hb',h4]
         rw [show i+1+j=i+(j+1) by omega]
       . rename_i hj
         cases hf
         have:=zKy hk hv kvs es none (i+1) hm' hj
         simp only [Instr.findNow,hs,hb',this]
       . cases hf
   . cases hf
theorem zK7 {t:TypeId} {z:CVal} (h:zeroOf P t=some z) (G:Gh) (w:World):∃ Z,(zeroValue t).run P w=.ok Z w/\VR G z Z:=by
 unfold zeroOf at h
 split at h
 . rename_i i hi
   split at h
   . rename_i Z hz
     exact ⟨Z,zGa hi hz,zCu G Z z h⟩
   . cases h
 . cases h
theorem zD8 {E:Env} {dsts:List (Option Tmp)} {ev:COpnd->CVal} {ρ:Operand->Value} {a b:Operand} {xs:List COpnd} (hr:ORel G E dsts ev ρ) (h:zBp E dsts [a,b]=some xs):∃ x y,xs.map ev=[x,y]/\VR G x (ρ a)/\VR G y (ρ b):=by
 have h2:=hr.list _ _ h
 have hl:=h2.1
 match hx:xs.map ev,hl with
 | [x,y],_=>rw [hx] at h2;exact ⟨x,y,rfl,h2.head,h2.tail.head⟩
theorem zF2 {E:Env} {dsts:List (Option Tmp)} {ev:COpnd->CVal} {ρ:Operand->Value} {a b c:Operand} {xs:List COpnd} (hr:ORel G E dsts ev ρ) (h:zBp E dsts [a,b,c]=some xs):∃ x y z,xs.map ev=[x,y,z]/\VR G x (ρ a)/\VR G y (ρ b)/\VR G z (ρ c):=by
 have h2:=hr.list _ _ h
 have hl:=h2.1
 match hx:xs.map ev,hl with
 | [x,y,z],_=>rw [hx] at h2;exact ⟨x,y,z,rfl,h2.head,h2.tail.head,h2.tail.tail.head⟩
theorem zN4 {E:Env} {dsts:List (Option Tmp)} {ev:COpnd->CVal} {ρ:Operand->Value} {a b c d:Operand} {xs:List COpnd} (hr:ORel G E dsts ev ρ) (h:zBp E dsts [a,b,c,d]=some xs):∃ x y z t,xs.map ev=[x,y,z,t]/\VR G x (ρ a)/\VR G y (ρ b)/\VR G z (ρ c)/\VR G t (ρ d):=by
 have h2:=hr.list _ _ h
 have hl:=h2.1
 match hx:xs.map ev,hl with
 | [x,y,z,t],_=>rw [hx] at h2;exact ⟨x,y,z,t,rfl,h2.head,h2.tail.head,h2.tail.tail.head,h2.tail.tail.tail.head⟩
theorem zGj {E:Env} {dsts:List (Option Tmp)} {ev:COpnd->CVal} {ρ:Operand->Value} {a:Operand} {xs:List COpnd} (hr:ORel G E dsts ev ρ) (h:zBp E dsts [a]=some xs):∃ x,xs.map ev=[x]/\VR G x (ρ a):=by
 have h2:=hr.list _ _ h
 have hl:=h2.1
 match hx:xs.map ev,hl with
 | [x],_=>rw [hx] at h2;exact ⟨x,rfl,h2.head⟩
theorem zHm (I:Inv base G h w) {b ck:Nat} {kvs:List (Nat × CVal × CVal)} {M:Value} (hm:VR G (.map b) M) (hg:h.get b=some (.map ck kvs)):∃ ab es,M=.map (some ab)/\G.mu b=some (ab,0)/\w.heap[ab]? = some (Obj.map es ck)/\zCi G kvs es.toList:=by
 obtain ⟨own,I⟩:=I
 cases hm with
 | map hmu =>
  rename_i ab
  obtain ⟨es,h1,h2⟩:=(I.ents b _ hg).2 ab hmu
  exact ⟨ab,es,rfl,hmu,h1,h2⟩
theorem zEa {kk:KeyK} {kt:TypeId} {k:CVal} {K:Value} {kvs:List (Nat × CVal × CVal)} {es:List MapEntry} {r:Option Nat} (hkk:zDm P kt=some kk) (hk:zG6 kk k=true) (hv:VR G k K) (hm:zCi G kvs es) (hf:zG8 kk k kvs=some r) :
    match r with
    | none=>(Instr.findKey kt K es).run P w=.ok none w
    | some j=>∃ e,es[j]? = some e/\e.key=K/\kvs[j]? = some (zGn kvs j)/\(Instr.findKey kt K es).run P w=.ok (some (j,e.val)) w:=by
 have h1:=zKy hk hv kvs es r 0 hm hf
 cases r with
 | none=>exact MapKept.run_findKey (zCq hkk) h1
 | some j =>
  obtain ⟨e,a,b,c,d⟩:=h1
  rw [Nat.zero_add] at d
  exact ⟨e,a,b,c,MapKept.run_findKey (zCq hkk) d⟩
theorem zZd {kk:KeyK} {t kt et:TypeId} {ok:Bool} {z m k v:CVal} {M K:Value} (I:Inv base G h w) (ht:P.underlying t=some (.map kt et)) (hkk:zDm P kt=some kk) (hz:zeroOf P et=some z) (hm:VR G m M) (hk:VR G k K)
    (hv:extL h (.mlook kk ok z) [m,k]=some v):∃ u,(Instr.lookup t M K ok).run P w=.ok u w/\VR G v u:=by
 obtain ⟨Z,hZ,hzv⟩:=zK7 hz G w
 simp only [extL] at hv
 split at hv
 . rename_i hki
   have hck:∀ e,(Instr.checkKey e 10000 kt K).run P w=.ok () w:=fun e=>MapKept.run_checkKey (zCq hkk) (zK0 hki hk) e 9999
   split at hv
   . cases hm
     cases hv
     have hfn:(Instr.findKey kt K []).run P w=.ok none w:=MapKept.run_findKey (zCq hkk) rfl
     cases ok with
     | true=>exact ⟨.tuple #[Z,.bool false],by simp [Instr.lookup,zB5 ht,hck,hfn,hZ,Result.andThen],.tup rfl (VRs.cons hzv (VRs.cons (.bool false) (VRs.nil G))).2⟩
     | false=>exact ⟨Z,by simp [Instr.lookup,zB5 ht,hck,hfn,hZ,Result.andThen],hzv⟩
   . rename_i b
     split at hv
     . rename_i ck kvs hg
       obtain ⟨ab,es,rfl,_,hheap,hrel⟩:=zHm I hm hg
       have hgo:=MapKept.run_getObj_map (P:=P) hheap
       split at hv
       . rename_i j hf
         obtain ⟨e,he,hek,hkv,hfn⟩:=zEa (P:=P) (w:=w) hkk hki hk hrel hf
         have hr:=hrel.2 j _ e hkv he
         cases hv
         cases ok with
         | true=>exact ⟨.tuple #[e.val,.bool true],by simp [Instr.lookup,zB5 ht,hgo,hck,hfn,Result.andThen],.tup rfl (VRs.cons hr.2.2 (VRs.cons (.bool true) (VRs.nil G))).2⟩
         | false=>exact ⟨e.val,by simp [Instr.lookup,zB5 ht,hgo,hck,hfn,Result.andThen],hr.2.2⟩
       . rename_i hf
         have hfn:=zEa (P:=P) (w:=w) hkk hki hk hrel hf
         cases hv
         cases ok with
         | true=>exact ⟨.tuple #[Z,.bool false],by simp [Instr.lookup,zB5 ht,hgo,hck,hfn,hZ,Result.andThen],.tup rfl (VRs.cons hzv (VRs.cons (.bool false) (VRs.nil G))).2⟩
         | false=>exact ⟨Z,by simp [Instr.lookup,zB5 ht,hgo,hck,hfn,hZ,Result.andThen],hzv⟩
       . cases hv
     . cases hv
   . cases hv
 . cases hv
theorem zTb {l:List Nat} {t:Nat} {k:IntKind} (h:zPl (l.filterMap (intType P)) t k=true):∃ i,P.info? t=some i/\i.comparable=true/\P.underlying t=some (.int k):=by
 induction l with
 | nil=>simp [zPl] at h
 | cons a r ih =>
  rw [List.filterMap_cons] at h
  cases hi:intType P a with
  | none=>rw [hi] at h;exact ih h
  | some x =>
   rw [hi] at h
   obtain ⟨u,l⟩:=x
   simp only [zPl,Bool.or_eq_true,Bool.and_eq_true,beq_iff_eq,decide_eq_true_eq] at h
   rcases h with ⟨rfl,rfl⟩ | h
   . unfold intType at hi
     split at hi
     . rename_i i k' h1 h2
       split at hi
       . cases hi;exact ⟨i,h1,by assumption,h2⟩
       . cases hi
     . cases hi
   . exact ih h
theorem zS3 {neg:Bool} {t:TypeId} {X Y:Value} {A B:Operand} {op:BinOp} {b:Bool} (hop:op=if neg then .neq else .eql) (hg:(eqGuard op t A B X Y).run P w=.ok () w) (hs:∀ (k l:IntKind) (m n:Int),¬ (X=.int k m/\Y=.int l n))
    (hb:(Op.equal t X Y).run P w=.ok b w) (hbin:∀ o:BinOp,o=.eql\/o=.neq->(binOp o t X Y).run P w=.ok (.bool (if o=.eql then b else !b)) w):(do eqGuard op t A B X Y;binOp op t X Y:Sem Value).run P w=.ok (.bool (if neg then !b else b)) w:=by
 subst hop
 rw [Sem.run_bind,hg]
 cases neg
 . show (binOp .eql t X Y).run P w=_;rw [hbin .eql (.inl rfl)];rfl
 . show (binOp .neq t X Y).run P w=_;rw [hbin .neq (.inr rfl)];rfl
theorem zc3 {neg:Bool} {l:List Nat} {t:TypeId} {ms:Array (String × TypeId)} {x y v:CVal} {X Y:Value} (ht:P.underlying t=some (.interface ms)) (hx:VR G x X) (hy:VR G y Y)
    (hv:extL h (.ieq neg (l.filterMap (intType P))) [x,y]=some v) {A B:Operand} {op:BinOp} (hop:op=if neg then .neq else .eql):∃ u,(do eqGuard op t A B X Y;binOp op t X Y:Sem Value).run P w=.ok u w/\VR G v u:=by
 cases x <;> cases y <;> simp only [extL] at hv <;> first | (cases hv;done) | skip
 . rename_i tx vx ty vy
   cases hx with
   | ifc hvx =>
    rename_i ux
    cases hy with
    | ifc hvy =>
     rename_i uy
     cases vx <;> cases vy <;> simp only [extL] at hv <;> first | (cases hv;done) | skip
     rename_i k a k2 b
     have e1:=zOi (c:=.nilp) hvx
     have e2:=zOi (c:=.nilp) hvy
     subst e1;subst e2
     have key:∃ r:Bool,v=.bool (if neg then !r else r)/\∀ d,(Op.equalIn (d+2) t (.iface tx (.int k a)) (.iface ty (.int k2 b))).run P w=.ok r w:=by
      split at hv
      . rename_i htt
        subst htt
        split at hv
        . rename_i hc
          simp only [Bool.and_eq_true,decide_eq_true_eq] at hc
          obtain ⟨hty,rfl⟩:=hc
          obtain ⟨i,h1,h2,h3⟩:=zTb hty
          cases hv
          refine ⟨a == b,rfl,fun d=>?_⟩
          simp [Op.equalIn,run_underlying ht,typeInfo,h1,h2,run_underlying h3]
        . cases hv
      . rename_i hne
        cases hv
        refine ⟨false,by cases neg <;> rfl,fun d=>?_⟩
        simp [Op.equalIn,run_underlying ht,hne]
     obtain ⟨r,rfl,hr⟩:=key
     refine ⟨_,zS3 (b:=r) hop (by subst hop;cases neg <;> rfl) (fun _ _ _ _ h=>by cases h.1) (hr 9998) (fun o ho=>?_),.bool _⟩
     rcases ho with rfl | rfl
     . simp [binOp,Op.equal,Op.maxDepth,hr 9998]
     . simp [binOp,Op.equal,Op.maxDepth,hr 9998]
 . rename_i tx vx
   cases hv
   cases hx with
   | ifc hvx =>
    rename_i ux
    cases hy
    have hr:∀ d,(Op.equalIn (d+1) t (.iface tx ux) .nilIface).run P w=.ok false w:=fun d=>by simp [Op.equalIn,run_underlying ht]
    refine ⟨.bool (if neg then !false else false),zS3 (b:=false) hop (by subst hop;cases neg <;> rfl) (fun _ _ _ _ h=>by cases h.1) (hr 9999) (fun o ho=>?_),by cases neg <;> exact .bool _⟩
    rcases ho with rfl | rfl
    . simp [binOp,Op.equal,Op.maxDepth,hr 9999]
    . simp [binOp,Op.equal,Op.maxDepth,hr 9999]
 . rename_i ty vy
   cases hv
   cases hy with
   | ifc hvy =>
    rename_i uy
    cases hx
    have hr:∀ d,(Op.equalIn (d+1) t .nilIface (.iface ty uy)).run P w=.ok false w:=fun d=>by simp [Op.equalIn,run_underlying ht]
    refine ⟨.bool (if neg then !false else false),zS3 (b:=false) hop (by subst hop;cases neg <;> rfl) (fun _ _ _ _ h=>by cases h.1) (hr 9999) (fun o ho=>?_),by cases neg <;> exact .bool _⟩
    rcases ho with rfl | rfl
    . simp [binOp,Op.equal,Op.maxDepth,hr 9999]
    . simp [binOp,Op.equal,Op.maxDepth,hr 9999]
theorem zK4 {t:TypeId} {d:TypeDesc} {vs:List Value} {o:Nat} {u:Value} (hd:P.underlying t=some d) (ha:zEe d=false) (hu:vs[o]? = some u):(part t ⟨vs⟩ o).run P w=.ok u w:=by
 obtain ⟨ho,rfl⟩:=List.getElem?_eq_some_iff.1 hu
 simp [part,zMa hd,ha,ho]
theorem zK8 {t:TypeId} {e:EqC} {x y:CVal} {X Y:Value} {r:Bool} (he:zPh P t=some e) (hx:VR G x X) (hy:VR G y Y) (h:zO8 e x y=some r) (d:Nat):(Op.equalIn (d+1) t X Y).run P w=.ok r w:=by
 cases e <;> cases x <;> cases y <;> simp only [zO8] at h <;> first | (cases h;done) | skip
 . cases hx;cases hy
   split at h
   . rename_i hk;subst hk;cases h
     unfold zPh at he
     split at he <;> first | (cases he;done) | skip
     rename_i k hk
     exact run_equalIn_int w d t _ k _ _ hk
   . cases h
 . cases hx;cases hy
   cases h
   unfold zPh at he
   split at he <;> first | (cases he;done) | skip
   rename_i hk
   rw [run_equalIn_string w d t _ _ hk,ByteArray.toList_eq,ByteArray.toList_eq]
 . cases hx;cases hy
   cases h
   unfold zPh at he
   split at he <;> first | (cases he;done) | skip
   rename_i hk
   exact run_equalIn_bool' w d t _ _ hk
theorem zMx {cs ds:List CVal} {vs us:List Value} (hx:VRs G cs vs) (hy:VRs G ds us) (d:Nat):∀ (fs:List Field) (l:List (EqC × Nat)) (r:Bool),zHs P fs=some l->zJ3 cs ds l=some r->(Op.eqFields (d+1) ⟨vs⟩ ⟨us⟩ fs).run P w=.ok r w:=by
 intro fs
 induction fs with
 | nil=>intro l r h1 h2;cases h1;cases h2;rfl
 | cons f fs ih =>
  intro l r h1 h2
  unfold zHs at h1
  unfold Op.eqFields
  by_cases hn : f.name ≠ "_"
  . rw [if_pos hn] at h1 ⊢
    split at h1
    . rename_i e l' he hl
      cases h1
      unfold zJ3 at h2
      split at h2
      . rename_i x y hxo hyo
        have hlx:f.offset<vs.length:=by rw [<- hx.1];exact (List.getElem?_eq_some_iff.1 hxo).1
        have hly:f.offset<us.length:=by rw [<- hy.1];exact (List.getElem?_eq_some_iff.1 hyo).1
        have hX:=List.getElem?_eq_getElem hlx
        have hY:=List.getElem?_eq_getElem hly
        have hvx:=hx.2 _ _ _ hxo hX
        have hvy:=hy.2 _ _ _ hyo hY
        have hd:∃ d,P.underlying f.type=some d/\zEe d=false:=by
         unfold zPh at he
         split at he <;> first | (cases he;done) | skip
         . rename_i h;exact ⟨_,h,rfl⟩
         . rename_i h;exact ⟨_,h,rfl⟩
         . rename_i h;exact ⟨_,h,rfl⟩
        obtain ⟨dd,hd1,hd2⟩:=hd
        rw [Sem.run_bind,zK4 hd1 hd2 hX,Result.andThen_ok,Sem.run_bind,zK4 hd1 hd2 hY,Result.andThen_ok,Sem.run_bind]
        split at h2
        . rename_i hc
          rw [zK8 he hvx hvy hc d,Result.andThen_ok]
          simp only [Bool.not_true,Bool.false_eq_true,if_false]
          exact ih _ _ hl h2
        . rename_i hc
          cases h2
          rw [zK8 he hvx hvy hc d,Result.andThen_ok]
          simp
        . cases h2
      . cases h2
    . cases h1
  . rw [if_neg hn] at h1 ⊢
    exact ih _ _ h1 h2
theorem zb8 {neg:Bool} {l:List (EqC × Nat)} {t:TypeId} {fs:Array Field} {x y v:CVal} {X Y:Value} (ht:P.underlying t=some (.struct fs)) (hl:zHs P fs.toList=some l) (hs:P.stoodInHeld t=false) (hg:P.eqGuardType P.depth t=false) (hx:VR G x X) (hy:VR G y Y)
    (hv:extL h (.aeq neg l) [x,y]=some v) {A B:Operand} {op:BinOp} (hop:op=if neg then .neq else .eql):∃ u,(do eqGuard op t A B X Y;binOp op t X Y:Sem Value).run P w=.ok u w/\VR G v u:=by
 cases x <;> cases y <;> simp only [extL] at hv <;> first | (cases hv;done) | skip
 split at hv
 . rename_i b hb
   cases hv
   cases hx with
   | agg hlx hfx hx =>
    rename_i cs vs
    cases hy with
    | agg hly hfy hy =>
     rename_i ds us
     have hfo:P.fieldsOf t=fs:=by unfold Program.fieldsOf;rw [ht]
     have he:(Op.equalIn 10000 t (.agg ⟨vs⟩) (.agg ⟨us⟩)).run P w=.ok b w:=by
      rw [run_equalIn_agg w 9999 t _ _ (by rw [hfo];exact ht) hs,hfo]
      exact zMx ⟨hlx,hx⟩ ⟨hly,hy⟩ 9998 _ _ _ hl hb
     refine ⟨.bool (if neg then !b else b),?_,.bool _⟩
     rw [Sem.run_bind,run_eqGuard_agg w op t A B _ _ hg,Result.andThen_ok]
     subst hop
     cases neg
     . show (binOp .eql t _ _).run P w=_;rw [run_eql_struct,he];rfl
     . show (binOp .neq t _ _).run P w=_;rw [run_neq_struct,he];rfl
 . cases hv
theorem zNx {ab i:Nat} {es:Array MapEntry} {ck:Nat} (h:w.heap[ab]? = some (Obj.map es ck)):w.cell? ⟨ab,i,none⟩=none:=by simp [World.cell?,h]
theorem zLx {ab:Nat} {es:Array MapEntry} {ck:Nat} (h:w.heap[ab]? = some (Obj.map es ck)):w.shape? ab=none:=by simp [World.shape?,h]
theorem zKh {ab i:Nat} {es:Array MapEntry} {ck:Nat} (h:w.heap[ab]? = some (Obj.map es ck)):w.frozen? ⟨ab,i,none⟩=false:=by simp [World.frozen?,h]
def zDj (w:World) (ab:Nat) (es:Array MapEntry) (ck:Nat):World:={ w with heap:=w.heap.setIfInBounds ab (.map es ck) }
section
variable {ab ck ck':Nat} {es es':Array MapEntry}
theorem zFj (h:w.heap[ab]? = some (Obj.map es ck)):(zDj w ab es' ck').heap[ab]? = some (Obj.map es' ck'):=(MapKept.heap_set h).1
theorem zC7 (h:w.heap[ab]? = some (Obj.map es ck)) {a:Nat} (hne:a≠ab):(zDj w ab es' ck').heap[a]? = w.heap[a]?:=(MapKept.heap_set h).2 a hne
theorem zF1:(zDj w ab es' ck').heap.size=w.heap.size:=by simp [zDj]
theorem zJk (h:w.heap[ab]? = some (Obj.map es ck)) (a i:Nat):(zDj w ab es' ck').cell? ⟨a,i,none⟩=w.cell? ⟨a,i,none⟩:=by
 by_cases he:a=ab
 . subst he;rw [zNx h,zNx (zFj h)]
 . unfold World.cell?;rw [zC7 h he]
theorem zI4 (h:w.heap[ab]? = some (Obj.map es ck)) (a:Nat):(zDj w ab es' ck').shape? a=w.shape? a:=by
 by_cases he:a=ab
 . subst he;rw [zLx h,zLx (zFj h)]
 . unfold World.shape?;rw [zC7 h he]
theorem zH2 (h:w.heap[ab]? = some (Obj.map es ck)) (a i:Nat):(zDj w ab es' ck').frozen? ⟨a,i,none⟩=w.frozen? ⟨a,i,none⟩:=by
 by_cases he:a=ab
 . subst he;rw [zKh h,zKh (zFj h)]
 . unfold World.frozen?;rw [zC7 h he]
theorem zOv {own:Nat->Nat->Option Own} {b:Nat} (ho:own ab 0=some (.m b)) (h:w.heap[ab]? = some (Obj.map es ck)):Chg (.m b) own own w (zDj w ab es' ck') where
 live a i hl:=by obtain ⟨⟨v,hv⟩,hf⟩:=hl;exact ⟨⟨v,by rw [zJk h];exact hv⟩,by rw [zH2 h];exact hf⟩
 cell a i v _ hv:=by rw [zJk h];exact hv
 own _ _ _ _:=rfl
 ownm _ _ _ h:=h
 size:=by rw [zF1];exact Nat.le_refl _
 mark a hc:=⟨by rw [zF1];exact hc.1,fun st T n hs=>by rw [zH2 h];exact hc.2 st T n (by rw [zI4 h] at hs;exact hs)⟩
 shp a x hs:=by rw [zI4 h];exact hs
 obj a es2 ck2 hne he:=by
  have:a≠ab:=fun e=>hne (by rw [e];exact ho)
  rw [zC7 h this];exact he
 objs a es2 ck2 he:=by
  by_cases e:a=ab
  . subst e;exact ⟨_,_,zFj h⟩
  . exact ⟨es2,ck2,by rw [zC7 h e];exact he⟩
 rowb a T hr:=by
  obtain ⟨c,lo,hi,he,h1,h2⟩:=hr
  have hne:a≠ab:=fun e=>by rw [e,h] at he;cases he
  exact ⟨c,lo,hi,by rw [zC7 h hne];exact he,h1,h2⟩
 sole _ _ _ _ h:=h
theorem zEt (I:Inv base G h w) {b:Nat} {kvs kvs':List (Nat × CVal × CVal)} (hmu:G.mu b=some (ab,0)) (hg:h.get b=some (.map ck kvs)) (hh:w.heap[ab]? = some (Obj.map es ck)) (hr:zCi G kvs' es'.toList) :
    Post base (· = id) G h w G (h.set b (.map ck' kvs')) (zDj w ab es' ck'):=by
 obtain ⟨own,I⟩:=I
 obtain ⟨hbn,hab,_,hbk⟩:=I.mus b ab 0 hmu
 have ho:=(hbk.1 rfl).1
 refine ⟨.refl G,⟨own,I.step (x:=.m b) (.refl G) (zOv ho hh) (Nat.le_refl _) (fun _ _ _ h=>.inl h) (fun _ _ _ h=>.inl h) (fun _ _ _ h=>.inl h) (fun _ _ _ h=>.inl h) ?_ ?_ (zCv h b _ I.nod) (fun _ _ h=>.inl ⟨h,fun _ _ h=>h⟩)⟩,
  ⟨rfl,rfl,rfl,by rw [zF1];exact Nat.le_refl _,fun k hk=>zC7 hh (by omega)⟩,Nat.le_refl _,fun i _ _ hf=>?_⟩
 . intro b' q hq
   by_cases hbb:b'=b
   . subst hbb
     rw [zBm hg] at hq
     cases hq
     refine .inr ⟨hbn,fun ab' hm'=>?_⟩
     rw [hmu] at hm'
     cases hm'
     exact ⟨es',zFj hh,hr⟩
   . rw [get_set_other hbb] at hq
     exact .inl ⟨hq,⟨rfl,fun _=>rfl,fun _=>rfl⟩,by simp;exact fun e=>hbb e.symm,by simp,by simp⟩
 . intro a i y hy;rw [zF1];exact I.old a i y hy
 . obtain ⟨h1,h2,h3,h4⟩:=hf
   exact ⟨h1,h2,h3,by rw [get_set_other (fun e=>by rw [e,hg] at h4;cases h4)];exact h4⟩
end
theorem zMs (I:Inv base G h w) (hf:zCw G h id) (hid:id<h.next):Post base (· = id) G h w (G.withMu id w.heap.size 0) (h.put id (.map 0 [])) (w.alloc (.map #[] 0)):=by
 obtain ⟨own,I⟩:=I
 have hle:G.le (G.withMu id w.heap.size 0):=zMl hf.1
 have same:∀ b,b≠id->G.Same (G.withMu id w.heap.size 0) b:=fun b hb=>⟨by show (if b=id then _ else _)=_;rw [if_neg hb],fun _=>rfl,fun _=>rfl⟩
 refine ⟨hle,⟨_,I.step (own':=fun a i=>if a=w.heap.size then (if i=0 then some (.m id) else none) else own a i) (x:=.r id) hle (zJv I _ (fun i=>if i=0 then some (.m id) else none) _) (Nat.le_refl _)
  (fun ab o c hf=>.inl hf) ?_ (fun b v y hy=>.inl hy) (fun b v y hy=>.inl hy) ?_ ?_ ?_ (fun _ _ h=>.inl ⟨h,fun _ _ h=>h⟩)⟩,(Below.refl _ _).alloc I.top _,Nat.le_refl _,fun i hi hne hfr=>?_⟩
 . intro b ab k hm
   by_cases hb:b=id
   . subst hb
     have hm:(if b=b then some (w.heap.size,0) else G.mu b)=some (ab,k):=hm
     rw [if_pos rfl] at hm
     cases hm
     exact .inr ⟨hid,I.top,fun i hi=>absurd hi (by simp [szOf]),fun _=>⟨by simp,#[],0,zFx _⟩,fun hk=>absurd rfl hk⟩
   . have hm:(if b=id then some (w.heap.size,0) else G.mu b)=some (ab,k):=hm
     rw [if_neg hb] at hm
     exact .inl hm
 . intro b o hb
   rw [zDt] at hb
   split at hb
   . rename_i e
     subst e
     cases hb
     refine .inr ⟨hid,fun ab hm=>?_⟩
     have hm:(if id=id then some (w.heap.size,0) else G.mu id)=some (ab,0):=hm
     rw [if_pos rfl] at hm
     cases hm
     exact ⟨#[],zFx _,rfl,fun i x e hx=>by simp at hx⟩
   . rename_i hne
     have hne':b≠id:=fun e=>hne e.symm
     exact .inl ⟨hb,same b hne',by simp,by simp;exact fun e=>hne e,by simp⟩
 . intro ab o y ho
   show ab<(w.heap.push _).size
   rw [Array.size_push]
   have ho:(if ab=w.heap.size then (if o=0 then some (Own.m id) else none) else own ab o)=some y:=ho
   split at ho
   . omega
   . have:=I.old _ _ _ ho;omega
 . show (List.map (·.1) ((id,CObj.map 0 [])::h.ents)).Nodup
   rw [List.map_cons,List.nodup_cons]
   exact ⟨fun hm=>zFs hm hf.2.2.2,I.nod⟩
 . obtain ⟨h1,h2,h3,h4⟩:=hfr
   exact ⟨by rw [(same i hne).1];exact h1,h2,h3,by rw [zDt,if_neg (fun e=>hne e.symm)];exact h4⟩
theorem zLy:∀ (l:List (Nat × CVal × CVal)) (j:Nat) (y:Nat × CVal × CVal) (i:Nat),(zHw l j y)[i]? = if i=j/\i<l.length then some y else l[i]?
 | [],j,y,i=>by simp [zHw]
 | x::r,0,y,i=>by cases i <;> simp [zHw]
 | x::r,j+1,y,i=>by
  cases i with
  | zero=>simp [zHw]
  | succ i=>simp only [zHw,List.getElem?_cons_succ,zLy r j y i,List.length_cons,Nat.add_lt_add_iff_right,Nat.add_right_cancel_iff]
theorem zI8:∀ (l:List (Nat × CVal × CVal)) (j:Nat) (y:Nat × CVal × CVal),(zHw l j y).length=l.length
 | [],_,_=>rfl
 | _::_,0,_=>rfl
 | x::r,j+1,y=>by simp [zHw,zI8 r j y]
theorem zCi.modify {kvs:List (Nat × CVal × CVal)} {es:Array MapEntry} (hr:zCi G kvs es.toList) {j:Nat} {y:Nat × CVal × CVal} {f:MapEntry->MapEntry} (hn:∀ e,es[j]? = some e->y.1=(f e).born/\VR G y.2.1 (f e).key/\VR G y.2.2 (f e).val) :
    zCi G (zHw kvs j y) (es.modify j f).toList:=by
 refine ⟨by rw [zI8,hr.1];simp,fun i x e hx he=>?_⟩
 rw [Array.getElem?_toList,Array.getElem?_modify] at he
 rw [zLy] at hx
 by_cases hij:j=i
 . subst hij
   rw [if_pos rfl] at he
   obtain ⟨e0,h0,rfl⟩:=Option.map_eq_some_iff.1 he
   have hlt:j<kvs.length:=by rw [hr.1,Array.length_toList];exact (Array.getElem?_eq_some_iff.1 h0).1
   rw [if_pos ⟨rfl,hlt⟩] at hx
   cases hx
   exact hn e0 h0
 . rw [if_neg hij] at he
   rw [if_neg (fun h=>hij h.1.symm)] at hx
   exact hr.2 i x e hx (by rw [Array.getElem?_toList];exact he)
theorem zCi.push {kvs:List (Nat × CVal × CVal)} {es:Array MapEntry} (hr:zCi G kvs es.toList) {x:Nat × CVal × CVal} {e:MapEntry} (hn:x.1=e.born/\VR G x.2.1 e.key/\VR G x.2.2 e.val):zCi G (kvs++[x]) (es.push e).toList:=by
 refine ⟨by simp [hr.1],fun i y f hy hf=>?_⟩
 rw [Array.toList_push] at hf
 by_cases hi:i<kvs.length
 . rw [List.getElem?_append_left hi] at hy
   rw [List.getElem?_append_left (hr.1 ▸ hi)] at hf
   exact hr.2 i y f hy hf
 . have hl:=(List.getElem?_eq_some_iff.1 hy).1
   have:i=kvs.length:=by simp at hl;omega
   subst this
   rw [List.getElem?_append_right (Nat.le_refl _)] at hy
   rw [List.getElem?_append_right (by rw [hr.1];exact Nat.le_refl _),<- hr.1] at hf
   simp at hy hf
   subst hy;subst hf
   exact hn
theorem zCi.erase {kvs:List (Nat × CVal × CVal)} {es:Array MapEntry} (hr:zCi G kvs es.toList) (j:Nat):zCi G (kvs.eraseIdx j) (es.eraseIdxIfInBounds j).toList:=by
 have e:(es.eraseIdxIfInBounds j).toList=es.toList.eraseIdx j:=by
  unfold Array.eraseIdxIfInBounds
  split
  . simp
  . rw [List.eraseIdx_of_length_le (by simp;omega)]
 rw [e]
 refine ⟨by rw [List.length_eraseIdx,List.length_eraseIdx,hr.1],fun i x f hx hf=>?_⟩
 rw [List.getElem?_eraseIdx] at hx hf
 split at hx
 . rename_i h;rw [if_pos h] at hf;exact hr.2 _ _ _ hx hf
 . rename_i h;rw [if_neg h] at hf;exact hr.2 _ _ _ hx hf
theorem zQl {d:TypeDesc} {K:Value} (h:MapKept.IsKey d K):Instr.sameBits 10000 K K=true:=by
 cases d <;> cases K <;> simp_all [MapKept.IsKey,Instr.sameBits]
 all_goals exact (MapKept.bytes_beq _ _).2 rfl
theorem zLl {d:TypeDesc} {K:Value} (h:MapKept.IsKey d K):(Instr.keyThatStays K K).run P w=.ok K w:=by
 simp [Instr.keyThatStays,zQl h]
theorem zDa {ab ck ck':Nat} {es es':Array MapEntry} (h:w.heap[ab]? = some (Obj.map es ck)):(setObj ab (.map es' ck')).run P w=.ok () (zDj w ab es' ck'):=MapKept.run_setObj_map _ h
theorem zOn {st:Int}:∀ (kvs:List (Nat × CVal × CVal)) (es:List MapEntry) (j:Nat),zCi G kvs es->zH6 st kvs=some j->es.findIdx? (fun e=>(e.born:Int) == st)=some j/\kvs[j]? = some (zGn kvs j)
 | [],_,_,_,h=>by simp [zH6] at h
 | x::kvs,es,j,hm,hf=>by
  match es,hm with
  | [],hm=>have:=hm.1;simp at this
  | e::es,hm =>
   obtain ⟨⟨hb,_,_⟩,hm'⟩:=hm.cons
   obtain ⟨b,k,v⟩:=x
   simp only at hb
   subst hb
   simp only [zH6] at hf
   split at hf
   . rename_i h1
     cases hf
     exact ⟨by rw [List.findIdx?_cons];simp only [h1,if_true],rfl⟩
   . rename_i h1
     obtain ⟨j',hj',rfl⟩:=Option.map_eq_some_iff.1 hf
     obtain ⟨h2,h3⟩:=zOn kvs es j' hm' hj'
     refine ⟨?_,by simpa [zGn] using h3⟩
     rw [List.findIdx?_cons,h2]
     simp only [h1];rfl
theorem zUc {kk:KeyK} {t kt et:TypeId} {m k v c:CVal} {M K V:Value} {h':CHeap} (I:Inv base G h w) (ht:P.underlying t=some (.map kt et)) (hkk:zDm P kt=some kk) (hm:VR G m M) (hk:VR G k K) (hv:VR G v V)
    (hx:extE h id (.mset kk) [m,k,v]=some (c,h')):OutE P base G h id c h' (do Instr.mapUpdate t M K V;pure .skip) w:=by
 cases m <;> simp only [extE] at hx <;> first | (cases hx;done) | skip
 rename_i b
 split at hx
 . rename_i ck kvs hg
   split at hx
   . rename_i hki
     obtain ⟨ab,es,rfl,hmu,hheap,hrel⟩:=zHm I hm hg
     have hgo:=MapKept.run_getObj_map (P:=P) hheap
     have hck:∀ e,(Instr.checkKey e 10000 kt K).run P w=.ok () w:=fun e=>MapKept.run_checkKey (zCq hkk) (zK0 hki hk) e 9999
     split at hx
     . rename_i j hf
       obtain ⟨e,he,hek,hkv,hfn⟩:=zEa (P:=P) (w:=w) hkk hki hk hrel hf
       cases hx
       rw [Array.getElem?_toList] at he
       have hst:=zLl (P:=P) (w:=w) (zK0 hki hk)
       refine .inr ⟨zDj w ab (es.modify j fun e=>{ e with key:=K,val:=V }) ck,?_,G,.undef _,zEt I hmu hg hheap (hrel.modify fun e' he'=>?_)⟩
       . simp [Instr.mapUpdate,zB5 ht,hgo,hck,hfn,Result.andThen,he,hek,hst,zDa hheap]
       . rw [he] at he';cases he'
         exact ⟨(hrel.2 j _ e hkv (by rw [Array.getElem?_toList];exact he)).1,hk,hv⟩
     . rename_i hf
       have hfn:=zEa (P:=P) (w:=w) hkk hki hk hrel hf
       cases hx
       refine .inr ⟨zDj w ab (es.push { key:=K,val:=V,born:=ck }) (ck+1),?_,G,.undef _,zEt I hmu hg hheap (hrel.push ⟨rfl,hk,hv⟩)⟩
       simp [Instr.mapUpdate,zB5 ht,hgo,hck,hfn,Result.andThen,zDa hheap]
     . cases hx
   . cases hx
 . cases hx
theorem zSq {kk:KeyK} {t kt et:TypeId} {m k z c:CVal} {M K:Value} {h':CHeap} (I:Inv base G h w) (ht:P.underlying t=some (.map kt et)) (hkk:zDm P kt=some kk) (hz:zeroOf P et=some z) (hm:VR G m M) (hk:VR G k K)
    (hx:extE h id (.mentry kk z) [m,k]=some (c,h')):OutE P base G h id c h' (do pure (.value (<- Instr.mapEntry t M K))) w:=by
 obtain ⟨Z,hZ,hzv⟩:=zK7 hz G w
 cases m <;> simp only [extE] at hx <;> first | (cases hx;done) | skip
 rename_i b
 split at hx
 . rename_i ck kvs hg
   split at hx
   . rename_i hki
     obtain ⟨ab,es,rfl,hmu,hheap,hrel⟩:=zHm I hm hg
     have hgo:=MapKept.run_getObj_map (P:=P) hheap
     have hck:∀ e,(Instr.checkKey e 10000 kt K).run P w=.ok () w:=fun e=>MapKept.run_checkKey (zCq hkk) (zK0 hki hk) e 9999
     split at hx
     . rename_i j hf
       obtain ⟨e,he,hek,hkv,hfn⟩:=zEa (P:=P) (w:=w) hkk hki hk hrel hf
       cases hx
       have hr:=hrel.2 j _ e hkv he
       rw [Array.getElem?_toList] at he
       have hst:=zLl (P:=P) (w:=w) (zK0 hki hk)
       refine .inl ⟨.tuple #[e.val,goInt e.born],zDj w ab (es.modify j fun e=>{ e with key:=K }) ck,?_,G,.tup rfl (VRs.cons hr.2.2 (VRs.cons (by rw [hr.1];exact .int _ _) (VRs.nil G))).2,zEt I hmu hg hheap (hrel.modify fun e' he'=>?_)⟩
       . simp [Instr.mapEntry,zB5 ht,hgo,hck,hfn,Result.andThen,he,hek,hst,zDa hheap]
       . rw [he] at he';cases he'
         exact ⟨hr.1,hk,hr.2.2⟩
     . rename_i hf
       have hfn:=zEa (P:=P) (w:=w) hkk hki hk hrel hf
       cases hx
       refine .inl ⟨.tuple #[Z,goInt ck],zDj w ab (es.push { key:=K,val:=Z,born:=ck }) (ck+1),?_,G,.tup rfl (VRs.cons hzv (VRs.cons (.int _ _) (VRs.nil G))).2,zEt I hmu hg hheap (hrel.push ⟨rfl,hk,hzv⟩)⟩
       simp [Instr.mapEntry,zB5 ht,hgo,hck,hfn,hZ,Result.andThen,zDa hheap]
     . cases hx
   . cases hx
 . cases hx
theorem zQd {t:TypeId} {m s v c:CVal} {M S V:Value} {h':CHeap} (I:Inv base G h w) (hm:VR G m M) (hs:VR G s S) (hv:VR G v V)
    (hx:extE h id .mestore [m,s,v]=some (c,h')):OutE P base G h id c h' (do Instr.entryStore t M S V;pure .skip) w:=by
 cases m <;> cases s <;> simp only [extE] at hx <;> first | (cases hx;done) | skip
 rename_i b kd st
 split at hx
 . rename_i ck kvs hg
   obtain ⟨ab,es,rfl,hmu,hheap,hrel⟩:=zHm I hm hg
   have hgo:=MapKept.run_getObj_map (P:=P) hheap
   have:=zOi (c:=.nilp) hs
   subst this
   split at hx
   . rename_i j hf
     obtain ⟨h1,hkv⟩:=zOn kvs es.toList j hrel hf
     have h2:es.findIdx? (fun e=>(e.born:Int) == st)=some j:=by rw [<- h1];obtain ⟨l⟩:=es;simp
     cases hx
     refine .inr ⟨zDj w ab (es.modify j fun e=>{ e with val:=V }) ck,?_,G,.undef _,zEt I hmu hg hheap (hrel.modify fun e he=>?_)⟩
     . simp [Instr.entryStore,hgo,Result.andThen,asInt,asIntOf,h2,zDa hheap]
     . have hr:=hrel.2 j _ e hkv (by rw [Array.getElem?_toList];exact he)
       exact ⟨hr.1,hr.2.1,hv⟩
   . cases hx
 . cases hx
theorem zZv {kk:KeyK} {t u kt et ty:TypeId} {m k c:CVal} {M K:Value} {h':CHeap} (I:Inv base G h w) (ht:P.underlying t=some (.map kt et)) (hkk:zDm P kt=some kk) (hm:VR G m M) (hk:VR G k K)
    (hx:extE h id (.mdel kk) [m,k]=some (c,h')):OutE P base G h id c h' (do pure (.value (<- Builtin.delete_ #[t,u] ty #[M,K]))) w:=by
 cases m <;> simp only [extE] at hx <;> first | (cases hx;done) | skip
 rename_i b
 split at hx
 . rename_i ck kvs hg
   split at hx
   . rename_i hki
     obtain ⟨ab,es,rfl,hmu,hheap,hrel⟩:=zHm I hm hg
     have hgo:=MapKept.run_getObj_map (P:=P) hheap
     have hck:∀ e,(Instr.checkKey e 10000 kt K).run P w=.ok () w:=fun e=>MapKept.run_checkKey (zCq hkk) (zK0 hki hk) e 9999
     split at hx
     . rename_i j hf
       obtain ⟨e,he,hek,hkv,hfn⟩:=zEa (P:=P) (w:=w) hkk hki hk hrel hf
       cases hx
       refine .inl ⟨.tuple #[],zDj w ab (es.eraseIdxIfInBounds j) ck,?_,G,.tup rfl (VRs.nil G).2,zEt I hmu hg hheap (hrel.erase j)⟩
       simp [Builtin.delete_,zB5 ht,hgo,hck,hfn,Result.andThen,zDa hheap]
     . rename_i hf
       have hfn:=zEa (P:=P) (w:=w) hkk hki hk hrel hf
       cases hx
       refine .inl ⟨.tuple #[],zDj w ab es ck,?_,G,.tup rfl (VRs.nil G).2,zEt I hmu hg hheap hrel⟩
       simp [Builtin.delete_,zB5 ht,hgo,hck,hfn,Result.andThen,zDa hheap]
     . cases hx
   . cases hx
 . cases hx
theorem zP0 (I:Inv base G h w) (hfr:zCw G h id) (hid:id<h.next) {ab ao k cap:Nat} (hcl:Clean w ab):Post base (· = id) G h w (G.withRw id 0 (ab,ao,k,cap)) h w:=by
 have hle:G.le (G.withRw id 0 (ab,ao,k,cap)):=zJb (hfr.2.1 0)
 obtain ⟨own,I⟩:=I
 have hty:=I.ty_fresh hfr
 have hh:∀ a i x,Holds G w a i x->Holds (G.withRw id 0 (ab,ao,k,cap)) w a i x:=fun a i x hx=>hx.mono hle fun _ h=>h
 refine ⟨hle,⟨own,?_⟩,.refl _ _,Nat.le_refl _,fun i hi he hf=>⟨hf.1,fun v=>by rw [zAw he];exact hf.2.1 v,hf.2.2.1,hf.2.2.2⟩⟩
 exact {
  fzs:=fun a o c hf=>⟨(I.fzs a o c hf).1,hh _ _ _ (I.fzs a o c hf).2⟩
  mus:=I.mus
  rws:=fun b v x hx=>by
   by_cases hb:b=id
   . subst hb;exact hid
   . rw [zAw hb] at hx;exact I.rws b v x hx
  tks:=I.tks
  ents:=fun b o ho=>by
   have hb:b≠id:=fun e=>by subst e;rw [hfr.2.2.2] at ho;cases ho
   obtain ⟨h1,h2⟩:=I.ents b o ho
   refine ⟨h1,?_⟩
   cases o with
   | cells cs=>exact fun a k hm=>⟨(h2 a k hm).1,fun i c hi=>⟨((h2 a k hm).2 i c hi).1,hh _ _ _ ((h2 a k hm).2 i c hi).2⟩⟩
   | row ver es=>exact ⟨fun v x hx=>h2.1 v x (by rw [<- zAw hb];exact hx),fun a o k c hr=>let ⟨x1,x2,x3,x4⟩:=h2.2 a o k c (by rw [<- zAw hb];exact hr);⟨x1,x2,x3,fun i e hie=>⟨(x4 i e hie).1,fun j c hj=>⟨((x4 i e hie).2 j c hj).1,hh _ _ _ ((x4 i e hie).2 j c hj).2⟩⟩⟩⟩
   | frow ver es=>exact ⟨fun v x hx=>h2.1 v x (by rw [<- zAw hb];exact hx),fun a o k c hr=>let ⟨x1,x2,x3,x4⟩:=h2.2 a o k c (by rw [<- zAw hb];exact hr);⟨x1,x2,x3,fun i e hie=>⟨(x4 i e hie).1,fun j c hj=>⟨((x4 i e hie).2 j c hj).1,hh _ _ _ ((x4 i e hie).2 j c hj).2⟩⟩⟩⟩
   | tok ver=>exact h2
   | map ck kvs=>exact fun a hm=>let ⟨es,h3,h4⟩:=h2 a hm;⟨es,h3,h4.mono hle⟩
  old:=I.old
  top:=I.top
  nod:=I.nod
  cln:=fun b v x hx=>by
   by_cases hb:b=id
   . subst hb
     by_cases hv:v=0
     . subst hv;rw [zBi] at hx;cases hx;exact hcl
     . exfalso
       have:(G.withRw b 0 (ab,ao,k,cap)).rw b v=G.rw b v:=by show (if b=b/\v=0 then _ else _)=_;rw [if_neg (fun e=>hv e.2)]
       rw [this,hfr.2.1 v] at hx;cases hx
   . rw [zAw hb] at hx;exact I.cln b v x hx
  gls:=I.gls
  tyk:=fun b T ht=>by
   have hb:b≠id:=fun e=>by subst e;rw [hty] at ht;cases ht
   obtain ⟨v,hv⟩:=I.tyk b T ht
   exact ⟨v,by rw [zAw hb];exact hv⟩
  tys:=fun b T ht v x hx=>by
   have hb:b≠id:=fun e=>by subst e;rw [hty] at ht;cases ht
   rw [zAw hb] at hx
   exact I.tys b T ht v x hx }
theorem zKg {g:ElemInfo} {i:TypeInfo} {e:TypeId} {d:TypeDesc} {z:Value} (ok:InfoOk P e g i d z) (G:Gh) (n:Nat):VRs G (zAp (List.replicate n (zBk g.agg g.zero))) (Builtin.zeroCells z.cells n).toList:=by
 have:=zH7 ok G n
 rw [<- ok.zsize] at this
 exact this
theorem zG5 {g:ElemInfo} {i:TypeInfo} {e:TypeId} {d:TypeDesc} {z:Value} (ok:InfoOk P e g i d z) (n:Nat):AllK g.size (List.replicate n (zBk g.agg g.zero))/\zBt (List.replicate n (zBk g.agg g.zero)) :=
 ⟨fun e he=>by rw [(List.mem_replicate.1 he).2,zBl ok,ok.len],fun e he=>by rw [(List.mem_replicate.1 he).2,zBl ok];exact ok.flat⟩
theorem zWs {t e ty:TypeId} {g:ElemInfo} {x v:CVal} {X:Value} {h':CHeap} (I:Inv base G h w) (ht:P.underlying t=some (.slice e)) (hg:zAt P e=some g) (hx:VR G x X)
    (hv:extE h id (.clear g.agg g.zero) [x]=some (v,h')):OutE P base G h id v h' (do pure (.value (<- Builtin.clear_ #[t] ty #[X]))) w:=by
 obtain ⟨i,d',z,ok⟩:=zAz hg
 cases x <;> simp only [extE] at hv <;> first | (cases hv;done) | skip
 . cases hv
   cases hx
   refine .inl ⟨.tuple #[],w,?_,G,.tup rfl (VRs.nil G).2,.refl I⟩
   simp [Builtin.clear_,zB5 ht]
 . rename_i b ver l off len
   split at hv
   . rename_i v' es hgb
     split at hv
     . rename_i hc
       simp only [Bool.and_eq_true,decide_eq_true_eq,beq_iff_eq] at hc
       obtain ⟨hk,rfl,hle⟩:=hc
       rw [ok.len] at hk
       subst hk
       cases hv
       cases hx with
       | ref hw hkl hll hs ha =>
        rename_i ab ao cap a
        have I':=I
        obtain ⟨own,Io⟩:=I
        obtain ⟨hbn,hvmax,hrow⟩:=Io.ents b _ hgb
        obtain ⟨hab,hcapl,hown,hel2⟩:=hrow _ _ _ _ hw
        have hz:=zKg ok G len
        have hp:=zEr (id:=id) (o:=off) I' (zG5 ok len).1 (zG5 ok len).2 hgb hw (by rw [List.length_replicate];omega) hz
        have hnl:(Builtin.zeroCells z.cells len).toList.length=len * g.size:=by rw [Array.length_toList,size_zeroCells,ok.zsize]
        have hone:=zEk hz (zEp (zG5 ok len).2)
        cases len with
        | zero =>
         have hne:(Builtin.zeroCells z.cells 0).toList=[]:=List.eq_nil_of_length_eq_zero (by rw [hnl,Nat.zero_mul])
         rw [hne,setCells_nil] at hp
         refine .inl ⟨.tuple #[],w,?_,G,.tup rfl (VRs.nil G).2,hp⟩
         simp [Builtin.clear_,zB5 ht]
        | succ m =>
         have ha2:=ha.resolve_left (by omega)
         subst ha2
         refine .inl ⟨.tuple #[],_,?_,G,.tup rfl (VRs.nil G).2,hp⟩
         have hst:=run_storeCells_cells (P:=P) ab (ao+off * g.size) (Builtin.zeroCells z.cells (m+1)).toList 0 w (fun j hj=>by
             rw [Nat.add_zero]
             have h1:(off+(m+1)) * g.size<=cap * g.size:=Nat.mul_le_mul_right _ (by omega)
             obtain ⟨v,hv⟩:=(hown (off * g.size+j) (by rw [Nat.add_mul] at h1;omega)).2.1
             rw [<- Nat.add_assoc] at hv
             rw [hv];rfl) (fun j hj=>by
             rw [Nat.add_zero]
             have h1:(off+(m+1)) * g.size<=cap * g.size:=Nat.mul_le_mul_right _ (by omega)
             have:=(hown (off * g.size+j) (by rw [Nat.add_mul] at h1;omega)).2.2
             rw [<- Nat.add_assoc] at this
             exact this) hone
         rw [Nat.add_zero] at hst
         simp [Builtin.clear_,zB5 ht,zGa ok.info ok.zero,hst]
     . cases hv
   . cases hv
theorem zZj {t e:TypeId} {g:ElemInfo} {x lo hi mx v:CVal} {X LO HI MX:Value} {h':CHeap} (I:Inv base G h w) (hfr:zCw G h id) (hid:id<h.next) (ht:P.underlying t=some (.slice e)) (hg:zAt P e=some g) (hx:VR G x X) (hlo:VR G lo LO) (hhi:VR G hi HI) (hmx:VR G mx MX)
    (hv:extE h id (.slc3 g.size) [x,lo,hi,mx]=some (v,h')):OutE P base G h id v h' (do pure (.value (<- Instr.sliceAt t X (some LO) (some HI) (some MX)))) w:=by
 obtain ⟨i,d',z,ok⟩:=zAz hg
 cases x <;> first | (simp only [extE] at hv;cases hv;done) | skip
 rename_i b ver l off len
 cases lo <;> first | (simp only [extE] at hv;cases hv;done) | skip
 rename_i kl lo
 cases hi <;> first | (simp only [extE] at hv;cases hv;done) | skip
 rename_i kh hi
 cases mx <;> first | (simp only [extE] at hv;cases hv;done) | skip
 rename_i km mx
 simp only [extE] at hv
 split at hv
 . rename_i hc
   simp only [Bool.and_eq_true,decide_eq_true_eq,beq_iff_eq] at hc
   obtain ⟨rfl,h0,h1,h2,h3⟩:=hc
   cases hv
   cases hx with
   | ref hw hkl hll hs ha =>
    rename_i ab ao cap a
    have e3:=zDz (P:=P) (w:=w) (d:=0) (lo:=some (.int km mx)) (x:=some MX) (n:=mx.toNat) (y:=cap - off) (code:=.slice3Acap) hmx (by simp [zCx];omega) (by omega)
    have e2:=zDz (P:=P) (w:=w) (d:=0) (lo:=some (.int kh hi)) (x:=some HI) (n:=hi.toNat) (y:=mx.toNat) (code:=.slice3B) hhi (by simp [zCx];omega) (by omega)
    have e1:=zDz (P:=P) (w:=w) (d:=0) (lo:=some (.int kl lo)) (x:=some LO) (n:=lo.toNat) (y:=hi.toNat) (code:=.slice3C) hlo (by simp [zCx];omega) (by omega)
    have hcl:Clean w ab:=by obtain ⟨own,I⟩:=I;exact I.cln b ver _ hw
    have hrun:(Instr.sliceAt t (.slice (some a) len (cap - off)) (some LO) (some HI) (some MX)).run P w=.ok (.slice (if mx.toNat=lo.toNat then some a else (some a).map (·.add (lo.toNat * g.size))) (hi.toNat - lo.toNat) (mx.toNat - lo.toNat)) w:=by
     have hb:(Instr.sliceBounds true len (cap - off) (some LO) (some HI) (some MX)).run P w=.ok (lo.toNat,hi.toNat,mx.toNat) w:=by
      unfold Instr.sliceBounds
      simp at e1 e2 e3
      simp [e1,e2,e3]
     simp [Instr.sliceAt,Instr.slice,zB5 ht,hb,zCe ok.info,ok.size]
    obtain ⟨a',hs',hrun',ha'⟩:∃ a':Addr,a'.spot=none/\(Instr.sliceAt t (.slice (some a) len (cap - off)) (some LO) (some HI) (some MX)).run P w=.ok (.slice (some a') (hi.toNat - lo.toNat) (mx.toNat - lo.toNat)) w/\(mx.toNat - lo.toNat=0\/a'=⟨ab,ao+(off+lo.toNat) * g.size,none⟩):=by
     by_cases he:mx.toNat=lo.toNat
     . rw [if_pos he] at hrun
       exact ⟨a,hs,hrun,.inl (by omega)⟩
     . rw [if_neg he] at hrun
       have ha2:=ha.resolve_left (by omega)
       subst ha2
       refine ⟨_,?_,hrun,.inr ?_⟩
       . show (Addr.add ⟨ab,ao+off * g.size,none⟩ (lo.toNat * g.size)).spot=none
         rw [zE8 rfl]
       . show Addr.add ⟨ab,ao+off * g.size,none⟩ (lo.toNat * g.size)=_
         rw [zE8 rfl]
         simp only [Addr.mk.injEq,true_and,and_true]
         rw [Nat.add_mul];omega
    refine .inl ⟨_,w,by rw [Sem.run_bind,hrun'];rfl,G.withRw id 0 (ab,ao+(off+lo.toNat) * g.size,g.size,mx.toNat - lo.toNat),?_,zP0 I hfr hid hcl⟩
    have hlen:(hi - lo).toNat=hi.toNat - lo.toNat:=by omega
    rw [hlen]
    have:=VR.ref (G:=G.withRw id 0 (ab,ao+(off+lo.toNat) * g.size,g.size,mx.toNat - lo.toNat)) (b:=id) (ver:=0) (off:=0) (len:=hi.toNat - lo.toNat) (a:=a') (zBi _ _ _ _) ok.pos (by omega) hs' (by
     rcases ha' with h | h
     . exact .inl (by omega)
     . exact .inr (by rw [h];simp))
    exact this
 . cases hv
theorem zSy {t u e ty:TypeId} {kd:IntKind} {g:ElemInfo} {T:Nat} {x n v:CVal} {X N:Value} {h':CHeap} (I:Inv base G h w) (hfr:zCw G h id) (hid:id<h.next) (ht:P.underlying t=some (.slice e)) (hu:P.underlying u=some (.int kd)) (hg:zAt P e=some g) (hT:T=0\/T=e+1) (hb:g.bytes<=4096) (hx:VR G x X) (hn:VR G n N)
    (hv:extE h id (.apmake T g.agg g.zero) [x,n]=some (v,h')):OutE P base G h id v h' (do pure (.value (<- Builtin.append_ #[t,u] ty #[X,N]))) w:=by
 obtain ⟨i,d',z,ok⟩:=zAz hg
 cases x <;> first | (simp only [extE] at hv;cases hv;done) | skip
 cases n <;> first | (simp only [extE] at hv;cases hv;done) | skip
 rename_i kn n
 simp only [extE] at hv
 split at hv
 . rename_i hc
   simp only [Bool.and_eq_true,decide_eq_true_eq] at hc
   obtain ⟨h0,hmost⟩:=hc
   cases hv
   cases hx
   cases hn
   have hm:(zB7:Int)=1073741824:=rfl
   have hw64:IntKind.i64.wrap n=n:=by simp [IntKind.wrap,IntKind.bits,IntKind.signed];omega
   have hby:i.bytes<=4096:=by rw [<- ok.bytes];exact hb
   have hcapge:n.toNat<=grownCap w n.toNat 0 e:=grownCap_ge w _ _ _
   have hgc:(Question.appendCap n.toNat 0 e).cut (w.tape w.drawn (.appendCap n.toNat 0 e))=grownCap w n.toNat 0 e:=rfl
   have h5:(Question.appendCap n.toNat 0 e).forced=false:=rfl
   have h1:Builtin.nextslicecap n.toNat 0 * i.bytes<=281474976710656:=growslice_fits (by omega) (by
    have:n.toNat * i.bytes<=1073741824 * 4096:=Nat.mul_le_mul (by omega) hby
    omega)
   have hmul:n * (i.bytes:Int)<=1073741824 * 4096:=Int.mul_le_mul (by omega) (by omega) (by omega) (by omega)
   have hne:n.toNat * i.size≠0:=Nat.mul_ne_zero (by omega) (by have:=ok.pos;rw [ok.size] at this;omega)
   have hrun:(Builtin.append_ #[t,u] ty #[.slice none 0 0,.int kn n]).run P w=.ok (.slice (some ⟨w.heap.size,0,none⟩) n.toNat (grownCap w n.toNat 0 e)) (w.drew.alloc (.cells (Builtin.zeroCells z.cells n.toNat++Builtin.zeroCells z.cells (grownCap w n.toNat 0 e - n.toNat)) e)):=by
    have h2:¬ n<=0:=by omega
    have h4:¬ 281474976710656<Builtin.nextslicecap n.toNat 0 * i.bytes:=by omega
    have h6:¬ n<0:=by omega
    have h7:¬ 281474976710656<n * (i.bytes:Int):=by omega
    have h9:IntKind.i64.max=9223372036854775807:=rfl
    have h8:¬ 9223372036854775807<max n 0:=by omega
    simp [Builtin.append_,zB5 ht,zB5 hu,zCe ok.info,zNv ok.info,zGa ok.info ok.zero,asInt,asIntOf,hw64,h2,h4,h5,h6,h7,h8,h9,hne,hgc,newRow,Builtin.firstCells]
   have hz:=zKg ok G n.toNat
   have hzk:=zG5 (P:=P) ok n.toNat
   refine .inl ⟨_,_,by rw [Sem.run_bind,hrun];rfl,G.withRw id 0 (w.heap.size,0,g.size,grownCap w n.toNat 0 e),by rw [ok.len];exact zFr ok.pos hcapge,Post.drewL (zC9 (lo:=0) (hi:=0) (cap:=grownCap w n.toNat 0 e) I.drew (Nat.le_refl _) hid (zEc hfr).1 hzk.1 hzk.2 (by rw [List.length_replicate];exact hcapge) (by
       rw [Array.size_append,size_zeroCells,size_zeroCells,ok.zsize,<- Nat.add_mul]
       rw [show n.toNat+(grownCap w n.toNat 0 e - n.toNat)=grownCap w n.toNat 0 e by omega]
       exact Nat.le_refl _) (fun j c hc=>by
       have hj:=(List.getElem?_eq_some_iff.1 hc).1
       rw [hz.1,Array.length_toList] at hj
       refine ⟨_,?_,hz.2 j c _ hc (by rw [Array.getElem?_toList];exact Array.getElem?_eq_getElem hj)⟩
       rw [Array.getElem?_append_left hj];exact Array.getElem?_eq_getElem hj) (by rw [zFu];exact zE6 _ _ _) (fun b' hne=>by rw [zFu];exact zDe hne) (zIy _ _ _) (by rw [zIr];obtain ⟨_,I⟩:=I;exact zDd I.nod hfr.2.2.2) ⟨Nat.le_refl _,Nat.zero_le _⟩ (zK1 I.drew hfr hT) zHo)⟩
 . cases hv
theorem zXc {t e:TypeId} {g:ElemInfo} {x lo hi v:CVal} {X LO HI:Value} (I:Inv base G h w) (ht:P.underlying t=some (.slice e)) (hg:zAt P e=some g) (hx:VR G x X) (hlo:VR G lo LO) (hhi:VR G hi HI)
    (hv:extL h (.slcx g.size) [x,lo,hi]=some v):∃ V,(Instr.sliceAt t X (some LO) (some HI) none).run P w=.ok V w/\VR G v V:=by
 obtain ⟨i,d',z,ok⟩:=zAz hg
 cases x <;> first | (simp only [extL] at hv;cases hv;done) | skip
 rename_i b ver l off len
 cases lo <;> first | (simp only [extL] at hv;cases hv;done) | skip
 rename_i kl lo
 cases hi <;> first | (simp only [extL] at hv;cases hv;done) | skip
 rename_i kh hi
 simp only [extL] at hv
 split at hv
 . rename_i v' es hgb
   split at hv
   . rename_i hc
     simp only [Bool.and_eq_true,decide_eq_true_eq] at hc
     obtain ⟨rfl,rfl,h0,h1,h2⟩:=hc
     cases hv
     cases hx with
     | ref hw hkl hll hs ha =>
      rename_i ab ao cap a
      obtain ⟨own,Io⟩:=I
      obtain ⟨hbn,hvmax,hrow⟩:=Io.ents b _ hgb
      obtain ⟨hab,hcapl,hown,hel2⟩:=hrow _ _ _ _ hw
      have e2:=zDz (P:=P) (w:=w) (d:=0) (lo:=some (.int kh hi)) (x:=some HI) (n:=hi.toNat) (y:=cap - off) (code:=.sliceAcap) hhi (by simp [zCx];omega) (by omega)
      have e1:=zDz (P:=P) (w:=w) (d:=0) (lo:=some (.int kl lo)) (x:=some LO) (n:=lo.toNat) (y:=hi.toNat) (code:=.sliceB) hlo (by simp [zCx];omega) (by omega)
      have hrun:(Instr.sliceAt t (.slice (some a) len (cap - off)) (some LO) (some HI) none).run P w=.ok (.slice (if cap - off=lo.toNat then some a else (some a).map (·.add (lo.toNat * g.size))) (hi.toNat - lo.toNat) (cap - off - lo.toNat)) w:=by
       have hb:(Instr.sliceBounds true len (cap - off) (some LO) (some HI) none).run P w=.ok (lo.toNat,hi.toNat,cap - off) w:=by
        unfold Instr.sliceBounds
        simp at e1 e2
        simp [e1,e2]
       simp [Instr.sliceAt,Instr.slice,zB5 ht,hb,zCe ok.info,ok.size]
      have hlen:(hi - lo).toNat=hi.toNat - lo.toNat:=by omega
      rw [hlen]
      by_cases he:cap - off=lo.toNat
      . rw [if_pos he] at hrun
        refine ⟨_,hrun,?_⟩
        have:=VR.ref (off:=off+lo.toNat) (len:=hi.toNat - lo.toNat) (a:=a) hw ok.pos (by omega) hs (.inl (by omega))
        rw [show cap - (off+lo.toNat)=cap - off - lo.toNat from by omega] at this
        exact this
      . rw [if_neg he] at hrun
        have ha2:=ha.resolve_left (by omega)
        subst ha2
        refine ⟨_,hrun,?_⟩
        have:=VR.ref (off:=off+lo.toNat) (len:=hi.toNat - lo.toNat) (a:=⟨ab,ao+(off+lo.toNat) * g.size,none⟩) hw ok.pos (by omega) rfl (.inr rfl)
        rw [show cap - (off+lo.toNat)=cap - off - lo.toNat from by omega,Nat.add_mul,<- Nat.add_assoc] at this
        show VR G _ (.slice (some (Addr.add ⟨ab,ao+off * g.size,none⟩ (lo.toNat * g.size))) _ _)
        rw [zE8 rfl]
        exact this
   . cases hv
 . cases hv
theorem zba {E:Env} {dsts:List (Option Tmp)} {o:Oper} {c:COp} {ev:COpnd->CVal} {ρ:Operand->Value} {v:CVal} (hE:E.P=P) (hc:zGf E dsts o.op=some c) (hcls:c.cls=.l)
    (hr:ORel G E dsts ev ρ) (hv:zFi ev h c=some v) (I:Inv base G h w):∃ u,(execOp ρ o).run P w=.ok (.value u) w/\VR G v u:=by
 subst hE
 obtain ⟨dst,op,type,pos,after,guard⟩:=o
 cases op <;> simp only [zGf] at hc <;> first | (cases hc;done) | skip
 case makeMap t r =>
  cases r with
  | some r=>simp only at hc;cases hc
  | none =>
   simp only at hc
   split at hc
   . cases hc;simp [COp.cls] at hcls
   . cases hc
 case lookup t m k ok =>
  split at hc
  . rename_i kt et xs ht hxs
    split at hc
    . rename_i kk z hkk hz
      cases hc
      obtain ⟨x,y,hxy,h1,h2⟩:=zD8 hr hxs
      simp only [zFi,hxy] at hv
      obtain ⟨u,hu,huv⟩:=zZd I ht hkk hz h1 h2 hv
      exact ⟨u,by simp [execOp,hu],huv⟩
    . cases hc
  . cases hc
 case binOp op t x y z =>
  split at hc
  . rename_i ms xs ht hxs
    have fin:∀ neg,op=(if neg then .neq else .eql)->c=.extl (.ieq neg (E.H.ifts.filterMap (intType E.P))) xs->∃ u,(execOp ρ ⟨dst,.binOp op t x y z,type,pos,after,guard⟩).run E.P w=.ok (.value u) w/\VR G v u:=fun neg hop he=>by
     subst he
     obtain ⟨a,b,hab,h1,h2⟩:=zD8 hr hxs
     simp only [zFi,hab] at hv
     obtain ⟨u,hu,huv⟩:=zc3 ht h1 h2 hv (A:=x) (B:=y) hop
     exact ⟨u,by simp only [execOp];rw [Sem.run_bind,hu];rfl,huv⟩
    cases op <;> simp only at hc <;> first | (cases hc;done) | skip
    . cases hc;exact fin false rfl rfl
    . cases hc;exact fin true rfl rfl
  . rename_i fs xs ht hxs
    split at hc
    . rename_i l hl
      split at hc
      . cases hc
      . rename_i hsg
        simp only [Bool.or_eq_true,not_or,Bool.not_eq_true] at hsg
        have fin:∀ neg,op=(if neg then .neq else .eql)->c=.extl (.aeq neg l) xs->∃ u,(execOp ρ ⟨dst,.binOp op t x y z,type,pos,after,guard⟩).run E.P w=.ok (.value u) w/\VR G v u:=fun neg hop he=>by
         subst he
         obtain ⟨a,b,hab,h1,h2⟩:=zD8 hr hxs
         simp only [zFi,hab] at hv
         obtain ⟨u,hu,huv⟩:=zb8 ht hl hsg.1 hsg.2 h1 h2 hv (A:=x) (B:=y) hop
         exact ⟨u,by simp only [execOp];rw [Sem.run_bind,hu];rfl,huv⟩
        cases op <;> simp only at hc <;> first | (cases hc;done) | skip
        . cases hc;exact fin false rfl rfl
        . cases hc;exact fin true rfl rfl
    . cases hc
  . cases hc
 case call cl =>
  obtain ⟨cal,args,argTypes⟩:=cl
  simp only at hc
  split at hc
  . skip
    split at hc
    . rename_i t x hat har
      split at hc
      . rename_i kt et xs ht hxs
        cases hc
        obtain ⟨y,hy,h1⟩:=zGj hr hxs
        simp only [zFi,hy] at hv
        have ha:args=#[x]:=by obtain ⟨l⟩:=args;simp at har;rw [har]
        have hb:argTypes=#[t]:=by obtain ⟨l⟩:=argTypes;simp at hat;rw [hat]
        subst ha;subst hb
        cases y <;> simp only [extL] at hv <;> first | (cases hv;done) | skip
        . cases hv
          generalize hz:ρ x=z at h1
          cases h1
          exact ⟨.int .i64 0,by simp [execOp,resolve,invoke,builtin,Builtin.len_,zB5 ht,hz,goInt],.int _ _⟩
        . rename_i b
          split at hv
          . rename_i ck kvs hg
            cases hv
            obtain ⟨ab,es,hM,hmu,hheap,hrel⟩:=zHm I h1 hg
            have hgo:=MapKept.run_getObj_map (P:=E.P) hheap
            refine ⟨.int .i64 es.size,by simp [execOp,resolve,invoke,builtin,Builtin.len_,zB5 ht,hM,hgo,goInt,Result.andThen],?_⟩
            have:kvs.length=es.size:=by rw [hrel.1,Array.length_toList]
            rw [this];exact .int _ _
          . cases hv
      . cases hc
    . cases hc
  . skip
    split at hc
    . rename_i t x hat har
      split at hc
      . rename_i et xs ht hxs
        cases hc
        obtain ⟨y,hy,h1⟩:=zGj hr hxs
        simp only [zFi,hy] at hv
        have ha:args=#[x]:=by obtain ⟨l⟩:=args;simp at har;rw [har]
        have hb:argTypes=#[t]:=by obtain ⟨l⟩:=argTypes;simp at hat;rw [hat]
        subst ha;subst hb
        cases y <;> simp only [extL] at hv <;> first | (cases hv;done) | skip
        . cases hv
          generalize hz:ρ x=z at h1
          cases h1
          exact ⟨.int .i64 0,by simp [execOp,resolve,invoke,builtin,Builtin.cap_,zB5 ht,hz,goInt],.int _ _⟩
        . rename_i tg k es
          cases tg <;> simp only at hv <;> first | (cases hv;done) | skip
          cases hv
          generalize hz:ρ x=z at h1
          cases h1 with
          | imm hs hk hcp hf htg =>
           rename_i a cap
           have htg:cap=es.length:=htg
           subst htg
           exact ⟨.int .i64 es.length,by simp [execOp,resolve,invoke,builtin,Builtin.cap_,zB5 ht,hz,goInt],.int _ _⟩
      . cases hc
    . cases hc
  . split at hc
    . split at hc
      . split at hc
        . cases hc;simp [COp.cls] at hcls
        . cases hc
      . cases hc
    . cases hc
  . split at hc
    . split at hc
      . split at hc
        . cases hc;simp [COp.cls] at hcls
        . cases hc
      . cases hc
    . cases hc
  . split at hc
    . split at hc
      . split at hc
        . split at hc
          . cases hc;simp [COp.cls] at hcls
          . cases hc
        . cases hc
      . cases hc
    . cases hc
  . cases hc
 case slice t x lo hi mx =>
  cases lo <;> cases hi <;> cases mx <;> simp only [zGf] at hc <;> first | (cases hc;done) | skip
  . rename_i lo hi
    split at hc
    . rename_i e xs ht hxs
      split at hc
      . rename_i g hg
        cases hc
        obtain ⟨a,b,d,hab,h1,h2,h3⟩:=zF2 hr hxs
        simp only [zFi,hab] at hv
        obtain ⟨V,hV,hR⟩:=zXc I ht hg h1 h2 h3 hv
        exact ⟨V,by simp [execOp,hV],hR⟩
      . cases hc
    . cases hc
  . exfalso
    split at hc
    . split at hc
      . cases hc;simp [COp.cls] at hcls
      . cases hc
    . cases hc
 all_goals
  exfalso
  revert hcls
  repeat' (split at hc)
  all_goals first
   | (cases hc;done)
   | (cases hc;simp [COp.cls];done)
theorem zab {E:Env} {dsts:List (Option Tmp)} {o:Oper} {c:COp} {cf:Nat->List CVal->CHeap->Option (CVal × CHeap)} {ev:COpnd->CVal} {ρ:Operand->Value} {v:CVal} {h':CHeap} (hE:E.P=P) (hc:zGf E dsts o.op=some c) (hcls:c.cls=.e)
    (hr:ORel G E dsts ev ρ) (hv:zBq cf ev h id c=some (v,h')) (I:Inv base G h w) (hid:id<h.next) (hf:zCw G h id):OutE P base G h id v h' (execOp ρ o) w:=by
 subst hE
 obtain ⟨dst,op,type,pos,after,guard⟩:=o
 cases op <;> simp only [zGf] at hc <;> first | (cases hc;done) | skip
 case makeMap t r =>
  cases r with
  | some r=>simp only at hc;cases hc
  | none =>
  simp only at hc
  split at hc
  . cases hc
    simp only [zBq,extE] at hv
    cases hv
    refine .inl ⟨.map (some w.heap.size),w.alloc (.map #[] 0),?_,G.withMu id w.heap.size 0,.map ?_,zMs I hf hid⟩
    . simp [execOp,Instr.makeMap,Result.andThen]
    . show (if id=id then _ else _)=_;rw [if_pos rfl]
  . cases hc
 case mapUpdate t m k x =>
  split at hc
  . rename_i kt et xs ht hxs
    split at hc
    . rename_i kk hkk
      cases hc
      obtain ⟨a,b,d,habd,h1,h2,h3⟩:=zF2 hr hxs
      simp only [zBq,habd] at hv
      exact zUc I ht hkk h1 h2 h3 hv
    . cases hc
  . cases hc
 case insert t m k x =>
  split at hc
  . rename_i kt et xs ht hxs
    split at hc
    . rename_i kk hkk
      cases hc
      obtain ⟨a,b,d,habd,h1,h2,h3⟩:=zF2 hr hxs
      simp only [zBq,habd] at hv
      exact zUc I ht hkk h1 h2 h3 hv
    . cases hc
  . cases hc
 case mapEntry t m k =>
  split at hc
  . rename_i kt et xs ht hxs
    split at hc
    . rename_i kk z hkk hz
      cases hc
      obtain ⟨a,b,hab,h1,h2⟩:=zD8 hr hxs
      simp only [zBq,hab] at hv
      exact zSq I ht hkk hz h1 h2 hv
    . cases hc
  . cases hc
 case entryStore t m s x =>
  split at hc
  . rename_i xs hxs
    cases hc
    obtain ⟨a,b,d,habd,h1,h2,h3⟩:=zF2 hr hxs
    simp only [zBq,habd] at hv
    exact zQd I h1 h2 h3 hv
  . cases hc
 case call cl =>
  obtain ⟨cal,args,argTypes⟩:=cl
  simp only at hc
  split at hc
  . split at hc
    . split at hc
      . cases hc;simp [COp.cls] at hcls
      . cases hc
    . cases hc
  . split at hc
    . split at hc
      . cases hc;simp [COp.cls] at hcls
      . cases hc
    . cases hc
  . skip
    split at hc
    . rename_i t u m k hat har
      split at hc
      . rename_i kt et xs ht hxs
        split at hc
        . rename_i kk hkk
          cases hc
          obtain ⟨a,b,hab,h1,h2⟩:=zD8 hr hxs
          simp only [zBq,hab] at hv
          have ha:args=#[m,k]:=by obtain ⟨l⟩:=args;simp at har;rw [har]
          have hb:argTypes=#[t,u]:=by obtain ⟨l⟩:=argTypes;simp at hat;rw [hat]
          subst ha;subst hb
          have:=zZv (u:=u) (ty:=type) I ht hkk h1 h2 hv
          simpa [execOp,resolve,invoke,builtin] using this
        . cases hc
      . cases hc
    . cases hc
  . split at hc
    . rename_i t x hat har
      split at hc
      . rename_i e xs ht hxs
        split at hc
        . rename_i g hg
          cases hc
          obtain ⟨a,hab,h1⟩:=zGj hr hxs
          simp only [zBq,hab] at hv
          have ha:args=#[x]:=by obtain ⟨l⟩:=args;simp at har;rw [har]
          have hb:argTypes=#[t]:=by obtain ⟨l⟩:=argTypes;simp at hat;rw [hat]
          subst ha;subst hb
          have:=zWs (id:=id) (ty:=type) I ht hg h1 hv
          simpa [execOp,resolve,invoke,builtin] using this
        . cases hc
      . cases hc
    . cases hc
  . split at hc
    . rename_i t u x n hat har
      split at hc
      . rename_i e kd xs ht hu hxs
        split at hc
        . rename_i g hg
          split at hc
          . rename_i hsm
            cases hc
            obtain ⟨a,b,hab,h1,h2⟩:=zD8 hr hxs
            simp only [zBq,hab] at hv
            have ha:args=#[x,n]:=by obtain ⟨l⟩:=args;simp at har;rw [har]
            have hb:argTypes=#[t,u]:=by obtain ⟨l⟩:=argTypes;simp at hat;rw [hat]
            subst ha;subst hb
            have:=zSy (ty:=type) I hf hid ht hu hg (zLz _ _) (by simpa [zCs] using hsm) h1 h2 hv
            simpa [execOp,resolve,invoke,builtin] using this
          . cases hc
        . cases hc
      . cases hc
    . cases hc
  . cases hc
 case slice t x lo hi mx =>
  cases lo <;> cases hi <;> cases mx <;> simp only [zGf] at hc <;> first | (cases hc;done) | skip
  . exfalso
    split at hc
    . split at hc
      . cases hc;simp [COp.cls] at hcls
      . cases hc
    . cases hc
  . rename_i lo hi mx
    split at hc
    . rename_i e xs ht hxs
      split at hc
      . rename_i g hg
        cases hc
        obtain ⟨a,b,c,d,hab,h1,h2,h3,h4⟩:=zN4 hr hxs
        simp only [zBq,hab] at hv
        exact zZj I hf hid ht hg h1 h2 h3 h4 hv
      . cases hc
    . cases hc
 all_goals
  exfalso
  revert hcls
  repeat' (split at hc)
  all_goals first
   | (cases hc;done)
   | (cases hc;simp [COp.cls];done)
end
end Go.CI
namespace Go.CI
open Go.RowKit
def Entr (P:Program) (s:Sem Next) (w:World) (Q:Value->World->Prop):Prop :=
 (∃ u w',s.run P w=.ok (.value u) w'/\Q u w')\/∃ f args,s.run P w=.ok (.enter f args) w/\Calls P f args w fun e w'=>∃ u,e=.returned u/\Q u w'
def zCm (base:Base) (G:Gh) (h:CHeap) (w:World) (v:CVal) (h':CHeap) (u:Value) (w':World):Prop:=∃ G',VR G' v u/\Post base (fun _=>False) G h w G' h' w'
def zGm (P:Program) (base:Base) (cf:Nat->List CVal->CHeap->Option (CVal × CHeap)):Prop :=
 ∀ (G:Gh) (h:CHeap) (w:World) (f:Nat) (xs:List CVal) (vs:List Value) (v:CVal) (h':CHeap),cf f xs h=some (v,h')->Inv base G h w->VRs G xs vs->Entr P (callFunc f ⟨vs⟩) w (zCm base G h w v h')
inductive DefsR (G:Gh):List (Nat × List CVal)->List Deferred->Prop
 | nil:DefsR G [] []
 | cons {f:Nat} {xs:List CVal} {vs cap:List Value} {ds:List (Nat × List CVal)} {dl:List Deferred} (h:VRs G xs (vs++cap)) (r:DefsR G ds dl):DefsR G ((f,xs)::ds) ({ target:=.fn (.func f) ⟨cap⟩,args:=⟨vs⟩ }::dl)
theorem DefsR.mono {G G':Gh} (hg:G.le G') {ds:List (Nat × List CVal)} {dl:List Deferred} (h:DefsR G ds dl):DefsR G' ds dl:=by
 induction h with
 | nil=>exact .nil
 | cons h _ ih=>exact .cons (h.mono hg) ih
theorem zL1 {E:Env} {rg i:Nat} {dsts:List (Option Tmp)} {earlier later:List Oper} {o:Oper} {c:COp} (hc:cop0 E rg i dsts earlier later o=some c) :
    (∀ keep f xs,c=.call keep f xs->∃ cl,o.op=.call cl/\cl.callee=.value (.func f)/\zBp E dsts cl.args.toList=some xs) /\
    (∀ keep x xs,c=.callv keep x xs->∃ cl X,o.op=.call cl/\cl.callee=.value X/\zDb E dsts X=some x/\zBp E dsts cl.args.toList=some xs) /\
    (∀ x xs,c=.defer x xs->∃ cl X,o.op=.defer cl/\cl.callee=.value X/\zDb E dsts X=some x/\zBp E dsts cl.args.toList=some xs):=by
 obtain ⟨dst,op,type,pos,after,guard⟩:=o
 cases op
 case slice t x lo hi mx =>
  cases mx with
  | some m=>simp [cop0] at hc
  | none =>
   simp only [cop0] at hc
   split at hc
   . cases hc;simp
   . split at hc
     . cases hc;simp
     . cases hc
   . cases hc
 all_goals simp only [cop0] at hc
 all_goals try (cases hc;done)
 case call cl =>
  split at hc
  . rename_i f hf
    obtain ⟨xs,hxs,rfl⟩:=Option.map_eq_some_iff.1 hc
    refine ⟨fun keep f' xs' he=>?_,fun _ _ _ he=>by simp at he,fun _ _ he=>by simp at he⟩
    cases he
    exact ⟨cl,rfl,hf,hxs⟩
  . rename_i X hX
    split at hc
    . rename_i x xs hx hxs
      cases hc
      refine ⟨fun _ _ _ he=>by simp at he,fun keep x' xs' he=>?_,fun _ _ he=>by simp at he⟩
      cases he
      exact ⟨cl,_,rfl,hX,hx,hxs⟩
    . cases hc
  all_goals
   try (cases hc;done)
   (repeat' (split at hc))
  all_goals first
   | (cases hc;done)
   | (cases hc;simp;done)
   | (obtain ⟨y,_,rfl⟩:=Option.map_eq_some_iff.1 hc;simp;done)
 case defer cl =>
  split at hc
  . rename_i X hX
    split at hc
    . rename_i x xs hx hxs
      cases hc
      refine ⟨fun _ _ _ he=>by simp at he,fun _ _ _ he=>by simp at he,fun x' xs' he=>?_⟩
      cases he
      exact ⟨cl,_,rfl,hX,hx,hxs⟩
    . cases hc
  . cases hc
 all_goals
  first
   | (obtain ⟨y,_,rfl⟩:=Option.map_eq_some_iff.1 hc;simp;done)
   | (repeat' (split at hc))
 all_goals first
  | (cases hc;done)
  | (cases hc;simp;done)
  | (obtain ⟨y,_,rfl⟩:=Option.map_eq_some_iff.1 hc;simp;done)
section
variable {P:Program} {base:Base} {G:Gh} {h:CHeap} {w:World} {id:Nat}
theorem zW6 {o:Oper} {a:Act} {K:Act->World->Prop} {Q:Exit->Act->World->Prop} {R:Value->World->Prop} (hs:Entr P (execOp a.eval o) w R) (hK:∀ u w',R u w'->K (a.put o.dst u) w'):o.wp P a w K Q:=by
 unfold Oper.wp
 rcases hs with ⟨u,w',hr,hq⟩ | ⟨f,args,hr,hq⟩
 . rw [hr,Oper.upon_value];exact hK u w' hq
 . rw [hr,Oper.upon_enter]
   exact Calls.mono hq fun e w' he=>by
    obtain ⟨u,rfl,hu⟩:=he
    exact hK u w' hu
theorem zOt {o:Oper} {a:Act} {K:Act->World->Prop} {Q:Exit->Act->World->Prop} {R:Value->World->Prop} (hs:Gives P (execOp a.eval o) w R) (hK:∀ u w',R u w'->K (a.put o.dst u) w'):o.wp P a w K Q:=by
 unfold Oper.wp
 rcases hs with ⟨u,w',hr,hq⟩ | ⟨w',hr,hq⟩
 . rw [hr,Oper.upon_value];exact hK u w' hq
 . rw [hr,Oper.upon_skip];exact hK undef w' hq
theorem zLv {o:Oper} {cl:Call} {X:Operand} {ρ:Operand->Value} {f:Nat} {first cap:List Value} (ho:o.op=.call cl) (hc:cl.callee=.value X) (hX:ρ X=.func (.func f) ⟨first⟩ ⟨cap⟩) :
    (execOp ρ o).run P w=(callFunc f ⟨first++(cl.args.toList.map ρ++cap)⟩).run P w:=by
 have:(⟨first++(cl.args.toList.map ρ++cap)⟩:Array Value)=(⟨first⟩++cl.args.map ρ)++⟨cap⟩:=by
  apply Array.ext'
  simp [Array.toList_append]
 rw [this]
 simp [execOp,ho,resolve,hc,hX,Deferred.ofValue,invoke]
theorem zQm {o:Oper} {cl:Call} {X:Operand} {ρ:Operand->Value} {f:Nat} {first cap:List Value} (ho:o.op=.defer cl) (hc:cl.callee=.value X) (hX:ρ X=.func (.func f) ⟨first⟩ ⟨cap⟩) :
    (execOp ρ o).run P w=.ok (.defer { target:=.fn (.func f) ⟨cap⟩,args:=⟨first++cl.args.toList.map ρ⟩ }) w:=by
 have:(⟨first++cl.args.toList.map ρ⟩:Array Value)=(⟨first⟩++cl.args.map ρ):=by
  apply Array.ext'
  simp [Array.toList_append]
 rw [this]
 simp [execOp,ho,resolve,hc,hX,Deferred.ofValue]
theorem Entr.of_run {s s':Sem Next} {Q:Value->World->Prop} (h:s.run P w=s'.run P w) (he:Entr P s' w Q):Entr P s w Q:=by
 unfold Entr at *;rw [h];exact he
theorem VRs.ofBare {G:Gh} {cs:List CVal} {vs:List Value} (h:VRs G cs vs):VRs G (cs.map CVal.bare) vs:=h.map _ fun _ _ hv=>hv.bare
theorem zUs {ops:Array Oper} {Q:Exit->Act->World->Prop} {E:Env} {rg i j:Nat} {dsts:List (Option Tmp)} {earlier later:List Oper} {o:Oper} {c:COper} {cf:Nat->List CVal->CHeap->Option (CVal × CHeap)} {ev:COpnd->CVal} {wt:Bool} {v:CVal} {h':CHeap} {ds ds':List (Nat × List CVal)} {a:Act} {K:Act->World->Prop}
    (hE:E.P=P) (hcs:c.op=(cop E rg j dsts earlier later o).getD .stuck) (hdst:o.dst≠none->c.op.isStore=false) (hsim:zGm P base cf)
    (hr:ORel G E dsts ev a.eval) (hg:Region.wanted o (yielded ops a.tmps)=wt) (ht:zG7 cf ev id c wt v h ds h' ds') (I:Inv base G h w) (hid:id<h.next) (hf:zCw G h id) (hd:DefsR G ds a.defers) (ho:ops[i]? = some o)
    (hK:∀ u w' G' dl,VR G' v u->(v=.undef->o.dst≠none->u=undef)->Post base (· = id) G h w G' h' w'->DefsR G' ds' dl->K (({ a with defers:=dl }:Act).put o.dst u) w'):wpOp P ops Q i K a w:=by
 unfold wpOp
 simp only [ho,hg]
 unfold zG7 at ht
 cases wt with
 | false =>
  simp only [Bool.false_eq_true,if_false] at ht ⊢
  obtain ⟨rfl,rfl,rfl⟩:=ht
  exact hK undef w G a.defers (.undef _) (fun _ _=>rfl) (.refl I) hd
 | true =>
  simp only [if_true] at ht ⊢
  left
  have hc:cop E rg j dsts earlier later o=some c.op:=by
   cases hco:cop E rg j dsts earlier later o with
   | some c'=>rw [hco] at hcs;rw [hcs];rfl
   | none =>
    rw [hco] at hcs
    have hcs':c.op=.stuck:=hcs
    rw [hcs'] at ht
    have:=ht.1
    simp [zGl] at this
  cases hcl:c.op.cls with
  | p =>
   rw [hcl] at ht
   obtain ⟨hv,hu,rfl,rfl⟩:=ht
   have hc:=(zFm hc).resolve_right fun h=>by
    rcases zHy h with ⟨k,xs,e⟩ | ⟨k,xs,e⟩ <;> (rw [e] at hcl;simp [COp.cls] at hcl)
   refine zOt (simP hE hc hcl hr hv I hid hf) fun u w' ⟨G',h1,h2⟩=>hK u w' G' a.defers h1 (fun e=>?_) h2 (hd.mono h2.le)
   subst e;cases hu
  | l =>
   rw [hcl] at ht
   obtain ⟨hv,hu,rfl,rfl⟩:=ht
   obtain ⟨u,hu1,hu2⟩:=(zFm hc).elim (fun h=>simL hE h hcl hr hv I) (fun h=>zba hE h hcl hr hv I)
   unfold Oper.wp
   rw [hu1,Oper.upon_value]
   refine hK u w G a.defers hu2 (fun e=>?_) (.refl I) hd
   subst e;cases hu
  | d =>
   rw [hcl] at ht
   obtain ⟨x,args,f,first,cap,hop,hx,rfl,rfl,rfl⟩:=ht
   have hc:=(zFm hc).resolve_right fun h=>by
    rcases zHy h with ⟨k,xs,e⟩ | ⟨k,xs,e⟩ <;> (rw [e] at hcl;simp [COp.cls] at hcl)
   obtain ⟨cl,X,ho',hcal,hX,hargs⟩:=(zL1 hc).2.2 x args hop
   have h1:=hr X x hX
   rw [hx] at h1
   generalize hz:a.eval X=z at h1
   cases h1 with
   | fn hl1 hl2 hf1 hf2 =>
    unfold Oper.wp
    rw [zQm ho' hcal hz,Oper.upon_defer]
    refine hK undef w G _ (.undef _) (fun _ _=>rfl) (.refl I) (.cons ?_ hd)
    rw [List.append_assoc]
    exact VRs.append ⟨hl1,hf1⟩ (VRs.append (hr.list _ _ hargs) ⟨hl2,hf2⟩)
  | e =>
   rw [hcl] at ht
   obtain ⟨hv,hu,rfl⟩:=ht
   have hund:v=.undef->o.dst≠none->∀ u:Value,u=undef:=fun e hn=>by
    subst e
    have:=hu rfl
    rw [hdst hn] at this;cases this
   by_cases hcall:c.op.isCall=true
   . have hc:=(zFm hc).resolve_right fun h=>by
      rcases zHy h with ⟨k,xs,e⟩ | ⟨k,xs,e⟩ <;> (rw [e] at hcall;simp [COp.isCall] at hcall)
     have key:∃ f xs vs,cf f xs h=some (v,h')/\VRs G xs vs/\(execOp a.eval o).run P w=(callFunc f ⟨vs⟩).run P w:=by
      cases hop:c.op <;> rw [hop] at hcall <;> first | (simp [COp.isCall] at hcall;done) | skip
      . rename_i keep f xs
        obtain ⟨cl,ho',hcal,hargs⟩:=(zL1 hc).1 _ _ _ hop
        rw [hop] at hv
        simp only [zBq] at hv
        refine ⟨f,_,cl.args.toList.map a.eval,hv,?_,?_⟩
        . have:=hr.list _ _ hargs
          cases keep with
          | true=>exact this
          | false =>
           have h2:=this.ofBare
           rw [List.map_map] at h2
           exact h2
        . have:=zLv (P:=P) (w:=w) (ρ:=a.eval) (first:=[]) (cap:=[]) ho' hcal rfl
          simpa using this
      . rename_i keep x xs
        obtain ⟨cl,X,ho',hcal,hX,hargs⟩:=(zL1 hc).2.1 _ _ _ hop
        rw [hop] at hv
        simp only [zBq] at hv
        have h1:=hr X x hX
        generalize hz:a.eval X=z at h1
        split at hv
        . rename_i f first cap hx
          rw [hx] at h1
          cases h1 with
          | fn hl1 hl2 hf1 hf2 =>
           refine ⟨f,_,_,hv,VRs.append ⟨hl1,hf1⟩ (VRs.append ?_ ⟨hl2,hf2⟩),zLv ho' hcal hz⟩
           have:=hr.list _ _ hargs
           cases keep with
           | true=>exact this
           | false =>
            have h2:=this.ofBare
            rw [List.map_map] at h2
            exact h2
        . cases hv
     obtain ⟨f,xs,vs,hcf,hvs,hrun⟩:=key
     refine zW6 (Entr.of_run hrun (hsim G h w f xs vs v h' hcf I hvs)) fun u w' ⟨G',h1,h2⟩=>hK u w' G' a.defers h1 (fun e hn=>hund e hn u) (h2.mono fun _ hh=>hh.elim) (hd.mono h2.le)
   . have hcall':c.op.isCall=false:=by simpa using hcall
     exact zOt ((zFm hc).elim (fun h=>simE hE h hcl hcall' hr hv I hid hf) (fun h=>zab hE h hcl hr hv I hid hf)) fun u w' ⟨G',h1,h2⟩=>hK u w' G' a.defers h1 (fun e hn=>hund e hn u) h2 (hd.mono h2.le)
end
end Go.CI
namespace Go.CI
open Go.RowKit
def zFb (ops:Array Oper) (j:Nat):Option Tmp:=(ops[j]?).bind (·.dst)
structure IsLast (ops:Array Oper) (S:Nat->Bool) (t:Tmp) (j:Nat):Prop where
 mem:S j=true
 dst:zFb ops j=some t
 last:∀ k,S k=true->zFb ops k=some t->k<=j
structure TR (ops:Array Oper) (r:Nat->CVal) (G:Gh) (S:Nat->Bool) (a0 a:Act):Prop where
 new:∀ t j,IsLast ops S t j->VR G (r j) (a.tmps.getD t undef)/\(r j=.undef->a.tmps.getD t undef=undef)
 old:∀ t,(∀ j,S j=true->zFb ops j≠some t)->a.tmps.getD t undef=a0.tmps.getD t undef
structure AR (E:Env) (G:Gh) (tm:List CVal) (ds:List (Nat × List CVal)) (a:Act):Prop where
 size:E.ntmps<=a.tmps.size
 len:tm.length=E.vars.length
 val:∀ t v,zFl E.vars t 0=some v->VR G (nth tm v) (a.tmps.getD t undef)
 defs:DefsR G ds a.defers
 glob:∀ g cs,zD5 E.H.globals g=some cs->VR G (.cptr cs 0) (.pointer (some ⟨g,0,none⟩))
theorem AR.mono {E:Env} {G G':Gh} {tm:List CVal} {ds:List (Nat × List CVal)} {a:Act} (h:AR E G tm ds a) (hg:G.le G'):AR E G' tm ds a :=
 ⟨h.size,h.len,fun t v hv=>(h.val t v hv).mono hg,h.defs.mono hg,fun g cs hc=>(h.glob g cs hc).mono hg⟩
def zEd (ops:Array Oper) (i:Nat):List (Option Tmp):=((ops.toList.take i).map (·.dst)).reverse
theorem zG4 {ops:Array Oper} {i k:Nat} (hi:i<=ops.size) (hk:k<i):(zEd ops i)[k]? = some (zFb ops (i - 1 - k)):=by
 unfold zEd zFb
 have hl:((ops.toList.take i).map (·.dst)).length=i:=by simp;omega
 rw [List.getElem?_reverse (by omega),hl,List.getElem?_map,List.getElem?_take,if_pos (by omega),Array.getElem?_toList]
 have:ops[i - 1 - k]? = some ops[i - 1 - k]:=Array.getElem?_eq_getElem (by omega)
 rw [this];rfl
theorem zJt {ops:Array Oper} {i:Nat} (hi:i<=ops.size):(zEd ops i).length=i:=by unfold zEd;simp;omega
theorem zI5:∀ {l:List (Option Tmp)} {t:Tmp} {b i:Nat},zE1 l t b=some i->∃ k,i=b+k/\l[k]? = some (some t)/\∀ k',k'<k->l[k']?≠some (some t)
 | [],t,b,i,h=>by simp [zE1] at h
 | d::l,t,b,i,h=>by
  simp only [zE1] at h
  split at h
  . rename_i hd
    cases h
    exact ⟨0,rfl,by simpa using hd,fun _ h=>by omega⟩
  . rename_i hd
    obtain ⟨k,h1,h2,h3⟩:=zI5 h
    refine ⟨k+1,by omega,h2,fun k' hk'=>?_⟩
    cases k' with
    | zero=>simpa using hd
    | succ k'=>simpa using h3 k' (by omega)
theorem zIb:∀ {l:List (Option Tmp)} {t:Tmp} {b:Nat},zE1 l t b=none->∀ k:Nat,l[k]?≠some (some t)
 | [],t,b,h=>by simp
 | d::l,t,b,h=>by
  simp only [zE1] at h
  split at h
  . cases h
  . rename_i hd
    intro k
    cases k with
    | zero=>simpa using hd
    | succ k=>simpa using zIb h k
theorem zFo:∀ {l:List Tmp} {t:Tmp} {b i:Nat},zFl l t b=some i->∃ k,i=b+k/\l[k]? = some t
 | [],t,b,i,h=>by simp [zFl] at h
 | d::l,t,b,i,h=>by
  simp only [zFl] at h
  split at h
  . rename_i hd
    cases h
    exact ⟨0,rfl,by simpa using hd⟩
  . obtain ⟨k,h1,h2⟩:=zFo h
    exact ⟨k+1,by omega,h2⟩
structure CopAt (E:Env) (rg:Nat) (ops:Array Oper) (cs:List COper):Prop where
 len:cs.length=ops.size
 at_:∀ i o,ops[i]? = some o->∃ c e la,cs[i]? = some c/\c.op=(cop { E with only:=some (zI7 o) } rg i (zEd ops i) e la o).getD .stuck/\zLu (zEd ops i) i o.guard=some c.guard
theorem zQf {E:Env} {rg:Nat}:∀ (l:List Oper) (i:Nat) (dsts:List (Option Tmp)) (e:List Oper) (cs:List COper),cops E rg i dsts e l=some cs ->
    cs.length=l.length/\∀ j o,l[j]? = some o->∃ c e la,cs[j]? = some c/\c.op=(cop { E with only:=some (zI7 o) } rg (i+j) (((l.take j).map (·.dst)).reverse++dsts) e la o).getD .stuck/\zLu (((l.take j).map (·.dst)).reverse++dsts) (i+j) o.guard=some c.guard
 | [],i,dsts,e,cs,h=>by simp only [cops] at h;cases h;exact ⟨rfl,fun j o h=>by simp at h⟩
 | o::l,i,dsts,e,cs,h=>by
  simp only [cops] at h
  split at h
  . rename_i g rest hg hr
    cases h
    obtain ⟨hl,ha⟩:=zQf l (i+1) (o.dst::dsts) (o::e) rest hr
    refine ⟨by simp [hl],fun j o' ho=>?_⟩
    cases j with
    | zero =>
     simp at ho;subst ho
     exact ⟨_,e,l,rfl,by simp,by simpa using hg⟩
    | succ j =>
     simp at ho
     obtain ⟨c',e',la',h1,h2,h3⟩:=ha j o' ho
     refine ⟨c',e',la',by simpa using h1,?_,?_⟩
     . rw [show i+(j+1)=i+1+j by omega]
       simpa using h2
     . rw [show i+(j+1)=i+1+j by omega]
       simpa using h3
  . cases h
theorem zSb {E:Env} {rg:Nat} {ops:Array Oper} {cs:List COper} (h:cops E rg 0 [] [] ops.toList=some cs):CopAt E rg ops cs:=by
 obtain ⟨h1,h2⟩:=zQf _ _ _ _ _ h
 refine ⟨by simpa using h1,fun i o ho=>?_⟩
 obtain ⟨c,e,la,h3,h4,h5⟩:=h2 i o (by rw [Array.getElem?_toList];exact ho)
 rw [Nat.zero_add,List.append_nil] at h4 h5
 exact ⟨c,e,la,h3,h4,h5⟩
theorem zLw {n:Nat}:∀ {l:List Oper} {cs:List COper},zIw n l cs=true->∀ (i:Nat) (o:Oper) (c:COper),l[i]? = some o->cs[i]? = some c->∀ d,o.dst=some d->d<n/\c.op.isStore=false
 | [],_,_,i,o,c,h,_,_,_=>by simp at h
 | _::_,[],_,i,o,c,_,h,_,_=>by simp at h
 | o::l,c::cs,h,i,o',c',ho,hc,d,hd=>by
  simp only [zIw,Bool.and_eq_true] at h
  cases i with
  | zero =>
   simp at ho hc
   subst ho hc
   have:=h.1
   rw [hd] at this
   simpa using this
  | succ i=>exact zLw h.2 i o' c' (by simpa using ho) (by simpa using hc) d hd
section
variable {P:Program} {base:Base} {E:Env} {rg:Nat} {ops:Array Oper} {cf:Nat->List CVal->CHeap->Option (CVal × CHeap)} {tm:List CVal} {id:Nat} {cs:List COper} {tr:Nat->RS} {r:Nat->CVal} {sw:List (Nat × Nat)}
 {G0:Gh} {h0:CHeap} {w0:World} {a0:Act}
def J (base:Base) (ops:Array Oper) (cf:Nat->List CVal->CHeap->Option (CVal × CHeap)) (tm:List CVal) (id:Nat) (cs:List COper) (tr:Nat->RS) (r:Nat->CVal) (sw:List (Nat × Nat)) (G0:Gh) (h0:CHeap) (w0:World) (a0:Act) (S:Nat->Bool) (a:Act) (w:World):Prop :=
 ∃ G h ds,zKp cf tm id cs tr r sw S h ds/\Post base (fun k=>∃ j,S j=true/\k=id+j) G0 h0 w0 G h w/\TR ops r G S a0 a/\DefsR G ds a.defers/\a.tmps.size=a0.tmps.size
theorem zOm (a:Act) (dst:Option Tmp) (u:Value) (t:Tmp):(a.put dst u).tmps.getD t undef=if dst=some t/\t<a.tmps.size then u else a.tmps.getD t undef:=by
 cases dst with
 | none=>simp [Act.put]
 | some d =>
  simp only [Act.put,Option.some.injEq]
  by_cases hd:d=t
  . subst hd
    by_cases hl:d<a.tmps.size
    . simp [hl]
    . simp [hl]
  . simp [hd,Array.getElem?_setIfInBounds_ne hd]
theorem zT5 (a:Act) (dst:Option Tmp) (u:Value):(a.put dst u).tmps.size=a.tmps.size:=by cases dst <;> simp [Act.put]
theorem zNj (a:Act) (dst:Option Tmp) (u:Value):(a.put dst u).defers=a.defers:=by cases dst <;> rfl
theorem zP5 (ops:Array Oper) (tmps:Array Value) (j:Nat) {t:Tmp} (h:zFb ops j=some t):yielded ops tmps j=match tmps.getD t undef with | .bool b=>some b | _=>none:=by
 unfold yielded
 unfold zFb at h
 rw [h]
 simp only [Option.bind_some]
 by_cases ht:t<tmps.size
 . simp only [ht,Array.getElem?_eq_getElem,Array.getD_eq_getD_getElem?,Option.getD_some]
   cases tmps[t] <;> rfl
 . simp [ht,undef]
theorem zUo {Q:Exit->Act->World->Prop} {Bef:Nat->Nat->Prop} (hE:E.P=P) (C:CopAt E rg ops cs) (hdst:zIw E.ntmps ops.toList cs=true) (R:Run cf tm id cs tr r) (B:Bound cf tm id cs tr r sw Bef)
    (hsim:zGm P base cf) (A:AR E G0 tm (tr 0).defs a0) (hres:∀ i,i<cs.length->id+i<h0.next/\zCw G0 h0 (id+i)) {S:Nat->Bool} {a:Act} {w:World} {i:Nat} {o:Oper} (ho:ops[i]? = some o) (hS:S i=false)
    (hpre:∀ j,Bef j i->S j=true) (hcl:∀ j k,S k=true->Bef j k->S j=true) (hnames:∀ j t,j≠i->zFb ops j=some t->t ∈ zDy ops.toList o->(S j=true ↔ j<i))
    {K:Act->World->Prop} (hK:∀ a' w',J base ops cf tm id cs tr r sw G0 h0 w0 a0 (fun j=>S j || j == i) a' w'->K a' w') (HJ:J base ops cf tm id cs tr r sw G0 h0 w0 a0 S a w):wpOp P ops Q i K a w:=by
 obtain ⟨G,h,ds,hH,hP,hT,hD,hsz⟩:=HJ
 have hio:i<ops.size:=(Array.getElem?_eq_some_iff.1 ho).1
 have hi:i<cs.length:=by rw [C.len];exact hio
 obtain ⟨c,e,la,hc,hcop,hgd⟩:=C.at_ i o ho
 obtain ⟨h',ds',htr,hH'⟩:=zM3 R B hi hS hpre hcl hH
 have ht:=htr c hc
 have hdsto:=zLw hdst i o c (by rw [Array.getElem?_toList];exact ho) hc
 -- who wrote a named temporary last
 have hloc:∀ t k,t ∈ zDy ops.toList o->zE1 (zEd ops i) t 0=some k->IsLast ops S t (i - 1 - k)/\k<i:=fun t k hn hf=>by
  obtain ⟨k',hk',h1,h2⟩:=zI5 hf
  rw [Nat.zero_add] at hk'
  subst hk'
  have hki:k<i:=by
   have:=(List.getElem?_eq_some_iff.1 h1).1
   rwa [zJt (by omega)] at this
  rw [zG4 (by omega) hki] at h1
  have hd:=Option.some.inj h1
  refine ⟨⟨(hnames _ t (by omega) hd hn).2 (by omega),hd,fun m hm hmd=>?_⟩,hki⟩
  have hmi:m≠i:=fun e=>by rw [e,hS] at hm;cases hm
  have hmlt:=(hnames m t hmi hmd hn).1 hm
  rcases Nat.lt_or_ge (i - 1 - k) m with h3 | h3
  . exfalso
    refine h2 (i - 1 - m) (by omega) ?_
    rw [zG4 (by omega) (by omega),show i - 1 - (i - 1 - m)=m by omega,hmd]
  . exact h3
 have hnone:∀ t,t ∈ zDy ops.toList o->zE1 (zEd ops i) t 0=none->∀ j,S j=true->zFb ops j≠some t:=fun t hn hf j hj hd=>by
  have hji:j≠i:=fun e=>by rw [e,hS] at hj;cases hj
  have hlt:=(hnames j t hji hd hn).1 hj
  refine zIb hf (i - 1 - j) ?_
  rw [zG4 (by omega) (by omega),show i - 1 - (i - 1 - j)=j by omega,hd]
 have hop:∀ t,t ∈ zI7 o->t ∈ zDy ops.toList o:=fun t h1=>by
  unfold zDy
  exact List.mem_append_right _ (List.mem_append_left _ h1)
 have hr:ORel G { E with only:=some (zI7 o) } (zEd ops i) (zAq tm (tr i).vals) a.eval:=by
  intro X x hx
  cases X with
  | tmp t =>
   simp only [zDb] at hx
   split at hx
   . rename_i hcan
     have hmem:t ∈ zI7 o:=by simpa [Env.can] using hcan
     split at hx
     . rename_i k hk
       cases hx
       obtain ⟨hl,hki⟩:=hloc t k (hop t hmem) hk
       show VR G (nth (tr i).vals k) (a.tmps.getD t undef)
       rw [R.nth i k (by omega) hki]
       exact (hT.new t _ hl).1
     . rename_i hk
       obtain ⟨v,hv,rfl⟩:=Option.map_eq_some_iff.1 hx
       show VR G (nth tm v) (a.tmps.getD t undef)
       rw [hT.old t (hnone t (hop t hmem) hk)]
       exact (A.val t v hv).mono hP.le
   . cases hx
  | const v =>
   simp only [zDb] at hx
   obtain ⟨c',hc',rfl⟩:=Option.map_eq_some_iff.1 hx
   exact zCu G v c' hc'
  | global g =>
   simp only [zDb] at hx
   obtain ⟨cs',hcs',rfl⟩:=Option.map_eq_some_iff.1 hx
   exact (A.glob g cs' hcs').mono hP.le
  | func f =>
   simp only [zDb] at hx
   cases hx
   exact .fn rfl rfl (fun i c v h=>by simp at h) (fun i c v h=>by simp at h)
 have hg:Region.wanted o (yielded ops a.tmps)=zC4 (tr i).vals c.guard:=by
  unfold Region.wanted
  cases hog:o.guard with
  | none=>rw [hog] at hgd;simp only [zLu] at hgd;rw [<- Option.some.inj hgd];rfl
  | some p =>
   obtain ⟨j,b⟩:=p
   rw [hog] at hgd
   simp only [zLu] at hgd
   split at hgd
   . rename_i hji
     split at hgd
     . rename_i t ht'
       split at hgd
       . rename_i hfl
         have hgd:=Option.some.inj hgd
         have hd:zFb ops j=some t:=by
          rw [zG4 (by omega) (by omega),show i - 1 - (i - 1 - j)=j by omega] at ht'
          exact Option.some.inj ht'
         have hn:t ∈ zDy ops.toList o:=by
          unfold zDy
          refine List.mem_append_right _ (List.mem_append_right _ ?_)
          rw [hog]
          simp only [Array.getElem?_toList]
          show t ∈ (zFb ops j).toList
          rw [hd];simp
         obtain ⟨hl,_⟩:=hloc t _ hn hfl
         rw [show i - 1 - (i - 1 - j)=j by omega] at hl
         obtain ⟨hv1,hv2⟩:=hT.new t j hl
         rw [<- hgd]
         simp only [zC4]
         rw [R.nth i _ (by omega) (by omega),show i - 1 - (i - 1 - j)=j by omega,zP5 ops a.tmps j hd]
         generalize hz:a.tmps.getD t undef=z at hv1 hv2
         generalize hrj:r j=rj at hv1 hv2
         cases hv1 <;> first
          | rfl
          | (rw [hv2 rfl];rfl)
          | (rename_i b';cases b <;> cases b' <;> rfl)
       . cases hgd
     . cases hgd
   . cases hgd
 have hfr:zCw G h (id+i):=hP.fresh _ (hres i hi).1 (fun ⟨j,hj,he⟩=>by
  have:j=i:=by omega
  rw [this,hS] at hj;cases hj) (hres i hi).2
 refine zUs (dsts:=zEd ops i) (earlier:=e) (later:=la) (E:={ E with only:=some (zI7 o) }) (v:=r i) hE hcop (fun hn=>?_) hsim hr hg ht hP.inv (Nat.lt_of_lt_of_le (hres i hi).1 hP.next) hfr hD ho fun u w' G' dl hv hu hp hdl=>hK _ _ ⟨G',h',ds',hH',?_,?_,?_,?_⟩
 . cases hd:o.dst with
   | none=>exact absurd hd hn
   | some d=>exact (hdsto d hd).2
 . refine (hP.trans hp).mono fun k hk=>?_
   rcases hk with ⟨j,h1,h2⟩ | h1
   . exact ⟨j,by simp [h1],h2⟩
   . exact ⟨i,by simp,h1⟩
 . have hdi:zFb ops i=o.dst:=by simp [zFb,ho]
   constructor
   . intro t j hj
     rw [zOm]
     by_cases hot:o.dst=some t
     . have hlt:t<a.tmps.size:=by
        have h8:=A.size
        have h9:=(hdsto t hot).1
        rw [hsz];exact Nat.lt_of_lt_of_le h9 h8
       rw [if_pos ⟨hot,hlt⟩]
       have hji:j=i:=by
        have h1:=hj.last i (by simp) (by rw [hdi];exact hot)
        rcases Nat.eq_or_lt_of_le h1 with h2 | h2
        . exact h2.symm
        . have h3:=hj.mem
          simp only [Bool.or_eq_true,beq_iff_eq] at h3
          have h4:=h3.resolve_right (by omega)
          have:=(hnames j t (by omega) hj.dst (by unfold zDy;rw [hot];simp)).1 h4
          omega
       subst hji
       exact ⟨hv,fun e=>hu e (by rw [hot];simp)⟩
     . rw [if_neg (fun hh=>hot hh.1)]
       have hji:j≠i:=fun e=>by
        have:=hj.dst
        rw [e,hdi] at this;exact hot this
       have h3:=hj.mem
       simp only [Bool.or_eq_true,beq_iff_eq] at h3
       have:=hT.new t j ⟨h3.resolve_right hji,hj.dst,fun k hk hkd=>hj.last k (by simp [hk]) hkd⟩
       exact ⟨this.1.mono hp.le,this.2⟩
   . intro t hno
     rw [zOm,if_neg (fun hh=>hno i (by simp) (by rw [hdi];exact hh.1))]
     exact hT.old t fun j hj=>hno j (by simp [hj])
 . rw [zNj];exact hdl
 . rw [zT5];exact hsz
end
end Go.CI
namespace Go.CI
open Go.RowKit
inductive Reach (ops:Array Oper):Nat->Nat->Prop
 | edge {i:Nat} {o:Oper} {e:Edge} (ho:ops[i]? = some o) (he:e ∈ o.after) (hb:Region.binds .any e=true):Reach ops i e.on
 | step {i j:Nat} {o:Oper} {e:Edge} (ho:ops[i]? = some o) (he:e ∈ o.after) (hb:Region.binds .any e=true) (h:Reach ops e.on j):Reach ops i j
theorem zJx (acc:List Nat):∀ (l:List Edge) (s j:Nat),(l.foldl (fun s e=>if Region.binds .any e then s ||| (2 ^ e.on ||| acc.getD e.on 0) else s) s).testBit j=true->s.testBit j=true\/∃ e ∈ l,Region.binds .any e=true/\(e.on=j\/(acc.getD e.on 0).testBit j=true)
 | [],s,j,h=>.inl h
 | e::l,s,j,h=>by
  simp only [List.foldl_cons] at h
  rcases zJx acc l _ j h with h1 | ⟨e',h1,h2,h3⟩
  . split at h1
    . rename_i hb
      simp only [Nat.testBit_or,Bool.or_eq_true] at h1
      rcases h1 with h1 | h1 | h1
      . exact .inl h1
      . refine .inr ⟨e,by simp,hb,.inl ?_⟩
        rw [Nat.testBit_two_pow] at h1
        simpa using h1
      . exact .inr ⟨e,by simp,hb,.inr h1⟩
    . exact .inl h1
  . exact .inr ⟨e',List.mem_cons_of_mem _ h1,h2,h3⟩
theorem zJj {ops:Array Oper}:∀ (l done:List Oper) (acc:List Nat),ops.toList=done++l->acc.length=done.length->(∀ i j,(acc.getD i 0).testBit j=true->Reach ops i j)->∀ i j,((zSu l acc).getD i 0).testBit j=true->Reach ops i j
 | [],done,acc,_,_,h=>h
 | o::l,done,acc,he,hl,h=>by
  simp only [zSu]
  refine zJj l (done++[o]) _ (by rw [he];simp) (by simp [hl]) fun i j hij=>?_
  have hoi:ops[acc.length]? = some o:=by
   rw [<- Array.getElem?_toList,he,hl,List.getElem?_append_right (Nat.le_refl _)]
   simp
  simp only [List.getD_eq_getElem?_getD] at hij
  rcases Nat.lt_trichotomy i acc.length with h1 | h1 | h1
  . rw [List.getElem?_append_left h1] at hij
    exact h i j (by rw [List.getD_eq_getElem?_getD];exact hij)
  . subst h1
    rw [List.getElem?_append_right (Nat.le_refl _)] at hij
    simp only [Nat.sub_self,List.getElem?_cons_zero,Option.getD_some] at hij
    have:=zJx acc o.after.toList 0 j (by simpa only [List.getD_eq_getElem?_getD] using hij)
    rcases this with h2 | ⟨e,h2,h3,h4⟩
    . simp at h2
    . rcases h4 with h4 | h4
      . subst h4;exact .edge hoi (by simpa using h2) h3
      . exact .step hoi (by simpa using h2) h3 (h _ _ h4)
  . rw [List.getElem?_eq_none (by simp;omega)] at hij
    simp at hij
def Closed (ops:Array Oper) (S:Nat->Bool):Prop:=∀ i o,S i=true->ops[i]? = some o->∀ e ∈ o.after,Region.binds .any e=true->S e.on=true
theorem Closed.reach {ops:Array Oper} {S:Nat->Bool} (h:Closed ops S) {i j:Nat} (hr:Reach ops i j) (hS:(S i=true)\/∀ o,ops[i]? = some o->∀ e ∈ o.after,Region.binds .any e=true->S e.on=true):S j=true:=by
 induction hr with
 | edge ho he hb =>
  rcases hS with hS | hS
  . exact h _ _ hS ho _ he hb
  . exact hS _ ho _ he hb
 | step ho he hb _ ih =>
  refine ih (.inl ?_)
  rcases hS with hS | hS
  . exact h _ _ hS ho _ he hb
  . exact hS _ ho _ he hb
theorem zRt {ops:Array Oper} {pre:List Nat} (h:zO9 ops.toList pre=true) {i j:Nat} {o:Oper} {t:Tmp} (ho:ops[i]? = some o) (hj:zFb ops j=some t) (hne:j≠i) (hn:t ∈ zDy ops.toList o):(pre.getD (max i j) 0).testBit (min i j)=true:=by
 unfold zO9 at h
 rw [List.all_eq_true] at h
 have h1:=h (o,i) (by rw [List.mem_zipIdx_iff_getElem?];simpa using ho)
 simp only at h1
 rw [List.all_eq_true] at h1
 unfold zFb at hj
 cases hw:ops[j]? with
 | none=>rw [hw] at hj;cases hj
 | some w =>
  rw [hw] at hj
  simp only [Option.bind_some] at hj
  have h2:=h1 (w,j) (by rw [List.mem_zipIdx_iff_getElem?];simpa using hw)
  simp only [hj,Bool.or_eq_true,beq_iff_eq,Bool.not_eq_true',List.contains_eq_mem,decide_eq_false_iff_not] at h2
  rcases h2 with (h2 | h2) | h2
  . exact absurd h2 hne
  . exact absurd hn h2
  . rw [Nat.max_comm,Nat.min_comm];exact h2
theorem zMf {p q:Nat->Bool}:∀ {l:List Nat} {x:Nat},(∀ y,q y=true->p y=true)->x ∈ l->p x=true->q x=false->l.countP q<l.countP p
 | [],x,_,hx,_,_=>by simp at hx
 | a::l,x,h,hx,hp,hq=>by
  rw [List.countP_cons,List.countP_cons]
  have hle:l.countP q<=l.countP p:=List.countP_mono_left fun y _ hy=>h y hy
  rcases List.mem_cons.1 hx with rfl | hx
  . rw [hp,hq];simp;omega
  . have:=zMf h hx hp hq
    by_cases ha:q a=true
    . rw [ha,h a ha];simp;omega
    . rw [if_neg ha];omega
section
variable {P:Program} {base:Base} {E:Env} {rg:Nat} {ops:Array Oper} {cf:Nat->List CVal->CHeap->Option (CVal × CHeap)} {tm:List CVal} {id:Nat} {cs:List COper} {tr:Nat->RS} {r:Nat->CVal} {sw:List (Nat × Nat)}
 {G0:Gh} {h0:CHeap} {w0:World} {a0:Act} {Q:Exit->Act->World->Prop}
theorem J.congr {S S':Nat->Bool} {a:Act} {w:World} (h:∀ j,S j=S' j) (HJ:J base ops cf tm id cs tr r sw G0 h0 w0 a0 S a w):J base ops cf tm id cs tr r sw G0 h0 w0 a0 S' a w:=by
 have:S=S':=funext h
 rw [<- this];exact HJ
theorem zR6 (hE:E.P=P) (C:CopAt E rg ops cs) (hdst:zIw E.ntmps ops.toList cs=true) (R:Run cf tm id cs tr r)
    (hsim:zGm P base cf) (A:AR E G0 tm (tr 0).defs a0) (hres:∀ i,i<cs.length->id+i<h0.next/\zCw G0 h0 (id+i))
    (hQ:∀ a w,J base ops cf tm id cs tr r [] G0 h0 w0 a0 (fun j=>decide (j<ops.size)) a w->Q .normal a w):∀ (k i:Nat) (a:Act) (w:World),i+k=ops.size->J base ops cf tm id cs tr r [] G0 h0 w0 a0 (fun j=>decide (j<i)) a w->wpOps P ops Q (List.range' i k) a w
 | 0,i,a,w,hk,HJ=>by
  simp at hk;subst hk
  exact hQ a w HJ
 | k+1,i,a,w,hk,HJ=>by
  rw [List.range'_succ,wpOps_cons]
  have hi:i<ops.size:=by omega
  refine zUo (S:=fun j=>decide (j<i)) (o:=ops[i]) (Bef:=fun j i=>j<i) hE C hdst R (zQ1 R) hsim A hres (Array.getElem?_eq_getElem hi) (by simp) (fun j hj=>by simpa using hj) (fun j k hk hj=>by simp at hk ⊢;omega) (fun j t _ _ _=>by simp) ?_ HJ
  intro a' w' HJ'
  refine zR6 hE C hdst R hsim A hres hQ k (i+1) a' w' (by omega) (HJ'.congr fun j=>?_)
  by_cases h1:j<i
  . simp [h1,show j<i+1 by omega]
  . by_cases h2:j=i
    . simp [h2]
    . simp [h1,h2,show ¬ j<i+1 by omega]
theorem zVv {pre:List Nat} (hpre:∀ i j,(pre.getD i 0).testBit j=true->Reach ops i j) (hedges:zMr ops.toList=true) (htmps:zO9 ops.toList pre=true) (hE:E.P=P) (C:CopAt E rg ops cs) (hdst:zIw E.ntmps ops.toList cs=true) (R:Run cf tm id cs tr r)
    (B:Bound cf tm id cs tr r sw (fun j i=>(pre.getD i 0).testBit j=true))
    (hsim:zGm P base cf) (A:AR E G0 tm (tr 0).defs a0) (hres:∀ i,i<cs.length->id+i<h0.next/\zCw G0 h0 (id+i))
    (hQ:∀ S a w,(∀ i,i<ops.size->S i=true)->J base ops cf tm id cs tr r sw G0 h0 w0 a0 S a w->Q .normal a w):∀ (fuel:Nat) (listed:Array Bool) (a:Act) (w:World),listed.size=ops.size->(List.range ops.size).countP (fun j=>!listed.getD j false)<=fuel ->
     Closed ops (fun j=>listed.getD j false)->J base ops cf tm id cs tr r sw G0 h0 w0 a0 (fun j=>listed.getD j false) a w->wpAny P .any ops Q fuel listed a w:=by
 have done:∀ (listed:Array Bool) (a:Act) (w:World),listed.size=ops.size->Region.ready .any ops listed=[]->J base ops cf tm id cs tr r sw G0 h0 w0 a0 (fun j=>listed.getD j false) a w->Q .normal a w:=fun listed a w hsz hready HJ=>by
  refine hQ _ a w ?_ HJ
  intro i
  induction i using Nat.strongRecOn with
  | ind i ih =>
   intro hi
   rcases Bool.eq_false_or_eq_true (listed.getD i false) with h1 | h1
   . exact h1
   . exfalso
     have hmem:i ∈ Region.ready .any ops listed:=by
      rw [mem_ready]
      refine ⟨?_,ops[i],Array.getElem?_eq_getElem hi,fun e he hb=>?_⟩
      . have hlt:i<listed.size:=by omega
        simp [hlt] at h1 ⊢;exact h1
      . unfold zMr at hedges
        rw [List.all_eq_true] at hedges
        have h2:=hedges (ops[i],i) (by rw [List.mem_zipIdx_iff_getElem?];simp)
        simp only [List.all_eq_true] at h2
        have h3:=h2 e (by simpa using he)
        simp only [hb,Bool.not_true,Bool.false_or,decide_eq_true_eq] at h3
        exact ih e.on h3 (by omega)
     rw [hready] at hmem
     cases hmem
 intro fuel
 induction fuel with
 | zero =>
  intro listed a w hsz hfuel hcl HJ
  have hall:Region.ready .any ops listed=[]:=by
   cases hr:Region.ready .any ops listed with
   | nil=>rfl
   | cons x xs =>
    exfalso
    have hx:x ∈ Region.ready .any ops listed:=by rw [hr];simp
    obtain ⟨h0,o,ho,_⟩:=mem_ready.1 hx
    have hxi:x<ops.size:=(Array.getElem?_eq_some_iff.1 ho).1
    have hlt:x<listed.size:=by omega
    have h1:=List.countP_eq_zero.1 (Nat.le_zero.1 hfuel) x (List.mem_range.2 hxi)
    simp [hlt] at h0 h1
    rw [h1] at h0;cases h0
  exact ⟨hall,done listed a w hsz hall HJ⟩
 | succ fuel ihf =>
  intro listed a w hsz hfuel hcl HJ
  refine ⟨fun hr=>done listed a w hsz hr HJ,fun i hi=>?_⟩
  obtain ⟨h0,o,ho,hbefore⟩:=mem_ready.1 hi
  have hio:i<ops.size:=(Array.getElem?_eq_some_iff.1 ho).1
  have hlt:i<listed.size:=by omega
  have hS:listed.getD i false=false:=by
   simp [hlt] at h0 ⊢;exact h0
  have hpi:∀ j,(pre.getD i 0).testBit j=true->listed.getD j false=true:=fun j hj=>hcl.reach (hpre i j hj) (.inr fun o' ho' e he hb=>by rw [ho] at ho';cases ho';exact hbefore e he hb)
  have hset:∀ j,(listed.getD j false || j == i)=(listed.setIfInBounds i true).getD j false:=fun j=>by
   by_cases hji:j=i
   . subst hji;simp [hlt]
   . rw [getD_set_ne false (fun e=>hji e.symm)];simp [hji]
  refine zUo (S:=fun j=>listed.getD j false) (o:=o) (Bef:=fun j i=>(pre.getD i 0).testBit j=true) hE C hdst R B hsim A hres ho hS hpi (fun j k hk hj=>hcl.reach (hpre k j hj) (.inl hk)) (fun j t hne hd hn=>?_) ?_ HJ
  . have h1:=zRt htmps ho hd hne hn
    constructor
    . intro hj
      rcases Nat.lt_or_ge j i with h2 | h2
      . exact h2
      . exfalso
        rw [Nat.max_eq_right h2,Nat.min_eq_left h2] at h1
        have:=hcl.reach (hpre j i h1) (.inl hj)
        rw [hS] at this;cases this
    . intro hj
      rw [Nat.max_eq_left (by omega),Nat.min_eq_right (by omega)] at h1
      exact hpi j h1
  . intro a' w' HJ'
    refine ihf _ a' w' (by simpa using hsz) ?_ ?_ (HJ'.congr hset)
    . have:(List.range ops.size).countP (fun j=>!(listed.setIfInBounds i true).getD j false)<(List.range ops.size).countP (fun j=>!listed.getD j false):=by
       refine zMf (x:=i) (fun y hy=>?_) (List.mem_range.2 hio) (by rw [hS];rfl) (by rw [<- hset i];simp)
       rw [<- hset y] at hy
       simp only [Bool.not_or,Bool.and_eq_true] at hy
       exact hy.1
      omega
    . intro j o' hj ho' e he hb
      have hj:(listed.setIfInBounds i true).getD j false=true:=hj
      show (listed.setIfInBounds i true).getD e.on false=true
      rw [<- hset] at hj ⊢
      simp only [Bool.or_eq_true,beq_iff_eq] at hj ⊢
      rcases hj with hj | hj
      . exact .inl (hcl j o' hj ho' e he hb)
      . subst hj
        rw [ho] at ho';cases ho'
        exact .inl (hbefore e he hb)
theorem zI6 (t:Tmp):∀ (l:List Oper) (i:Nat) (acc:Option Nat),(∃ (k:Nat) (o:Oper),zGi t l i acc=some (i+k)/\l[k]? = some o/\o.dst=some t/\∀ (k':Nat) (o':Oper),l[k']? = some o'->o'.dst=some t->k'<=k)\/(zGi t l i acc=acc/\∀ (k:Nat) (o:Oper),l[k]? = some o->o.dst≠some t)
 | [],i,acc=>.inr ⟨rfl,fun k o h=>by simp at h⟩
 | o::l,i,acc=>by
  simp only [zGi]
  rcases zI6 t l (i+1) (if o.dst == some t then some i else acc) with ⟨k,o',h1,h2,h3,h4⟩ | ⟨h1,h2⟩
  . refine .inl ⟨k+1,o',by rw [h1];congr 1;omega,by simpa using h2,h3,fun k' o'' h5 h6=>?_⟩
    cases k' with
    | zero=>omega
    | succ k'=>have:=h4 k' o'' (by simpa using h5) h6;omega
  . by_cases ho:o.dst=some t
    . refine .inl ⟨0,o,by rw [h1];simp [ho],rfl,ho,fun k' o'' h5 h6=>?_⟩
      cases k' with
      | zero=>omega
      | succ k'=>exact absurd h6 (h2 k' o'' (by simpa using h5))
    . refine .inr ⟨by rw [h1];simp [ho],fun k o'' h5=>?_⟩
      cases k with
      | zero=>simp at h5;rw [<- h5];exact ho
      | succ k=>exact h2 k o'' (by simpa using h5)
theorem zP9 (l:List CVal) (k v:Nat) (x:CVal) (hk:k<l.length):nth (zBw l k x) v=if v=k then x else nth l v:=by
 rw [zLk,getElem?_setNth]
 by_cases h:k=v
 . subst h;simp [hk]
 . rw [if_neg (fun hh=>h hh.1),if_neg (fun e=>h e.symm),zLk]
theorem zOf (n:Nat) (vals:List CVal) (l:List Oper):∀ (vars:List Tmp) (k:Nat) (tm:List CVal),k+vars.length<=tm.length->(zBu n vals tm (zJf l vars k)).length=tm.length /\
    ∀ v,nth (zBu n vals tm (zJf l vars k)) v=match (if k<=v then vars[v - k]? else none) with
     | some t=>(match zGi t l 0 none with
      | some i=>nth vals (n - 1 - i)
      | none=>nth tm v)
     | none=>nth tm v
 | [],k,tm,_=>by
  refine ⟨rfl,fun v=>?_⟩
  simp [zJf,zBu]
 | t::vars,k,tm,hl=>by
  simp only [List.length_cons] at hl
  simp only [zJf]
  cases hd:zGi t l 0 none with
  | some i =>
   simp only [zBu]
   obtain ⟨h1,h2⟩:=zOf n vals l vars (k+1) (zBw tm k (nth vals (n - 1 - i))) (by rw [zDr];omega)
   refine ⟨by rw [h1,zDr],fun v=>?_⟩
   rw [h2 v,zP9 _ _ _ _ (by omega)]
   rcases Nat.lt_trichotomy v k with h3 | h3 | h3
   . rw [if_neg (show ¬ k+1<=v by omega),if_neg (show ¬ k<=v by omega),if_neg (show ¬ v=k by omega)]
   . subst h3
     rw [if_neg (show ¬ v+1<=v by omega),if_pos (Nat.le_refl v),if_pos rfl]
     simp [hd]
   . rw [if_pos (show k+1<=v by omega),if_pos (show k<=v by omega),show v - k=(v - (k+1))+1 by omega,List.getElem?_cons_succ,if_neg (show ¬ v=k by omega)]
  | none =>
   simp only
   obtain ⟨h1,h2⟩:=zOf n vals l vars (k+1) tm (by omega)
   refine ⟨h1,fun v=>?_⟩
   rw [h2 v]
   rcases Nat.lt_trichotomy v k with h3 | h3 | h3
   . rw [if_neg (show ¬ k+1<=v by omega),if_neg (show ¬ k<=v by omega)]
   . subst h3
     rw [if_neg (show ¬ v+1<=v by omega),if_pos (Nat.le_refl v)]
     simp [hd]
   . rw [if_pos (show k+1<=v by omega),if_pos (show k<=v by omega),show v - k=(v - (k+1))+1 by omega,List.getElem?_cons_succ]
theorem zUl (C:CopAt E rg ops cs) (R:Run cf tm id cs tr r) (A:AR E G0 tm (tr 0).defs a0) (hsw:∀ a b,sw=[(a,b)]->isW cs a=true/\a<b) {S:Nat->Bool} {a:Act} {w:World} (hS:∀ i,i<ops.size->S i=true) (HJ:J base ops cf tm id cs tr r sw G0 h0 w0 a0 S a w) :
    ∃ G,Post base (fun k=>id<=k) G0 h0 w0 G (tr cs.length).h w/\AR E G (zBu cs.length (tr cs.length).vals tm (wbOf E.vars ops.toList)) (tr cs.length).defs a:=by
 obtain ⟨G,h,ds,hH,hP,hT,hD,hsz⟩:=HJ
 have hall:∀ j,isW cs j=true->S j=true:=fun j hj=>hS j (by rw [<- C.len];exact zO0 hj)
 have heq:h=(tr cs.length).h/\ds=(tr cs.length).defs:=by
  rcases hH with ⟨m,hm,hsm,rfl,rfl⟩ | ⟨x,b,he,hsm,_⟩
  . have:=R.same hm (Nat.le_refl _) (fun k h1 h2=>by
     rcases Bool.eq_false_or_eq_true (isW cs k) with h3 | h3
     . have:=(hsm k h3).1 (hall k h3);omega
     . exact h3)
    exact ⟨this.1.symm,this.2.symm⟩
  . obtain ⟨h1,h2⟩:=hsw x b he
    have:=(hsm x h1).1 (hall x h1)
    omega
 obtain ⟨rfl,rfl⟩:=heq
 refine ⟨G,hP.mono fun k ⟨j,_,hj⟩=>by omega,?_,?_,?_,hD,fun g cs hc=>(A.glob g cs hc).mono hP.le⟩
 . rw [hsz];exact A.size
 . rw [wbOf,(zOf _ _ _ _ _ _ (by rw [A.len];omega)).1];exact A.len
 . intro t v hv
   obtain ⟨k,hk,hvk⟩:=zFo hv
   rw [Nat.zero_add] at hk
   subst hk
   rw [wbOf,(zOf _ _ _ _ _ _ (by rw [A.len];omega)).2 v,if_pos (Nat.zero_le _),Nat.sub_zero,hvk]
   simp only
   rcases zI6 t ops.toList 0 none with ⟨k,o,h1,h2,h3,h4⟩ | ⟨h1,h2⟩
   . rw [h1,Nat.zero_add]
     simp only
     rw [Array.getElem?_toList] at h2
     have hk:k<ops.size:=(Array.getElem?_eq_some_iff.1 h2).1
     have hc:=C.len
     rw [R.nth cs.length _ (Nat.le_refl _) (by omega),show cs.length - 1 - (cs.length - 1 - k)=k by omega]
     refine (hT.new t k ⟨hS k hk,by simp [zFb,h2,h3],fun m _ hmd=>?_⟩).1
     unfold zFb at hmd
     cases hom:ops[m]? with
     | none=>rw [hom] at hmd;cases hmd
     | some om =>
      rw [hom] at hmd
      exact h4 m om (by rw [Array.getElem?_toList];exact hom) hmd
   . rw [h1]
     simp only
     rw [hT.old t (fun j _ hd=>?_)]
     . exact (A.val t v hv).mono hP.le
     . unfold zFb at hd
       cases hom:ops[j]? with
       | none=>rw [hom] at hd;cases hd
       | some om =>
        rw [hom] at hd
        exact h2 j om (by rw [Array.getElem?_toList];exact hom) hd
end
end Go.CI
