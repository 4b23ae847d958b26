/- A deterministic interpreter over values, proved sound against the model's rules (part 6 of 7): what a run of it gives, a call in the model gives. -/
import Derived.Test.YtafeofghkhhhkaaGreatCi5
import Derived.ChangeSame
import Derived.Below
import Derived.Shelf.Strings.Builder1
set_option linter.unusedVariables false
set_option linter.unusedSimpArgs false
namespace Go.CI
open Go.RowKit
inductive CTree where
 | leaf (i:Nat) (fn:CFn)
 | node (m:Nat) (a b:CTree)
def CTree.get:CTree->Nat->Option CFn
 | .leaf i fn,f=>bif Nat.beq f i then some fn else none
 | .node m a b,f=>bif Nat.blt f m then a.get f else b.get f
def CTree.All (p:Nat->CFn->Prop):CTree->Prop
 | .leaf i fn=>p i fn
 | .node _ a b=>a.All p/\b.All p
theorem CTree.get_all {p:Nat->CFn->Prop} {t:CTree} (h:t.All p) {f:Nat} {fn:CFn} (hg:t.get f=some fn):p f fn:=by
 induction t with
 | leaf i x =>
  have hg:(bif Nat.beq f i then some x else none)=some fn:=hg
  cases hb:Nat.beq f i with
  | true=>rw [hb] at hg;cases hg;have:=Nat.eq_of_beq_eq_true hb;subst this;exact h
  | false=>rw [hb] at hg;cases hg
 | node m a b iha ihb =>
  have hg:(bif Nat.blt f m then a.get f else b.get f)=some fn:=hg
  cases hb:Nat.blt f m with
  | true=>rw [hb] at hg;exact iha h.1 hg
  | false=>rw [hb] at hg;exact ihb h.2 hg
section
variable {P:Program}
def zUd (P:Program) (H:Hints) (base:Base) (f:Nat):CFn->Prop
 | .ir fn=>zAb P H f=some fn
 | .prim p=>zHt P base f p
theorem TOk.of_tree {H:Hints} {base:Base} {t:CTree} (h:t.All (zUd P H base)):TOk P H base t.get :=
 ⟨fun f fn hf=>CTree.get_all h hf,fun f p hf=>CTree.get_all (p:=zUd P H base) h hf⟩
def zL9:Option (CVal × CHeap)->Bool
 | some (.bool b,_)=>b
 | _=>false
end
section
open Go.ChangeShapes Go.WideShapes
variable {H:Type} {enc:TypeId × Value->H} {P:Program}
theorem post_of_below {f:Func} {s:ChangeSpec} {apart fresh handsOn again:Bool} {W W':World} {args:Array Value} {v:Value} {ds gs:List (DataW H)} {before pa pv:List MemPlace}
    (hW:DataW.Whole enc P f.params.toList s.vars apart W args.toList ds gs before)
    (hres:∀ (b:Nat) (sp:Nat->Bool) (hd:Bool),DataW.TrodAll enc P W' b sp hd f.resultTypes.toList (v.resultList f.resultTypes.size) (s.fn H (ds++gs)).results [])
    (hargs:∀ sp:Nat->Bool,(∀ p ∈ before,sp p.block=true)->DataW.TrodAll enc P W' 0 sp true f.params.toList args.toList (s.fn H (ds++gs)).args pa)
    (hvars:∀ sp:Nat->Bool,(∀ p ∈ before,sp p.block=true)->DataW.TrodVars enc P W' sp s.vars (s.fn H (ds++gs)).vars pv)
    (hps:before=pa++pv) (hb:Below W.heap.size W W')
    (hok:∀ (j:Nat) (t:TypeId) (r:Value),f.resultTypes[j]? = some t->(v.resultList f.resultTypes.size)[j]? = some r->Value.okWide P W' .any 0 t r) :
    s.post enc P f apart fresh handsOn again W args v W':=by
 have hold:∀ p ∈ before,(fun b=>decide (b<W.heap.size)) p.block=true:=fun p hp=>by simpa using hW.lt p hp
 have hlt:=hW.lt
 refine ⟨ds,gs,before,[],pa,pv,hW,hres _ _ _,hargs _ hold,hvars _ hold,World.keptBut_mono (fun p hp=>⟨hp,?_⟩) (hb.frame (· ∈ before)),fun _=>?_⟩
 . rw [hps,List.mem_append] at hp
   exact Or.inr hp
 . obtain ⟨_,_,_,_,_,hz,hn⟩:=hW
   refine ⟨hok,_,_,([]++pa)++pv,⟨[]++pa,pv,trodAll_append (hargs _ (fun _ _=>rfl)) (hres _ _ _),hvars _ (fun _ _=>rfl),rfl,?_,?_⟩,?_⟩
   . intro b off hp
     have hm:MemPlace.cell b off ∈ before:=by rw [hps];simpa using hp
     have hfr:W'.frozen? ⟨b,off,none⟩=W.frozen? ⟨b,off,none⟩:=hb.frozen (by have:=hlt _ hm;exact this)
     rw [hfr]
     exact hz b off hm
   . intro ha
     have:=hn ha
     rw [hps] at this
     simpa using this
   . intro p hp _
     rw [hps]
     simpa using hp
end
section
variable {P:Program}
theorem zLg {t:TypeId} {k:Nat} (h:(P.info? t).map (·.size)=some k) (w:World):(Go.sizeOf t).run P w=.ok k w:=by
 obtain ⟨i,h1,h2⟩:=Option.map_eq_some_iff.1 h
 rw [zCe h1,h2]
theorem zNh {t:TypeId} {z:Value} (h:(P.info? t).map (·.zero)=some (some z)) (w:World):(zeroValue t).run P w=.ok z w:=by
 obtain ⟨i,h1,h2⟩:=Option.map_eq_some_iff.1 h
 exact zGa h1 h2
theorem InsLay.of {ρ:Go.Shelf.Ren} {nm:String} {k by_:Nat} {z:Value} {fm:Func} (mixed:P.follows .mixedOrders=true) (f22:P.funcs[ρ.f 22]? = some { Go.Proofs.Body2.n22 ρ with name:=nm })
    (f29 : P.funcs[ρ.f 29]? = some fm) (h2 : (fm.name == "runtime.NumGoroutine") = false) (h3 : fm.body.isNone = true) (h4 : Extern.findNext fm = none) (h5 : Extern.find fm = some (Extern.SlicesOverlaps.overlaps #[ρ.t 24, ρ.t 24] #[ρ.t 4]))
    (t0:P.underlying (ρ.t 0)=some (TypeDesc.tuple #[])) (t3:P.underlying (ρ.t 3)=some (TypeDesc.int IntKind.i64)) (t4:P.underlying (ρ.t 4)=some (TypeDesc.bool)) (t24:P.underlying (ρ.t 24)=some (TypeDesc.slice (ρ.t 9)))
    (s3:(P.info? (ρ.t 3)).map (·.size)=some 1) (s4:(P.info? (ρ.t 4)).map (·.size)=some 1) (s24:(P.info? (ρ.t 24)).map (·.size)=some 1)
    (z3:(P.info? (ρ.t 3)).map (·.zero)=some (some (Value.int IntKind.i64 0))) (z4:(P.info? (ρ.t 4)).map (·.zero)=some (some (Value.bool false))) (z24:(P.info? (ρ.t 24)).map (·.zero)=some (some (Value.slice none 0 0)))
    (i9:(P.info? (ρ.t 9)).map (fun i=>(i.zero,i.size,i.bytes))=some (some z,k,by_)) (k0:0<k):InsLay P ρ nm k z by_ where
 mixed:=mixed
 f22:=f22
 ov args w:=run_callFunc_extern f29 h2 h3 h4 h5 args w
 t0:=t0
 t3:=t3
 a3 w:=zMa t3
 z3:=zLg s3
 v3:=zNh z3
 t4:=t4
 a4 w:=zMa t4
 z4:=zLg s4
 v4:=zNh z4
 z9:=zLg (by
  obtain ⟨i,h1,h2⟩:=Option.map_eq_some_iff.1 i9
  have h3:=congrArg (fun x:Option Value × Nat × Nat=>x.2.1) h2
  rw [h1];exact congrArg some h3)
 t24:=t24
 a24 w:=zMa t24
 z24:=zLg s24
 v24:=zNh z24
 i9:=i9
 k0:=k0
end
end Go.CI
namespace Go.CI
def zNi:List (Nat × Nat)->Nat->Nat->Bool
 | [],_,_=>false
 | (a,b)::r,x,y=>(a == x && b == y) || zNi r x y
def zPf (oks:List (Nat × Nat)) (xs:List CVal) (h:CHeap):Option (CVal × CHeap) :=
 match xs with
 | [.ptr b d o]=>if zNi oks d o then match h.get b with
  | some (.cells cs)=>match nth cs o with
   | .nilp=>some (.tup [],h.set b (.cells (setCells cs o [.ptr b d o])))
   | .ptr b' d' o'=>if b' == b && (d' == d && o' == o) then some (.tup [],h) else none
   | _=>none
  | _=>none else none
 | _=>none
def zLf:List CVal->Option (List UInt8)
 | []=>some []
 | .int .u8 n::r=>if decide (0<=n) && decide (n<256) then (zLf r).map (UInt8.ofNat n.toNat::·) else none
 | _=>none
def rowOf:Option CObj->Option (Nat × List CVal)
 | some (.row v es)=>some (v,es)
 | some (.frow v es)=>some (v,es)
 | _=>none
def zTn (T:Nat) (xs:List CVal) (h:CHeap):Option (CVal × CHeap) :=
 match xs with
 | [.ptr b d o]=>match h.get b with
  | some (.cells cs)=>match nth cs (o+1) with
   | .nils=>some (.str [],h)
   | .ref r ver 1 off len=>match rowOf (h.get r) with
    | some (v,es)=>if v == ver && (decide (off+len<=es.length) && (decide (0<len) && (decide (len<=zB7) && (h.ty r == some T)))) then (zLf (cut off (off+len) es)).map fun l=>(.str l,h.set r (.frow v es)) else none
    | _=>none
   | _=>none
  | _=>none
 | _=>none
def zMy (T:Nat) (xs:List CVal) (h:CHeap):Option (CVal × CHeap) :=
 match xs with
 | [.int .i64 n]=>if decide (0<=n) && decide (n<=zB7) then some (.ref h.next 0 1 0 n.toNat,(({ h with next:=h.next+1 }:CHeap).put h.next (.row 0 [])).note h.next (T+1)) else none
 | _=>none
def zKk:List UInt8->List UInt8->Bool
 | _,[]=>true
 | [],_::_=>false
 | a::x,b::y=>a == b && zKk x y
def zQe (p:List UInt8):List UInt8->Nat->Int
 | [],i=>match p with
  | []=>i
  | _::_=>-1
 | a::r,i=>bif zKk (a::r) p then i else zQe p r (i+1)
def zXb (xs:List CVal) (h:CHeap):Option (CVal × CHeap) :=
 match xs with
 | [.str s,.str p]=>if decide (s.length<4294967281) then some (.int .i64 (zQe p s 0),h) else none
 | _=>none
end Go.CI
namespace Go.CI
noncomputable def bF (b:Bool):(β:Type)->β->β->β:=@Bool.rec.{2} (fun _=>(β:Type)->β->β->β) (fun _ _ y=>y) (fun _ x _=>x) b
theorem zX4 (b:Bool) (β:Type) (x y:β):bF b β x y=if b then x else y:=by cases b <;> rfl
noncomputable def CTree.getF (t:CTree):Nat->Option CFn :=
 @CTree.rec.{1} (fun _=>Nat->Option CFn) (fun i fn f=>bF (Nat.beq f i) (Option CFn) (some fn) none) (fun m _ _ a b f=>bF (Nat.blt f m) (Option CFn) (a f) (b f)) t
abbrev zY2 (T:Nat->Option CFn) (n f:Nat) (args:List CVal) (h:CHeap):=crun T n f args h
theorem zSf (T:Nat->Option CFn) (n f:Nat) (args:List CVal) (h:CHeap):zY2 T n f args h=crun T n f args h:=rfl
end Go.CI
namespace Go.CI
theorem CTree.getF_eq (t:CTree) (f:Nat):t.getF f=t.get f:=by
 induction t with
 | leaf i fn=>show bF (Nat.beq f i) (Option CFn) (some fn) none=_;rw [zX4];simp only [CTree.get];cases Nat.beq f i <;> rfl
 | node m a b iha ihb=>show bF (Nat.blt f m) (Option CFn) (a.getF f) (b.getF f)=_;rw [zX4,iha,ihb];simp only [CTree.get];cases Nat.blt f m <;> rfl
end Go.CI
namespace Go.CI
open Go.Shelf Go.RowKit Go.Lib Go.Proofs
section
variable {P:Program} {ρ:Ren}
set_option maxHeartbeats 1000000 in
set_option maxRecDepth 100000 in
set_option maxHeartbeats 1000000 in
set_option maxRecDepth 100000 in
end
section
variable {P:Program} {ρ:Ren}
set_option maxHeartbeats 2000000 in
set_option maxRecDepth 100000 in
set_option maxHeartbeats 2000000 in
set_option maxRecDepth 100000 in
end
section
variable {P:Program} {base:Base} {G:Gh} {h:CHeap} {w:World} {ρ:Ren}
end
end Go.CI
