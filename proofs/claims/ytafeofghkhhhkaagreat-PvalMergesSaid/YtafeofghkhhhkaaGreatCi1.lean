/- A deterministic interpreter over values, proved sound against the model's rules (part 1 of 7): what a run of it gives, a call in the model gives. -/
import GoSem.Core.Code
import GoSem.Core.View
import GoSem.Op.Equal
import GoSem.Core.Region
import Derived.Below
import Derived.Laws.World
import Derived.Laws.Sem
import Derived.Laws.Cells
import Derived.Laws.Entries
set_option linter.unusedVariables false
set_option linter.unusedSimpArgs false
namespace Go.CI
def zG2:Bool:=true
inductive Tag where
 | none
 | full
 | own (id ver:Nat)
 deriving DecidableEq,Repr
inductive CVal where
 | undef
 | bool (b:Bool)
 | int (k:IntKind) (n:Int)
 | str (s:List UInt8)
 | nilp
 | ptr (b sz o:Nat)
 | cptr (cs:List CVal) (o:Nat)
 | eptr (b ver i o:Nat)
 | nils
 | imm (t:Tag) (k:Nat) (es:List CVal)
 | ref (b ver k off len:Nat)
 | nilm
 | map (b:Nat)
 | fn (f:Fn) (first cap:List CVal)
 | nilf
 | ifc (t:TypeId) (v:CVal)
 | nili
 | agg (cs:List CVal)
 | tup (vs:List CVal)
 deriving Repr,Inhabited
def CVal.cells:CVal->List CVal
 | .agg cs=>cs
 | v=>[v]
def CVal.strip:CVal->CVal
 | .imm (.own _ _) k es=>.imm .none k es
 | v=>v
def CVal.flat:CVal->Bool
 | .undef=>false
 | .agg _=>false
 | .tup _=>false
 | _=>true
def CVal.whole:CVal->Bool
 | .undef=>false
 | .tup _=>false
 | _=>true
def CVal.bare:CVal->CVal
 | .agg cs=>.agg (cs.map CVal.strip)
 | .tup vs=>.tup (vs.map fun v=>match v with | .agg cs=>.agg (cs.map CVal.strip) | v=>v.strip)
 | v=>v.strip
inductive CObj where
 | cells (cs:List CVal)
 | row (ver:Nat) (es:List CVal)
 | tok (ver:Nat)
 | frow (ver : Nat) (es : List CVal)     -- a row that nobody writes any more
 | map (clock : Nat) (es : List (Nat × CVal × CVal))     -- when it came in, key, value
 deriving Repr,Inhabited
structure CHeap where
 ents:List (Nat × CObj)
 next:Nat
 tys : List (Nat × Nat) := []      -- of some rows: the type of their elements
 deriving Repr,Inhabited
def zA1:List (Nat × CObj)->Nat->Option CObj
 | [],_=>none
 | (i,o)::r,b=>if i == b then some o else zA1 r b
def zA2:List (Nat × CObj)->Nat->CObj->List (Nat × CObj)
 | [],_,_=>[]
 | (i,o)::r,b,x=>if i == b then (i,x)::r else (i,o)::zA2 r b x
def zBe:List (Nat × CObj)->Nat->List (Nat × CObj)
 | [],_=>[]
 | (i,o)::r,n=>if n<=i then zBe r n else (i,o)::r
def zA5:List (Nat × CObj)->Nat->List (Nat × CObj)
 | [],_=>[]
 | (i,o)::r,n=>if n<=i then (match o with | .cells _=>zA5 r n | _=>(i,o)::zA5 r n) else (i,o)::r
def CHeap.get (h:CHeap) (b:Nat):Option CObj:=zA1 h.ents b
def CHeap.set (h:CHeap) (b:Nat) (o:CObj):CHeap:={ h with ents:=zA2 h.ents b o }
def CHeap.put (h:CHeap) (b:Nat) (o:CObj):CHeap:={ h with ents:=(b,o)::h.ents }
def zCy:List (Nat × Nat)->Nat->Option Nat
 | [],_=>none
 | (i,t)::r,b=>if i == b then some t else zCy r b
def CHeap.ty (h:CHeap) (b:Nat):Option Nat:=zCy h.tys b
def CHeap.note (h:CHeap) (b T:Nat):CHeap:=match T with
 | 0=>h
 | t+1=>{ h with tys:=(b,t)::h.tys }
def CHeap.tyOk (h:CHeap) (b T:Nat):Bool:=match h.ty b with
 | none=>true
 | some t=>T == t+1
def CHeap.bump (h:CHeap) (n:Nat):CHeap:={ h with next:=n }
inductive COpnd where
 | loc (i:Nat)
 | var (j:Nat)
 | const (v:CVal)
 deriving Repr,Inhabited
inductive SMode where
 | imm | ref
 deriving DecidableEq,Repr
inductive EqK where
 | bool | slc | ptr | map | fn | ifc
 deriving DecidableEq,Repr,Inhabited
def zBn:Nat:=1048576
def descOf (T k:Nat):Nat:=(T+1) * zBn+k
def szOf (d:Nat):Nat:=d % zBn
def tyOf (d:Nat):Nat:=d / zBn - 1
theorem zGx {T k:Nat} (h:k<zBn):szOf (descOf T k)=k:=by unfold szOf descOf;rw [Nat.add_comm,Nat.add_mul_mod_self_right];exact Nat.mod_eq_of_lt h
theorem zQ6 {T k:Nat} (h:k<zBn):tyOf (descOf T k)=T:=by
 unfold tyOf descOf
 rw [Nat.mul_comm,Nat.mul_add_div (by decide),Nat.div_eq_of_lt h];rfl
theorem zPp {T k:Nat}:descOf T k≠0:=by unfold descOf zBn;omega
inductive KeyK where
 | int (k:IntKind)
 | str
 | bool
 deriving DecidableEq,Repr
inductive XOp where
 | mkmap
 | mset (kk:KeyK)
 | mentry (kk:KeyK) (z:CVal)
 | mestore
 | mdel (kk:KeyK)
 | clear (agg:Bool) (z:List CVal)
 | apmake (T : Nat) (agg : Bool) (z : List CVal)     -- append(nil, make(..)...)
 | slc3 (k : Nat)     -- s[i:j:k], whose elements nobody asks
 deriving Repr
inductive EqC where
 | int | str | bool
 deriving DecidableEq,Repr
inductive XL where
 | mlook (kk:KeyK) (ok:Bool) (z:CVal)
 | mlen
 | cap
 | slcx (k : Nat)     -- s[i:j], maybe behind its length: of a row
 | ieq (neg : Bool) (ts : List (Nat × IntKind))     -- interface values; the dynamic types that may be asked
 | aeq (neg : Bool) (fs : List (EqC × Nat))     -- structs of plain cells: which, where
 deriving Repr
inductive COp where
 | mv (x:COpnd)
 | pick (c a b:COpnd)
 | alloc (T:Nat) (z:List CVal)
 | lazy (k:Nat)
 | box (T:Nat) (x:COpnd)
 | build (z:List CVal) (parts:List (Nat × Nat × COpnd))
 | lit (m:SMode) (agg:Bool) (z:List CVal) (len:Nat) (parts:List (Nat × COpnd))
 | load (k:Option Nat) (a:COpnd)
 | store (k:Nat) (a x:COpnd)
 | init (k:Nat) (a x:COpnd)
 | nilck (x:COpnd)
 | bin (b:BinOp) (x y:COpnd)
 | eqv (e:EqK) (neg:Bool) (x y:COpnd)
 | not (x:COpnd)
 | neg (x:COpnd)
 | cpl (x:COpnd)
 | conv (k:IntKind) (x:COpnd)
 | same (x:COpnd)
 | s2b (m:SMode) (x:COpnd)
 | b2s (x:COpnd)
 | ifc (t:TypeId) (x:COpnd)
 | mkfn (f:Fn) (first cap:List COpnd)
 | fieldAddr (off:Nat) (x:COpnd)
 | fieldOf (off:Nat) (k:Option Nat) (x:COpnd)
 | idxAddr (k:Nat) (x i:COpnd)
 | arrAddr (n k:Nat) (x i:COpnd)
 | idxStr (x i:COpnd)
 | slc (k:Nat) (x:COpnd) (lo hi:Option COpnd)
 | len (str:Bool) (x:COpnd)
 | append (m:SMode) (T:Nat) (k:Nat) (x y:COpnd)
 | copy (k:Nat) (x y:COpnd)
 | mkslice (m:SMode) (agg:Bool) (z:List CVal) (l c:COpnd)
 | extract (i:Nat) (x:COpnd)
 | call (keep:Bool) (f:Nat) (args:List COpnd)
 | callv (keep:Bool) (x:COpnd) (args:List COpnd)
 | defer (x:COpnd) (args:List COpnd)
 | minmax (mx:Bool) (x y:COpnd)
 | ext (k:XOp) (args:List COpnd)
 | extl (k:XL) (args:List COpnd)
 | stuck
 deriving Repr,Inhabited
structure COper where
 op:COp
 guard:Option (Nat × Bool)
 deriving Repr,Inhabited
inductive CCode where
 | skip
 | region (ops:List COper) (wb:List (Nat × Nat)) (chk:List (Nat × Nat × Nat)) (sw:List (Nat × Nat))
 | seq (a b:CCode)
 | cond (c:COpnd) (a b:CCode)
 | block (id:Nat) (body:CCode)
 | loop (drop:Bool) (body:CCode)
 | exit (id:Nat)
 | ret
 | stuck
 deriving Repr,Inhabited
inductive CRes where
 | var (j:Nat)
 | cell (j:Nat) (k:Option Nat)
 deriving Repr,Inhabited
structure CFunc where
 nargs:Nat
 nvars:Nat
 params : List (Option Nat)     -- of each variable: the argument that it begins with
 results:List CRes
 body:CCode
 keep:Bool
 frz:Bool
 deriving Repr,Inhabited
structure CSt where
 tm:List CVal
 h:CHeap
 defs:List (Nat × List CVal)
 deriving Repr,Inhabited
inductive CExit where
 | normal | exit (id:Nat) | ret
 deriving Repr,DecidableEq
end Go.CI
namespace Go.CI
def nth:List CVal->Nat->CVal
 | [],_=>.undef
 | v::_,0=>v
 | _::r,i+1=>nth r i
def zBw:List CVal->Nat->CVal->List CVal
 | [],_,_=>[]
 | _::r,0,x=>x::r
 | v::r,i+1,x=>v::zBw r i x
mutual
def CVal.beq:CVal->CVal->Bool
 | .undef,.undef=>true
 | .bool a,.bool b=>a == b
 | .int k a,.int l b=>decide (k=l) && decide (a=b)
 | .str a,.str b=>decide (a=b)
 | .nilp,.nilp=>true
 | .ptr a b c,.ptr d e f=>decide (a=d) && decide (b=e) && decide (c=f)
 | .cptr a b,.cptr c d=>beqs a c && decide (b=d)
 | .eptr a b c d,.eptr e f g h=>decide (a=e) && decide (b=f) && decide (c=g) && decide (d=h)
 | .nils,.nils=>true
 | .imm a k b,.imm c l d=>decide (a=c) && decide (k=l) && beqs b d
 | .ref a b k c d,.ref e f l g h=>decide (a=e) && decide (b=f) && decide (k=l) && decide (c=g) && decide (d=h)
 | .nilm,.nilm=>true
 | .map a,.map b=>decide (a=b)
 | .fn a b c,.fn d e f=>decide (a=d) && beqs b e && beqs c f
 | .nilf,.nilf=>true
 | .ifc a b,.ifc c d=>decide (a=c) && CVal.beq b d
 | .nili,.nili=>true
 | .agg a,.agg b=>beqs a b
 | .tup a,.tup b=>beqs a b
 | _,_=>false
def beqs:List CVal->List CVal->Bool
 | [],[]=>true
 | a::x,b::y=>CVal.beq a b && beqs x y
 | _,_=>false
end
def zAq (tm vals:List CVal):COpnd->CVal
 | .loc i=>nth vals i
 | .var j=>nth tm j
 | .const v=>v
def zCp:List UInt8->List UInt8->Bool
 | _,[]=>false
 | [],_::_=>true
 | a::x,b::y=>a<b || (a == b && zCp x y)
def zD0 (b:BinOp) (k:IntKind) (x y:Int):Option CVal :=
 let p:=BitVec.ofInt k.bits x
 let q:=BitVec.ofInt k.bits y
 match b with
 | .and=>some (.int k (k.wrap (p &&& q).toNat))
 | .or=>some (.int k (k.wrap (p ||| q).toNat))
 | .xor=>some (.int k (k.wrap (p ^^^ q).toNat))
 | .andNot=>some (.int k (k.wrap (p &&& ~~~q).toNat))
 | _=>none
def zHn (b:BinOp) (k:IntKind) (x y:Int):Option CVal :=
 match b with
 | .add=>some (.int k (k.wrap (x+y)))
 | .sub=>some (.int k (k.wrap (x - y)))
 | .mul=>some (.int k (k.wrap (x * y)))
 | .quo=>if y=0 then none else some (.int k (k.wrap (x.tdiv y)))
 | .rem=>if y=0 then none else some (.int k (x.tmod y))
 | .eql=>some (.bool (x == y))
 | .neq=>some (.bool (x != y))
 | .lss=>some (.bool (decide (x<y)))
 | .leq=>some (.bool (decide (x<=y)))
 | .gtr=>some (.bool (decide (x > y)))
 | .geq=>some (.bool (decide (x >= y)))
 | b=>zD0 b k x y
def zL7 (b:BinOp) (x y:List UInt8):Option CVal :=
 match b with
 | .add=>if x.length+y.length<4611686018427387904 then some (.str (x++y)) else none
 | .eql=>some (.bool (x == y))
 | .neq=>some (.bool (!(x == y)))
 | .lss=>some (.bool (zCp x y))
 | .leq=>some (.bool (zCp x y || x == y))
 | .gtr=>some (.bool (!(zCp x y || x == y)))
 | .geq=>some (.bool (!zCp x y))
 | _=>none
def zHp (b:BinOp) (x y:CVal):Option CVal :=
 match b,x,y with
 | .shl,.int k a,.int _ n=>if n<0 then none else some (.int k (k.wrap (a * 2 ^ (min n.toNat k.bits))))
 | .shr,.int k a,.int _ n=>if n<0 then none else some (.int k (a.fdiv (2 ^ (min n.toNat k.bits))))
 | b,.int k a,.int l c=>if k=l then zHn b k a c else none
 | b,.str a,.str c=>zL7 b a c
 | _,_,_=>none
def zL8:EqK->CVal->CVal->Option Bool
 | .bool,.bool a,.bool b=>some (a == b)
 | .slc,.nils,.nils=>some true
 | .slc,.nils,.imm _ _ _=>some false
 | .slc,.nils,.ref _ _ _ _ _=>some false
 | .slc,.imm _ _ _,.nils=>some false
 | .slc,.ref _ _ _ _ _,.nils=>some false
 | .ptr,.nilp,.nilp=>some true
 | .ptr,.nilp,.ptr _ _ _=>some false
 | .ptr,.ptr _ _ _,.nilp=>some false
 | .map,.nilm,.nilm=>some true
 | .fn,.nilf,.nilf=>some true
 | .fn,.nilf,.fn _ _ _=>some false
 | .fn,.fn _ _ _,.nilf=>some false
 | .ifc,.nili,.nili=>some true
 | .ifc,.nili,.ifc _ _=>some false
 | .ifc,.ifc _ _,.nili=>some false
 | _,_,_=>none
def zE0:List CVal->List (Nat × Nat × CVal)->Option (List CVal)
 | cs,[]=>some cs
 | cs,(off,size,v)::r =>
  if v.whole && (v.cells.length=size && decide (off+size<=cs.length)) then zE0 (cs.take off++(v.cells++cs.drop (off+size))) r else none
def zD2 (k:Nat):List CVal->List (Nat × CVal)->Option (List CVal)
 | es,[]=>some es
 | es,(i,v)::r=>if v.whole && (v.cells.length=k && decide (i<es.length)) then zD2 k (zBw es i v) r else none
def zBk (agg:Bool) (z:List CVal):CVal:=if agg then .agg z else nth z 0
def CVal.lenOf:CVal->Option Nat
 | .str s=>some s.length
 | .nils=>some 0
 | .imm _ _ es=>some es.length
 | .ref _ _ _ _ n=>some n
 | _=>none
def CVal.isStr:CVal->Bool
 | .str _=>true
 | _=>false
def cut {α:Type} (lo hi:Nat) (l:List α):List α:=(l.take hi).drop lo
def zCx (d:Nat):Option CVal->Option Nat
 | none=>some d
 | some (.int _ n)=>if 0<=n then some n.toNat else none
 | _=>none
def zKr (k:Nat) (x:CVal) (lo hi:Option CVal):Option CVal :=
 match x.lenOf with
 | none=>none
 | some n =>
  match zCx n hi with
  | none=>none
  | some h =>
   match zCx 0 lo with
   | none=>none
   | some l =>
    if l<=h && h<=n then
     match x with
     | .str s=>if k=0 then some (.str (cut l h s)) else none
     | .nils=>if k=0 then none else some .nils
     | .imm t k' es=>if k=k' then some (.imm (if h=n then t else .none) k (cut l h es)) else none
     | .ref b ver k' off _=>if k=k' then some (.ref b ver k (off+l) (h - l)) else none
     | _=>none
    else none
def partOf (cs:List CVal) (o:Nat):Option Nat->Option CVal
 | none=>if o<cs.length then some (nth cs o) else none
 | some k=>if o+k<=cs.length then some (.agg (cut o (o+k) cs)) else none
def zGl (ev:COpnd->CVal) (id:Nat):COp->Option CVal
 | .mv x=>some (ev x)
 | .pick c a b=>match ev c with
  | .bool true=>some (ev a)
  | .bool false=>some (ev b)
  | _=>none
 | .lazy k=>some (.ptr id k 0)
 | .build z parts=>(zE0 z (parts.map fun p=>(p.1,p.2.1,ev p.2.2))).map .agg
 | .lit .imm agg z len parts=>(zD2 z.length (List.replicate len (zBk agg z)) (parts.map fun p=>(p.1,(ev p.2).bare))).map (.imm .full z.length)
 | .nilck x=>match ev x with
  | .ptr b s o=>some (.ptr b s o)
  | .cptr cs o=>some (.cptr cs o)
  | .eptr b v i o=>some (.eptr b v i o)
  | _=>none
 | .bin b x y=>zHp b (ev x) (ev y)
 | .eqv e neg x y=>match zL8 e (ev x) (ev y) with
  | some c=>some (.bool (if neg then !c else c))
  | none=>none
 | .not x=>match ev x with
  | .bool b=>some (.bool (!b))
  | _=>none
 | .neg x=>match ev x with
  | .int k n=>some (.int k (k.wrap (0 - n)))
  | _=>none
 | .cpl x=>match ev x with
  | .int k n=>zD0 .xor k (if k.signed then -1 else k.max) n
  | _=>none
 | .conv k x=>match ev x with
  | .int _ n=>some (.int k (k.wrap n))
  | _=>none
 | .same x=>match ev x with
  | .str s=>some (.str s)
  | _=>none
 | .s2b .imm x=>match ev x with
  | .str s=>some (.imm .none 1 (s.map fun b=>.int .u8 b.toNat))
  | _=>none
 | .ifc t x=>some (.ifc t (ev x))
 | .mkfn f first cap=>some (.fn f (first.map ev) (cap.map ev))
 | .fieldAddr off x=>match ev x with
  | .ptr b s o=>some (.ptr b s (o+off))
  | .cptr cs o=>some (.cptr cs (o+off))
  | .eptr b v i o=>some (.eptr b v i (o+off))
  | _=>none
 | .fieldOf off k x=>match ev x with
  | .agg cs=>partOf cs off k
  | _=>none
 | .idxAddr k x i=>match ev x,ev i with
  | .imm _ l es,.int _ n=>if k=l && (decide (0<=n) && decide (n<es.length)) then some (.cptr (nth es n.toNat).cells 0) else none
  | .ref b ver l off len,.int _ n=>if k=l && (decide (0<=n) && decide (n<len)) then some (.eptr b ver (off+n.toNat) 0) else none
  | _,_=>none
 | .arrAddr n k x i=>match ev x,ev i with
  | .ptr b s o,.int _ m=>if decide (0<=m) && decide (m<n) then some (.ptr b s (o+m.toNat * k)) else none
  | .cptr cs o,.int _ m=>if decide (0<=m) && decide (m<n) then some (.cptr cs (o+m.toNat * k)) else none
  | .eptr b v j o,.int _ m=>if decide (0<=m) && decide (m<n) then some (.eptr b v j (o+m.toNat * k)) else none
  | _,_=>none
 | .idxStr x i=>match ev x,ev i with
  | .str s,.int _ n=>if 0<=n then match s[n.toNat]? with
   | some b=>some (.int .u8 b.toNat)
   | none=>none else none
  | _,_=>none
 | .slc k x lo hi=>zKr k (ev x) (lo.map ev) (hi.map ev)
 | .len str x=>if (ev x).isStr=str then (ev x).lenOf.map fun n=>.int .i64 n else none
 | .extract i x=>match ev x with
  | .tup vs=>if i<vs.length then some (nth vs i) else none
  | _=>none
 | .minmax mx x y=>match ev x,ev y with
  | .int k a,.int l b=>if k=l then some (.int k (if mx then (if a<b then b else a) else (if b<a then b else a))) else none
  | _,_=>none
 | _=>none
def bytesOf:List CVal->Option (List UInt8)
 | []=>some []
 | .int .u8 n::r=>(bytesOf r).map (UInt8.ofNat n.toNat::·)
 | _=>none
def elems (h:CHeap) (k:Nat):CVal->Option (List CVal)
 | .nils=>some []
 | .imm _ l es=>if k=l then some es else none
 | .ref b ver l off len=>match h.get b with
  | some (.row v es)=>if k=l && (v=ver && decide (off+len<=es.length)) then some (cut off (off+len) es) else none
  | _=>none
 | .str s=>if k=1 then some (s.map fun b=>.int .u8 b.toNat) else none
 | _=>none
def zG6:KeyK->CVal->Bool
 | .int k,.int l _=>decide (k=l)
 | .str,.str _=>true
 | .bool,.bool _=>true
 | _,_=>false
def zG8 (kk:KeyK) (key:CVal):List (Nat × CVal × CVal)->Option (Option Nat)
 | []=>some none
 | (_,k,_)::r=>if zG6 kk k then (if key.beq k then some (some 0) else match zG8 kk key r with
  | some (some i)=>some (some (i+1))
  | some none=>some none
  | none=>none) else none
def zGn:List (Nat × CVal × CVal)->Nat->Nat × CVal × CVal
 | [],_=>(0,.undef,.undef)
 | x::_,0=>x
 | _::r,i+1=>zGn r i
def zHw:List (Nat × CVal × CVal)->Nat->Nat × CVal × CVal->List (Nat × CVal × CVal)
 | [],_,_=>[]
 | _::r,0,x=>x::r
 | y::r,i+1,x=>y::zHw r i x
def zH6 (b:Int):List (Nat × CVal × CVal)->Option Nat
 | []=>none
 | (n,_,_)::r=>if (n:Int) == b then some 0 else (zH6 b r).map (·+1)
def zPl:List (Nat × IntKind)->Nat->IntKind->Bool
 | [],_,_=>false
 | (t,k)::r,u,l=>(t == u && decide (k=l)) || zPl r u l
def zO8:EqC->CVal->CVal->Option Bool
 | .int,.int k a,.int l b=>if k=l then some (a == b) else none
 | .str,.str a,.str b=>some (a == b)
 | .bool,.bool a,.bool b=>some (a == b)
 | _,_,_=>none
def zJ3 (xs ys:List CVal):List (EqC × Nat)->Option Bool
 | []=>some true
 | (e,o)::r=>match xs[o]?,ys[o]? with
  | some x,some y=>match zO8 e x y with
   | some true=>zJ3 xs ys r
   | some false=>some false
   | none=>none
  | _,_=>none
def extL (h:CHeap):XL->List CVal->Option CVal
 | .mlook kk ok z,[m,k] =>
  if zG6 kk k then
   match m with
   | .nilm=>some (if ok then .tup [z,.bool false] else z)
   | .map b=>match h.get b with
    | some (.map _ es)=>match zG8 kk k es with
     | some (some i)=>let v:=(zGn es i).2.2;some (if ok then .tup [v,.bool true] else v)
     | some none=>some (if ok then .tup [z,.bool false] else z)
     | none=>none
    | _=>none
   | _=>none
  else none
 | .mlen,[.nilm]=>some (.int .i64 0)
 | .mlen,[.map b]=>match h.get b with
  | some (.map _ es)=>some (.int .i64 es.length)
  | _=>none
 | .ieq neg _,[.nili,.ifc _ _]=>some (.bool neg)
 | .ieq neg _,[.ifc _ _,.nili]=>some (.bool neg)
 | .ieq neg ts,[.ifc t (.int k a),.ifc u (.int l b)]=>if t=u then (if zPl ts t k && decide (k=l) then some (.bool (if neg then !(a == b) else a == b)) else none) else some (.bool neg)
 | .aeq neg fs,[.agg xs,.agg ys]=>match zJ3 xs ys fs with
  | some b=>some (.bool (if neg then !b else b))
  | none=>none
 | .slcx k,[.ref b ver l off _,.int _ lo,.int _ hi]=>match h.get b with
  | some (.row v es)=>if k=l && (v=ver && (decide (0<=lo) && (decide (lo<=hi) && decide (off+hi<=es.length)))) then some (.ref b ver k (off+lo.toNat) (hi - lo).toNat) else none
  | _=>none
 | .cap,[.nils]=>some (.int .i64 0)
 | .cap,[.imm .full _ es]=>some (.int .i64 es.length)
 | _,_=>none
def setCells (cs:List CVal) (o:Nat) (v:List CVal):List CVal:=cs.take o++(v++cs.drop (o+v.length))
def zB7:Nat:=1073741824
def extE (h:CHeap) (id:Nat):XOp->List CVal->Option (CVal × CHeap)
 | .mkmap,_=>some (.map id,h.put id (.map 0 []))
 | .mset kk,[.map b,k,v]=>match h.get b with
  | some (.map ck es)=>if zG6 kk k then match zG8 kk k es with
   | some (some i)=>some (.undef,h.set b (.map ck (zHw es i ((zGn es i).1,k,v))))
   | some none=>some (.undef,h.set b (.map (ck+1) (es++[(ck,k,v)])))
   | none=>none else none
  | _=>none
 | .mentry kk z,[.map b,k]=>match h.get b with
  | some (.map ck es)=>if zG6 kk k then match zG8 kk k es with
   | some (some i)=>some (.tup [(zGn es i).2.2,.int .i64 (zGn es i).1],h.set b (.map ck (zHw es i ((zGn es i).1,k,(zGn es i).2.2))))
   | some none=>some (.tup [z,.int .i64 ck],h.set b (.map (ck+1) (es++[(ck,k,z)])))
   | none=>none else none
  | _=>none
 | .mestore,[.map b,.int _ st,v]=>match h.get b with
  | some (.map ck es)=>match zH6 st es with
   | some i=>some (.undef,h.set b (.map ck (zHw es i ((zGn es i).1,(zGn es i).2.1,v))))
   | none=>none
  | _=>none
 | .mdel kk,[.map b,k]=>match h.get b with
  | some (.map ck es)=>if zG6 kk k then match zG8 kk k es with
   | some (some i)=>some (.tup [],h.set b (.map ck (es.eraseIdx i)))
   | some none=>some (.tup [],h.set b (.map ck es))
   | none=>none else none
  | _=>none
 | .clear agg z,[x]=>match x with
  | .nils=>some (.tup [],h)
  | .ref b ver l off len=>match h.get b with
   | some (.row v es)=>if z.length=l && (v=ver && decide (off+len<=es.length)) then some (.tup [],h.set b (.row ver (setCells es off (List.replicate len (zBk agg z))))) else none
   | _=>none
  | _=>none
 | .apmake T agg z,[.nils,.int _ n]=>if decide (0<n) && decide (n<=zB7) then some (.ref id 0 z.length 0 n.toNat,(h.put id (.row 0 (List.replicate n.toNat (zBk agg z)))).note id T) else none
 | .slc3 k,[.ref b ver l off len,.int _ lo,.int _ hi,.int _ mx]=>if k=l && (decide (0<=lo) && (decide (lo<=hi) && (decide (hi<=mx) && decide (mx<=len)))) then some (.ref id 0 k 0 (hi - lo).toNat,h) else none
 | _,_=>none
def zFi (ev:COpnd->CVal) (h:CHeap):COp->Option CVal
 | .load k a=>match ev a with
  | .ptr b _ o=>match h.get b with
   | some (.cells cs)=>partOf cs o k
   | _=>none
  | .cptr cs o=>partOf cs o k
  | .eptr b ver i o=>match h.get b with
   | some (.row v es)=>if v=ver && decide (i<es.length) then partOf (nth es i).cells o k else none
   | _=>none
  | _=>none
 | .b2s x=>if (ev x).isStr then none else match elems h 1 (ev x) with
  | some es=>(bytesOf es).map .str
  | none=>none
 | .extl k args=>extL h k (args.map ev)
 | _=>none
def zHr (e:CVal) (o:Nat) (v:List CVal):CVal :=
 match e with
 | .agg cs=>.agg (setCells cs o v)
 | _=>nth v 0
def zD7 (h:CHeap) (id:Nat) (m:SMode) (T:Nat) (k:Nat) (x:CVal) (ys:List CVal):Option (CVal × CHeap) :=
 match ys with
 | []=>match x with
  | .nils=>some (.nils,h)
  | .imm t l es=>some (.imm t l es,h)
  | .ref b ver l off len=>some (.ref b ver l off len,h)
  | _=>none
 | _::_ =>
  match x with
  | .nils=>if ys.length<=zB7 then match m with
      | .imm=>some (.imm (.own id 0) k ys,h.put id (.tok 0))
      | .ref=>some (.ref id 0 k 0 ys.length,(h.put id (.row 0 ys)).note id T) else none
  | .imm .full l es=>if k=l && decide (es.length+ys.length<=zB7) then match m with
      | .imm=>some (.imm (.own id 0) k (es++ys),h.put id (.tok 0))
      | .ref=>some (.ref id 0 k 0 (es.length+ys.length),(h.put id (.row 0 (es++ys))).note id T) else none
  | .imm (.own i v) l es=>match m,h.get i with
   | .imm,some (.tok u)=>if k=l && (u=v && decide (es.length+ys.length<=zB7)) then some (.imm (.own i (v+1)) k (es++ys),h.set i (.tok (v+1))) else none
   | _,_=>none
  | .ref b ver l off len=>match h.get b with
   | some (.row v es) =>
    if k=l && (v=ver && (decide (off+len<=es.length) && decide (len+ys.length<=zB7))) then
     if off+len+ys.length<=es.length then
      some (.ref b ver k off (len+ys.length),h.set b (.row ver (setCells es (off+len) ys)))
     else if h.tyOk b T then
      some (.ref b (ver+1) k 0 (len+ys.length),h.set b (.row (ver+1) (cut off (off+len) es++ys)))
     else none
    else none
   | _=>none
  | _=>none
def zBq (cf:Nat->List CVal->CHeap->Option (CVal × CHeap)) (ev:COpnd->CVal) (h:CHeap) (id:Nat):COp->Option (CVal × CHeap)
 | .alloc T z=>if z.length<zBn then some (.ptr id (descOf T z.length) 0,h.put id (.cells z)) else none
 | .box T x=>if (ev x).whole && decide ((ev x).cells.length<zBn) then some (.ptr id (descOf T (ev x).cells.length) 0,h.put id (.cells (ev x).cells)) else none
 | .lit .ref agg z len parts =>
  match zD2 z.length (List.replicate len (zBk agg z)) (parts.map fun p=>(p.1,(ev p.2).bare)) with
  | some es=>some (.ref id 0 z.length 0 len,h.put id (.row 0 es))
  | none=>none
 | .s2b .ref x=>if zG2 then none else match ev x with
  | .str s=>some (.ref id 0 1 0 s.length,h.put id (.row 0 (s.map fun b=>.int .u8 b.toNat)))
  | _=>none
 | .store k a x=>if (ev x).whole && decide ((ev x).cells.length=k) then match ev a with
     | .ptr b _ o=>match h.get b with
      | some (.cells cs)=>if o+k<=cs.length then some (.undef,h.set b (.cells (setCells cs o (ev x).cells))) else none
      | _=>none
     | .eptr b ver i o=>match h.get b with
      | some (.row v es) =>
       if v=ver && decide (i<es.length) && decide (o+k<=(nth es i).cells.length) then
        some (.undef,h.set b (.row ver (zBw es i (zHr (nth es i) o (ev x).bare.cells))))
       else none
      | _=>none
     | _=>none else none
 | .init k a x=>if (ev x).whole && decide ((ev x).cells.length=k) then match ev a with
     | .ptr b s o=>if szOf s=k && decide (o=0) then match h.get b with
      | none=>some (.undef,h.put b (.cells (ev x).cells))
      | some _=>none else none
     | _=>none else none
 | .append m T k x y=>match elems h k (ev y) with
  | some ys=>zD7 h id m T k (ev x) (ys.map CVal.bare)
  | none=>none
 | .copy k x y=>match elems h k (ev y),ev x with
  | some ys,.ref b ver l off len=>match h.get b with
   | some (.row v es)=>if k=l && (v=ver && decide (off+len<=es.length)) then
       some (.int .i64 (min ys.length len:Nat),h.set b (.row ver (setCells es off ((ys.take len).map CVal.bare)))) else none
   | _=>none
  | some _,.nils=>some (.int .i64 0,h)
  | _,_=>none
 | .mkslice .ref agg z l c=>match ev l,ev c with
  | .int _ l,.int _ c=>if decide (0<=l) && (decide (l<=c) && decide (c<=zB7)) then
      some (.ref id 0 z.length 0 l.toNat,h.put id (.row 0 (List.replicate c.toNat (zBk agg z)))) else none
  | _,_=>none
 | .mkslice .imm agg z l c=>match ev l,ev c with
  | .int _ l,.int _ c=>if decide (0<=l) && (decide (l=c) && decide (c<=zB7)) then
      some (.imm .full z.length (List.replicate c.toNat (zBk agg z)),h) else none
  | _,_=>none
 | .call keep f args=>cf f (if keep then args.map ev else args.map fun x=>(ev x).bare) h
 | .callv keep x args=>match ev x with
  | .fn (.func f) first cap=>cf f (first++((if keep then args.map ev else args.map fun x=>(ev x).bare)++cap)) h
  | _=>none
 | .ext k args=>extE h id k (args.map ev)
 | _=>none
inductive Cls where
 | p | l | e | d
 deriving DecidableEq,Repr
def COp.cls:COp->Cls
 | .load _ _=>.l
 | .b2s _=>.l
 | .extl _ _=>.l
 | .ext _ _=>.e
 | .alloc _ _=>.e
 | .box _ _=>.e
 | .lit .ref _ _ _ _=>.e
 | .store _ _ _=>.e
 | .init _ _ _=>.e
 | .s2b .ref _=>.e
 | .append _ _ _ _ _=>.e
 | .copy _ _ _=>.e
 | .mkslice _ _ _ _ _=>.e
 | .call _ _ _=>.e
 | .callv _ _ _=>.e
 | .defer _ _=>.d
 | _=>.p
def COp.isStore:COp->Bool
 | .store _ _ _=>true
 | .init _ _ _=>true
 | .ext (.mset _) _=>true
 | .ext .mestore _=>true
 | _=>false
def CVal.isUndef:CVal->Bool
 | .undef=>true
 | _=>false
structure RS where
 vals:List CVal
 h:CHeap
 defs:List (Nat × List CVal)
 hs : List CHeap          -- the heaps ahead of each writer, the last one first
 deriving Inhabited
def zC4 (vals:List CVal):Option (Nat × Bool)->Bool
 | none=>true
 | some (d,b)=>match nth vals d with
  | .bool c=>c == b
  | _=>false
def zBo (cf:Nat->List CVal->CHeap->Option (CVal × CHeap)) (tm:List CVal) (id:Nat) (o:COper) (s:RS):Option RS :=
 if zC4 s.vals o.guard then
  match o.op.cls with
  | .p=>match zGl (zAq tm s.vals) id o.op with
   | some v=>if v.isUndef then none else some { s with vals:=v::s.vals }
   | none=>none
  | .l=>match zFi (zAq tm s.vals) s.h o.op with
   | some v=>if v.isUndef then none else some { s with vals:=v::s.vals }
   | none=>none
  | .e=>match zBq cf (zAq tm s.vals) s.h id o.op with
   | some (v,h)=>if v.isUndef && !o.op.isStore then none else some { s with vals:=v::s.vals,h:=h,hs:=s.h::s.hs }
   | none=>none
  | .d=>match o.op with
   | .defer x args=>match zAq tm s.vals x with
    | .fn (.func f) first cap =>
     some { s with vals:=.undef::s.vals,defs:=(f,first++(args.map (zAq tm s.vals)++cap))::s.defs,hs:=s.h::s.hs }
    | _=>none
   | _=>none
 else some { s with vals:=.undef::s.vals,hs:=match o.op.cls with | .e=>s.h::s.hs | .d=>s.h::s.hs | _=>s.hs }
def zB8 (cf:Nat->List CVal->CHeap->Option (CVal × CHeap)) (tm:List CVal):Nat->List COper->RS->Option RS
 | _,[],s=>some s
 | id,o::r,s=>match zBo cf tm id o s with
  | some s'=>zB8 cf tm (id+1) r s'
  | none=>none
def sameAt (ev:COpnd->CVal) (op:COp) (v:CVal):List CHeap->Bool
 | []=>true
 | h::r=>(match zFi ev h op with | some u=>u.beq v | none=>false) && sameAt ev op v r
def zJs:List COper->Nat->Option COper
 | [],_=>none
 | o::_,0=>some o
 | _::r,i+1=>zJs r i
def zF5 (tm:List CVal) (ops:List COper) (n:Nat) (vals:List CVal) (hs:List CHeap) (c:Nat × Nat × Nat):Bool :=
 match zJs ops c.1 with
 | some o =>
  let before:=vals.drop (n - c.1)
  if zC4 before o.guard then sameAt (zAq tm before) o.op (nth vals (n - 1 - c.1)) ((hs.take (c.2.2+1)).drop c.2.1) else true
 | none=>false
def CVal.block:CVal->Option Nat
 | .ptr b _ _=>some b
 | .eptr b _ _ _=>some b
 | _=>none
def zIl (tm:List CVal) (ops:List COper) (n:Nat) (vals:List CVal) (i:Nat):Option Nat :=
 match zJs ops i with
 | some ⟨.store _ a _,none⟩=>(zAq tm (vals.drop (n - i)) a).block
 | _=>none
def zGk (tm:List CVal) (ops:List COper) (n:Nat) (vals:List CVal) (c:Nat × Nat):Bool :=
 match zIl tm ops n vals c.1,zIl tm ops n vals c.2 with
 | some a,some b=>!(a == b)
 | _,_=>false
def zBu (n:Nat) (vals:List CVal):List CVal->List (Nat × Nat)->List CVal
 | tm,[]=>tm
 | tm,(j,i)::r=>zBu n vals (zBw tm j (nth vals (n - 1 - i))) r
inductive CFn where
 | ir (f:CFunc)
 | prim (p:List CVal->CHeap->Option (CVal × CHeap))
def zBr (h:CHeap) (tm:List CVal):List CRes->Option (List CVal)
 | []=>some []
 | .var j::r=>match zBr h tm r with
  | some vs=>some (nth tm j::vs)
  | none=>none
 | .cell j k::r=>match nth tm j with
  | .ptr b _ o=>match h.get b with
   | some (.cells cs)=>match partOf cs o k,zBr h tm r with
    | some v,some vs=>some (v::vs)
    | _,_=>none
   | _=>none
  | _=>none
def zBs:List CVal->CVal
 | [v]=>v
 | vs=>.tup vs
def zEo (n:Nat) (h:CHeap):CVal->Option CVal
 | .ref b ver k off len=>if n<=b then match h.get b with
  | some (.row v es)=>if v=ver && decide (off+len<=es.length) then some (.imm .none k (cut off (off+len) es)) else none
  | _=>none else none
 | v=>some v.strip
def zD4 (n:Nat) (h:CHeap):List CVal->Option (List CVal)
 | []=>some []
 | c::r=>match zEo n h c,zD4 n h r with
  | some c',some r'=>some (c'::r')
  | _,_=>none
def zDu (n:Nat) (h:CHeap):CVal->Option CVal
 | .agg cs=>(zD4 n h cs).map .agg
 | v=>zEo n h v
def zEl (n:Nat) (h:CHeap):List CVal->Option (List CVal)
 | []=>some []
 | c::r=>match zDu n h c,zEl n h r with
  | some c',some r'=>some (c'::r')
  | _,_=>none
def zFd (n:Nat) (h:CHeap):CVal->Option CVal
 | .tup vs=>(zEl n h vs).map .tup
 | v=>zDu n h v
def initVar (args:List CVal):Option Nat->CVal
 | some i=>nth args i
 | none=>.undef
def zB6:List (Nat × CObj)->Nat->List (Nat × CObj)
 | [],_=>[]
 | (i,o)::r,n=>if n<=i then zB6 r n else (i,o)::zB6 r n
section
variable (T:Nat->Option CFn) (ex:CCode->CSt->Option (CExit × CSt))
def zDx (fn:CFunc) (n:Nat) (v:CVal) (h:CHeap):Option (CVal × CHeap) :=
 if fn.keep then some (v,if fn.frz then { h with ents:=zA5 h.ents n } else h)
 else if fn.frz then (zFd n h v).map fun v'=>(v',{ h with ents:=zB6 h.ents n })
 else some (v.bare,{ h with ents:=zBe h.ents n })
def zCd (cd:List (Nat × List CVal)->CHeap->Option CHeap) (fn:CFunc) (args:List CVal) (h:CHeap):Option (CVal × CHeap) :=
 if args.length=fn.nargs then
  match ex fn.body ⟨fn.params.map (initVar args),h,[]⟩ with
  | some (.exit _,_)=>none
  | some (_,st)=>match cd st.defs st.h with
   | some h1=>match zBr h1 st.tm fn.results with
    | some vs=>zDx fn h.next (zBs vs) h1
    | none=>none
   | none=>none
  | none=>none
 else none
def zI9:List (Nat × List CVal)->CHeap->Option CHeap
 | [],h=>some h
 | _,_=>none
def zEx (f:Nat) (args:List CVal) (h:CHeap):Option (CVal × CHeap) :=
 match T f with
 | some (.ir fn)=>zCd ex zI9 fn args h
 | _=>none
def zEf:List (Nat × List CVal)->CHeap->Option CHeap
 | [],h=>some h
 | (f,args)::r,h=>match zEx T ex f args h with
  | some (_,h')=>zEf r h'
  | none=>none
def zDp (f:Nat) (args:List CVal) (h:CHeap):Option (CVal × CHeap) :=
 match T f with
 | some (.ir fn)=>zCd ex (zEf T ex) fn args h
 | some (.prim p)=>p args h
 | none=>none
def zAx:CCode->CSt->Option (CExit × CSt)
 | .skip,st=>some (.normal,st)
 | .region ops wb chk sw,st =>
  match zB8 (zDp T ex) st.tm st.h.next ops ⟨[],{ st.h with next:=st.h.next+ops.length },st.defs,[]⟩ with
  | some s =>
   if chk.all (zF5 st.tm ops ops.length s.vals (s.h::s.hs).reverse) && sw.all (zGk st.tm ops ops.length s.vals) then
    some (.normal,⟨zBu ops.length s.vals st.tm wb,s.h,s.defs⟩)
   else none
  | none=>none
 | .seq a b,st=>match ex a st with
  | some (.normal,st')=>ex b st'
  | r=>r
 | .cond c a b,st=>match zAq st.tm [] c with
  | .bool true=>ex a st
  | .bool false=>ex b st
  | _=>none
 | .block id c,st=>match ex c st with
  | some (.exit id',st')=>if id'=id then some (.normal,st') else some (.exit id',st')
  | r=>r
 | .loop drop c,st=>match ex c st with
  | some (.normal,st')=>ex (.loop drop c) (if drop then { st' with h:={ st'.h with ents:=zA5 st'.h.ents st.h.next } } else st')
  | r=>r
 | .exit id,st=>some (.exit id,st)
 | .ret,st=>some (.ret,st)
 | .stuck,_=>none
end
def exec (T:Nat->Option CFn) (n:Nat):CCode->CSt->Option (CExit × CSt) :=
 Nat.rec (fun _ _=>none) (fun _ ih=>zAx T ih) n
def crun (T:Nat->Option CFn) (n:Nat) (f:Nat) (args:List CVal) (h:CHeap):Option (CVal × CHeap) :=
 zDp T (exec T n) f args h
end Go.CI
namespace Go.CI
structure Hints where
 ref : List (Nat × Nat × Nat)      -- function, region, operation: its slice is a row
 keep : List Nat                   -- functions behind whose return nothing goes
 frz : List Nat                    -- functions whose results' rows become lists
 raw : List Nat                    -- functions whose arguments keep their room
 nodrop : List Nat                 -- functions whose rounds keep their variables
 globals : List (Nat × List CVal)  -- variables of the program that nobody writes
 noted : List Nat := []            -- types: rows of such elements are noted
 ifts : List Nat := []             -- types: interface values of them may be held against each other
 deep : List Nat := []             -- functions that slice rows behind their length
 deriving Inhabited
mutual
def ofValue:Value->Option CVal
 | .bool b=>some (.bool b)
 | .int k n=>some (.int k n)
 | .string s=>some (.str s.data.toList)
 | .pointer none=>some .nilp
 | .slice none 0 0=>some .nils
 | .map none=>some .nilm
 | .nilFunc=>some .nilf
 | .nilIface=>some .nili
 | .iface t v=>match ofValue v with
  | some c=>some (.ifc t c)
  | none=>none
 | .func f ⟨a⟩ ⟨b⟩=>match ofValues a,ofValues b with
  | some a,some b=>some (.fn f a b)
  | _,_=>none
 | .agg ⟨cs⟩=>match ofValues cs with
  | some l=>if l.all CVal.flat then some (.agg l) else none
  | none=>none
 | .tuple ⟨cs⟩=>match ofValues cs with
  | some l=>some (.tup l)
  | none=>none
 | _=>none
def ofValues:List Value->Option (List CVal)
 | []=>some []
 | v::r=>match ofValue v,ofValues r with
  | some v,some r=>some (v::r)
  | _,_=>none
end
structure ElemInfo where
 size:Nat
 agg:Bool
 zero:List CVal
 bytes:Nat
def zEe:TypeDesc->Bool
 | .struct _=>true
 | .array _ _=>true
 | _=>false
def zAt (P:Program) (t:TypeId):Option ElemInfo :=
 match P.info? t,P.underlying t with
 | some i,some d=>match i.zero with
  | some z=>match ofValues z.cells.toList with
   | some zs=>if (0<i.size && zs.length=i.size) && ((zEe d || i.size == 1) && zs.all CVal.flat) then some ⟨i.size,zEe d,zs,i.bytes⟩ else none
   | none=>none
  | none=>none
 | _,_=>none
def kOf (i:ElemInfo):Option Nat:=if i.agg then some i.size else none
def zE1:List (Option Tmp)->Tmp->Nat->Option Nat
 | [],_,_=>none
 | d::r,t,i=>if d == some t then some i else zE1 r t (i+1)
def zFl:List Tmp->Tmp->Nat->Option Nat
 | [],_,_=>none
 | d::r,t,i=>if d == t then some i else zFl r t (i+1)
structure Env where
 P:Program
 H:Hints
 fn:Nat
 ntmps:Nat
 vars:List Tmp
 only : Option (List Tmp)      -- the temporaries that may be named
def Env.can (E:Env) (t:Tmp):Bool:=match E.only with
 | none=>true
 | some l=>l.contains t
def zI7 (o:Oper):List Tmp:=o.op.operands.toList.filterMap (fun | .tmp t=>some t | _=>none)
def zD5:List (Nat × List CVal)->Nat->Option (List CVal)
 | [],_=>none
 | (i,c)::r,g=>if i == g then some c else zD5 r g
def zDn (a b:List (Nat × List CVal)):Prop:=∀ g cs,zD5 a g=some cs->zD5 b g=some cs
def zDb (E:Env) (dsts:List (Option Tmp)):Operand->Option COpnd
 | .tmp t=>if E.can t then (match zE1 dsts t 0 with
  | some i=>some (.loc i)
  | none=>(zFl E.vars t 0).map .var) else none
 | .const v=>(ofValue v).map .const
 | .global g=>(zD5 E.H.globals g).map fun cs=>.const (.cptr cs 0)
 | .func f=>some (.const (.fn (.func f) [] []))
def zJi (E:Env) (e:TypeId):Nat:=if E.H.noted.contains e then e+1 else 0
def zL3 (E:Env) (e:TypeId) (lo hi:Option COpnd):Option ElemInfo:=if E.H.deep.contains E.fn && (lo.isSome && hi.isSome) then none else zAt E.P e
theorem zNm {E:Env} {e:TypeId} {lo hi:Option COpnd} {g:ElemInfo} (h:zL3 E e lo hi=some g):zAt E.P e=some g:=by
 unfold zL3 at h
 split at h
 . cases h
 . exact h
def zBp (E:Env) (dsts:List (Option Tmp)):List Operand->Option (List COpnd)
 | []=>some []
 | x::r=>match zDb E dsts x,zBp E dsts r with
  | some x,some r=>some (x::r)
  | _,_=>none
def zJ8 (E:Env) (dsts:List (Option Tmp)):Option Operand->Option (Option COpnd)
 | none=>some none
 | some x=>(zDb E dsts x).map some
def zKi (E:Env) (dsts:List (Option Tmp)):List (Nat × Operand)->Option (List (Nat × COpnd))
 | []=>some []
 | (i,x)::r=>match zDb E dsts x,zKi E dsts r with
  | some x,some r=>some ((i,x)::r)
  | _,_=>none
def placed (place:Nat->Option (Nat × Nat)):List (Nat × COpnd)->Option (List (Nat × Nat × COpnd))
 | []=>some []
 | (i,x)::r=>match place i,placed place r with
  | some (off,size),some r=>some ((off,size,x)::r)
  | _,_=>none
def zEv (P:Program) (fields:Array Field) (i:Nat):Option (Nat × Nat) :=
 match fields[i]? with
 | some f=>match P.info? f.type with
  | some t=>if 0<t.size then some (f.offset,t.size) else none
  | none=>none
 | none=>none
def zR1:TypeDesc->Option EqK
 | .bool=>some .bool
 | .slice _=>some .slc
 | .pointer _=>some .ptr
 | .map _ _=>some .map
 | .func _ _ _=>some .fn
 | .interface _=>some .ifc
 | _=>none
def zCh:Operand->Bool
 | .const _=>true
 | _=>false
def zEb (E:Env) (rg i:Nat):SMode:=if E.H.ref.contains (E.fn,rg,i) then .ref else .imm
def zCs (n:Nat):Bool:=decide (n<=4096)
def zGq (T d:Nat):List Oper->Bool
 | []=>false
 | o::r=>match o.op with
  | .store t (.tmp e) _=>if e == d then t == T && o.guard.isNone else zGq T d r
  | op=>if op.operands.any (fun | .tmp e=>e == d | _=>false) then false else zGq T d r
def zI2 (T d : Nat) : List Oper -> Bool    -- the earlier operations, the last one first
 | []=>false
 | o::r=>match o.op with
  | .alloc t=>if o.dst == some d then t == T && o.guard.isNone else zI2 T d r
  | op=>if o.dst == some d || op.operands.any (fun | .tmp e=>e == d | _=>false) then false else zI2 T d r
def cop0 (E:Env) (rg i:Nat) (dsts:List (Option Tmp)) (earlier later:List Oper) (o:Oper):Option COp :=
 let cx:=zDb E dsts
 match o.op with
 | .move x=>(cx x).map .mv
 | .assign x=>(cx x).map .mv
 | .pick c a b=>match cx c,cx a,cx b with
  | some c,some a,some b=>some (.pick c a b)
  | _,_,_=>none
 | .alloc t=>match zAt E.P t,o.dst with
  | some f,some d=>if o.guard.isNone && zGq t d later then (if f.size<zBn then some (.lazy (descOf t f.size)) else none) else some (.alloc t f.zero)
  | _,_=>none
 | .box t x=>(cx x).map (.box t)
 | .build t parts=>match zAt E.P t,E.P.underlying t,zKi E dsts parts.toList with
  | some f,some (.struct fields),some ps=>if fields.toList.all (fun f=>(E.P.info? f.type).isSome) then (placed (zEv E.P fields) ps).map (.build f.zero) else none
  | some f,some (.array _ e),some ps=>match zAt E.P e with
   | some g=>(placed (fun i=>some (i * g.size,g.size)) ps).map (.build f.zero)
   | none=>none
  | _,_,_=>none
 | .buildSlice t len parts=>match E.P.underlying t,zKi E dsts parts.toList with
  | some (.slice e),some ps=>match zAt E.P e with
   | some g=>if len * g.size<=16777216 then some (.lit (zEb E rg i) g.agg g.zero len ps) else none
   | none=>none
  | _,_=>none
 | .load t a=>match zAt E.P t,cx a with
  | some f,some a=>some (.load (kOf f) a)
  | _,_=>none
 | .store t a x=>match zAt E.P t,cx a,cx x with
  | some f,some b,some x=>match a with
   | .tmp d=>if o.guard.isNone && zI2 t d earlier then some (.init f.size b x) else some (.store f.size b x)
   | _=>some (.store f.size b x)
  | _,_,_=>none
 | .nilCheck x=>(cx x).map .nilck
 | .binOp op t x y _=>match E.P.underlying t,cx x,cx y with
  | some (.int _),some a,some b=>some (.bin op a b)
  | some .string,some a,some b=>some (.bin op a b)
  | some d,some a,some b=>match op,zR1 d with
   | .eql,some e=>if e=.ifc && !(zCh x || zCh y) then none else some (.eqv e false a b)
   | .neq,some e=>if e=.ifc && !(zCh x || zCh y) then none else some (.eqv e true a b)
   | _,_=>none
  | _,_,_=>none
 | .unOp op _ x=>match op,cx x with
  | .not,some x=>some (.not x)
  | .neg,some x=>some (.neg x)
  | .xor,some x=>some (.cpl x)
  | _,_=>none
 | .convert s d x=>match E.P.underlying s,E.P.underlying d,cx x with
  | some (.int _),some (.int k),some x=>some (.conv k x)
  | some .string,some .string,some x=>some (.same x)
  | some .string,some (.slice e),some x=>match E.P.underlying e with
   | some (.int .u8)=>some (.s2b (zEb E rg i) x)
   | _=>none
  | some (.slice e),some .string,some x=>match E.P.underlying e with
   | some (.int .u8)=>some (.b2s x)
   | _=>none
  | _,_,_=>none
 | .makeInterface t x=>match E.P.underlying t with
  | some (.interface _)=>none
  | some _=>(cx x).map (.ifc t)
  | none=>none
 | .makeFunc f first cap=>match zBp E dsts first.toList,zBp E dsts cap.toList with
  | some a,some b=>some (.mkfn f a b)
  | _,_=>none
 | .makeSlice t l c=>match E.P.underlying t,cx l,cx c with
  | some (.slice e),some l,some c=>match zAt E.P e with
   | some g=>if zCs g.bytes then some (.mkslice (zEb E rg i) g.agg g.zero l c) else none
   | none=>none
  | _,_,_=>none
 | .slice t x lo hi none=>match E.P.underlying t,cx x,zJ8 E dsts lo,zJ8 E dsts hi with
  | some .string,some x,some lo,some hi=>some (.slc 0 x lo hi)
  | some (.slice e),some x,some lo,some hi=>match zL3 E e lo hi with
   | some g=>some (.slc g.size x lo hi)
   | none=>none
  | _,_,_,_=>none
 | .fieldAddr t x f=>match E.P.underlying t,cx x with
  | some (.struct fields),some x=>match fields[f]? with
   | some fd=>match E.P.info? fd.type with
    | some ti=>if 0<ti.size then some (.fieldAddr fd.offset x) else none
    | none=>none
   | none=>none
  | _,_=>none
 | .field t x f=>match E.P.underlying t,cx x with
  | some (.struct fields),some x=>match fields[f]? with
   | some fd=>match zAt E.P fd.type with
    | some g=>some (.fieldOf fd.offset (kOf g) x)
    | none=>none
   | none=>none
  | _,_=>none
 | .indexAddr t x i=>match E.P.underlying t,cx x,cx i with
  | some (.slice e),some x,some i=>match zAt E.P e with
   | some g=>some (.idxAddr g.size x i)
   | none=>none
  | some (.array n e),some x,some i=>match zAt E.P e with
   | some g=>some (.arrAddr n g.size x i)
   | none=>none
  | _,_,_=>none
 | .index t x i=>match E.P.underlying t,cx x,cx i with
  | some .string,some x,some i=>some (.idxStr x i)
  | _,_,_=>none
 | .extract t i=>(cx t).map (.extract i)
 | .call c=>match c.callee with
  | .value (.func f)=>(zBp E dsts c.args.toList).map (.call (E.H.raw.contains f) f)
  | .value f=>match cx f,zBp E dsts c.args.toList with
   | some f,some args=>some (.callv false f args)
   | _,_=>none
  | .builtin .len=>match c.argTypes.toList,c.args.toList with
   | [t],[x]=>match E.P.underlying t with
    | some .string=>(cx x).map (.len true)
    | some (.slice _)=>(cx x).map (.len false)
    | _=>none
   | _,_=>none
  | .builtin .append=>match c.argTypes.toList,c.args.toList with
   | [t,u],[x,y]=>match E.P.underlying t,E.P.underlying u,cx x,cx y with
    | some (.slice e),some (.slice _),some x,some y=>match zAt E.P e with
     | some g=>if zCs g.bytes then some (.append (zEb E rg i) (zJi E e) g.size x y) else none
     | none=>none
    | some (.slice e),some .string,some x,some y=>match zAt E.P e with
     | some g=>if zCs g.bytes then some (.append (zEb E rg i) (zJi E e) g.size x y) else none
     | none=>none
    | _,_,_,_=>none
   | _,_=>none
  | .builtin .copy=>match c.argTypes.toList,c.args.toList with
   | [t,_],[x,y]=>match E.P.underlying t,cx x,cx y with
    | some (.slice e),some x,some y=>match zAt E.P e with
     | some g=>some (.copy g.size x y)
     | none=>none
    | _,_,_=>none
   | _,_=>none
  | .builtin .min=>match c.args.toList with
   | [x,y]=>match cx x,cx y with
    | some x,some y=>some (.minmax false x y)
    | _,_=>none
   | _=>none
  | .builtin .max=>match c.args.toList with
   | [x,y]=>match cx x,cx y with
    | some x,some y=>some (.minmax true x y)
    | _,_=>none
   | _=>none
  | _=>none
 | .defer c=>match c.callee with
  | .value f=>match cx f,zBp E dsts c.args.toList with
   | some f,some args=>some (.defer f args)
   | _,_=>none
  | _=>none
 | _=>none
def zDm (P:Program) (t:TypeId):Option KeyK:=match P.underlying t with
 | some (.int k)=>some (.int k)
 | some .string=>some .str
 | some .bool=>some .bool
 | _=>none
def zeroOf (P:Program) (t:TypeId):Option CVal:=match P.info? t with
 | some i=>match i.zero with
  | some z=>ofValue z
  | none=>none
 | none=>none
def zPh (P:Program) (t:TypeId):Option EqC :=
 match P.underlying t with
 | some (.int _)=>some .int
 | some .string=>some .str
 | some .bool=>some .bool
 | _=>none
def zHs (P:Program):List Field->Option (List (EqC × Nat))
 | []=>some []
 | f :: r => if f.name ≠ "_" then
     match zPh P f.type,zHs P r with
     | some e,some l=>some ((e,f.offset)::l)
     | _,_=>none
  else zHs P r
def intType (P:Program) (t:TypeId):Option (Nat × IntKind):=match P.info? t,P.underlying t with
 | some i,some (.int k)=>if i.comparable then some (t,k) else none
 | _,_=>none
def zGf (E:Env) (dsts:List (Option Tmp)) (op:Op):Option COp :=
 match op with
 | .makeMap t none=>match E.P.underlying t with
  | some (.map _ _)=>some (.ext .mkmap [])
  | _=>none
 | .lookup t m k ok=>match E.P.underlying t,zBp E dsts [m,k] with
  | some (.map kt et),some xs=>match zDm E.P kt,zeroOf E.P et with
   | some kk,some z=>some (.extl (.mlook kk ok z) xs)
   | _,_=>none
  | _,_=>none
 | .mapUpdate t m k x=>match E.P.underlying t,zBp E dsts [m,k,x] with
  | some (.map kt _),some xs=>match zDm E.P kt with
   | some kk=>some (.ext (.mset kk) xs)
   | _=>none
  | _,_=>none
 | .insert t m k x=>match E.P.underlying t,zBp E dsts [m,k,x] with
  | some (.map kt _),some xs=>match zDm E.P kt with
   | some kk=>some (.ext (.mset kk) xs)
   | _=>none
  | _,_=>none
 | .mapEntry t m k=>match E.P.underlying t,zBp E dsts [m,k] with
  | some (.map kt et),some xs=>match zDm E.P kt,zeroOf E.P et with
   | some kk,some z=>some (.ext (.mentry kk z) xs)
   | _,_=>none
  | _,_=>none
 | .entryStore _ m s x=>match zBp E dsts [m,s,x] with
  | some xs=>some (.ext .mestore xs)
  | _=>none
 | .binOp op t x y _=>match E.P.underlying t,zBp E dsts [x,y] with
  | some (.interface _),some xs=>match op with
   | .eql=>some (.extl (.ieq false (E.H.ifts.filterMap (intType E.P))) xs)
   | .neq=>some (.extl (.ieq true (E.H.ifts.filterMap (intType E.P))) xs)
   | _=>none
  | some (.struct fs),some xs=>match zHs E.P fs.toList with
   | some l=>if E.P.stoodInHeld t || E.P.eqGuardType E.P.depth t then none else match op with
    | .eql=>some (.extl (.aeq false l) xs)
    | .neq=>some (.extl (.aeq true l) xs)
    | _=>none
   | none=>none
  | _,_=>none
 | .call c=>match c.callee with
  | .builtin .len=>match c.argTypes.toList,c.args.toList with
   | [t],[x]=>match E.P.underlying t,zBp E dsts [x] with
    | some (.map _ _),some xs=>some (.extl .mlen xs)
    | _,_=>none
   | _,_=>none
  | .builtin .cap=>match c.argTypes.toList,c.args.toList with
   | [t],[x]=>match E.P.underlying t,zBp E dsts [x] with
    | some (.slice _),some xs=>some (.extl .cap xs)
    | _,_=>none
   | _,_=>none
  | .builtin .delete=>match c.argTypes.toList,c.args.toList with
   | [t,_],[m,k]=>match E.P.underlying t,zBp E dsts [m,k] with
    | some (.map kt _),some xs=>match zDm E.P kt with
     | some kk=>some (.ext (.mdel kk) xs)
     | _=>none
    | _,_=>none
   | _,_=>none
  | .builtin .clear=>match c.argTypes.toList,c.args.toList with
   | [t],[x]=>match E.P.underlying t,zBp E dsts [x] with
    | some (.slice e),some xs=>match zAt E.P e with
     | some g=>some (.ext (.clear g.agg g.zero) xs)
     | none=>none
    | _,_=>none
   | _,_=>none
  | .builtin .append=>match c.argTypes.toList,c.args.toList with
   | [t,u],[x,n]=>match E.P.underlying t,E.P.underlying u,zBp E dsts [x,n] with
    | some (.slice e),some (.int _),some xs=>match zAt E.P e with
     | some g=>if zCs g.bytes then some (.ext (.apmake (zJi E e) g.agg g.zero) xs) else none
     | none=>none
    | _,_,_=>none
   | _,_=>none
  | _=>none
 | .slice t x (some lo) (some hi) (some mx)=>match E.P.underlying t,zBp E dsts [x,lo,hi,mx] with
  | some (.slice e),some xs=>match zAt E.P e with
   | some g=>some (.ext (.slc3 g.size) xs)
   | none=>none
  | _,_=>none
 | .slice t x (some lo) (some hi) none=>match E.P.underlying t,zBp E dsts [x,lo,hi] with
  | some (.slice e),some xs=>match zAt E.P e with
   | some g=>some (.extl (.slcx g.size) xs)
   | none=>none
  | _,_=>none
 | _=>none
def cop (E:Env) (rg i:Nat) (dsts:List (Option Tmp)) (earlier later:List Oper) (o:Oper):Option COp :=
 match cop0 E rg i dsts earlier later o with
 | some c=>some c
 | none=>zGf E dsts o.op
theorem zFm {E:Env} {rg i:Nat} {dsts:List (Option Tmp)} {earlier later:List Oper} {o:Oper} {c:COp} (h:cop E rg i dsts earlier later o=some c):cop0 E rg i dsts earlier later o=some c\/zGf E dsts o.op=some c:=by
 unfold cop at h
 split at h
 . cases h;exact .inl (by assumption)
 . exact .inr h
def zLu (dsts:List (Option Tmp)) (n:Nat):Option (Nat × Bool)->Option (Option (Nat × Bool))
 | none=>some none
 | some (j,b)=>if j<n then match dsts[n - 1 - j]? with
  | some (some t)=>if zE1 dsts t 0=some (n - 1 - j) then some (some (n - 1 - j,b)) else none
  | _=>none else none
def cops (E:Env) (rg:Nat):Nat->List (Option Tmp)->List Oper->List Oper->Option (List COper)
 | _,_,_,[]=>some []
 | i,dsts,earlier,o::r =>
  match zLu dsts i o.guard,cops E rg (i+1) (o.dst::dsts) (o::earlier) r with
  | some g,some rest=>some (⟨(cop { E with only:=some (zI7 o) } rg i dsts earlier r o).getD .stuck,g⟩::rest)
  | _,_=>none
def zSu : List Oper -> List Nat -> List Nat      -- those before, by rising number
 | [],acc=>acc
 | o::r,acc=>zSu r (acc++[o.after.toList.foldl (fun s e=>if Region.binds .any e then s ||| (2 ^ e.on ||| acc.getD e.on 0) else s) 0])
def zMr (ops:List Oper):Bool :=
 ops.zipIdx.all fun (o,i)=>o.after.toList.all fun e=>!Region.binds .any e || decide (e.on<i)
def zDy (ops:List Oper) (o:Oper):List Tmp :=
 o.dst.toList++(zI7 o++match o.guard with
  | some (j,_)=>((ops[j]?).bind (·.dst)).toList
  | none=>[])
def zO9 (ops:List Oper) (pre:List Nat):Bool :=
 ops.zipIdx.all fun (o,j)=>ops.zipIdx.all fun (w,i)=>match w.dst with
  | some d=>i == j || !(zDy ops o).contains d || (pre.getD (max i j) 0).testBit (min i j)
  | none=>true
def isStore (cs:List COper) (i:Nat):Bool:=match zJs cs i with
 | some ⟨.store _ _ _,none⟩=>true
 | _=>false
def zQn (cs:List COper) (pre:List Nat):List Nat->List (Nat × Nat)
 | a::b::r=>if !(pre.getD b 0).testBit a && (isStore cs a && isStore cs b) then [(a,b)] else zQn cs pre (b::r)
 | _=>[]
def isW (cs:List COper) (i:Nat):Bool:=match zJs cs i with
 | some c=>match c.op.cls with
  | .e=>true
  | .d=>true
  | _=>false
 | none=>false
def isR (cs:List COper) (i:Nat):Bool:=match zJs cs i with
 | some c=>match c.op.cls with
  | .l=>true
  | _=>false
 | none=>false
def zN6 (pre:List Nat) (cs:List COper) (sw:List (Nat × Nat)):Bool :=
 (List.range cs.length).all fun j=>(List.range cs.length).all fun i=>!(isW cs i && isW cs j && decide (i<j)) || ((pre.getD j 0).testBit i || sw.contains (i,j))
def zNb (pre:List Nat) (cs:List COper):List (Nat × Nat)->Bool
 | []=>true
 | [(a,b)]=>decide (a<b) && (isStore cs a && isStore cs b) && (List.range cs.length).all fun i =>
     (!(isW cs i && decide (a<i) && decide (i<b))) && (!isR cs i || (((pre.getD i 0).testBit a && (pre.getD i 0).testBit b) || ((pre.getD a 0).testBit i && (pre.getD b 0).testBit i)))
 | _=>false
def zDo (pre:List Nat) (cs:List COper) (i:Nat):Nat × Nat :=
 (((List.range cs.length).filter fun e=>isW cs e && (decide (e<i) && (pre.getD i 0).testBit e)).length,((List.range cs.length).filter fun e=>isW cs e && (decide (e<i) || !(pre.getD e 0).testBit i)).length)
def zIk (pre:List Nat) (cs:List COper):List (Nat × Nat × Nat) :=
 (List.range cs.length).filterMap fun i=>if isR cs i then (let (lo,hi):=zDo pre cs i;if lo=hi then none else some (i,lo,hi)) else none
def zGi (t:Tmp):List Oper->Nat->Option Nat->Option Nat
 | [],_,acc=>acc
 | o::r,i,acc=>zGi t r (i+1) (if o.dst == some t then some i else acc)
def zJf (ops:List Oper):List Tmp->Nat->List (Nat × Nat)
 | [],_=>[]
 | t::r,k=>match zGi t ops 0 none with
  | some i=>(k,i)::zJf ops r (k+1)
  | none=>zJf ops r (k+1)
def wbOf (vars:List Tmp) (ops:List Oper):List (Nat × Nat):=zJf ops vars 0
def zIw (n:Nat):List Oper->List COper->Bool
 | o::r,c::s=>(match o.dst with
  | some d=>decide (d<n) && !c.op.isStore
  | none=>true) && zIw n r s
 | _,_=>true
def zJg (E:Env) (rg:Nat) (ops:List Oper) (draw:Bool):Option CCode :=
 match cops E rg 0 [] [] ops with
 | some cs =>
  if zIw E.ntmps ops cs then
   if draw then
    let pre:=zSu ops []
    let sw:=zQn cs pre ((List.range cs.length).filter (isW cs))
    if zMr ops && (zO9 ops pre && (zN6 pre cs sw && zNb pre cs sw)) then some (.region cs (wbOf E.vars ops) (zIk pre cs) sw) else none
   else some (.region cs (wbOf E.vars ops) [] [])
  else none
 | none=>none
def zF9 (E:Env):Code->Option CCode
 | .skip=>some .skip
 | .region rg ops draw=>some ((zJg E rg ops.toList draw).getD .stuck)
 | .seq a b=>match zF9 E a,zF9 E b with
  | some a,some b=>some (.seq a b)
  | _,_=>none
 | .cond c a b=>match zDb E [] c,zF9 E a,zF9 E b with
  | some c,some a,some b=>some (.cond c a b)
  | _,_,_=>some .stuck
 | .block id c=>(zF9 E c).map (.block id)
 | .loop c=>(zF9 E c).map (.loop (!E.H.nodrop.contains E.fn))
 | .exit id=>some (.exit id)
 | .ret=>some .ret
 | _=>some .stuck
def zRq (ops:List Oper):List Tmp->List Oper->List Tmp
 | _,[]=>[]
 | dsts,o::r=>(zDy ops { o with dst:=none }).filter (fun t=>!dsts.contains t)++zRq ops (o.dst.toList++dsts) r
def zJ2:Code->List Tmp
 | .region _ ops _=>zRq ops.toList [] ops.toList
 | .seq a b=>zJ2 a++zJ2 b
 | .cond c a b=>(match c with | .tmp t=>[t] | _=>[])++(zJ2 a++zJ2 b)
 | .block _ c=>zJ2 c
 | .loop c=>zJ2 c
 | _=>[]
def zVx:ResultVar->Tmp
 | .tmp t=>t
 | .cell t _=>t
def varsOf (fn:Func) (c:Code):List Tmp:=(zJ2 c++fn.results.toList.map zVx).eraseDups
def cres (E:Env):ResultVar->Option CRes
 | .tmp t=>(zFl E.vars t 0).map .var
 | .cell t ty=>match zFl E.vars t 0,zAt E.P ty with
  | some j,some f=>some (.cell j (kOf f))
  | _,_=>none
def zNe (E:Env):List ResultVar->Option (List CRes)
 | []=>some []
 | r::rs=>match cres E r,zNe E rs with
  | some r,some rs=>some (r::rs)
  | _,_=>none
def zAb (P:Program) (H:Hints) (f:Nat):Option CFunc :=
 match P.funcs[f]? with
 | some fn=>match fn.body with
  | some c =>
   if fn.name == "runtime.NumGoroutine" then none else
   let vars:=varsOf fn c
   let E:Env:=⟨P,H,f,fn.ntmps,vars,none⟩
   let n:=fn.params.size+fn.nfree
   match zF9 E c,zNe E fn.results.toList with
   | some b,some rs=>some ⟨n,vars.length,vars.map fun t=>if t<n then some t else none,rs,b,H.keep.contains f,H.frz.contains f⟩
   | _,_=>none
  | none=>none
 | none=>none
end Go.CI
namespace Go.CI
open Go.RowKit
structure Base where
 n:Nat
 gl:List (Nat × List CVal)
instance:Coe Base Nat:=⟨Base.n⟩
structure Gh where
 fz:Nat->Nat->Option CVal
 mu:Nat->Option (Nat × Nat)
 rw:Nat->Nat->Option (Nat × Nat × Nat × Nat)
 tk:Nat->Nat->Option (Nat × Nat × Nat × Nat)
structure Gh.le (G G':Gh):Prop where
 fz:∀ b o c,G.fz b o=some c->G'.fz b o=some c
 mu:∀ b x,G.mu b=some x->G'.mu b=some x
 rw:∀ b v x,G.rw b v=some x->G'.rw b v=some x
 tk:∀ b v x,G.tk b v=some x->G'.tk b v=some x
theorem Gh.le.refl (G:Gh):G.le G:=⟨fun _ _ _ h=>h,fun _ _ h=>h,fun _ _ _ h=>h,fun _ _ _ h=>h⟩
theorem Gh.le.trans {a b c:Gh} (h:a.le b) (k:b.le c):a.le c :=
 ⟨fun x y z e=>k.fz _ _ _ (h.fz x y z e),fun x y e=>k.mu _ _ (h.mu x y e),fun x y z e=>k.rw _ _ _ (h.rw x y z e),fun x y z e=>k.tk _ _ _ (h.tk x y z e)⟩
def Froz (G:Gh) (ab ao k:Nat) (es:List CVal):Prop :=
 ∀ (i:Nat) (e:CVal),es[i]? = some e->e.cells.length=k/\∀ (j:Nat) (c:CVal),e.cells[j]? = some c->c.flat=true/\G.fz ab (ao+i * k+j)=some c
def zR4 (G:Gh) (t:Tag) (a:Addr) (len k cap:Nat):Prop :=
 match t with
 | .none=>True
 | .full=>cap=len
 | .own id ver=>∃ ab e room,G.tk id ver=some (ab,e,k,room)/\cap=len+room/\(room=0\/(a.block=ab/\a.off+len * k=e))
inductive VR (G:Gh):CVal->Value->Prop
 | undef (v:Value):VR G .undef v
 | bool (b:Bool):VR G (.bool b) (.bool b)
 | int (k:IntKind) (n:Int):VR G (.int k n) (.int k n)
 | str (s:ByteArray):VR G (.str s.data.toList) (.string s)
 | nilp:VR G .nilp (.pointer none)
 | ptr {b sz o ab:Nat} (h:G.mu b=some (ab,sz)):VR G (.ptr b sz o) (.pointer (some ⟨ab,o,none⟩))
 | cptr {cs:List CVal} {o ab ao:Nat} (h:∀ (i:Nat) (c:CVal),cs[i]? = some c->c.flat=true/\G.fz ab (ao+i)=some c):VR G (.cptr cs o) (.pointer (some ⟨ab,ao+o,none⟩))
 | eptr {b ver i o ab ao k cap:Nat} (h:G.rw b ver=some (ab,ao,k,cap)):VR G (.eptr b ver i o) (.pointer (some ⟨ab,ao+i * k+o,none⟩))
 | nils:VR G .nils (.slice none 0 0)
 | imm {t:Tag} {k:Nat} {es:List CVal} {a:Addr} {cap:Nat} (hs:a.spot=none) (hk:0<k) (hc:es.length<=cap) (hf:Froz G a.block a.off k es) (ht:zR4 G t a es.length k cap) :
     VR G (.imm t k es) (.slice (some a) es.length cap)
 | ref {b ver k off len ab ao cap:Nat} {a:Addr} (h:G.rw b ver=some (ab,ao,k,cap)) (hk:0<k) (hl:off+len<=cap) (hs:a.spot=none) (ha:cap - off=0\/a=⟨ab,ao+off * k,none⟩) :
     VR G (.ref b ver k off len) (.slice (some a) len (cap - off))
 | nilm:VR G .nilm (.map none)
 | map {b ab:Nat} (h:G.mu b=some (ab,0)):VR G (.map b) (.map (some ab))
 | fn {f:Fn} {first cap:List CVal} {vf vc:List Value} (hf:first.length=vf.length) (hc:cap.length=vc.length)
     (h1:∀ (i:Nat) (c:CVal) (v:Value),first[i]? = some c->vf[i]? = some v->VR G c v) (h2:∀ (i:Nat) (c:CVal) (v:Value),cap[i]? = some c->vc[i]? = some v->VR G c v):VR G (.fn f first cap) (.func f ⟨vf⟩ ⟨vc⟩)
 | nilf:VR G .nilf .nilFunc
 | ifc {t:TypeId} {v:CVal} {u:Value} (h:VR G v u):VR G (.ifc t v) (.iface t u)
 | nili:VR G .nili .nilIface
 | agg {cs:List CVal} {vs:List Value} (hl:cs.length=vs.length) (hf:∀ c ∈ cs,c.flat=true) (h:∀ (i:Nat) (c:CVal) (v:Value),cs[i]? = some c->vs[i]? = some v->VR G c v):VR G (.agg cs) (.agg ⟨vs⟩)
 | tup {cs:List CVal} {vs:List Value} (hl:cs.length=vs.length) (h:∀ (i:Nat) (c:CVal) (v:Value),cs[i]? = some c->vs[i]? = some v->VR G c v):VR G (.tup cs) (.tuple ⟨vs⟩)
def VRs (G:Gh) (cs:List CVal) (vs:List Value):Prop:=cs.length=vs.length/\∀ (i:Nat) (c:CVal) (v:Value),cs[i]? = some c->vs[i]? = some v->VR G c v
theorem Froz.mono {G G':Gh} (h:G.le G') {ab ao k:Nat} {es:List CVal} (hf:Froz G ab ao k es):Froz G' ab ao k es :=
 fun i e he=>⟨(hf i e he).1,fun j c hc=>⟨((hf i e he).2 j c hc).1,h.fz _ _ _ ((hf i e he).2 j c hc).2⟩⟩
theorem zR4.mono {G G':Gh} (h:G.le G') {t:Tag} {a:Addr} {len k cap:Nat} (ht:zR4 G t a len k cap):zR4 G' t a len k cap:=by
 cases t with
 | none=>trivial
 | full=>exact ht
 | own id ver=>obtain ⟨ab,e,room,h1,h2⟩:=ht;exact ⟨ab,e,room,h.tk _ _ _ h1,h2⟩
theorem VR.mono {G G':Gh} (hg:G.le G') {c:CVal} {v:Value} (h:VR G c v):VR G' c v:=by
 induction h with
 | undef v=>exact .undef v
 | bool b=>exact .bool b
 | int k n=>exact .int k n
 | str s=>exact .str s
 | nilp=>exact .nilp
 | ptr h=>exact .ptr (hg.mu _ _ h)
 | cptr h=>exact .cptr fun i c hc=>⟨(h i c hc).1,hg.fz _ _ _ (h i c hc).2⟩
 | eptr h=>exact .eptr (hg.rw _ _ _ h)
 | nils=>exact .nils
 | imm hs hk hc hf ht=>exact .imm hs hk hc (hf.mono hg) (ht.mono hg)
 | ref h hk hl hs ha=>exact .ref (hg.rw _ _ _ h) hk hl hs ha
 | nilm=>exact .nilm
 | map h=>exact .map (hg.mu _ _ h)
 | fn hf hc _ _ ih1 ih2=>exact .fn hf hc ih1 ih2
 | nilf=>exact .nilf
 | ifc _ ih=>exact .ifc ih
 | nili=>exact .nili
 | agg hl hf _ ih=>exact .agg hl hf ih
 | tup hl _ ih=>exact .tup hl ih
theorem VRs.mono {G G':Gh} (hg:G.le G') {cs:List CVal} {vs:List Value} (h:VRs G cs vs):VRs G' cs vs :=
 ⟨h.1,fun i c v hc hv=>(h.2 i c v hc hv).mono hg⟩
theorem VRs.nil (G:Gh):VRs G [] []:=⟨rfl,fun i c v h=>by simp at h⟩
theorem VRs.cons {G:Gh} {c:CVal} {v:Value} {cs:List CVal} {vs:List Value} (h:VR G c v) (hs:VRs G cs vs):VRs G (c::cs) (v::vs):=by
 refine ⟨by simp [hs.1],fun i x u hx hu=>?_⟩
 cases i with
 | zero=>simp at hx hu;subst hx hu;exact h
 | succ i=>simp at hx hu;exact hs.2 i x u hx hu
theorem VRs.append {G:Gh} {a b:List CVal} {x y:List Value} (h:VRs G a x) (k:VRs G b y):VRs G (a++b) (x++y):=by
 refine ⟨by simp [h.1,k.1],fun i c v hc hv=>?_⟩
 by_cases hi:i<a.length
 . rw [List.getElem?_append_left hi] at hc
   rw [List.getElem?_append_left (h.1 ▸ hi)] at hv
   exact h.2 i c v hc hv
 . rw [List.getElem?_append_right (by omega)] at hc
   rw [List.getElem?_append_right (by have:=h.1;omega)] at hv
   rw [<- h.1] at hv
   exact k.2 _ c v hc hv
theorem VRs.head {G:Gh} {c:CVal} {v:Value} {cs:List CVal} {vs:List Value} (h:VRs G (c::cs) (v::vs)):VR G c v:=h.2 0 c v rfl rfl
theorem VRs.tail {G:Gh} {c:CVal} {v:Value} {cs:List CVal} {vs:List Value} (h:VRs G (c::cs) (v::vs)):VRs G cs vs :=
 ⟨by have:=h.1;simpa using this,fun i x u hx hu=>h.2 (i+1) x u (by simpa using hx) (by simpa using hu)⟩
theorem zLk (l:List CVal) (i:Nat):nth l i=(l[i]?).getD .undef:=by
 induction l generalizing i with
 | nil=>simp [nth]
 | cons a r ih=>cases i with
  | zero=>simp [nth]
  | succ i=>simp [nth,ih]
theorem zAk {l:List CVal} {i:Nat} {c:CVal} (h:l[i]? = some c):nth l i=c:=by rw [zLk,h];rfl
theorem getElem?_nth {l:List CVal} {i:Nat} (h:i<l.length):l[i]? = some (nth l i):=by rw [zLk,List.getElem?_eq_getElem h];rfl
theorem VRs.take {G:Gh} {cs:List CVal} {vs:List Value} (h:VRs G cs vs) (n:Nat):VRs G (cs.take n) (vs.take n):=by
 refine ⟨by simp [h.1],fun i c v hc hv=>?_⟩
 by_cases hi:i<n
 . rw [List.getElem?_take,if_pos hi] at hc hv;exact h.2 i c v hc hv
 . rw [List.getElem?_take,if_neg hi] at hc;simp at hc
theorem VRs.drop {G:Gh} {cs:List CVal} {vs:List Value} (h:VRs G cs vs) (n:Nat):VRs G (cs.drop n) (vs.drop n):=by
 refine ⟨by simp [h.1],fun i c v hc hv=>?_⟩
 rw [List.getElem?_drop] at hc hv
 exact h.2 _ c v hc hv
theorem VR.cells {G:Gh} {c:CVal} {v:Value} (h:VR G c v) (hw:c.whole=true):VRs G c.cells v.cells.toList/\∀ x ∈ c.cells,x.flat=true:=by
 cases h <;> first
  | (simp [CVal.whole] at hw;done)
  | (rename_i hl hf h;exact ⟨⟨hl,h⟩,hf⟩)
  | (refine ⟨VRs.cons ?_ (VRs.nil G),?_⟩
     . constructor <;> assumption
     . intro x hx;simp [CVal.cells] at hx;subst hx;rfl)
theorem VR.oneCell {G:Gh} {c:CVal} {v:Value} (h:VR G c v) (hf:c.flat=true):v.oneCell'=true:=by
 cases h <;> first | rfl | simp [CVal.flat] at hf
theorem CVal.cells_flat {c:CVal} (h:c.flat=true):c.cells=[c]:=by cases c <;> first | rfl | simp [CVal.flat] at h
theorem VR.strip {G:Gh} {c:CVal} {v:Value} (h:VR G c v):VR G c.strip v:=by
 cases h <;> first
  | (rename_i t k es a cap hs hk hc hf ht;cases t <;> first | exact .imm hs hk hc hf ht | exact .imm hs hk hc hf trivial)
  | (simp only [CVal.strip];constructor <;> assumption)
theorem zHu (c:CVal):c.strip.flat=c.flat:=by
 cases c <;> first | rfl | (rename_i t k es;cases t <;> rfl)
theorem VRs.map {G:Gh} {cs:List CVal} {vs:List Value} (h:VRs G cs vs) (f:CVal->CVal) (hf:∀ c v,VR G c v->VR G (f c) v):VRs G (cs.map f) vs:=by
 refine ⟨by simp [h.1],fun i c v hc hv=>?_⟩
 simp at hc
 obtain ⟨x,hx,rfl⟩:=hc
 exact hf _ _ (h.2 i x v hx hv)
theorem VR.aggStrip {G:Gh} {cs:List CVal} {v:Value} (h:VR G (.agg cs) v):VR G (.agg (cs.map CVal.strip)) v:=by
 cases h with
 | agg hl hf h =>
  refine .agg (by simpa using hl) (fun c hc=>?_) (VRs.map ⟨hl,h⟩ _ fun _ _=>VR.strip).2
  simp at hc
  obtain ⟨x,hx,rfl⟩:=hc
  rw [zHu];exact hf x hx
theorem VR.bare {G:Gh} {c:CVal} {v:Value} (h:VR G c v):VR G c.bare v:=by
 cases c with
 | agg cs=>exact h.aggStrip
 | tup cs =>
  cases h with
  | tup hl h =>
   have:=VRs.map ⟨hl,h⟩ (fun v=>match v with | .agg cs=>.agg (cs.map CVal.strip) | v=>v.strip) (fun c v h=>by
    cases c <;> first | exact h.aggStrip | exact h.strip)
   exact .tup this.1 this.2
 | _=>exact h.strip
theorem zEq (c:CVal):c.bare.cells.length=c.cells.length:=by
 cases c <;> first | rfl | (rename_i t k es;cases t <;> rfl) | (simp [CVal.bare,CVal.cells];done)
theorem zPk (c:CVal):c.bare.whole=c.whole:=by
 cases c <;> first | rfl | (rename_i t k es;cases t <;> rfl)
theorem zPg (c:CVal):c.bare.cells=c.cells.map CVal.strip\/c.whole=false:=by
 cases c <;> first | exact .inl rfl | exact .inr rfl | (rename_i t k es;cases t <;> exact .inl rfl)
def Live (w:World) (ab i:Nat):Prop:=(∃ v,w.cell? ⟨ab,i,none⟩=some v)/\w.frozen? ⟨ab,i,none⟩=false
def Holds (G:Gh) (w:World) (ab i:Nat) (c:CVal):Prop:=∃ v,w.cell? ⟨ab,i,none⟩=some v/\VR G c v
inductive Own where
 | m (b:Nat)
 | r (b:Nat)
 | t (b:Nat)
 deriving DecidableEq
def zCi (G:Gh) (kvs:List (Nat × CVal × CVal)) (es:List MapEntry):Prop :=
 kvs.length=es.length/\∀ (i:Nat) (x:Nat × CVal × CVal) (e:MapEntry),kvs[i]? = some x->es[i]? = some e->x.1=e.born/\VR G x.2.1 e.key/\VR G x.2.2 e.val
theorem zCi.mono {G G':Gh} (hg:G.le G') {kvs:List (Nat × CVal × CVal)} {es:List MapEntry} (h:zCi G kvs es):zCi G' kvs es :=
 ⟨h.1,fun i x e hx he=>let ⟨a,b,c⟩:=h.2 i x e hx he;⟨a,b.mono hg,c.mono hg⟩⟩
def zP8 (base:Base) (G:Gh) (own:Nat->Nat->Option Own) (w:World) (b:Nat):CObj->Prop
 | .cells cs=>∀ ab k,G.mu b=some (ab,k)->cs.length=szOf k/\∀ (i:Nat) (c:CVal),cs[i]? = some c->c.flat=true/\Holds G w ab i c
 | .row ver es=>(∀ v x,G.rw b v=some x->v<=ver)/\∀ ab ao k cap,G.rw b ver=some (ab,ao,k,cap)->base<=ab/\es.length<=cap /\
  (∀ i,i<cap * k->own ab (ao+i)=some (.r b)/\Live w ab (ao+i)) /\
  ∀ (i:Nat) (e:CVal),es[i]? = some e->e.cells.length=k/\∀ (j:Nat) (c:CVal),e.cells[j]? = some c->c.flat=true/\Holds G w ab (ao+i * k+j) c
 | .tok ver=>(∀ v x,G.tk b v=some x->v<=ver)/\∀ ab e k room,G.tk b ver=some (ab,e,k,room)->base<=ab/\∀ i,i<room * k->own ab (e+i)=some (.t b)/\Live w ab (e+i)
 | .frow ver es=>(∀ v x,G.rw b v=some x->v<=ver)/\∀ ab ao k cap,G.rw b ver=some (ab,ao,k,cap)->base<=ab/\es.length<=cap /\
  (∀ i,i<cap * k->own ab (ao+i)=some (.r b)/\ab<w.heap.size) /\
  ∀ (i:Nat) (e:CVal),es[i]? = some e->e.cells.length=k/\∀ (j:Nat) (c:CVal),e.cells[j]? = some c->c.flat=true/\Holds G w ab (ao+i * k+j) c
 | .map ck kvs=>∀ ab,G.mu b=some (ab,0)->∃ es,w.heap[ab]? = some (Obj.map es ck)/\zCi G kvs es.toList
def Clean (w:World) (ab:Nat):Prop:=ab<w.heap.size/\(zG2=true->∀ (T:TypeId) (n:Nat),w.shape? ab=some (T,n)->w.frozen? ⟨ab,n,none⟩=false)
def RowB (w:World) (ab T:Nat):Prop:=∃ c lo hi,w.heap[ab]? = some (Obj.cells c T (lo,hi))/\lo<=hi/\hi<=c.size
def zI1 (own:Nat->Nat->Option Own) (w:World) (b ab k:Nat):Prop :=
 (k=0->own ab 0=some (.m b)/\∃ es ck,w.heap[ab]? = some (Obj.map es ck))/\(k≠0->w.shape? ab=some (tyOf k,szOf k))
structure InvO (base:Base) (G:Gh) (own:Nat->Nat->Option Own) (h:CHeap) (w:World):Prop where
 fzs:∀ ab o c,G.fz ab o=some c->own ab o=none/\Holds G w ab o c
 mus:∀ b ab k,G.mu b=some (ab,k)->b<h.next/\base<=ab/\(∀ i,i<szOf k->own ab i=some (.m b)/\Live w ab i)/\zI1 own w b ab k
 rws:∀ b v x,G.rw b v=some x->b<h.next
 tks:∀ b v x,G.tk b v=some x->b<h.next
 ents:∀ b o,h.get b=some o->b<h.next/\zP8 base G own w b o
 old:∀ ab o x,own ab o=some x->ab<w.heap.size
 top:base<=w.heap.size
 nod:(h.ents.map (·.1)).Nodup
 cln:∀ b v x,G.rw b v=some x->Clean w x.1
 gls:∀ g cs,zD5 base.gl g=some cs->∀ (i:Nat) (c:CVal),cs[i]? = some c->c.flat=true/\G.fz g i=some c
 tyk:∀ b T,h.ty b=some T->∃ v,G.rw b v≠none
 tys:∀ b T,h.ty b=some T->∀ v x,G.rw b v=some x->RowB w x.1 T/\∀ i y,own x.1 i=some y->y=.r b
def Inv (base:Base) (G:Gh) (h:CHeap) (w:World):Prop:=∃ own,InvO base G own h w
structure Chg (x:Own) (ow ow':Nat->Nat->Option Own) (w w':World):Prop where
 live:∀ ab i,Live w ab i->Live w' ab i
 cell:∀ ab i v,ow ab i≠some x->w.cell? ⟨ab,i,none⟩=some v->w'.cell? ⟨ab,i,none⟩=some v
 own:∀ ab i,ow ab i≠some x->ab<w.heap.size->ow' ab i=ow ab i
 ownm:∀ ab i b,ow ab i=some (Own.m b)->ow' ab i=some (Own.m b)
 size:w.heap.size<=w'.heap.size
 mark:∀ ab,Clean w ab->Clean w' ab
 shp:∀ ab x,w.shape? ab=some x->w'.shape? ab=some x
 obj:∀ (ab:Nat) (es:Array MapEntry) (ck:Nat),ow ab 0≠some x->w.heap[ab]? = some (Obj.map es ck)->w'.heap[ab]? = some (Obj.map es ck)
 objs:∀ (ab:Nat) (es:Array MapEntry) (ck:Nat),w.heap[ab]? = some (Obj.map es ck)->∃ es' ck',w'.heap[ab]? = some (Obj.map es' ck')
 rowb:∀ ab T,RowB w ab T->RowB w' ab T
 sole:∀ ab i y,ab<w.heap.size->ow' ab i=some y->ow ab i=some y
theorem zI1.keep {x:Own} {own own':Nat->Nat->Option Own} {w w':World} {b ab k:Nat} (C:Chg x own own' w w') (h:zI1 own w b ab k):zI1 own' w' b ab k :=
 ⟨fun hk=>⟨C.ownm _ _ _ (h.1 hk).1,let ⟨es,ck,he⟩:=(h.1 hk).2;C.objs ab es ck he⟩,fun hk=>C.shp _ _ (h.2 hk)⟩
def Gh.Same (G G':Gh) (b:Nat):Prop:=G'.mu b=G.mu b/\(∀ v,G'.rw b v=G.rw b v)/\∀ v,G'.tk b v=G.tk b v
theorem zE3 {w:World} {ab i:Nat} {v:Value} (h:w.cell? ⟨ab,i,none⟩=some v):ab<w.heap.size:=by
 unfold World.cell? at h
 by_cases hb:ab<w.heap.size
 . exact hb
 . have e:w.heap[ab]? = none:=Array.getElem?_eq_none (by omega)
   simp [e] at h
theorem Holds.mono {G G':Gh} {w w':World} {ab i:Nat} {c:CVal} (hg:G.le G') (hc:∀ v,w.cell? ⟨ab,i,none⟩=some v->w'.cell? ⟨ab,i,none⟩=some v) (h:Holds G w ab i c):Holds G' w' ab i c :=
 let ⟨v,h1,h2⟩:=h;⟨v,hc v h1,h2.mono hg⟩
theorem zP8.keep {base:Base} {G G':Gh} {own own':Nat->Nat->Option Own} {w w':World} {x:Own} {b:Nat} {o:CObj} (hg:G.le G') (C:Chg x own own' w w') (hs:G.Same G' b)
    (hm:∀ ab k,G.mu b=some (ab,k)->(∀ i,i<szOf k->own ab i=some (.m b)/\Live w ab i)/\zI1 own w b ab k)
    (h1:x≠.m b) (h2:x≠.r b) (h3:x≠.t b) (h:zP8 base G own w b o):zP8 base G' own' w' b o:=by
 have key:∀ ab i y,y≠x->own ab i=some y->own ab i≠some x:=fun ab i y hy he hx=>hy (by rw [he] at hx;exact Option.some.inj hx)
 cases o with
 | cells cs =>
  intro ab k hmu
  rw [hs.1] at hmu
  obtain ⟨hl,hc⟩:=h ab k hmu
  refine ⟨hl,fun i c hi=>⟨(hc i c hi).1,(hc i c hi).2.mono hg fun v hv=>C.cell ab i v (key _ _ _ h1.symm ((hm ab k hmu).1 i ?_).1) hv⟩⟩
  have:=List.getElem?_eq_some_iff.1 hi
  obtain ⟨hlt,_⟩:=this
  omega
 | row ver es =>
  refine ⟨fun v x hx=>h.1 v x (by rw [<- hs.2.1];exact hx),fun ab ao k cap hr=>?_⟩
  rw [hs.2.1] at hr
  obtain ⟨hb,hcap,hown,hel⟩:=h.2 ab ao k cap hr
  refine ⟨hb,hcap,fun i hi=>⟨?_,C.live _ _ (hown i hi).2⟩,fun i e he=>⟨(hel i e he).1,fun j c hc=>⟨((hel i e he).2 j c hc).1,((hel i e he).2 j c hc).2.mono hg fun v hv=>C.cell _ _ v ?_ hv⟩⟩⟩
  . obtain ⟨v,hv⟩:=(hown i hi).2.1
    rw [C.own _ _ (key _ _ _ h2.symm (hown i hi).1) (zE3 hv)]
    exact (hown i hi).1
  . have hlt:i * k+j<cap * k:=by
     have hi:=(List.getElem?_eq_some_iff.1 he).1
     have hj:=(List.getElem?_eq_some_iff.1 hc).1
     rw [(hel i e he).1] at hj
     have:(i+1) * k<=cap * k:=Nat.mul_le_mul_right _ (by omega)
     rw [Nat.succ_mul] at this
     omega
    have:=(hown (i * k+j) hlt).1
    rw [<- Nat.add_assoc] at this
    exact key _ _ _ h2.symm this
 | tok ver =>
  refine ⟨fun v x hx=>h.1 v x (by rw [<- hs.2.2];exact hx),fun ab e k room ht=>?_⟩
  rw [hs.2.2] at ht
  obtain ⟨hb,hr⟩:=h.2 ab e k room ht
  refine ⟨hb,fun i hi=>⟨?_,C.live _ _ (hr i hi).2⟩⟩
  obtain ⟨v,hv⟩:=(hr i hi).2.1
  rw [C.own _ _ (key _ _ _ h3.symm (hr i hi).1) (zE3 hv)]
  exact (hr i hi).1
 | frow ver es =>
  refine ⟨fun v x hx=>h.1 v x (by rw [<- hs.2.1];exact hx),fun ab ao k cap hr=>?_⟩
  rw [hs.2.1] at hr
  obtain ⟨hab,hcap,hown,hel⟩:=h.2 ab ao k cap hr
  refine ⟨hab,hcap,fun i hi=>⟨?_,Nat.lt_of_lt_of_le (hown i hi).2 C.size⟩,fun i e he=>⟨(hel i e he).1,fun j c hc=>⟨((hel i e he).2 j c hc).1,((hel i e he).2 j c hc).2.mono hg fun v hv=>C.cell _ _ v ?_ hv⟩⟩⟩
  . rw [C.own _ _ (key _ _ _ h2.symm (hown i hi).1) (hown i hi).2]
    exact (hown i hi).1
  . have hlt:i * k+j<cap * k:=by
     have hi:=(List.getElem?_eq_some_iff.1 he).1
     have hj:=(List.getElem?_eq_some_iff.1 hc).1
     rw [(hel i e he).1] at hj
     have:(i+1) * k<=cap * k:=Nat.mul_le_mul_right _ (by omega)
     rw [Nat.succ_mul] at this
     omega
    have:=(hown (i * k+j) hlt).1
    rw [<- Nat.add_assoc] at this
    exact key _ _ _ h2.symm this
 | map ck kvs =>
  intro ab hmu
  rw [hs.1] at hmu
  obtain ⟨es,he,hr⟩:=h ab hmu
  exact ⟨es,C.obj _ _ _ (key _ _ _ h1.symm ((hm ab 0 hmu).2.1 rfl).1) he,hr.mono hg⟩
theorem InvO.step {base:Base} {G G':Gh} {own own':Nat->Nat->Option Own} {h h':CHeap} {w w':World} {x:Own} (I:InvO base G own h w) (hg:G.le G') (C:Chg x own own' w w') (hn:h.next<=h'.next)
    (F:∀ ab o c,G'.fz ab o=some c->G.fz ab o=some c\/(own' ab o=none/\Holds G' w' ab o c))
    (M:∀ b ab k,G'.mu b=some (ab,k)->G.mu b=some (ab,k)\/(b<h'.next/\base<=ab/\(∀ i,i<szOf k->own' ab i=some (.m b)/\Live w' ab i)/\zI1 own' w' b ab k))
    (R:∀ b v y,G'.rw b v=some y->G.rw b v=some y\/(b<h'.next/\Clean w' y.1))
    (T:∀ b v y,G'.tk b v=some y->G.tk b v=some y\/b<h'.next)
    (E:∀ b o,h'.get b=some o->(h.get b=some o/\G.Same G' b/\x≠.m b/\x≠.r b/\x≠.t b)\/(b<h'.next/\zP8 base G' own' w' b o))
    (O:∀ ab o y,own' ab o=some y->ab<w'.heap.size) (N:(h'.ents.map (·.1)).Nodup)
    (Y:∀ b T,h'.ty b=some T->(h.ty b=some T/\∀ v y,G'.rw b v=some y->G.rw b v=some y)\/((∃ v,G'.rw b v≠none)/\∀ v y,G'.rw b v=some y->RowB w' y.1 T/\∀ i z,own' y.1 i=some z->z=.r b)):InvO base G' own' h' w' where
 fzs ab o c hf:=by
  rcases F ab o c hf with h1 | h1
  . obtain ⟨ho,hh⟩:=I.fzs ab o c h1
    obtain ⟨v,hv,_⟩:=hh
    exact ⟨by rw [C.own ab o (by rw [ho];simp) (zE3 hv)];exact ho,(I.fzs ab o c h1).2.mono hg fun v hv=>C.cell ab o v (by rw [ho];simp) hv⟩
  . exact h1
 mus b ab k hm:=by
  rcases M b ab k hm with h1 | h1
  . obtain ⟨hb,hab,hi,hbk⟩:=I.mus b ab k h1
    exact ⟨by omega,hab,fun i hik=>⟨C.ownm _ _ _ (hi i hik).1,C.live _ _ (hi i hik).2⟩,hbk.keep C⟩
  . exact h1
 rws b v y hr:=(R b v y hr).elim (fun h1=>Nat.lt_of_lt_of_le (I.rws b v y h1) hn) (·.1)
 tks b v y hr:=(T b v y hr).elim (fun h1=>Nat.lt_of_lt_of_le (I.tks b v y h1) hn) id
 ents b o ho:=by
  rcases E b o ho with ⟨h1,hs,e1,e2,e3⟩ | h1
  . obtain ⟨hb,he⟩:=I.ents b o h1
    exact ⟨by omega,he.keep hg C hs (fun ab k hm=>(I.mus b ab k hm).2.2) e1 e2 e3⟩
  . exact h1
 old:=O
 top:=Nat.le_trans I.top C.size
 nod:=N
 cln b v y hr:=(R b v y hr).elim (fun h1=>C.mark _ (I.cln b v y h1)) (·.2)
 gls g cs hl i c hc:=⟨(I.gls g cs hl i c hc).1,hg.fz _ _ _ (I.gls g cs hl i c hc).2⟩
 tyk b T ht:=by
  rcases Y b T ht with ⟨h1,_⟩ | ⟨h1,_⟩
  . obtain ⟨v,hv⟩:=I.tyk b T h1
    refine ⟨v,fun h2=>?_⟩
    cases hx:G.rw b v with
    | none=>exact hv hx
    | some x=>rw [hg.rw _ _ _ hx] at h2;cases h2
  . exact h1
 tys b T ht v x hx:=by
  rcases Y b T ht with ⟨h1,h2⟩ | ⟨_,h2⟩
  . obtain ⟨h3,h4⟩:=I.tys b T h1 v x (h2 v x hx)
    refine ⟨C.rowb _ _ h3,fun i y hy=>h4 i y (C.sole _ _ _ ?_ hy)⟩
    obtain ⟨c,lo,hi,he,_⟩:=h3
    exact (Array.getElem?_eq_some_iff.1 he).1
  . exact h2 v x hx
theorem zDt (h:CHeap) (b c:Nat) (o:CObj):(h.put b o).get c=if b=c then some o else h.get c:=by
 simp only [CHeap.get,CHeap.put,zA1]
 by_cases hb:b=c <;> simp [hb]
theorem zKm (l:List (Nat × CObj)) (b c:Nat) (o:CObj):zA1 (zA2 l b o) c=if b=c then (zA1 l c).map (fun _=>o) else zA1 l c:=by
 induction l with
 | nil=>simp [zA2,zA1]
 | cons p r ih =>
  obtain ⟨i,q⟩:=p
  by_cases hi:i=b
  . subst hi
    by_cases hc:i=c
    . subst hc;simp [zA2,zA1]
    . simp [zA2,zA1,hc]
  . by_cases hc:i=c
    . subst hc
      simp [zA2,zA1,hi,Ne.symm hi]
    . simp [zA2,zA1,hi,hc,ih]
theorem zS1 (h:CHeap) (b c:Nat) (o:CObj):(h.set b o).get c=if b=c then (h.get c).map (fun _=>o) else h.get c:=zKm _ _ _ _
theorem zNd (l:List (Nat × CObj)) (b:Nat) (o:CObj):(zA2 l b o).map (·.1)=l.map (·.1):=by
 induction l with
 | nil=>rfl
 | cons p r ih =>
  obtain ⟨i,q⟩:=p
  simp only [zA2]
  split
  . simp
  . simp [ih]
theorem zFs {l:List (Nat × CObj)} {b:Nat} (hb:b ∈ l.map (·.1)):zA1 l b≠none:=by
 induction l with
 | nil=>simp at hb
 | cons p r ih =>
  obtain ⟨i,q⟩:=p
  simp only [zA1]
  split
  . simp
  . rename_i hne
    simp at hb hne
    exact ih (by simpa using hb.resolve_left (fun h=>hne h.symm))
theorem zHd {l:List (Nat × CObj)} {b:Nat} {o:CObj} (h:zA1 l b=some o):(b,o) ∈ l:=by
 induction l with
 | nil=>simp [zA1] at h
 | cons p r ih =>
  obtain ⟨i,q⟩:=p
  simp only [zA1] at h
  split at h
  . rename_i hi;simp at hi h;subst hi h;simp
  . exact List.mem_cons_of_mem _ (ih h)
theorem zL5 {l:List (Nat × CObj)} {b:Nat} {o:CObj} (hn:(l.map (·.1)).Nodup) (h:(b,o) ∈ l):zA1 l b=some o:=by
 induction l with
 | nil=>simp at h
 | cons p r ih =>
  obtain ⟨i,q⟩:=p
  simp only [List.map_cons,List.nodup_cons] at hn
  simp only [zA1]
  rcases List.mem_cons.1 h with h1 | h1
  . simp at h1;obtain ⟨rfl,rfl⟩:=h1;simp
  . have:i≠b:=fun e=>hn.1 (e ▸ List.mem_map.2 ⟨_,h1,rfl⟩)
    simp [this,ih hn.2 h1]
theorem zFv {l l':List (Nat × CObj)} (hs:l'.Sublist l) (hn:(l.map (·.1)).Nodup) {b:Nat} {o:CObj} (h:zA1 l' b=some o):zA1 l b=some o :=
 zL5 hn (hs.subset (zHd h))
theorem zM6 (l:List (Nat × CObj)) (n:Nat):(zBe l n).Sublist l:=by
 induction l with
 | nil=>exact .slnil
 | cons p r ih =>
  obtain ⟨i,q⟩:=p
  simp only [zBe]
  split
  . exact .cons _ ih
  . exact List.Sublist.refl _
theorem zC0 (l:List (Nat × CObj)) (n:Nat):(zA5 l n).Sublist l:=by
 induction l with
 | nil=>exact .slnil
 | cons p r ih =>
  obtain ⟨i,q⟩:=p
  simp only [zA5]
  split
  . cases q
    . exact .cons _ ih
    . exact .cons_cons _ ih
    . exact .cons_cons _ ih
    . exact .cons_cons _ ih
    . exact .cons_cons _ ih
  . exact List.Sublist.refl _
theorem InvO.sub {base:Base} {G:Gh} {own:Nat->Nat->Option Own} {h h':CHeap} {w:World} (I:InvO base G own h w) (hs:h'.ents.Sublist h.ents) (hn:h.next<=h'.next) (ht:h'.tys=h.tys):InvO base G own h' w where
 fzs:=I.fzs
 mus b ab k hm:=⟨Nat.lt_of_lt_of_le (I.mus b ab k hm).1 hn,(I.mus b ab k hm).2⟩
 rws b v x hx:=Nat.lt_of_lt_of_le (I.rws b v x hx) hn
 tks b v x hx:=Nat.lt_of_lt_of_le (I.tks b v x hx) hn
 ents b o ho:=by
  have:=I.ents b o (zFv hs I.nod ho)
  exact ⟨Nat.lt_of_lt_of_le this.1 hn,this.2⟩
 old:=I.old
 top:=I.top
 nod:=(hs.map _).nodup I.nod
 cln:=I.cln
 gls:=I.gls
 tyk b T h1:=I.tyk b T (by unfold CHeap.ty at h1 ⊢;rw [<- ht];exact h1)
 tys b T h1:=I.tys b T (by unfold CHeap.ty at h1 ⊢;rw [<- ht];exact h1)
end Go.CI
namespace Go.CI
open Go.RowKit
section base
variable {P:Program} {w:World}
theorem zB5 {t:TypeId} {d:TypeDesc} (h:P.underlying t=some d):(underlying t).run P w=.ok d w:=run_underlying h w
theorem zNv {t:TypeId} {i:TypeInfo} (h:P.info? t=some i):(typeInfo t).run P w=.ok i w:=by simp [typeInfo,h]
theorem zCe {t:TypeId} {i:TypeInfo} (h:P.info? t=some i):(sizeOf t).run P w=.ok i.size w:=by simp [sizeOf,zNv h]
theorem zGa {t:TypeId} {i:TypeInfo} {z:Value} (h:P.info? t=some i) (hz:i.zero=some z):(zeroValue t).run P w=.ok z w:=by simp [zeroValue,zNv h,hz]
theorem zMa {t:TypeId} {d:TypeDesc} (h:P.underlying t=some d):(isAgg t).run P w=.ok (zEe d) w:=by
 simp only [isAgg,Sem.run_bind,zB5 h,Result.andThen_ok]
 cases d <;> rfl
end base
def zCw (G:Gh) (h:CHeap) (id:Nat):Prop:=G.mu id=none/\(∀ v,G.rw id v=none)/\(∀ v,G.tk id v=none)/\h.get id=none
theorem InvO.ty_fresh {base:Base} {G:Gh} {own:Nat->Nat->Option Own} {h:CHeap} {w:World} {id:Nat} (I:InvO base G own h w) (hf:zCw G h id):h.ty id=none:=by
 cases ht:h.ty id with
 | none=>rfl
 | some T=>obtain ⟨v,hv⟩:=I.tyk id T ht;exact absurd (hf.2.1 v) hv
theorem zIr (h:CHeap) (b T:Nat):(h.note b T).ents=h.ents:=by cases T <;> rfl
theorem zIy (h:CHeap) (b T:Nat):(h.note b T).next=h.next:=by cases T <;> rfl
theorem zFu (h:CHeap) (b T c:Nat):(h.note b T).get c=h.get c:=by cases T <;> rfl
theorem zM1 {h:CHeap} {b T e:Nat} (hf:h.ty b=none) (hT:T=0\/T=e+1) {T':Nat} (h1:(h.note b T).ty b=some T'):T'=e:=by
 rcases hT with rfl | rfl
 . have h1:h.ty b=some T':=h1
   rw [hf] at h1;cases h1
 . simp [CHeap.note,CHeap.ty,zCy] at h1;exact h1.symm
theorem zKs {h:CHeap} {b T b' T':Nat} (hne:b'≠b) (h1:(h.note b T).ty b'=some T'):h.ty b'=some T':=by
 cases T with
 | zero=>exact h1
 | succ t =>
  simp only [CHeap.note,CHeap.ty,zCy] at h1
  rw [if_neg (by simp;exact fun e=>hne e.symm)] at h1
  exact h1
structure Post (base:Base) (ex:Nat->Prop) (G:Gh) (h:CHeap) (w:World) (G':Gh) (h':CHeap) (w':World):Prop where
 le:G.le G'
 inv:Inv base G' h' w'
 below:Below base w w'
 next:h.next<=h'.next
 fresh:∀ i,i<h.next->¬ ex i->zCw G h i->zCw G' h' i
theorem Post.refl {base:Base} {ex:Nat->Prop} {G:Gh} {h:CHeap} {w:World} (I:Inv base G h w):Post base ex G h w G h w :=
 ⟨.refl G,I,.refl _ _,Nat.le_refl _,fun _ _ _ hf=>hf⟩
theorem Post.trans {base:Base} {ex ex':Nat->Prop} {G G1 G2:Gh} {h h1 h2:CHeap} {w w1 w2:World} (a:Post base ex G h w G1 h1 w1) (b:Post base ex' G1 h1 w1 G2 h2 w2):Post base (fun i=>ex i\/ex' i) G h w G2 h2 w2 :=
 ⟨a.le.trans b.le,b.inv,a.below.trans b.below,Nat.le_trans a.next b.next,fun i hi he hf=>b.fresh i (Nat.lt_of_lt_of_le hi a.next) (fun h=>he (.inr h)) (a.fresh i hi (fun h=>he (.inl h)) hf)⟩
theorem Post.mono {base:Base} {ex ex':Nat->Prop} {G G1:Gh} {h h1:CHeap} {w w1:World} (a:Post base ex G h w G1 h1 w1) (hx:∀ i,ex i->ex' i):Post base ex' G h w G1 h1 w1 :=
 ⟨a.le,a.inv,a.below,a.next,fun i hi he hf=>a.fresh i hi (fun h=>he (hx i h)) hf⟩
def Gives (P:Program) (s:Sem Next) (w:World) (Q:Value->World->Prop):Prop :=
 (∃ v w',s.run P w=.ok (.value v) w'/\Q v w')\/∃ w',s.run P w=.ok .skip w'/\Q undef w'
theorem Gives.of_run {P:Program} {s:Sem Value} {w w':World} {v:Value} {Q:Value->World->Prop} (h:s.run P w=.ok v w') (q:Q v w'):Gives P (do pure (.value (<- s))) w Q :=
 .inl ⟨v,w',by simp [h],q⟩
section noMemory
variable {P:Program} {base:Base} {G:Gh} {h:CHeap} {w:World}
theorem zOi {c:CVal} {k:IntKind} {n:Int} {v:Value} (h:VR G (.int k n) v):v=.int k n:=by cases h;rfl
theorem zN0 {b:Bool} {v:Value} (h:VR G (.bool b) v):v=.bool b:=by cases h;rfl
theorem zFc {s:List UInt8} {v:Value} (h:VR G (.str s) v):∃ t:ByteArray,v=.string t/\t.data.toList=s:=by cases h;exact ⟨_,rfl,rfl⟩
theorem zIg {t:ByteArray} {s:List UInt8} (h:t.data.toList=s):VR G (.str s) (.string t):=h ▸ .str t
theorem size_eq (s:ByteArray):s.data.toList.length=s.size:=by rw [Array.length_toList];rfl
theorem zM0 (s:ByteArray):s.toList=s.data.toList:=by
 have key:∀ (n i:Nat) (r:List UInt8),s.size - i=n->ByteArray.toList.loop s i r=r.reverse++s.data.toList.drop i:=by
  intro n
  induction n with
  | zero =>
   intro i r hn
   unfold ByteArray.toList.loop
   rw [if_neg (by omega),List.drop_eq_nil_of_le (by rw [size_eq];omega)]
   simp
  | succ n ih =>
   intro i r hn
   unfold ByteArray.toList.loop
   have hi:i<s.size:=by omega
   have hi':i<s.data.toList.length:=by rw [size_eq];exact hi
   rw [if_pos hi,ih (i+1) _ (by omega),List.drop_eq_getElem_cons hi']
   have:s.get! i=s.data.toList[i]:=by
    show s.data[i]! = _
    have hd:i<s.data.size:=hi
    rw [getElem!_pos s.data i hd];rfl
   rw [this];simp
 have:=key s.size 0 [] (by omega)
 rw [ByteArray.toList,this];rfl
theorem zPi (x y:List UInt8):Op.bytesLess x y=zCp x y:=by
 induction x generalizing y with
 | nil=>cases y <;> rfl
 | cons a x ih=>cases y with
  | nil=>rfl
  | cons b y=>simp [Op.bytesLess,zCp,ih]
theorem zW1 {b:BinOp} {x y:ByteArray} {c:CVal} (hc:zL7 b x.data.toList y.data.toList=some c) :
    ∃ v,(Op.stringOp b x y).run P w=.ok v w/\VR G c v:=by
 cases b <;> simp only [zL7] at hc <;> try (cases hc;done)
 case add =>
  split at hc
  . rename_i hl
    cases hc
    refine ⟨.string (x++y),?_,?_⟩
    . have:¬ ((x.size+y.size:Nat):Int) > IntKind.i64.max:=by
       rw [size_eq,size_eq] at hl
       have:IntKind.i64.max=9223372036854775807:=rfl
       rw [this];omega
      simp only [Op.stringOp,if_neg this];rfl
    . exact zIg (by rw [ByteArray.data_append,Array.toList_append])
  . cases hc
 all_goals
  cases hc
  simp only [Op.stringOp,Sem.run_pure,zM0,zPi]
  exact ⟨_,rfl,.bool _⟩
theorem zOb {b:BinOp} {k:IntKind} {x y:Int} {c:CVal} (hc:zD0 b k x y=some c) :
    (∃ v,(Op.intBits b k x y).run P w=.ok v w/\VR G c v)/\(b=.and\/b=.or\/b=.xor\/b=.andNot):=by
 cases b <;> simp only [zD0] at hc <;> first | (cases hc;done) | (cases hc;exact ⟨⟨_,rfl,.int _ _⟩,by simp⟩)
theorem zQh {b:BinOp} {t:TypeId} {k:IntKind} {x y:Int} {c:CVal} (hb:b≠.shl/\b≠.shr) (hc:zHn b k x y=some c) :
    ∃ v,(binOp b t (.int k x) (.int k y)).run P w=.ok v w/\VR G c v:=by
 cases b
 case shl=>exact absurd rfl hb.1
 case shr=>exact absurd rfl hb.2
 case quo =>
  simp only [zHn] at hc
  by_cases hz:y=0
  . rw [if_pos hz] at hc;cases hc
  . rw [if_neg hz] at hc;cases hc
    refine ⟨_,?_,.int _ _⟩
    simp [binOp,Op.intDiv,hz]
 case rem =>
  simp only [zHn] at hc
  by_cases hz:y=0
  . rw [if_pos hz] at hc;cases hc
  . rw [if_neg hz] at hc;cases hc
    refine ⟨_,?_,.int _ _⟩
    simp [binOp,Op.intDiv,hz]
 all_goals simp only [zHn] at hc
 all_goals first
  | (obtain ⟨h1,_⟩:=zOb (P:=P) (w:=w) (G:=G) hc;simpa [binOp] using h1)
  | (cases hc;refine ⟨_,?_,.int _ _⟩;simp [binOp,Op.intArith])
  | (cases hc;refine ⟨_,?_,.bool _⟩;simp [binOp,Op.intCmp])
theorem zVb {b:BinOp} {t:TypeId} {x y c:CVal} {u v:Value} (hu:VR G x u) (hv:VR G y v) (hc:zHp b x y=some c) :
    ∃ z,(binOp b t u v).run P w=.ok z w/\VR G c z:=by
 unfold zHp at hc
 split at hc
 . split at hc
   . cases hc
   . rename_i hn
     cases hc;cases hu;cases hv
     refine ⟨_,?_,.int _ _⟩
     simp [binOp,Op.shift,hn]
 . split at hc
   . cases hc
   . rename_i hn
     cases hc;cases hu;cases hv
     refine ⟨_,?_,.int _ _⟩
     simp [binOp,Op.shift,hn]
 . rename_i h1 h2
   split at hc
   . rename_i hk
     subst hk
     cases hu;cases hv
     exact zQh ⟨h1,h2⟩ hc
   . cases hc
 . cases hu;cases hv
   have:=zW1 (P:=P) (w:=w) (G:=G) hc
   obtain ⟨z,hz,hv⟩:=this
   refine ⟨z,?_,hv⟩
   cases b <;> simpa [binOp] using hz
 . cases hc
theorem zPu {e:EqK} {x y:CVal} {u v:Value} {t:TypeId} {r:Bool} {d:TypeDesc} (hd:P.underlying t=some d) (he:zR1 d=some e) (hu:VR G x u) (hv:VR G y v) (hc:zL8 e x y=some r) :
    (Op.equal t u v).run P w=.ok r w:=by
 unfold zL8 at hc
 split at hc <;> first
  | (cases hc;done)
  | (cases hc;cases hu;cases hv
     cases d <;> first
      | (cases he;done)
      | (unfold Op.equal Op.maxDepth;rw [show (10000:Nat)=9999+1 from rfl];generalize (9999:Nat)=D;simp [Op.equalIn,zB5 hd]))
theorem zUt {e:EqK} {x y:CVal} {u v:Value} {t:TypeId} {r:Bool} (hu:VR G x u) (hv:VR G y v) (hc:zL8 e x y=some r) (hr:(Op.equal t u v).run P w=.ok r w) :
    (binOp .eql t u v).run P w=.ok (.bool r) w/\(binOp .neq t u v).run P w=.ok (.bool (!r)) w:=by
 unfold zL8 at hc
 split at hc <;> first
  | (cases hc;done)
  | (cases hc;cases hu;cases hv;exact ⟨by simp [binOp,hr],by simp [binOp,hr]⟩)
theorem zPa {e:EqK} {x y:CVal} {u v:Value} {r:Bool} {X Y:Operand} (hu:VR G x u) (hv:VR G y v) (hc:zL8 e x y=some r) (b:BinOp) (t:TypeId)
    (hk:e=.ifc->zCh X=true\/zCh Y=true):(eqGuard b t X Y u v).run P w=.ok () w:=by
 unfold zL8 at hc
 split at hc <;> first
  | (cases hc;done)
  | (cases hc;cases hu;cases hv;unfold eqGuard;cases b <;> first | rfl | skip)
 all_goals
  rcases hk rfl with hh | hh
  . cases X <;> first | (simp [zCh] at hh;done) | rfl
  . cases Y <;> first | (simp [zCh] at hh;done) | (cases X <;> rfl)
end noMemory
end Go.CI
namespace Go.CI
open Go.RowKit
theorem getElem?_cut {α:Type} (lo hi:Nat) (l:List α) (i:Nat):(cut lo hi l)[i]? = if lo+i<hi then l[lo+i]? else none:=by
 unfold cut
 rw [List.getElem?_drop,List.getElem?_take]
theorem zBv {α:Type} (lo hi:Nat) (l:List α) (h:hi<=l.length):(cut lo hi l).length=hi - lo:=by
 unfold cut;rw [List.length_drop,List.length_take];omega
theorem zDr (l:List CVal) (i:Nat) (x:CVal):(zBw l i x).length=l.length:=by
 induction l generalizing i with
 | nil=>rfl
 | cons a r ih=>cases i <;> simp [zBw,ih]
theorem getElem?_setNth (l:List CVal) (i j:Nat) (x:CVal):(zBw l i x)[j]? = if i=j/\j<l.length then some x else l[j]?:=by
 induction l generalizing i j with
 | nil=>simp [zBw]
 | cons a r ih=>cases i with
  | zero=>cases j <;> simp [zBw]
  | succ i=>cases j with
   | zero=>simp [zBw]
   | succ j=>simp [zBw,ih]
def zAp (es:List CVal):List CVal:=es.flatMap CVal.cells
def AllK (k:Nat) (es:List CVal):Prop:=∀ e ∈ es,e.cells.length=k
theorem zAl {k:Nat} {es:List CVal} (h:AllK k es):(zAp es).length=es.length * k:=by
 induction es with
 | nil=>simp [zAp]
 | cons e r ih =>
  have h1:=h e (by simp)
  have h2:=ih (fun x hx=>h x (by simp [hx]))
  simp only [zAp,List.flatMap_cons,List.length_append,List.length_cons] at *
  rw [h1,h2,Nat.succ_mul];omega
theorem zDk {k:Nat} {es:List CVal} (h:AllK k es) {i j:Nat} {e c:CVal} (he:es[i]? = some e) (hc:e.cells[j]? = some c):(zAp es)[i * k+j]? = some c:=by
 induction es generalizing i with
 | nil=>simp at he
 | cons a r ih =>
  have h1:=h a (by simp)
  have hr:AllK k r:=fun x hx=>h x (by simp [hx])
  cases i with
  | zero =>
   simp at he;subst he
   have:=(List.getElem?_eq_some_iff.1 hc).1
   simp only [zAp,List.flatMap_cons]
   rw [Nat.zero_mul,Nat.zero_add,List.getElem?_append_left this];exact hc
  | succ i =>
   simp only [zAp,List.flatMap_cons]
   rw [List.getElem?_append_right (by rw [h1,Nat.succ_mul];omega),h1]
   rw [show (i+1) * k+j - k=i * k+j from by rw [Nat.succ_mul];omega]
   exact ih hr (by simpa using he)
theorem zO5 (off:Nat):∀ (l:List Value) (s:Nat) (arr:Array Value),off+s+l.length<=arr.size ->
    ((l.zipIdx s).foldl (fun cs p=>cs.setIfInBounds (off+p.2) p.1) arr).toList=arr.toList.take (off+s)++(l++arr.toList.drop (off+s+l.length))
 | [],s,arr,h=>by simp
 | v::l,s,arr,h=>by
  simp only [List.zipIdx_cons,List.foldl_cons]
  simp only [List.length_cons] at h
  rw [zO5 off l (s+1) _ (by simp;omega)]
  simp only [Array.toList_setIfInBounds]
  have hlt:off+s<arr.toList.length:=by simp;omega
  rw [show off+(s+1)=off+s+1 from by omega]
  rw [List.take_succ_eq_append_getElem (by simpa using hlt)]
  rw [List.take_set_of_le (by omega),List.drop_set_of_lt (by omega)]
  simp only [List.getElem_set_self,List.append_assoc,List.length_cons,List.cons_append,List.nil_append]
  rw [show off+s+1+l.length=off+s+(l.length+1) from by omega]
theorem VRs.splice {G:Gh} {cs vc:List CVal} {arr:Array Value} {u:Array Value} {off size:Nat} (h:VRs G cs arr.toList) (hv:VRs G vc u.toList) (hs:vc.length=size) (ho:off+size<=cs.length) :
    VRs G (cs.take off++(vc++cs.drop (off+size))) (u.zipIdx.foldl (fun cs p=>cs.setIfInBounds (off+p.2) p.1) arr).toList:=by
 have hu:u.toList.length=size:=by rw [<- hv.1,hs]
 have ha:arr.toList.length=cs.length:=h.1.symm
 have:(u.zipIdx.foldl (fun cs p=>cs.setIfInBounds (off+p.2) p.1) arr).toList=arr.toList.take off++(u.toList++arr.toList.drop (off+size)):=by
  rw [<- Array.foldl_toList,Array.toList_zipIdx]
  have:=zO5 off u.toList 0 arr (by rw [hu];have:arr.toList.length=arr.size:=Array.length_toList;omega)
  rw [hu] at this
  simpa using this
 rw [this]
 exact (h.take off).append (hv.append (h.drop (off+size)))
section
variable {P:Program} {base:Base} {G:Gh} {h:CHeap} {w:World}
theorem zJv {own:Nat->Nat->Option Own} (I:InvO base G own h w) (o:Obj) (f:Nat->Option Own) (x:Own) :
    Chg x own (fun a i=>if a=w.heap.size then f i else own a i) w (w.alloc o) where
 live ab i hl:=by
  obtain ⟨⟨v,hv⟩,hf⟩:=hl
  have hne:ab≠w.heap.size:=by have:=zE3 hv;omega
  exact ⟨⟨v,by rw [World.cell?_alloc_old (a:=⟨ab,i,none⟩) (h:=hne)];exact hv⟩,by rw [World.frozen?_alloc_old (a:=⟨ab,i,none⟩) (h:=hne)];exact hf⟩
 cell ab i v _ hv:=by
  have hne:ab≠w.heap.size:=by have:=zE3 hv;omega
  rw [World.cell?_alloc_old (a:=⟨ab,i,none⟩) (h:=hne)];exact hv
 own ab i _ hlt:=by
  show (if ab=w.heap.size then f i else own ab i)=own ab i
  rw [if_neg (by omega)]
 ownm ab i b ho:=by
  have:=I.old _ _ _ ho
  show (if ab=w.heap.size then f i else own ab i)=_
  rw [if_neg (by omega)];exact ho
 size:=by show w.heap.size<=(w.heap.push _).size;rw [Array.size_push];omega
 mark ab hc:=by
  have hb:(w.alloc o).heap[ab]? = w.heap[ab]?:=Below.heap_alloc _ _ _ hc.1
  refine ⟨Nat.lt_of_lt_of_le hc.1 (by show w.heap.size<=(w.heap.push _).size;rw [Array.size_push];omega),fun st T' n hs=>?_⟩
  have h1:w.shape? ab=some (T',n):=by unfold World.shape? at hs ⊢;rw [<- hb];exact hs
  have h2:=hc.2 st T' n h1
  unfold World.frozen? at h2 ⊢
  show (match (w.alloc o).heap[ab]? with | some (.cells _ _ (lo,hi))=>decide (lo<=n) && decide (n<hi) | _=>false)=false
  rw [hb];exact h2
 shp ab x hs:=by
  have hlt:ab<w.heap.size:=by
   by_cases h:ab<w.heap.size
   . exact h
   . unfold World.shape? at hs;rw [Array.getElem?_eq_none (by omega)] at hs;cases hs
  have hb:(w.alloc o).heap[ab]? = w.heap[ab]?:=Below.heap_alloc _ _ _ hlt
  unfold World.shape? at hs ⊢;rw [hb];exact hs
 obj ab es ck _ he:=by rw [Below.heap_alloc _ _ _ (Array.getElem?_eq_some_iff.1 he).1];exact he
 objs ab es ck he:=⟨es,ck,by rw [Below.heap_alloc _ _ _ (Array.getElem?_eq_some_iff.1 he).1];exact he⟩
 rowb ab T hr:=by
  obtain ⟨c,lo,hi,he,h1,h2⟩:=hr
  exact ⟨c,lo,hi,by rw [Below.heap_alloc _ _ _ (Array.getElem?_eq_some_iff.1 he).1];exact he,h1,h2⟩
 sole ab i y hlt hy:=by
  have hy:(if ab=w.heap.size then f i else own ab i)=some y:=hy
  rw [if_neg (by omega)] at hy;exact hy
theorem zGu {own:Nat->Nat->Option Own} (I:InvO base G own h w) (arr:Array Value) (T:TypeId) (fr:Nat × Nat) (f:Nat->Option Own) (x:Own) :
    Chg x own (fun a i=>if a=w.heap.size then f i else own a i) w (w.alloc (.cells arr T fr)):=zJv I _ f x
theorem zFx (o:Obj):(w.alloc o).heap[w.heap.size]? = some o:=by
 show (w.heap.push o)[w.heap.size]? = _
 rw [Array.getElem?_push,if_pos rfl]
theorem zEs (arr:Array Value) (T:TypeId) (fr:Nat × Nat) (i:Nat):(w.alloc (.cells arr T fr)).cell? ⟨w.heap.size,i,none⟩=arr[i]?:=by
 unfold World.cell?
 rw [zFx];rfl
theorem zFz (arr:Array Value) (T:TypeId) (lo hi i:Nat) (h:hi<=lo\/i<lo):(w.alloc (.cells arr T (lo,hi))).frozen? ⟨w.heap.size,i,none⟩=false:=by
 unfold World.frozen?
 rw [zFx]
 simp;omega
def Gh.withFz (G:Gh) (ab:Nat) (cs:List CVal):Gh:={ G with fz:=fun a o=>if a=ab then cs[o]? else G.fz a o }
theorem zN9 (I:Inv base G h w) (ex:Nat->Prop) (arr:Array Value) (T:TypeId) (fr:Nat × Nat) (cs:List CVal) (hc:∀ (i:Nat) (c:CVal),cs[i]? = some c->∃ v,arr[i]? = some v/\VR G c v) :
    Post base ex G h w (G.withFz w.heap.size cs) h (w.alloc (.cells arr T fr)):=by
 obtain ⟨own,I⟩:=I
 have hle:G.le (G.withFz w.heap.size cs):=⟨fun b o c hb=>by
  obtain ⟨_,v,hv,_⟩:=I.fzs b o c hb
  show (if b=w.heap.size then cs[o]? else G.fz b o)=some c
  rw [if_neg (by have:=zE3 hv;omega)];exact hb,fun _ _ h=>h,fun _ _ _ h=>h,fun _ _ _ h=>h⟩
 refine ⟨hle,⟨_,I.step (own':=fun a i=>if a=w.heap.size then none else own a i) (x:=.m h.next) hle (zGu I arr T fr (fun _=>none) _) (Nat.le_refl _) ?_ (fun b ab k hm=>.inl hm) (fun b v y hy=>.inl hy) (fun b v y hy=>.inl hy) ?_ ?_ I.nod (fun _ _ h=>.inl ⟨h,fun _ _ h=>h⟩)⟩,(Below.refl _ _).alloc I.top _,Nat.le_refl _,fun i _ _ hf=>hf⟩
 . intro ab o c hf
   by_cases hab:ab=w.heap.size
   . refine .inr ⟨by simp [hab],?_⟩
     simp only [Gh.withFz,if_pos hab] at hf
     obtain ⟨v,hv,hr⟩:=hc o c hf
     exact ⟨v,by rw [hab,zEs];exact hv,hr.mono hle⟩
   . simp only [Gh.withFz,if_neg hab] at hf;exact .inl hf
 . intro b o hb
   have:=(I.ents b o hb).1
   exact .inl ⟨hb,⟨rfl,fun _=>rfl,fun _=>rfl⟩,by simp;omega,by simp,by simp⟩
 . intro ab o y ho
   show ab<(w.heap.push _).size
   rw [Array.size_push]
   have ho:(if ab=w.heap.size then none else own ab o)=some y:=ho
   split at ho
   . cases ho
   . have:=I.old _ _ _ ho;omega
theorem zO6 {k:Nat} {es:List CVal} (hk:AllK k es) (hf:∀ e ∈ es,∀ c ∈ e.cells,c.flat=true) (ab:Nat):Froz (G.withFz ab (zAp es)) ab 0 k es:=by
 intro i e he
 have hm:=List.mem_of_getElem? he
 refine ⟨hk e hm,fun j c hc=>⟨hf e hm c (List.mem_of_getElem? hc),?_⟩⟩
 show (if ab=ab then (zAp es)[0+i * k+j]? else _)=some c
 rw [if_pos rfl,Nat.zero_add]
 exact zDk hk he hc
theorem zIt (I:Inv base G h w) (ex:Nat->Prop) (arr:Array Value) (T:TypeId) (fr:Nat × Nat) (k cap:Nat) (es:List CVal) (t:Tag) (hk0:0<k) (hk:AllK k es) (hcap:es.length<=cap) (ht:t=.none\/t=.full/\cap=es.length)
    (hf:∀ e ∈ es,∀ c ∈ e.cells,c.flat=true) (hc:∀ (i:Nat) (c:CVal),(zAp es)[i]? = some c->∃ v,arr[i]? = some v/\VR G c v) :
    ∃ G',VR G' (.imm t k es) (.slice (some ⟨w.heap.size,0,none⟩) es.length cap)/\Post base ex G h w G' h (w.alloc (.cells arr T fr)):=by
 refine ⟨_,?_,zN9 I ex arr T fr (zAp es) hc⟩
 refine .imm rfl hk0 hcap (zO6 hk hf _) ?_
 rcases ht with rfl | ⟨rfl,hcap⟩
 . trivial
 . exact hcap
end
end Go.CI
