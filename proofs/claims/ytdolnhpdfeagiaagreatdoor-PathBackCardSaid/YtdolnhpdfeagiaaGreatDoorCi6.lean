/- A deterministic interpreter over values, proved sound against the model's rules (part 6 of 7): what a run of it gives, a call in the model gives. -/
import Derived.Test.YtdolnhpdfeagiaaGreatDoorCi5
import Derived.Shelf.Strings.Builder1
set_option linter.unusedVariables false
set_option linter.unusedSimpArgs false

/- strings.Builder's own functions, and others of the library, as functions of the interpreter's own. -/
set_option linter.unusedVariables false
namespace Go.CI

def hasPair : List (Nat × Nat) → Nat → Nat → Bool
  | [], _, _ => false
  | (a, b) :: r, x, y => (a == x && b == y) || hasPair r x y

/-- A Builder marks itself as used; oks: in which blocks, at which places. -/
def pCopyCheck (oks : List (Nat × Nat)) (xs : List CVal) (h : CHeap) : Option (CVal × CHeap) :=
  match xs with
  | [.ptr b d o] => if hasPair oks d o then match h.get b with
    | some (.cells cs) => match nth cs o with
      | .nilp => some (.tup [], h.set b (.cells (setCells cs o [.ptr b d o])))
      | .ptr b' d' o' => if b' == b && (d' == d && o' == o) then some (.tup [], h) else none
      | _ => none
    | _ => none else none
  | _ => none

def byteVals : List CVal → Option (List UInt8)
  | [] => some []
  | .int .u8 n :: r => if decide (0 ≤ n) && decide (n < 256) then (byteVals r).map (UInt8.ofNat n.toNat :: ·) else none
  | _ => none

/-- A row, written or not any more. -/
def rowOf : Option CObj → Option (Nat × List CVal)
  | some (.row v es) => some (v, es)
  | some (.frow v es) => some (v, es)
  | _ => none

/-- What a Builder holds, as a text: its row is written no more. -/
def pBString (T : Nat) (xs : List CVal) (h : CHeap) : Option (CVal × CHeap) :=
  match xs with
  | [.ptr b d o] => match h.get b with
    | some (.cells cs) => match nth cs (o + 1) with
      | .nils => some (.str [], h)
      | .ref r ver 1 off len => match rowOf (h.get r) with
        | some (v, es) => if v == ver && (decide (off + len ≤ es.length) && (decide (0 < len) && (decide (len ≤ sizeMost) && (h.ty r == some T)))) then (byteVals (cut off (off + len) es)).map fun l => (.str l, h.set r (.frow v es)) else none
        | _ => none
      | _ => none
    | _ => none
  | _ => none

/-- A row of bytes of which nothing is known. -/
def pMakeNoZero (T : Nat) (xs : List CVal) (h : CHeap) : Option (CVal × CHeap) :=
  match xs with
  | [.int .i64 n] => if decide (0 ≤ n) && decide (n ≤ sizeMost) then some (.ref h.next 0 1 0 n.toNat, (({ h with next := h.next + 1 } : CHeap).put h.next (.row 0 [])).note h.next (T + 1)) else none
  | _ => none

def hasFront : List UInt8 → List UInt8 → Bool
  | _, [] => true
  | [], _ :: _ => false
  | a :: x, b :: y => a == b && hasFront x y
def idxSub (p : List UInt8) : List UInt8 → Nat → Int
  | [], i => match p with
    | [] => i
    | _ :: _ => -1
  | a :: r, i => bif hasFront (a :: r) p then i else idxSub p r (i + 1)
def pIndex (xs : List CVal) (h : CHeap) : Option (CVal × CHeap) :=
  match xs with
  | [.str s, .str p] => if decide (s.length < 4294967281) then some (.int .i64 (idxSub p s 0), h) else none
  | _ => none
end Go.CI

/- The interpreter once more, in a form that the kernel runs fast: every choice is a recursor over closed terms. -/
set_option linter.unusedVariables false
namespace Go.CI

/-! Which value it is. -/
noncomputable def selBool (v : CVal) : (β : Type) → (Bool → β) → β → β :=
  @CVal.rec.{2} (fun _ => (β : Type) → (Bool → β) → β → β) (fun _ => PUnit)
    (fun _ _ d => d) (fun x0 => fun _ f _ => f x0) (fun _ _ => fun _ _ d => d) (fun _ => fun _ _ d => d) (fun _ _ d => d) (fun _ _ _ => fun _ _ d => d) (fun _ _ _ => fun _ _ d => d) (fun _ _ _ _ => fun _ _ d => d) (fun _ _ d => d) (fun _ _ _ _ => fun _ _ d => d) (fun _ _ _ _ _ => fun _ _ d => d) (fun _ _ d => d) (fun _ => fun _ _ d => d) (fun _ _ _ _ _ => fun _ _ d => d) (fun _ _ d => d) (fun _ _ _ => fun _ _ d => d) (fun _ _ d => d) (fun _ _ => fun _ _ d => d) (fun _ _ => fun _ _ d => d) PUnit.unit (fun _ _ _ _ => PUnit.unit) v

noncomputable def selInt (v : CVal) : (β : Type) → (IntKind → Int → β) → β → β :=
  @CVal.rec.{2} (fun _ => (β : Type) → (IntKind → Int → β) → β → β) (fun _ => PUnit)
    (fun _ _ d => d) (fun _ => fun _ _ d => d) (fun x0 x1 => fun _ f _ => f x0 x1) (fun _ => fun _ _ d => d) (fun _ _ d => d) (fun _ _ _ => fun _ _ d => d) (fun _ _ _ => fun _ _ d => d) (fun _ _ _ _ => fun _ _ d => d) (fun _ _ d => d) (fun _ _ _ _ => fun _ _ d => d) (fun _ _ _ _ _ => fun _ _ d => d) (fun _ _ d => d) (fun _ => fun _ _ d => d) (fun _ _ _ _ _ => fun _ _ d => d) (fun _ _ d => d) (fun _ _ _ => fun _ _ d => d) (fun _ _ d => d) (fun _ _ => fun _ _ d => d) (fun _ _ => fun _ _ d => d) PUnit.unit (fun _ _ _ _ => PUnit.unit) v

noncomputable def selStr (v : CVal) : (β : Type) → (List UInt8 → β) → β → β :=
  @CVal.rec.{2} (fun _ => (β : Type) → (List UInt8 → β) → β → β) (fun _ => PUnit)
    (fun _ _ d => d) (fun _ => fun _ _ d => d) (fun _ _ => fun _ _ d => d) (fun x0 => fun _ f _ => f x0) (fun _ _ d => d) (fun _ _ _ => fun _ _ d => d) (fun _ _ _ => fun _ _ d => d) (fun _ _ _ _ => fun _ _ d => d) (fun _ _ d => d) (fun _ _ _ _ => fun _ _ d => d) (fun _ _ _ _ _ => fun _ _ d => d) (fun _ _ d => d) (fun _ => fun _ _ d => d) (fun _ _ _ _ _ => fun _ _ d => d) (fun _ _ d => d) (fun _ _ _ => fun _ _ d => d) (fun _ _ d => d) (fun _ _ => fun _ _ d => d) (fun _ _ => fun _ _ d => d) PUnit.unit (fun _ _ _ _ => PUnit.unit) v

noncomputable def selPtr (v : CVal) : (β : Type) → (Nat → Nat → Nat → β) → β → β :=
  @CVal.rec.{2} (fun _ => (β : Type) → (Nat → Nat → Nat → β) → β → β) (fun _ => PUnit)
    (fun _ _ d => d) (fun _ => fun _ _ d => d) (fun _ _ => fun _ _ d => d) (fun _ => fun _ _ d => d) (fun _ _ d => d) (fun x0 x1 x2 => fun _ f _ => f x0 x1 x2) (fun _ _ _ => fun _ _ d => d) (fun _ _ _ _ => fun _ _ d => d) (fun _ _ d => d) (fun _ _ _ _ => fun _ _ d => d) (fun _ _ _ _ _ => fun _ _ d => d) (fun _ _ d => d) (fun _ => fun _ _ d => d) (fun _ _ _ _ _ => fun _ _ d => d) (fun _ _ d => d) (fun _ _ _ => fun _ _ d => d) (fun _ _ d => d) (fun _ _ => fun _ _ d => d) (fun _ _ => fun _ _ d => d) PUnit.unit (fun _ _ _ _ => PUnit.unit) v

noncomputable def selCptr (v : CVal) : (β : Type) → (List CVal → Nat → β) → β → β :=
  @CVal.rec.{2} (fun _ => (β : Type) → (List CVal → Nat → β) → β → β) (fun _ => PUnit)
    (fun _ _ d => d) (fun _ => fun _ _ d => d) (fun _ _ => fun _ _ d => d) (fun _ => fun _ _ d => d) (fun _ _ d => d) (fun _ _ _ => fun _ _ d => d) (fun x0 x1 _ => fun _ f _ => f x0 x1) (fun _ _ _ _ => fun _ _ d => d) (fun _ _ d => d) (fun _ _ _ _ => fun _ _ d => d) (fun _ _ _ _ _ => fun _ _ d => d) (fun _ _ d => d) (fun _ => fun _ _ d => d) (fun _ _ _ _ _ => fun _ _ d => d) (fun _ _ d => d) (fun _ _ _ => fun _ _ d => d) (fun _ _ d => d) (fun _ _ => fun _ _ d => d) (fun _ _ => fun _ _ d => d) PUnit.unit (fun _ _ _ _ => PUnit.unit) v

noncomputable def selEptr (v : CVal) : (β : Type) → (Nat → Nat → Nat → Nat → β) → β → β :=
  @CVal.rec.{2} (fun _ => (β : Type) → (Nat → Nat → Nat → Nat → β) → β → β) (fun _ => PUnit)
    (fun _ _ d => d) (fun _ => fun _ _ d => d) (fun _ _ => fun _ _ d => d) (fun _ => fun _ _ d => d) (fun _ _ d => d) (fun _ _ _ => fun _ _ d => d) (fun _ _ _ => fun _ _ d => d) (fun x0 x1 x2 x3 => fun _ f _ => f x0 x1 x2 x3) (fun _ _ d => d) (fun _ _ _ _ => fun _ _ d => d) (fun _ _ _ _ _ => fun _ _ d => d) (fun _ _ d => d) (fun _ => fun _ _ d => d) (fun _ _ _ _ _ => fun _ _ d => d) (fun _ _ d => d) (fun _ _ _ => fun _ _ d => d) (fun _ _ d => d) (fun _ _ => fun _ _ d => d) (fun _ _ => fun _ _ d => d) PUnit.unit (fun _ _ _ _ => PUnit.unit) v

noncomputable def selImm (v : CVal) : (β : Type) → (Tag → Nat → List CVal → β) → β → β :=
  @CVal.rec.{2} (fun _ => (β : Type) → (Tag → Nat → List CVal → β) → β → β) (fun _ => PUnit)
    (fun _ _ d => d) (fun _ => fun _ _ d => d) (fun _ _ => fun _ _ d => d) (fun _ => fun _ _ d => d) (fun _ _ d => d) (fun _ _ _ => fun _ _ d => d) (fun _ _ _ => fun _ _ d => d) (fun _ _ _ _ => fun _ _ d => d) (fun _ _ d => d) (fun x0 x1 x2 _ => fun _ f _ => f x0 x1 x2) (fun _ _ _ _ _ => fun _ _ d => d) (fun _ _ d => d) (fun _ => fun _ _ d => d) (fun _ _ _ _ _ => fun _ _ d => d) (fun _ _ d => d) (fun _ _ _ => fun _ _ d => d) (fun _ _ d => d) (fun _ _ => fun _ _ d => d) (fun _ _ => fun _ _ d => d) PUnit.unit (fun _ _ _ _ => PUnit.unit) v

noncomputable def selRef (v : CVal) : (β : Type) → (Nat → Nat → Nat → Nat → Nat → β) → β → β :=
  @CVal.rec.{2} (fun _ => (β : Type) → (Nat → Nat → Nat → Nat → Nat → β) → β → β) (fun _ => PUnit)
    (fun _ _ d => d) (fun _ => fun _ _ d => d) (fun _ _ => fun _ _ d => d) (fun _ => fun _ _ d => d) (fun _ _ d => d) (fun _ _ _ => fun _ _ d => d) (fun _ _ _ => fun _ _ d => d) (fun _ _ _ _ => fun _ _ d => d) (fun _ _ d => d) (fun _ _ _ _ => fun _ _ d => d) (fun x0 x1 x2 x3 x4 => fun _ f _ => f x0 x1 x2 x3 x4) (fun _ _ d => d) (fun _ => fun _ _ d => d) (fun _ _ _ _ _ => fun _ _ d => d) (fun _ _ d => d) (fun _ _ _ => fun _ _ d => d) (fun _ _ d => d) (fun _ _ => fun _ _ d => d) (fun _ _ => fun _ _ d => d) PUnit.unit (fun _ _ _ _ => PUnit.unit) v

noncomputable def selFn (v : CVal) : (β : Type) → (Fn → List CVal → List CVal → β) → β → β :=
  @CVal.rec.{2} (fun _ => (β : Type) → (Fn → List CVal → List CVal → β) → β → β) (fun _ => PUnit)
    (fun _ _ d => d) (fun _ => fun _ _ d => d) (fun _ _ => fun _ _ d => d) (fun _ => fun _ _ d => d) (fun _ _ d => d) (fun _ _ _ => fun _ _ d => d) (fun _ _ _ => fun _ _ d => d) (fun _ _ _ _ => fun _ _ d => d) (fun _ _ d => d) (fun _ _ _ _ => fun _ _ d => d) (fun _ _ _ _ _ => fun _ _ d => d) (fun _ _ d => d) (fun _ => fun _ _ d => d) (fun x0 x1 x2 _ _ => fun _ f _ => f x0 x1 x2) (fun _ _ d => d) (fun _ _ _ => fun _ _ d => d) (fun _ _ d => d) (fun _ _ => fun _ _ d => d) (fun _ _ => fun _ _ d => d) PUnit.unit (fun _ _ _ _ => PUnit.unit) v

noncomputable def selAgg (v : CVal) : (β : Type) → (List CVal → β) → β → β :=
  @CVal.rec.{2} (fun _ => (β : Type) → (List CVal → β) → β → β) (fun _ => PUnit)
    (fun _ _ d => d) (fun _ => fun _ _ d => d) (fun _ _ => fun _ _ d => d) (fun _ => fun _ _ d => d) (fun _ _ d => d) (fun _ _ _ => fun _ _ d => d) (fun _ _ _ => fun _ _ d => d) (fun _ _ _ _ => fun _ _ d => d) (fun _ _ d => d) (fun _ _ _ _ => fun _ _ d => d) (fun _ _ _ _ _ => fun _ _ d => d) (fun _ _ d => d) (fun _ => fun _ _ d => d) (fun _ _ _ _ _ => fun _ _ d => d) (fun _ _ d => d) (fun _ _ _ => fun _ _ d => d) (fun _ _ d => d) (fun x0 _ => fun _ f _ => f x0) (fun _ _ => fun _ _ d => d) PUnit.unit (fun _ _ _ _ => PUnit.unit) v

noncomputable def selTup (v : CVal) : (β : Type) → (List CVal → β) → β → β :=
  @CVal.rec.{2} (fun _ => (β : Type) → (List CVal → β) → β → β) (fun _ => PUnit)
    (fun _ _ d => d) (fun _ => fun _ _ d => d) (fun _ _ => fun _ _ d => d) (fun _ => fun _ _ d => d) (fun _ _ d => d) (fun _ _ _ => fun _ _ d => d) (fun _ _ _ => fun _ _ d => d) (fun _ _ _ _ => fun _ _ d => d) (fun _ _ d => d) (fun _ _ _ _ => fun _ _ d => d) (fun _ _ _ _ _ => fun _ _ d => d) (fun _ _ d => d) (fun _ => fun _ _ d => d) (fun _ _ _ _ _ => fun _ _ d => d) (fun _ _ d => d) (fun _ _ _ => fun _ _ d => d) (fun _ _ d => d) (fun _ _ => fun _ _ d => d) (fun x0 _ => fun _ f _ => f x0) PUnit.unit (fun _ _ _ _ => PUnit.unit) v

noncomputable def selNils (v : CVal) : (β : Type) → β → β → β :=
  @CVal.rec.{2} (fun _ => (β : Type) → β → β → β) (fun _ => PUnit)
    (fun _ _ d => d) (fun _ => fun _ _ d => d) (fun _ _ => fun _ _ d => d) (fun _ => fun _ _ d => d) (fun _ _ d => d) (fun _ _ _ => fun _ _ d => d) (fun _ _ _ => fun _ _ d => d) (fun _ _ _ _ => fun _ _ d => d) (fun _ f _ => f ) (fun _ _ _ _ => fun _ _ d => d) (fun _ _ _ _ _ => fun _ _ d => d) (fun _ _ d => d) (fun _ => fun _ _ d => d) (fun _ _ _ _ _ => fun _ _ d => d) (fun _ _ d => d) (fun _ _ _ => fun _ _ d => d) (fun _ _ d => d) (fun _ _ => fun _ _ d => d) (fun _ _ => fun _ _ d => d) PUnit.unit (fun _ _ _ _ => PUnit.unit) v

noncomputable def isUndefF (v : CVal) : Bool :=
  @CVal.rec.{1} (fun _ => Bool) (fun _ => PUnit)
    (true) (fun _ => false) (fun _ _ => false) (fun _ => false) (false) (fun _ _ _ => false) (fun _ _ _ => false) (fun _ _ _ _ => false) (false) (fun _ _ _ _ => false) (fun _ _ _ _ _ => false) (false) (fun _ => false) (fun _ _ _ _ _ => false) (false) (fun _ _ _ => false) (false) (fun _ _ => false) (fun _ _ => false) PUnit.unit (fun _ _ _ _ => PUnit.unit) v

noncomputable def isPtrF (v : CVal) : Bool :=
  @CVal.rec.{1} (fun _ => Bool) (fun _ => PUnit)
    (false) (fun _ => false) (fun _ _ => false) (fun _ => false) (false) (fun _ _ _ => true) (fun _ _ _ => true) (fun _ _ _ _ => true) (false) (fun _ _ _ _ => false) (fun _ _ _ _ _ => false) (false) (fun _ => false) (fun _ _ _ _ _ => false) (false) (fun _ _ _ => false) (false) (fun _ _ => false) (fun _ _ => false) PUnit.unit (fun _ _ _ _ => PUnit.unit) v

noncomputable def isNilsF (v : CVal) : Bool :=
  @CVal.rec.{1} (fun _ => Bool) (fun _ => PUnit)
    (false) (fun _ => false) (fun _ _ => false) (fun _ => false) (false) (fun _ _ _ => false) (fun _ _ _ => false) (fun _ _ _ _ => false) (true) (fun _ _ _ _ => false) (fun _ _ _ _ _ => false) (false) (fun _ => false) (fun _ _ _ _ _ => false) (false) (fun _ _ _ => false) (false) (fun _ _ => false) (fun _ _ => false) PUnit.unit (fun _ _ _ _ => PUnit.unit) v

noncomputable def isSlcF (v : CVal) : Bool :=
  @CVal.rec.{1} (fun _ => Bool) (fun _ => PUnit)
    (false) (fun _ => false) (fun _ _ => false) (fun _ => false) (false) (fun _ _ _ => false) (fun _ _ _ => false) (fun _ _ _ _ => false) (false) (fun _ _ _ _ => true) (fun _ _ _ _ _ => true) (false) (fun _ => false) (fun _ _ _ _ _ => false) (false) (fun _ _ _ => false) (false) (fun _ _ => false) (fun _ _ => false) PUnit.unit (fun _ _ _ _ => PUnit.unit) v

noncomputable def isNilpF (v : CVal) : Bool :=
  @CVal.rec.{1} (fun _ => Bool) (fun _ => PUnit)
    (false) (fun _ => false) (fun _ _ => false) (fun _ => false) (true) (fun _ _ _ => false) (fun _ _ _ => false) (fun _ _ _ _ => false) (false) (fun _ _ _ _ => false) (fun _ _ _ _ _ => false) (false) (fun _ => false) (fun _ _ _ _ _ => false) (false) (fun _ _ _ => false) (false) (fun _ _ => false) (fun _ _ => false) PUnit.unit (fun _ _ _ _ => PUnit.unit) v

noncomputable def isOptrF (v : CVal) : Bool :=
  @CVal.rec.{1} (fun _ => Bool) (fun _ => PUnit)
    (false) (fun _ => false) (fun _ _ => false) (fun _ => false) (false) (fun _ _ _ => true) (fun _ _ _ => false) (fun _ _ _ _ => false) (false) (fun _ _ _ _ => false) (fun _ _ _ _ _ => false) (false) (fun _ => false) (fun _ _ _ _ _ => false) (false) (fun _ _ _ => false) (false) (fun _ _ => false) (fun _ _ => false) PUnit.unit (fun _ _ _ _ => PUnit.unit) v

noncomputable def wholeF (v : CVal) : Bool :=
  @CVal.rec.{1} (fun _ => Bool) (fun _ => PUnit)
    (false) (fun _ => true) (fun _ _ => true) (fun _ => true) (true) (fun _ _ _ => true) (fun _ _ _ => true) (fun _ _ _ _ => true) (true) (fun _ _ _ _ => true) (fun _ _ _ _ _ => true) (true) (fun _ => true) (fun _ _ _ _ _ => true) (true) (fun _ _ _ => true) (true) (fun _ _ => true) (fun _ _ => false) PUnit.unit (fun _ _ _ _ => PUnit.unit) v

noncomputable def cellsF (v : CVal) : List CVal :=
  @CVal.rec.{1} (fun _ => List CVal) (fun _ => PUnit)
    ([CVal.undef]) (fun x0 => [CVal.bool x0]) (fun x0 x1 => [CVal.int x0 x1]) (fun x0 => [CVal.str x0]) ([CVal.nilp]) (fun x0 x1 x2 => [CVal.ptr x0 x1 x2]) (fun x0 x1 _ => [CVal.cptr x0 x1]) (fun x0 x1 x2 x3 => [CVal.eptr x0 x1 x2 x3]) ([CVal.nils]) (fun x0 x1 x2 _ => [CVal.imm x0 x1 x2]) (fun x0 x1 x2 x3 x4 => [CVal.ref x0 x1 x2 x3 x4]) ([CVal.nilm]) (fun x0 => [CVal.map x0]) (fun x0 x1 x2 _ _ => [CVal.fn x0 x1 x2]) ([CVal.nilf]) (fun x0 x1 _ => [CVal.ifc x0 x1]) ([CVal.nili]) (fun x0 _ => x0) (fun x0 _ => [CVal.tup x0]) PUnit.unit (fun _ _ _ _ => PUnit.unit) v

noncomputable def stripF (v : CVal) : CVal :=
  @CVal.rec.{1} (fun _ => CVal) (fun _ => PUnit)
    (CVal.undef) (fun x0 => CVal.bool x0) (fun x0 x1 => CVal.int x0 x1) (fun x0 => CVal.str x0) (CVal.nilp) (fun x0 x1 x2 => CVal.ptr x0 x1 x2) (fun x0 x1 _ => CVal.cptr x0 x1) (fun x0 x1 x2 x3 => CVal.eptr x0 x1 x2 x3) (CVal.nils) (fun x0 x1 x2 _ => @Tag.rec (fun _ => CVal) (.imm .none x1 x2) (.imm .full x1 x2) (fun _ _ => .imm .none x1 x2) x0) (fun x0 x1 x2 x3 x4 => CVal.ref x0 x1 x2 x3 x4) (CVal.nilm) (fun x0 => CVal.map x0) (fun x0 x1 x2 _ _ => CVal.fn x0 x1 x2) (CVal.nilf) (fun x0 x1 _ => CVal.ifc x0 x1) (CVal.nili) (fun x0 _ => CVal.agg x0) (fun x0 _ => CVal.tup x0) PUnit.unit (fun _ _ _ _ => PUnit.unit) v

/-! The choices. -/

noncomputable def bF (b : Bool) : (β : Type) → β → β → β := @Bool.rec.{2} (fun _ => (β : Type) → β → β → β) (fun _ _ y => y) (fun _ x _ => x) b
noncomputable def andF (a b : Bool) : Bool := @Bool.rec.{1} (fun _ => Bool → Bool) (fun _ => false) (fun b => b) a b

noncomputable def nthF (l : List CVal) : Nat → CVal :=
  @List.rec.{1, 0} CVal (fun _ => Nat → CVal) (fun _ => .undef) (fun v _ ih i => @Nat.rec.{1} (fun _ => CVal) v (fun j _ => ih j) i) l
noncomputable def nthO (l : List CVal) : Nat → Option CVal :=
  @List.rec.{1, 0} CVal (fun _ => Nat → Option CVal) (fun _ => none) (fun v _ ih i => @Nat.rec.{1} (fun _ => Option CVal) (some v) (fun j _ => ih j) i) l
noncomputable def nthB (l : List UInt8) : Nat → Option UInt8 :=
  @List.rec.{1, 0} UInt8 (fun _ => Nat → Option UInt8) (fun _ => none) (fun v _ ih i => @Nat.rec.{1} (fun _ => Option UInt8) (some v) (fun j _ => ih j) i) l
noncomputable def lenC (l : List CVal) : Nat := @List.rec.{1, 0} CVal (fun _ => Nat) 0 (fun _ _ ih => Nat.succ ih) l
noncomputable def lenB (l : List UInt8) : Nat := @List.rec.{1, 0} UInt8 (fun _ => Nat) 0 (fun _ _ ih => Nat.succ ih) l
noncomputable def dropC (l : List CVal) : Nat → List CVal :=
  @List.rec.{1, 0} CVal (fun _ => Nat → List CVal) (fun _ => []) (fun v r ih i => @Nat.rec.{1} (fun _ => List CVal) (v :: r) (fun j _ => ih j) i) l
noncomputable def appC (l : List CVal) : List CVal → List CVal :=
  @List.rec.{1, 0} CVal (fun _ => List CVal → List CVal) (fun y => y) (fun v _ ih y => v :: ih y) l
noncomputable def dropB (l : List UInt8) : Nat → List UInt8 :=
  @List.rec.{1, 0} UInt8 (fun _ => Nat → List UInt8) (fun _ => []) (fun v r ih i => @Nat.rec.{1} (fun _ => List UInt8) (v :: r) (fun j _ => ih j) i) l
noncomputable def takeB (l : List UInt8) : Nat → List UInt8 :=
  @List.rec.{1, 0} UInt8 (fun _ => Nat → List UInt8) (fun _ => []) (fun v _ ih i => @Nat.rec.{1} (fun _ => List UInt8) [] (fun j _ => v :: ih j) i) l
noncomputable def eqB (l : List UInt8) : List UInt8 → Bool :=
  @List.rec.{1, 0} UInt8 (fun _ => List UInt8 → Bool) (fun y => @List.rec.{1, 0} UInt8 (fun _ => Bool) true (fun _ _ _ => false) y)
    (fun a _ ih y => @List.rec.{1, 0} UInt8 (fun _ => Bool) false (fun b t _ => andF (Nat.beq a.toNat b.toNat) (ih t)) y) l
noncomputable def mapO (f : COpnd → CVal) (l : List COpnd) : List CVal := @List.rec.{1, 0} COpnd (fun _ => List CVal) [] (fun v _ ih => f v :: ih) l

noncomputable def opndF (o : COpnd) : List CVal → List CVal → CVal :=
  @COpnd.rec.{1} (fun _ => List CVal → List CVal → CVal) (fun i _ vals => nthF vals i) (fun j tm _ => nthF tm j) (fun v _ _ => v) o

/-! Whole numbers. -/
noncomputable def kindN (k : IntKind) : Nat := @IntKind.rec.{1} (fun _ => Nat) 0 1 2 3 4 5 6 7 k
noncomputable def kEqF (a b : IntKind) : Bool := Nat.beq (kindN a) (kindN b)
noncomputable def maxN (k : IntKind) : Nat := @IntKind.rec.{1} (fun _ => Nat) 127 32767 2147483647 9223372036854775807 255 65535 4294967295 18446744073709551615 k
noncomputable def sgnN (k : IntKind) : Bool := @IntKind.rec.{1} (fun _ => Bool) true true true true false false false false k
noncomputable def wrapF (k : IntKind) (x : Int) : Int :=
  @Int.rec.{1} (fun _ => IntKind → Int) (fun n k => bF (Nat.ble n (maxN k)) Int (.ofNat n) (IntKind.wrap k (.ofNat n))) (fun n k => bF (andF (sgnN k) (Nat.ble n (maxN k))) Int (.negSucc n) (IntKind.wrap k (.negSucc n))) x k
noncomputable def ltF (a b : Int) : Bool :=
  @Int.rec.{1} (fun _ => Int → Bool) (fun m b => @Int.rec.{1} (fun _ => Bool) (fun n => Nat.blt m n) (fun _ => false) b) (fun m b => @Int.rec.{1} (fun _ => Bool) (fun _ => true) (fun n => Nat.blt n m) b) a b
noncomputable def eqF (a b : Int) : Bool :=
  @Int.rec.{1} (fun _ => Int → Bool) (fun m b => @Int.rec.{1} (fun _ => Bool) (fun n => Nat.beq m n) (fun _ => false) b) (fun m b => @Int.rec.{1} (fun _ => Bool) (fun _ => false) (fun n => Nat.beq m n) b) a b
noncomputable def notF (a : Bool) : Bool := @Bool.rec.{1} (fun _ => Bool) true false a
noncomputable def addF (a b : Int) : Int :=
  @Int.rec.{1} (fun _ => Int → Int) (fun m b => @Int.rec.{1} (fun _ => Int) (fun n => .ofNat (Nat.add m n)) (fun n => Int.add (.ofNat m) (.negSucc n)) b) (fun m b => Int.add (.negSucc m) b) a b
noncomputable def subF (a b : Int) : Int :=
  @Int.rec.{1} (fun _ => Int → Int) (fun m b => @Int.rec.{1} (fun _ => Int) (fun n => bF (Nat.ble n m) Int (.ofNat (Nat.sub m n)) (Int.sub (.ofNat m) (.ofNat n))) (fun n => Int.sub (.ofNat m) (.negSucc n)) b) (fun m b => Int.sub (.negSucc m) b) a b
noncomputable def arithF (b : BinOp) : IntKind → Int → Int → Option CVal :=
  @BinOp.rec.{1} (fun _ => IntKind → Int → Int → Option CVal) (fun k x y => some (.int k (wrapF k (addF x y)))) (fun k x y => some (.int k (wrapF k (subF x y)))) (fun k x y => some (.int k (wrapF k (Int.mul x y))))
    (evalInt .quo) (evalInt .rem) (evalInt .and) (evalInt .or) (evalInt .xor) (evalInt .shl) (evalInt .shr) (evalInt .andNot)
    (fun _ x y => some (.bool (eqF x y))) (fun _ x y => some (.bool (notF (eqF x y)))) (fun _ x y => some (.bool (ltF x y))) (fun _ x y => some (.bool (notF (ltF y x)))) (fun _ x y => some (.bool (ltF y x))) (fun _ x y => some (.bool (notF (ltF x y)))) b
noncomputable def strF (b : BinOp) : List UInt8 → List UInt8 → Option CVal :=
  @BinOp.rec.{1} (fun _ => List UInt8 → List UInt8 → Option CVal) (evalStr .add) (evalStr .sub) (evalStr .mul) (evalStr .quo) (evalStr .rem) (evalStr .and) (evalStr .or) (evalStr .xor) (evalStr .shl) (evalStr .shr) (evalStr .andNot)
    (fun x y => some (.bool (eqB x y))) (fun x y => some (.bool (notF (eqB x y)))) (evalStr .lss) (evalStr .leq) (evalStr .gtr) (evalStr .geq) b
noncomputable def gen2 (ar : IntKind → Int → Int → Option CVal) (st : List UInt8 → List UInt8 → Option CVal) (x y : CVal) : Option CVal :=
  selInt x (Option CVal) (fun k a => selInt y (Option CVal) (fun l c => bF (kEqF k l) (Option CVal) (ar k a c) none) none) (selStr x (Option CVal) (fun s => selStr y (Option CVal) (fun t => st s t) none) none)
noncomputable def isShF (b : BinOp) : Bool := @BinOp.rec.{1} (fun _ => Bool) false false false false false false false false true true false false false false false false false b
noncomputable def binF (b : BinOp) (x y : CVal) : Option CVal := bF (isShF b) (Option CVal) (evalBin b x y) (gen2 (arithF b) (strF b) x y)

noncomputable def eqvF (e : EqK) : CVal → CVal → Option Bool :=
  @EqK.rec.{1} (fun _ => CVal → CVal → Option Bool) (fun x y => selBool x (Option Bool) (fun a => selBool y (Option Bool) (fun b => some (bF a Bool b (notF b))) none) none)
    (fun x y => bF (isNilsF x) (Option Bool) (bF (isNilsF y) (Option Bool) (some true) (bF (isSlcF y) (Option Bool) (some false) none)) (bF (andF (isSlcF x) (isNilsF y)) (Option Bool) (some false) none))
    (fun x y => bF (isNilpF x) (Option Bool) (bF (isNilpF y) (Option Bool) (some true) (bF (isOptrF y) (Option Bool) (some false) none)) (bF (andF (isOptrF x) (isNilpF y)) (Option Bool) (some false) none))
    (eqVal .map) (eqVal .fn) (eqVal .ifc) e

/-! Parts. -/
noncomputable def obCV (o : Option CVal) : (β : Type) → (CVal → β) → β → β := @Option.rec.{2, 0} CVal (fun _ => (β : Type) → (CVal → β) → β → β) (fun _ _ d => d) (fun v _ f _ => f v) o
noncomputable def okF (k : Option Nat) : (β : Type) → (Nat → β) → β → β := @Option.rec.{2, 0} Nat (fun _ => (β : Type) → (Nat → β) → β → β) (fun _ _ d => d) (fun v _ f _ => f v) k
noncomputable def partF (cs : List CVal) (o : Nat) (k : Option Nat) : Option CVal :=
  okF k (Option CVal) (fun k => bF (Nat.ble (Nat.add o k) (lenC cs)) (Option CVal) (some (.agg (cut o (o + k) cs))) none) (nthO cs o)

noncomputable def intNat (i : CVal) : (β : Type) → (Nat → β) → β → β := fun β f d => selInt i β (fun _ n => @Int.rec.{1} (fun _ => Option Nat → β) (fun m _ => f m) (fun _ _ => d) n none) d

noncomputable def idxAddrF (k : Nat) (x i : CVal) : Option CVal :=
  intNat i (Option CVal) (fun m => selImm x (Option CVal) (fun _ l es => bF (Nat.beq k l) (Option CVal) (obCV (nthO es m) (Option CVal) (fun e => some (.cptr (cellsF e) 0)) none) none)
    (selRef x (Option CVal) (fun b ver l off len => bF (andF (Nat.beq k l) (Nat.blt m len)) (Option CVal) (some (.eptr b ver (off + m) 0)) none) none)) none
noncomputable def obB (o : Option UInt8) : (β : Type) → (UInt8 → β) → β → β := @Option.rec.{2, 0} UInt8 (fun _ => (β : Type) → (UInt8 → β) → β → β) (fun _ _ d => d) (fun v _ f _ => f v) o
noncomputable def idxStrF (x i : CVal) : Option CVal := intNat i (Option CVal) (fun m => selStr x (Option CVal) (fun s => obB (nthB s m) (Option CVal) (fun b => some (.int .u8 (.ofNat b.toNat))) none) none) none
noncomputable def lenF (str : Bool) (x : CVal) : Option CVal :=
  bF str (Option CVal) (selStr x (Option CVal) (fun s => some (.int .i64 (.ofNat (lenB s)))) none)
    (selImm x (Option CVal) (fun _ _ es => some (.int .i64 (.ofNat (lenC es)))) (selRef x (Option CVal) (fun _ _ _ _ n => some (.int .i64 (.ofNat n))) (bF (isNilsF x) (Option CVal) (some (.int .i64 (.ofNat 0))) none)))
noncomputable def obO (o : Option COpnd) : (β : Type) → (COpnd → β) → β → β := @Option.rec.{2, 0} COpnd (fun _ => (β : Type) → (COpnd → β) → β → β) (fun _ _ d => d) (fun v _ f _ => f v) o
noncomputable def bndF (o : Option CVal) (d : Nat) : (β : Type) → (Nat → β) → β → β := fun β f e => @Option.rec.{1, 0} CVal (fun _ => Nat → β) (fun d => f d) (fun v _ => intNat v β f e) o d
noncomputable def slcF (k : Nat) (x : CVal) (lo hi : Option CVal) : Option CVal :=
  bF (Nat.beq k 0) (Option CVal)
    (selStr x (Option CVal) (fun s => bndF lo 0 (Option CVal) (fun l => @Option.rec.{1, 0} CVal (fun _ => Option CVal) (bF (Nat.ble l (lenB s)) (Option CVal) (some (.str (dropB s l))) none)
      (fun h => intNat h (Option CVal) (fun h => bF (andF (Nat.ble l h) (Nat.ble h (lenB s))) (Option CVal) (some (.str (dropB (takeB s h) l))) none) none) hi) none) (evalSlc k x lo hi))
    (evalSlc k x lo hi)
noncomputable def extrF (i : Nat) (x : CVal) : Option CVal := selTup x (Option CVal) (fun vs => nthO vs i) none
noncomputable def faF (off : Nat) (x : CVal) : Option CVal :=
  selPtr x (Option CVal) (fun b s o => some (.ptr b s (o + off))) (selCptr x (Option CVal) (fun cs o => some (.cptr cs (o + off))) (selEptr x (Option CVal) (fun b v i o => some (.eptr b v i (o + off))) none))

/-! The heap. -/
noncomputable def getF (l : List (Nat × CObj)) : Nat → Option CObj :=
  @List.rec.{1, 0} (Nat × CObj) (fun _ => Nat → Option CObj) (fun _ => none) (fun p _ ih b => @Prod.rec.{1, 0, 0} Nat CObj (fun _ => (Nat → Option CObj) → Nat → Option CObj) (fun i o ih b => bF (Nat.beq i b) (Option CObj) (some o) (ih b)) p ih b) l
noncomputable def setF (l : List (Nat × CObj)) : Nat → CObj → List (Nat × CObj) :=
  @List.rec.{1, 0} (Nat × CObj) (fun _ => Nat → CObj → List (Nat × CObj)) (fun _ _ => []) (fun p r ih b x => @Prod.rec.{1, 0, 0} Nat CObj (fun _ => (Nat → CObj → List (Nat × CObj)) → List (Nat × CObj) → Nat → CObj → List (Nat × CObj)) (fun i o ih r b x => bF (Nat.beq i b) (List (Nat × CObj)) ((i, x) :: r) ((i, o) :: ih b x)) p ih r b x) l
noncomputable def hgetF (h : CHeap) (b : Nat) : Option CObj := @CHeap.rec.{1} (fun _ => Nat → Option CObj) (fun e _ _ b => getF e b) h b
noncomputable def hsetF (h : CHeap) (b : Nat) (x : CObj) : CHeap := @CHeap.rec.{1} (fun _ => Nat → CObj → CHeap) (fun e n t b x => ⟨setF e b x, n, t⟩) h b x
noncomputable def hputF (h : CHeap) (b : Nat) (x : CObj) : CHeap := @CHeap.rec.{1} (fun _ => Nat → CObj → CHeap) (fun e n t b x => ⟨(b, x) :: e, n, t⟩) h b x
noncomputable def selCells (o : Option CObj) : (β : Type) → (List CVal → β) → β → β :=
  @Option.rec.{2, 0} CObj (fun _ => (β : Type) → (List CVal → β) → β → β) (fun _ _ d => d) (fun c => @CObj.rec.{2} (fun _ => (β : Type) → (List CVal → β) → β → β) (fun cs _ f _ => f cs) (fun _ _ _ _ d => d) (fun _ _ _ d => d) (fun _ _ _ _ d => d) (fun _ _ _ _ d => d) c) o
noncomputable def selRow (o : Option CObj) : (β : Type) → (Nat → List CVal → β) → β → β :=
  @Option.rec.{2, 0} CObj (fun _ => (β : Type) → (Nat → List CVal → β) → β → β) (fun _ _ d => d) (fun c => @CObj.rec.{2} (fun _ => (β : Type) → (Nat → List CVal → β) → β → β) (fun _ _ _ d => d) (fun v es _ f _ => f v es) (fun _ _ _ d => d) (fun _ _ _ _ d => d) (fun _ _ _ _ d => d) c) o

noncomputable def loadF (k : Option Nat) (a : CVal) (h : CHeap) : Option CVal :=
  selPtr a (Option CVal) (fun b _ o => selCells (hgetF h b) (Option CVal) (fun cs => partF cs o k) none)
    (selCptr a (Option CVal) (fun cs o => partF cs o k)
      (selEptr a (Option CVal) (fun b ver i o => selRow (hgetF h b) (Option CVal) (fun v es => bF (Nat.beq v ver) (Option CVal) (obCV (nthO es i) (Option CVal) (fun e => partF (cellsF e) o k) none) none) none) none))

noncomputable def setCsF (cs : List CVal) : Nat → List CVal → List CVal :=
  @List.rec.{1, 0} CVal (fun _ => Nat → List CVal → List CVal) (fun _ v => v) (fun c r ih o v => @Nat.rec.{1} (fun _ => List CVal) (appC v (dropC (c :: r) (lenC v))) (fun j _ => c :: ih j v) o) cs

noncomputable def storeF (k : Nat) (a x : CVal) (h : CHeap) : Option (CVal × CHeap) :=
  bF (andF (wholeF x) (Nat.beq (lenC (cellsF x)) k)) (Option (CVal × CHeap))
    (selPtr a (Option (CVal × CHeap)) (fun b _ o => selCells (hgetF h b) (Option (CVal × CHeap)) (fun cs => bF (Nat.ble (Nat.add o k) (lenC cs)) (Option (CVal × CHeap)) (some (.undef, hsetF h b (.cells (setCsF cs o (cellsF x))))) none) none)
      (evalE (fun _ _ _ => none) (fun o => opndF o [] [a, x]) h 0 (.store k (.loc 0) (.loc 1)))) none

noncomputable def initF (k : Nat) (a x : CVal) (h : CHeap) : Option (CVal × CHeap) :=
  bF (andF (wholeF x) (Nat.beq (lenC (cellsF x)) k)) (Option (CVal × CHeap))
    (selPtr a (Option (CVal × CHeap)) (fun b s o => bF (andF (Nat.beq (Nat.mod s 1048576) k) (Nat.beq o 0)) (Option (CVal × CHeap))
      (@Option.rec.{1, 0} CObj (fun _ => Option (CVal × CHeap)) (some (.undef, hputF h b (.cells (cellsF x)))) (fun _ => none) (hgetF h b)) none) none) none

noncomputable def bareF (v : CVal) : CVal := selAgg v CVal (fun cs => .agg (@List.rec.{1, 0} CVal (fun _ => List CVal) [] (fun c _ ih => stripF c :: ih) cs)) (selTup v CVal (fun vs => CVal.bare (.tup vs)) (stripF v))

/-! Operations. -/
noncomputable def pK (e : Option CVal) (vals : List CVal) (h : CHeap) (ds : List (Nat × List CVal)) (hs : List CHeap) (k : List CVal → CHeap → List (Nat × List CVal) → List CHeap → Option RS) : Option RS :=
  obCV e (Option RS) (fun v => bF (isUndefF v) (Option RS) none (k (v :: vals) h ds hs)) none
noncomputable def eK (st : Bool) (e : Option (CVal × CHeap)) (vals : List CVal) (h : CHeap) (ds : List (Nat × List CVal)) (hs : List CHeap) (k : List CVal → CHeap → List (Nat × List CVal) → List CHeap → Option RS) : Option RS :=
  @Option.rec.{1, 0} (CVal × CHeap) (fun _ => Option RS) none (fun p => @Prod.rec.{1, 0, 0} CVal CHeap (fun _ => Option RS) (fun v h' => bF (andF (isUndefF v) (notF st)) (Option RS) none (k (v :: vals) h' ds (h :: hs))) p) e

noncomputable def fillF (ps : List (Nat × Nat × COpnd)) : (COpnd → CVal) → List CVal → Option (List CVal) :=
  @List.rec.{1, 0} (Nat × Nat × COpnd) (fun _ => (COpnd → CVal) → List CVal → Option (List CVal)) (fun _ cs => some cs)
    (fun p _ ih ev cs => bF (andF (wholeF (ev p.2.2)) (andF (Nat.beq (lenC (cellsF (ev p.2.2))) p.2.1) (Nat.ble (Nat.add p.1 p.2.1) (lenC cs)))) (Option (List CVal)) (ih ev (setCsF cs p.1 (cellsF (ev p.2.2)))) none) ps
noncomputable def olCV (o : Option (List CVal)) : Option CVal := @Option.rec.{1, 0} (List CVal) (fun _ => Option CVal) none (fun l => some (.agg l)) o

noncomputable def elemsF (h : CHeap) (k : Nat) (x : CVal) : Option (List CVal) :=
  selImm x (Option (List CVal)) (fun _ l es => bF (Nat.beq k l) (Option (List CVal)) (some es) none) (elems h k x)

noncomputable def appendF (m : SMode) (T k : Nat) (x y : CVal) (h : CHeap) (id : Nat) : Option (CVal × CHeap) :=
  @Option.rec.{1, 0} (List CVal) (fun _ => Option (CVal × CHeap)) none (fun ys => evalAppend h id m T k x (@List.rec.{1, 0} CVal (fun _ => List CVal) [] (fun v _ ih => bareF v :: ih) ys)) (elemsF h k y)

noncomputable def clsED (op : COp) : Bool := match op.cls with | .e => true | .d => true | _ => false

noncomputable def slowP (op : COp) (tm : List CVal) (id : Nat) (vals : List CVal) (h : CHeap) (ds : List (Nat × List CVal)) (hs : List CHeap) (k : List CVal → CHeap → List (Nat × List CVal) → List CHeap → Option RS) : Option RS :=
  pK (evalP (fun o => opndF o tm vals) id op) vals h ds hs k
noncomputable def slowE (cf : Nat → List CVal → CHeap → Option (CVal × CHeap)) (op : COp) (tm : List CVal) (id : Nat) (vals : List CVal) (h : CHeap) (ds : List (Nat × List CVal)) (hs : List CHeap) (k : List CVal → CHeap → List (Nat × List CVal) → List CHeap → Option RS) : Option RS :=
  eK op.isStore (evalE cf (fun o => opndF o tm vals) h id op) vals h ds hs k

noncomputable def callArgs (keep : Bool) (args : List COpnd) (tm vals : List CVal) : List CVal :=
  bF keep (List CVal) (mapO (fun o => opndF o tm vals) args) (mapO (fun o => bareF (opndF o tm vals)) args)

noncomputable def opF (op : COp) : (Nat → List CVal → CHeap → Option (CVal × CHeap)) → List CVal → Nat → List CVal → CHeap → List (Nat × List CVal) → List CHeap → (List CVal → CHeap → List (Nat × List CVal) → List CHeap → Option RS) → Option RS :=
  @COp.rec.{1} (fun _ => (Nat → List CVal → CHeap → Option (CVal × CHeap)) → List CVal → Nat → List CVal → CHeap → List (Nat × List CVal) → List CHeap → (List CVal → CHeap → List (Nat × List CVal) → List CHeap → Option RS) → Option RS)
    (fun x _ tm _ vals => pK (some (opndF x tm vals)) vals)
    (fun c a b _ tm _ vals h ds hs k => selBool (opndF c tm vals) (Option RS) (fun t => pK (some (bF t CVal (opndF a tm vals) (opndF b tm vals))) vals h ds hs k) none)
    (fun T z _ _ id vals h => eK false (bF (Nat.blt (lenC z) 1048576) (Option (CVal × CHeap)) (some (.ptr id (descOf T (lenC z)) 0, hputF h id (.cells z))) none) vals h)
    (fun d _ _ id vals => pK (some (.ptr id d 0)) vals)
    (fun T x cf tm id vals h => slowE cf (.box T x) tm id vals h)
    (fun z ps _ tm _ vals => pK (olCV (fillF ps (fun o => opndF o tm vals) z)) vals)
    (fun m a z n ps cf tm id vals h ds hs k => @SMode.rec.{1} (fun _ => Option RS) (slowP (.lit .imm a z n ps) tm id vals h ds hs k) (slowE cf (.lit .ref a z n ps) tm id vals h ds hs k) m)
    (fun k a _ tm _ vals h => pK (loadF k (opndF a tm vals) h) vals h)
    (fun k a x _ tm _ vals h => eK true (storeF k (opndF a tm vals) (opndF x tm vals) h) vals h)
    (fun k a x _ tm _ vals h => eK true (initF k (opndF a tm vals) (opndF x tm vals) h) vals h)
    (fun x _ tm _ vals h ds hs k => bF (isPtrF (opndF x tm vals)) (Option RS) (pK (some (opndF x tm vals)) vals h ds hs k) none)
    (fun b x y _ tm _ vals => pK (binF b (opndF x tm vals) (opndF y tm vals)) vals)
    (fun e n x y _ tm _ vals h ds hs k => @Option.rec.{1, 0} Bool (fun _ => Option RS) none (fun c => pK (some (.bool (bF n Bool (notF c) c))) vals h ds hs k) (eqvF e (opndF x tm vals) (opndF y tm vals)))
    (fun x _ tm _ vals h ds hs k => selBool (opndF x tm vals) (Option RS) (fun b => pK (some (.bool (notF b))) vals h ds hs k) none)
    (fun x _ tm id vals => slowP (.neg x) tm id vals)
    (fun x _ tm id vals => slowP (.cpl x) tm id vals)
    (fun kd x _ tm _ vals h ds hs k => selInt (opndF x tm vals) (Option RS) (fun _ n => pK (some (.int kd (wrapF kd n))) vals h ds hs k) none)
    (fun x _ tm id vals => slowP (.same x) tm id vals)
    (fun m x cf tm id vals h ds hs k => @SMode.rec.{1} (fun _ => Option RS) (slowP (.s2b .imm x) tm id vals h ds hs k) (slowE cf (.s2b .ref x) tm id vals h ds hs k) m)
    (fun x _ tm _ vals h => pK (evalL (fun o => opndF o tm vals) h (.b2s x)) vals h)
    (fun t x _ tm _ vals => pK (some (.ifc t (opndF x tm vals))) vals)
    (fun f a b _ tm _ vals => pK (some (.fn f (mapO (fun o => opndF o tm vals) a) (mapO (fun o => opndF o tm vals) b))) vals)
    (fun o x _ tm _ vals => pK (faF o (opndF x tm vals)) vals)
    (fun o k x _ tm _ vals => pK (selAgg (opndF x tm vals) (Option CVal) (fun cs => partF cs o k) none) vals)
    (fun k x i _ tm _ vals => pK (idxAddrF k (opndF x tm vals) (opndF i tm vals)) vals)
    (fun n k x i _ tm id vals => slowP (.arrAddr n k x i) tm id vals)
    (fun x i _ tm _ vals => pK (idxStrF (opndF x tm vals) (opndF i tm vals)) vals)
    (fun k x lo hi _ tm _ vals => pK (slcF k (opndF x tm vals) (lo.map fun o => opndF o tm vals) (hi.map fun o => opndF o tm vals)) vals)
    (fun s x _ tm _ vals => pK (lenF s (opndF x tm vals)) vals)
    (fun m T k x y _ tm id vals h => eK false (appendF m T k (opndF x tm vals) (opndF y tm vals) h id) vals h)
    (fun k x y cf tm id vals h => slowE cf (.copy k x y) tm id vals h)
    (fun m a z l c cf tm id vals h => slowE cf (.mkslice m a z l c) tm id vals h)
    (fun i x _ tm _ vals => pK (extrF i (opndF x tm vals)) vals)
    (fun keep f args cf tm _ vals h => eK false (cf f (callArgs keep args tm vals) h) vals h)
    (fun keep x args cf tm _ vals h => eK false (selFn (opndF x tm vals) (Option (CVal × CHeap)) (fun fn first cap => @Fn.rec.{1} (fun _ => Option (CVal × CHeap)) (fun f => cf f (appC first (appC (callArgs keep args tm vals) cap)) h) (fun _ => none) (fun _ _ => none) (fun _ _ _ _ => none) (fun _ => none) fn) none) vals h)
    (fun x args _ tm _ vals h ds hs k => selFn (opndF x tm vals) (Option RS) (fun fn first cap => @Fn.rec.{1} (fun _ => Option RS) (fun f => k (.undef :: vals) h ((f, appC first (appC (mapO (fun o => opndF o tm vals) args) cap)) :: ds) (h :: hs)) (fun _ => none) (fun _ _ => none) (fun _ _ _ _ => none) (fun _ => none) fn) none)
    (fun m x y _ tm id vals => slowP (.minmax m x y) tm id vals)
    (fun x l cf tm id vals h => slowE cf (.ext x l) tm id vals h)
    (fun x l _ tm _ vals h => pK (extL h x (mapO (fun o => opndF o tm vals) l)) vals h)
    (fun _ _ _ _ _ _ _ _ => none)
    op

noncomputable def operF (o : COper) : (Nat → List CVal → CHeap → Option (CVal × CHeap)) → List CVal → Nat → List CVal → CHeap → List (Nat × List CVal) → List CHeap → (List CVal → CHeap → List (Nat × List CVal) → List CHeap → Option RS) → Option RS :=
  @COper.rec.{1} (fun _ => (Nat → List CVal → CHeap → Option (CVal × CHeap)) → List CVal → Nat → List CVal → CHeap → List (Nat × List CVal) → List CHeap → (List CVal → CHeap → List (Nat × List CVal) → List CHeap → Option RS) → Option RS)
    (fun op g => @Option.rec.{1, 0} (Nat × Bool) (fun _ => COp → (Nat → List CVal → CHeap → Option (CVal × CHeap)) → List CVal → Nat → List CVal → CHeap → List (Nat × List CVal) → List CHeap → (List CVal → CHeap → List (Nat × List CVal) → List CHeap → Option RS) → Option RS)
      (fun op => opF op)
      (fun p op cf tm id vals h ds hs k => bF (selBool (nthF vals p.1) Bool (fun c => bF c Bool p.2 (notF p.2)) false) (Option RS) (opF op cf tm id vals h ds hs k) (k (.undef :: vals) h ds (bF (clsED op) (List CHeap) (h :: hs) hs)))
      g op) o

noncomputable def opsF (l : List COper) : (Nat → List CVal → CHeap → Option (CVal × CHeap)) → List CVal → Nat → List CVal → CHeap → List (Nat × List CVal) → List CHeap → Option RS :=
  @List.rec.{1, 0} COper (fun _ => (Nat → List CVal → CHeap → Option (CVal × CHeap)) → List CVal → Nat → List CVal → CHeap → List (Nat × List CVal) → List CHeap → Option RS)
    (fun _ _ _ vals h ds hs => some ⟨vals, h, ds, hs⟩)
    (fun o _ ih cf tm id vals h ds hs => operF o cf tm id vals h ds hs (fun vals h ds hs => ih cf tm (Nat.succ id) vals h ds hs)) l

/-! Code and calls. -/
noncomputable def setNF (l : List CVal) : Nat → CVal → List CVal :=
  @List.rec.{1, 0} CVal (fun _ => Nat → CVal → List CVal) (fun _ _ => []) (fun v r ih i x => @Nat.rec.{1} (fun _ => List CVal) (x :: r) (fun j _ => v :: ih j x) i) l
noncomputable def wbF (wb : List (Nat × Nat)) : Nat → List CVal → List CVal → List CVal :=
  @List.rec.{1, 0} (Nat × Nat) (fun _ => Nat → List CVal → List CVal → List CVal) (fun _ _ tm => tm) (fun p _ ih n vals tm => ih n vals (setNF tm p.1 (nthF vals (Nat.sub (Nat.sub n 1) p.2)))) wb
noncomputable def nilF {α : Type} (l : List α) : Bool := @List.rec.{1, 0} α (fun _ => Bool) true (fun _ _ _ => false) l

noncomputable def paramsF (ps : List (Option Nat)) : List CVal → List CVal :=
  @List.rec.{1, 0} (Option Nat) (fun _ => List CVal → List CVal) (fun _ => []) (fun p _ ih args => @Option.rec.{1, 0} Nat (fun _ => List CVal → CVal) (fun _ => .undef) (fun i args => nthF args i) p args :: ih args) ps
noncomputable def olL (o : Option (List CVal)) : (β : Type) → (List CVal → β) → β → β := @Option.rec.{2, 0} (List CVal) (fun _ => (β : Type) → (List CVal → β) → β → β) (fun _ _ d => d) (fun v _ f _ => f v) o
noncomputable def resF (rs : List CRes) : CHeap → List CVal → Option (List CVal) :=
  @List.rec.{1, 0} CRes (fun _ => CHeap → List CVal → Option (List CVal)) (fun _ _ => some [])
    (fun r _ ih h tm => @CRes.rec.{1} (fun _ => (CHeap → List CVal → Option (List CVal)) → CHeap → List CVal → Option (List CVal)) (fun j ih h tm => olL (ih h tm) (Option (List CVal)) (fun vs => some (nthF tm j :: vs)) none)
      (fun j k ih h tm => selPtr (nthF tm j) (Option (List CVal)) (fun b _ o => selCells (hgetF h b) (Option (List CVal)) (fun cs => obCV (partF cs o k) (Option (List CVal)) (fun v => olL (ih h tm) (Option (List CVal)) (fun vs => some (v :: vs)) none) none) none) none) r ih h tm) rs
noncomputable def oneF (vs : List CVal) : CVal := @List.rec.{1, 0} CVal (fun _ => CVal) (.tup []) (fun v r _ => @List.rec.{1, 0} CVal (fun _ => CVal) v (fun _ _ _ => .tup vs) r) vs
noncomputable def dropEF (l : List (Nat × CObj)) : Nat → List (Nat × CObj) :=
  @List.rec.{1, 0} (Nat × CObj) (fun _ => Nat → List (Nat × CObj)) (fun _ => []) (fun p r ih n => bF (Nat.ble n p.1) (List (Nat × CObj)) (ih n) (p :: r)) l
noncomputable def dropCF (l : List (Nat × CObj)) : Nat → List (Nat × CObj) :=
  @List.rec.{1, 0} (Nat × CObj) (fun _ => Nat → List (Nat × CObj)) (fun _ => [])
    (fun p r ih n => bF (Nat.ble n p.1) (List (Nat × CObj)) (selCells (some p.2) (List (Nat × CObj)) (fun _ => ih n) (p :: ih n)) (p :: r)) l
noncomputable def finF (keep frz : Bool) (n : Nat) (v : CVal) (h : CHeap) : Option (CVal × CHeap) :=
  bF keep (Option (CVal × CHeap)) (some (v, bF frz CHeap (@CHeap.rec.{1} (fun _ => CHeap) (fun e nx t => ⟨dropCF e n, nx, t⟩) h) h))
    (bF frz (Option (CVal × CHeap)) ((freezeVal n h v).map fun v' => (v', { h with ents := dropAll h.ents n })) (some (bareF v, @CHeap.rec.{1} (fun _ => CHeap) (fun e nx t => ⟨dropEF e n, nx, t⟩) h)))

section
variable (T : Nat → Option CFn) (ex : CCode → CSt → Option (CExit × CSt))
noncomputable def bodyF (cd : List (Nat × List CVal) → CHeap → Option CHeap) (fn : CFunc) (args : List CVal) (h : CHeap) : Option (CVal × CHeap) :=
  @CFunc.rec.{1} (fun _ => (CCode → CSt → Option (CExit × CSt)) → (List (Nat × List CVal) → CHeap → Option CHeap) → List CVal → CHeap → Option (CVal × CHeap))
    (fun nargs _ params results body keep frz ex cd args h => bF (Nat.beq (lenC args) nargs) (Option (CVal × CHeap))
      (@Option.rec.{1, 0} (CExit × CSt) (fun _ => Option (CVal × CHeap)) none
        (fun p => @Prod.rec.{1, 0, 0} CExit CSt (fun _ => Option (CVal × CHeap)) (fun e st => @CSt.rec.{1} (fun _ => Option (CVal × CHeap)) (fun tm h0 ds =>
          @CExit.rec.{1} (fun _ => (Unit → Option (CVal × CHeap)) → Option (CVal × CHeap)) (fun g => g ()) (fun _ _ => none) (fun g => g ()) e
            (fun _ => @Option.rec.{1, 0} CHeap (fun _ => Option (CVal × CHeap)) none (fun h1 => olL (resF results h1 tm) (Option (CVal × CHeap)) (fun vs => finF keep frz h.next (oneF vs) h1) none)
              (@List.rec.{1, 0} (Nat × List CVal) (fun _ => Option CHeap) (some h0) (fun _ _ _ => cd ds h0) ds))) st) p)
        (ex body ⟨paramsF params args, h, []⟩)) none) fn ex cd args h
noncomputable def callFF (f : Nat) (args : List CVal) (h : CHeap) : Option (CVal × CHeap) :=
  @Option.rec.{1, 0} CFn (fun _ => Option (CVal × CHeap)) none (fun c => @CFn.rec.{1} (fun _ => Option (CVal × CHeap)) (fun fn => bodyF ex (runDefs T ex) fn args h) (fun p => p args h) c) (T f)
end

noncomputable def regF (ops : List COper) (wb : List (Nat × Nat)) (chk : List (Nat × Nat × Nat)) (sw : List (Nat × Nat)) (T : Nat → Option CFn) (ex : CCode → CSt → Option (CExit × CSt)) (st : CSt) : Option (CExit × CSt) :=
  @CSt.rec.{1} (fun _ => Option (CExit × CSt)) (fun tm h ds => @CHeap.rec.{1} (fun _ => Option (CExit × CSt)) (fun e nx t =>
    @Option.rec.{1, 0} RS (fun _ => Option (CExit × CSt)) none (fun s => @RS.rec.{1} (fun _ => Option (CExit × CSt)) (fun vals h' ds' hs =>
      bF (andF (bF (nilF chk) Bool true (chk.all (checkOne tm ops ops.length vals (h' :: hs).reverse))) (bF (nilF sw) Bool true (sw.all (swapOne tm ops ops.length vals)))) (Option (CExit × CSt))
        (some (.normal, ⟨wbF wb ops.length vals tm, h', ds'⟩)) none) s)
    (opsF ops (callFF T ex) tm nx [] ⟨e, Nat.add nx ops.length, t⟩ ds [])) h) st

noncomputable def exSel (e : CExit) : (β : Type) → β → (Nat → β) → β → β := @CExit.rec.{2} (fun _ => (β : Type) → β → (Nat → β) → β → β) (fun _ a _ _ => a) (fun i _ _ b _ => b i) (fun _ _ _ c => c) e
noncomputable def orX (o : Option (CExit × CSt)) (f : CExit → CSt → Option (CExit × CSt)) : Option (CExit × CSt) :=
  @Option.rec.{1, 0} (CExit × CSt) (fun _ => Option (CExit × CSt)) none (fun p => @Prod.rec.{1, 0, 0} CExit CSt (fun _ => Option (CExit × CSt)) (fun e st => f e st) p) o

noncomputable def stepF (c : CCode) : (Nat → Option CFn) → (CCode → CSt → Option (CExit × CSt)) → CSt → Option (CExit × CSt) :=
  @CCode.rec.{1} (fun _ => (Nat → Option CFn) → (CCode → CSt → Option (CExit × CSt)) → CSt → Option (CExit × CSt))
    (fun _ _ st => some (.normal, st))
    (fun ops wb chk sw T ex st => regF ops wb chk sw T ex st)
    (fun a b _ _ _ ex st => orX (ex a st) (fun e st' => exSel e (Option (CExit × CSt)) (ex b st') (fun i => some (.exit i, st')) (some (.ret, st'))))
    (fun c a b _ _ _ ex st => selBool (opndF c st.tm []) (Option (CExit × CSt)) (fun t => bF t (Option (CExit × CSt)) (ex a st) (ex b st)) none)
    (fun id c _ _ ex st => orX (ex c st) (fun e st' => exSel e (Option (CExit × CSt)) (some (.normal, st')) (fun i => bF (Nat.beq i id) (Option (CExit × CSt)) (some (.normal, st')) (some (.exit i, st'))) (some (.ret, st'))))
    (fun drop c _ _ ex st => orX (ex c st) (fun e st' => exSel e (Option (CExit × CSt))
      (ex (.loop drop c) (bF drop CSt (@CSt.rec.{1} (fun _ => CSt) (fun tm h ds => @CHeap.rec.{1} (fun _ => CSt) (fun e nx t => ⟨tm, ⟨dropCF e st.h.next, nx, t⟩, ds⟩) h) st') st')) (fun i => some (.exit i, st')) (some (.ret, st'))))
    (fun i _ _ st => some (.exit i, st))
    (fun _ _ st => some (.ret, st))
    (fun _ _ _ => none) c

noncomputable def execF (T : Nat → Option CFn) (n : Nat) : CCode → CSt → Option (CExit × CSt) := @Nat.rec.{1} (fun _ => CCode → CSt → Option (CExit × CSt)) (fun _ _ => none) (fun _ ih c st => stepF c T ih st) n
noncomputable def crunF (T : Nat → Option CFn) (n f : Nat) (args : List CVal) (h : CHeap) : Option (CVal × CHeap) := callFF T (execF T n) f args h

noncomputable def CTree.getF (t : CTree) : Nat → Option CFn :=
  @CTree.rec.{1} (fun _ => Nat → Option CFn) (fun i fn f => bF (Nat.beq f i) (Option CFn) (some fn) none) (fun m _ _ a b f => bF (Nat.blt f m) (Option CFn) (a f) (b f)) t
end Go.CI

/- The fast form gives what the interpreter gives. -/
set_option linter.unusedVariables false
set_option linter.unusedSimpArgs false
namespace Go.CI

theorem bF_eq (b : Bool) (β : Type) (x y : β) : bF b β x y = if b then x else y := by cases b <;> rfl
theorem andF_eq (a b : Bool) : andF a b = (a && b) := by cases a <;> rfl
theorem nbeq (a b : Nat) : Nat.beq a b = (a == b) := by rw [Bool.eq_iff_iff]; simp
theorem notF_eq (a : Bool) : notF a = !a := by cases a <;> rfl
theorem nthF_eq : ∀ (l : List CVal) (i : Nat), nthF l i = nth l i
  | [], _ => rfl
  | _ :: _, 0 => rfl
  | _ :: r, i + 1 => nthF_eq r i
theorem nthO_eq : ∀ (l : List CVal) (i : Nat), nthO l i = l[i]?
  | [], _ => rfl
  | _ :: _, 0 => rfl
  | _ :: r, i + 1 => by rw [List.getElem?_cons_succ, ← nthO_eq r i]; rfl
theorem nthO_if (l : List CVal) (i : Nat) : nthO l i = if i < l.length then some (nth l i) else none := by
  rw [nthO_eq]
  split
  · exact getElem?_nth ‹_›
  · exact List.getElem?_eq_none (by omega)
theorem nthB_eq : ∀ (l : List UInt8) (i : Nat), nthB l i = l[i]?
  | [], _ => rfl
  | _ :: _, 0 => rfl
  | _ :: r, i + 1 => by rw [List.getElem?_cons_succ, ← nthB_eq r i]; rfl
theorem lenC_eq : ∀ l : List CVal, lenC l = l.length
  | [] => rfl
  | _ :: r => congrArg Nat.succ (lenC_eq r)
theorem lenB_eq : ∀ l : List UInt8, lenB l = l.length
  | [] => rfl
  | _ :: r => congrArg Nat.succ (lenB_eq r)
theorem dropC_eq : ∀ (l : List CVal) (i : Nat), dropC l i = l.drop i
  | [], i => by simp; rfl
  | _ :: _, 0 => rfl
  | _ :: r, i + 1 => dropC_eq r i
theorem dropB_eq : ∀ (l : List UInt8) (i : Nat), dropB l i = l.drop i
  | [], i => by simp; rfl
  | _ :: _, 0 => rfl
  | _ :: r, i + 1 => dropB_eq r i
theorem takeB_eq : ∀ (l : List UInt8) (i : Nat), takeB l i = l.take i
  | [], i => by simp; rfl
  | _ :: _, 0 => rfl
  | v :: r, i + 1 => congrArg (v :: ·) (takeB_eq r i)
theorem appC_eq : ∀ (l y : List CVal), appC l y = l ++ y
  | [], _ => rfl
  | v :: r, y => congrArg (v :: ·) (appC_eq r y)
theorem eqB_eq : ∀ (l y : List UInt8), eqB l y = (l == y)
  | [], [] => rfl
  | [], _ :: _ => rfl
  | _ :: _, [] => rfl
  | a :: r, b :: y => by
    show andF (Nat.beq a.toNat b.toNat) (eqB r y) = _
    have : Nat.beq a.toNat b.toNat = (a == b) := by rw [Bool.eq_iff_iff]; simp [UInt8.toNat_inj]
    rw [andF_eq, eqB_eq r y, this]
    rfl
theorem mapO_eq (f : COpnd → CVal) : ∀ l : List COpnd, mapO f l = l.map f
  | [] => rfl
  | _ :: r => congrArg (f _ :: ·) (mapO_eq f r)
theorem opndF_eq (o : COpnd) (tm vals : List CVal) : opndF o tm vals = evalOpnd tm vals o := by
  cases o
  · exact nthF_eq _ _
  · exact nthF_eq _ _
  · rfl
theorem opndF_fun (tm vals : List CVal) : (fun o => opndF o tm vals) = evalOpnd tm vals := funext fun o => opndF_eq o tm vals

theorem kEqF_eq (a b : IntKind) : kEqF a b = decide (a = b) := by cases a <;> cases b <;> rfl
theorem ltF_eq (a b : Int) : ltF a b = decide (a < b) := by
  cases a <;> cases b
  · rename_i m n
    show Nat.blt m n = _
    rw [Bool.eq_iff_iff]; simp [Nat.blt]; omega
  · rename_i m n
    show false = _
    symm; simp; omega
  · rename_i m n
    show true = _
    symm; simp; omega
  · rename_i m n
    show Nat.blt n m = _
    rw [Bool.eq_iff_iff]; simp [Nat.blt]; omega
theorem eqF_eq (a b : Int) : eqF a b = (a == b) := by
  cases a <;> cases b
  · rename_i m n
    show Nat.beq m n = _
    rw [Bool.eq_iff_iff]; simp; omega
  · rename_i m n
    show false = _
    symm; simp
  · rename_i m n
    show false = _
    symm; simp
  · rename_i m n
    show Nat.beq m n = _
    rw [Bool.eq_iff_iff]; simp
theorem addF_eq (a b : Int) : addF a b = a + b := by cases a <;> cases b <;> rfl
theorem subF_eq (a b : Int) : subF a b = a - b := by
  cases a <;> cases b
  · rename_i m n
    show bF (Nat.ble n m) Int (.ofNat (Nat.sub m n)) (Int.sub (.ofNat m) (.ofNat n)) = _
    rw [bF_eq]
    split
    · rename_i h
      have h := Nat.le_of_ble_eq_true h
      have : (Int.ofNat (Nat.sub m n) : Int) = ((m - n : Nat) : Int) := rfl
      rw [this]
      show ((m - n : Nat) : Int) = (m : Int) - (n : Int)
      omega
    · rfl
  all_goals rfl
theorem wrap_id {k : IntKind} {x : Int} (h0 : 0 ≤ x) (h1 : x ≤ maxN k) : IntKind.wrap k x = x := by
  cases k <;> simp [maxN] at h1 <;> simp [IntKind.wrap, IntKind.bits, IntKind.signed] <;> first | (split <;> omega) | omega
theorem wrap_neg {k : IntKind} {n : Nat} (hs : sgnN k = true) (h1 : n ≤ maxN k) : IntKind.wrap k (.negSucc n) = .negSucc n := by
  have e : Int.negSucc n = -(n : Int) - 1 := by omega
  rw [e]
  cases k <;> simp [sgnN] at hs <;> simp [maxN] at h1 <;> simp [IntKind.wrap, IntKind.bits, IntKind.signed] <;> split <;> omega
theorem wrapF_eq (k : IntKind) (x : Int) : wrapF k x = IntKind.wrap k x := by
  cases x with
  | ofNat n =>
    show bF (Nat.ble n (maxN k)) Int (.ofNat n) (IntKind.wrap k (.ofNat n)) = _
    rw [bF_eq]
    split
    · rename_i h
      have h := Nat.le_of_ble_eq_true h
      exact (wrap_id (x := (n : Int)) (by omega) (by omega)).symm
    · rfl
  | negSucc n =>
    show bF (andF (sgnN k) (Nat.ble n (maxN k))) Int (.negSucc n) (IntKind.wrap k (.negSucc n)) = _
    rw [bF_eq, andF_eq]
    split
    · rename_i h
      simp only [Bool.and_eq_true] at h
      exact (wrap_neg h.1 (Nat.le_of_ble_eq_true h.2)).symm
    · rfl

theorem arithF_eq (b : BinOp) (k : IntKind) (x y : Int) : arithF b k x y = evalInt b k x y := by
  cases b <;> first
    | rfl
    | (show some (CVal.int k (wrapF k (addF x y))) = _; rw [wrapF_eq, addF_eq]; rfl)
    | (show some (CVal.int k (wrapF k (subF x y))) = _; rw [wrapF_eq, subF_eq]; rfl)
    | (show some (CVal.int k (wrapF k (Int.mul x y))) = _; rw [wrapF_eq]; rfl)
    | (show some (CVal.bool (eqF x y)) = _; rw [eqF_eq]; rfl)
    | (show some (CVal.bool (notF (eqF x y))) = _; rw [eqF_eq, notF_eq]; rfl)
    | (show some (CVal.bool (ltF x y)) = _; rw [ltF_eq]; rfl)
    | (show some (CVal.bool (ltF y x)) = _; rw [ltF_eq]; rfl)
    | (show some (CVal.bool (notF (ltF y x))) = _; rw [ltF_eq, notF_eq]; simp only [evalInt]; congr 2; by_cases h : y < x <;> simp [h] <;> omega)
    | (show some (CVal.bool (notF (ltF x y))) = _; rw [ltF_eq, notF_eq]; simp only [evalInt]; congr 2; by_cases h : x < y <;> simp [h] <;> omega)
theorem strF_eq (b : BinOp) (x y : List UInt8) : strF b x y = evalStr b x y := by
  cases b <;> first
    | rfl
    | (show some (CVal.bool (eqB x y)) = _; rw [eqB_eq]; rfl)
    | (show some (CVal.bool (notF (eqB x y))) = _; rw [eqB_eq, notF_eq]; rfl)
theorem gen2_eq {b : BinOp} (hb : isShF b = false) (x y : CVal) : gen2 (arithF b) (strF b) x y = evalBin b x y := by
  cases x <;> cases y <;> first
    | (cases b <;> first | rfl | (simp [isShF] at hb; done))
    | (rename_i k a l c
       show bF (kEqF k l) (Option CVal) (arithF b k a c) none = _
       rw [bF_eq, kEqF_eq, arithF_eq]
       cases b <;> first | (simp [isShF] at hb; done) | (simp only [evalBin]; by_cases h : k = l <;> simp [h]))
    | (rename_i s t
       show strF b s t = _
       rw [strF_eq]
       cases b <;> first | rfl | (simp [isShF] at hb; done))
theorem binF_eq (b : BinOp) (x y : CVal) : binF b x y = evalBin b x y := by
  unfold binF
  rw [bF_eq]
  split
  · rfl
  · rename_i h; exact gen2_eq (by simpa using h) x y
theorem eqvF_eq (e : EqK) (x y : CVal) : eqvF e x y = eqVal e x y := by
  cases e
  · cases x <;> cases y <;> first
      | rfl
      | (rename_i a b; cases a <;> cases b <;> rfl)
  all_goals (cases x <;> cases y <;> rfl)

theorem wholeF_eq (v : CVal) : wholeF v = v.whole := by cases v <;> rfl
theorem cellsF_eq (v : CVal) : cellsF v = v.cells := by cases v <;> rfl
theorem stripF_eq (v : CVal) : stripF v = v.strip := by
  cases v <;> first
    | rfl
    | (rename_i t k es; cases t <;> rfl)
theorem isUndefF_eq (v : CVal) : isUndefF v = v.isUndef := by cases v <;> rfl

theorem partF_eq (cs : List CVal) (o : Nat) (k : Option Nat) : partF cs o k = partOf cs o k := by
  cases k with
  | none => exact nthO_if cs o
  | some k =>
    show bF (Nat.ble (Nat.add o k) (lenC cs)) (Option CVal) (some (.agg (cut o (o + k) cs))) none = _
    rw [bF_eq, lenC_eq, show Nat.add o k = o + k from rfl]
    simp only [partOf]
    by_cases h : o + k ≤ cs.length
    · rw [if_pos (Nat.ble_eq_true_of_le h), if_pos h]
    · rw [if_neg (fun e => h (Nat.le_of_ble_eq_true e)), if_neg h]

theorem intNat_int {β : Type} (k : IntKind) (n : Int) (f : Nat → β) (d : β) : intNat (.int k n) β f d = if 0 ≤ n then f n.toNat else d := by
  cases n with
  | ofNat m => show f m = _; rw [if_pos (show (0 : Int) ≤ Int.ofNat m from Int.natCast_nonneg m)]; rfl
  | negSucc m => show d = _; rw [if_neg (by have := Int.negSucc_lt_zero m; omega)]

theorem obCV_eq {β : Type} (o : Option CVal) (f : CVal → β) (d : β) : obCV o β f d = match o with | some v => f v | none => d := by cases o <;> rfl

theorem idxAddrF_eq (ev : COpnd → CVal) (id k : Nat) (x i : COpnd) : idxAddrF k (ev x) (ev i) = evalP ev id (.idxAddr k x i) := by
  simp only [evalP]
  generalize ev x = X
  generalize ev i = I
  cases I <;> first
    | (cases X <;> rfl)
    | skip
  rename_i kd n
  show intNat (.int kd n) (Option CVal) _ _ = _
  rw [intNat_int]
  cases X <;> first
    | (show (if 0 ≤ n then _ else _) = none; split <;> rfl)
    | skip
  · rename_i t l es
    show (if 0 ≤ n then bF (Nat.beq k l) (Option CVal) (obCV (nthO es n.toNat) (Option CVal) (fun e => some (.cptr (cellsF e) 0)) none) none else none) = _
    rw [bF_eq, obCV_eq, nthO_if]
    by_cases h0 : 0 ≤ n
    · by_cases hk : k = l
      · subst hk
        by_cases hl : n.toNat < es.length
        · have : n < (es.length : Int) := by omega
          simp [h0, hl, this, cellsF_eq]
        · have : ¬ n < (es.length : Int) := by omega
          simp [h0, hl, this]
      · simp [h0, hk]
    · simp [h0]
  · rename_i b ver l off len
    show (if 0 ≤ n then bF (andF (Nat.beq k l) (Nat.blt n.toNat len)) (Option CVal) (some (.eptr b ver (off + n.toNat) 0)) none else none) = _
    rw [bF_eq, andF_eq]
    by_cases h0 : 0 ≤ n
    · by_cases hk : k = l
      · subst hk
        by_cases hl : n.toNat < len
        · have : n < (len : Int) := by omega
          have h2 : Nat.blt n.toNat len = true := Nat.ble_eq_true_of_le hl
          simp [h0, this, h2]
        · have : ¬ n < (len : Int) := by omega
          have h2 : Nat.blt n.toNat len = false := by
            cases hb : Nat.blt n.toNat len with
            | false => rfl
            | true => exact absurd (Nat.le_of_ble_eq_true hb) hl
          simp [h0, this, h2]
      · simp [h0, hk]
    · simp [h0]

theorem idxStrF_eq (ev : COpnd → CVal) (id : Nat) (x i : COpnd) : idxStrF (ev x) (ev i) = evalP ev id (.idxStr x i) := by
  simp only [evalP]
  generalize ev x = X
  generalize ev i = I
  cases I <;> first
    | (cases X <;> rfl)
    | skip
  rename_i kd n
  show intNat (.int kd n) (Option CVal) _ _ = _
  rw [intNat_int]
  cases X <;> first
    | (show (if 0 ≤ n then _ else _) = none; split <;> rfl)
    | skip
  rename_i s
  show (if 0 ≤ n then obB (nthB s n.toNat) (Option CVal) (fun b => some (.int .u8 (.ofNat b.toNat))) none else none) = _
  rw [nthB_eq]
  simp only
  cases hs : s[n.toNat]? <;> rfl

theorem lenF_eq (ev : COpnd → CVal) (id : Nat) (s : Bool) (x : COpnd) : lenF s (ev x) = evalP ev id (.len s x) := by
  simp only [evalP]
  generalize ev x = X
  cases s <;> cases X <;> first
    | rfl
    | (rename_i t; show some (CVal.int .i64 (.ofNat (lenB t))) = _; rw [lenB_eq]; rfl)
    | (rename_i t k es; show some (CVal.int .i64 (.ofNat (lenC es))) = _; rw [lenC_eq]; rfl)

theorem bndF_eq {β : Type} (o : Option CVal) (d : Nat) (f : Nat → β) (e : β) : bndF o d β f e = match optBound d o with | some n => f n | none => e := by
  cases o with
  | none => rfl
  | some v =>
    show intNat v β f e = _
    cases v <;> first
      | rfl
      | (rename_i k n; rw [intNat_int]; simp only [optBound]; by_cases h : 0 ≤ n <;> simp [h])

theorem slcF_eq (k : Nat) (x : CVal) (lo hi : Option CVal) : slcF k x lo hi = evalSlc k x lo hi := by
  unfold slcF
  rw [bF_eq]
  split
  · rename_i hk
    have hk : k = 0 := Nat.eq_of_beq_eq_true hk
    subst hk
    cases x
    case str s =>
         show bndF lo 0 (Option CVal) _ _ = _
         rw [bndF_eq]
         simp only [evalSlc, CVal.lenOf]
         cases hi with
         | none =>
           have e0 : optBound s.length none = some s.length := rfl
           rw [e0]
           cases hl : optBound 0 lo with
           | none => rfl
           | some l =>
             show bF (Nat.ble l (lenB s)) (Option CVal) (some (.str (dropB s l))) none = _
             rw [bF_eq, lenB_eq, dropB_eq]
             by_cases h : l ≤ s.length
             · simp [h, cut]
             · simp [h]
         | some hv =>
           cases hl : optBound 0 lo with
           | none => cases optBound s.length (some hv) <;> rfl
           | some l =>
             show intNat hv (Option CVal) _ _ = _
             cases hv <;> first
               | rfl
               | (rename_i kd n
                  rw [intNat_int]
                  simp only [optBound]
                  by_cases h0 : 0 ≤ n
                  · simp only [h0, if_true]
                    rw [bF_eq, andF_eq, lenB_eq, dropB_eq, takeB_eq]
                    by_cases h1 : l ≤ n.toNat <;> by_cases h2 : n.toNat ≤ s.length <;> simp [h1, h2, cut]
                  · simp [h0])
    all_goals rfl
  · rfl

theorem extrF_eq (ev : COpnd → CVal) (id i : Nat) (x : COpnd) : extrF i (ev x) = evalP ev id (.extract i x) := by
  simp only [evalP]
  generalize ev x = X
  cases X <;> first
    | rfl
    | exact nthO_if _ _
theorem faF_eq (ev : COpnd → CVal) (id o : Nat) (x : COpnd) : faF o (ev x) = evalP ev id (.fieldAddr o x) := by
  simp only [evalP]
  generalize ev x = X
  cases X <;> rfl

theorem getF_eq : ∀ (l : List (Nat × CObj)) (b : Nat), getF l b = getEnt l b
  | [], _ => rfl
  | (i, o) :: r, b => by
    show bF (Nat.beq i b) (Option CObj) (some o) (getF r b) = _
    rw [bF_eq, getF_eq r b, nbeq]; rfl
theorem setF_eq : ∀ (l : List (Nat × CObj)) (b : Nat) (x : CObj), setF l b x = setEnt l b x
  | [], _, _ => rfl
  | (i, o) :: r, b, x => by
    show bF (Nat.beq i b) (List (Nat × CObj)) ((i, x) :: r) ((i, o) :: setF r b x) = _
    rw [bF_eq, setF_eq r b x, nbeq]; rfl
theorem hgetF_eq (h : CHeap) (b : Nat) : hgetF h b = h.get b := getF_eq h.ents b
theorem hsetF_eq (h : CHeap) (b : Nat) (x : CObj) : hsetF h b x = h.set b x := by
  show (⟨setF h.ents b x, h.next, h.tys⟩ : CHeap) = _
  rw [setF_eq]; rfl
theorem hputF_eq (h : CHeap) (b : Nat) (x : CObj) : hputF h b x = h.put b x := rfl
theorem selCells_eq {β : Type} (o : Option CObj) (f : List CVal → β) (d : β) : selCells o β f d = match o with | some (.cells cs) => f cs | _ => d := by
  cases o with
  | none => rfl
  | some c => cases c <;> rfl
theorem selRow_eq {β : Type} (o : Option CObj) (f : Nat → List CVal → β) (d : β) : selRow o β f d = match o with | some (.row v es) => f v es | _ => d := by
  cases o with
  | none => rfl
  | some c => cases c <;> rfl

theorem loadF_eq (ev : COpnd → CVal) (k : Option Nat) (a : COpnd) (h : CHeap) : loadF k (ev a) h = evalL ev h (.load k a) := by
  simp only [evalL]
  generalize ev a = A
  cases A <;> first
    | rfl
    | (rename_i b sz o
       show selCells (hgetF h b) (Option CVal) (fun cs => partF cs o k) none = _
       rw [selCells_eq, hgetF_eq]
       simp only [partF_eq]
       cases h.get b with
       | none => rfl
       | some c => cases c <;> rfl)
    | (rename_i cs o; exact partF_eq cs o k)
    | (rename_i b ver i o
       show selRow (hgetF h b) (Option CVal) (fun v es => bF (Nat.beq v ver) (Option CVal) (obCV (nthO es i) (Option CVal) (fun e => partF (cellsF e) o k) none) none) none = _
       rw [selRow_eq, hgetF_eq]
       dsimp only
       cases hg : h.get b with
       | none => rfl
       | some c =>
         cases c
         case row v es =>
              show bF (Nat.beq v ver) (Option CVal) (obCV (nthO es i) (Option CVal) (fun e => partF (cellsF e) o k) none) none = if (decide (v = ver) && decide (i < es.length)) = true then partOf (nth es i).cells o k else none
              rw [bF_eq, obCV_eq, nthO_if]
              by_cases h1 : v = ver
              · by_cases h2 : i < es.length <;> simp [h1, h2, partF_eq, cellsF_eq]
              · simp [h1]
         all_goals rfl)

theorem setCsF_eq : ∀ (cs : List CVal) (o : Nat) (v : List CVal), o ≤ cs.length → setCsF cs o v = setCells cs o v
  | [], o, v, h => by
    have : o = 0 := by simpa using h
    subst this
    simp [setCells]; rfl
  | c :: r, 0, v, _ => by
    show appC v (dropC (c :: r) (lenC v)) = _
    rw [appC_eq, dropC_eq, lenC_eq]
    simp [setCells]
  | c :: r, o + 1, v, h => by
    show c :: setCsF r o v = _
    rw [setCsF_eq r o v (by simpa using h)]
    simp only [setCells, List.take_succ_cons, List.cons_append]
    congr 3
    rw [show o + 1 + v.length = (o + v.length) + 1 by omega, List.drop_succ_cons]

theorem storeF_eq (cf : Nat → List CVal → CHeap → Option (CVal × CHeap)) (ev : COpnd → CVal) (h : CHeap) (id k : Nat) (a x : COpnd) : storeF k (ev a) (ev x) h = evalE cf ev h id (.store k a x) := by
  unfold storeF
  rw [bF_eq, andF_eq, wholeF_eq, lenC_eq, cellsF_eq]
  simp only [evalE]
  generalize hA : ev a = A
  generalize hX : ev x = X
  by_cases hw : X.whole = true
  · by_cases hk : X.cells.length = k
    · have e1 : (X.whole && Nat.beq X.cells.length k) = true := by simp [hw, hk]
      have e2 : (X.whole && decide (X.cells.length = k)) = true := by simp [hw, hk]
      rw [if_pos e1, if_pos e2]
      cases A <;> first
        | (rename_i b sz o
           show selCells (hgetF h b) (Option (CVal × CHeap)) (fun cs => bF (Nat.ble (Nat.add o k) (lenC cs)) (Option (CVal × CHeap)) (some (.undef, hsetF h b (.cells (setCsF cs o X.cells)))) none) none = _
           rw [selCells_eq, hgetF_eq]
           dsimp only
           cases hg : h.get b with
           | none => rfl
           | some c =>
             cases c
             case cells cs =>
                  show bF (Nat.ble (Nat.add o k) (lenC cs)) (Option (CVal × CHeap)) (some (.undef, hsetF h b (.cells (setCsF cs o X.cells)))) none = if o + k ≤ cs.length then some (.undef, h.set b (.cells (setCells cs o X.cells))) else none
                  rw [bF_eq, lenC_eq, hsetF_eq, show Nat.add o k = o + k from rfl]
                  by_cases hl : o + k ≤ cs.length
                  · rw [if_pos (Nat.ble_eq_true_of_le hl), if_pos hl, setCsF_eq _ _ _ (by omega)]
                  · rw [if_neg (fun e => hl (Nat.le_of_ble_eq_true e)), if_neg hl]
             all_goals rfl)
        | (show evalE (fun _ _ _ => none) (fun o => opndF o [] [_, X]) h 0 (.store k (.loc 0) (.loc 1)) = _
           simp only [evalE, opndF_eq, evalOpnd, nth, e2, if_true])
    · have e1 : ¬ (X.whole && Nat.beq X.cells.length k) = true := by simp [hk]
      have e2 : ¬ (X.whole && decide (X.cells.length = k)) = true := by simp [hk]
      rw [if_neg e1, if_neg e2]
  · have e1 : ¬ (X.whole && Nat.beq X.cells.length k) = true := by simp [hw]
    have e2 : ¬ (X.whole && decide (X.cells.length = k)) = true := by simp [hw]
    rw [if_neg e1, if_neg e2]

theorem initF_eq (cf : Nat → List CVal → CHeap → Option (CVal × CHeap)) (ev : COpnd → CVal) (h : CHeap) (id k : Nat) (a x : COpnd) : initF k (ev a) (ev x) h = evalE cf ev h id (.init k a x) := by
  unfold initF
  rw [bF_eq, andF_eq, wholeF_eq, lenC_eq, cellsF_eq]
  simp only [evalE]
  generalize hA : ev a = A
  generalize hX : ev x = X
  by_cases hw : X.whole = true
  · by_cases hk : X.cells.length = k
    · have e1 : (X.whole && Nat.beq X.cells.length k) = true := by simp [hw, hk]
      have e2 : (X.whole && decide (X.cells.length = k)) = true := by simp [hw, hk]
      rw [if_pos e1, if_pos e2]
      cases A <;> first
        | (rename_i b s o
           show bF (andF (Nat.beq (Nat.mod s 1048576) k) (Nat.beq o 0)) (Option (CVal × CHeap)) (@Option.rec.{1, 0} CObj (fun _ => Option (CVal × CHeap)) (some (.undef, hputF h b (.cells X.cells))) (fun _ => none) (hgetF h b)) none = _
           rw [bF_eq, andF_eq, hgetF_eq]
           have e3 : szOf s = Nat.mod s 1048576 := rfl
           dsimp only
           rw [e3, nbeq, nbeq]
           have e4 : ((Nat.mod s 1048576 == k) && (o == 0)) = (decide (Nat.mod s 1048576 = k) && decide (o = 0)) := by rw [Bool.eq_iff_iff]; simp
           rw [e4]
           split
           · cases h.get b <;> rfl
           · rfl)
        | rfl
    · have e1 : ¬ (X.whole && Nat.beq X.cells.length k) = true := by simp [hk]
      have e2 : ¬ (X.whole && decide (X.cells.length = k)) = true := by simp [hk]
      rw [if_neg e1, if_neg e2]
  · have e1 : ¬ (X.whole && Nat.beq X.cells.length k) = true := by simp [hw]
    have e2 : ¬ (X.whole && decide (X.cells.length = k)) = true := by simp [hw]
    rw [if_neg e1, if_neg e2]

theorem map_strip (cs : List CVal) : @List.rec.{1, 0} CVal (fun _ => List CVal) [] (fun c _ ih => stripF c :: ih) cs = cs.map CVal.strip := by
  induction cs with
  | nil => rfl
  | cons c r ih => rw [List.map_cons, ← stripF_eq, ← ih]
theorem bareF_eq (v : CVal) : bareF v = v.bare := by
  cases v <;> first
    | (rename_i t k es; exact stripF_eq (.imm t k es))
    | (rename_i cs; exact congrArg CVal.agg (map_strip cs))
    | rfl
theorem map_bare (cs : List CVal) : @List.rec.{1, 0} CVal (fun _ => List CVal) [] (fun c _ ih => bareF c :: ih) cs = cs.map CVal.bare := by
  induction cs with
  | nil => rfl
  | cons c r ih => rw [List.map_cons, ← bareF_eq, ← ih]
end Go.CI

/- The fast form of operations, of code and of calls. -/
set_option linter.unusedVariables false
set_option linter.unusedSimpArgs false
namespace Go.CI

theorem fillF_eq (ev : COpnd → CVal) : ∀ (ps : List (Nat × Nat × COpnd)) (cs : List CVal), fillF ps ev cs = fillCells cs (ps.map fun p => (p.1, p.2.1, ev p.2.2))
  | [], _ => rfl
  | (off, size, x) :: r, cs => by
    show bF (andF (wholeF (ev x)) (andF (Nat.beq (lenC (cellsF (ev x))) size) (Nat.ble (Nat.add off size) (lenC cs)))) (Option (List CVal)) (fillF r ev (setCsF cs off (cellsF (ev x)))) none = _
    rw [bF_eq, andF_eq, andF_eq, wholeF_eq, cellsF_eq, lenC_eq, lenC_eq, nbeq]
    simp only [List.map_cons, fillCells]
    by_cases h1 : (ev x).whole = true
    · by_cases h2 : (ev x).cells.length = size
      · by_cases h3 : off + size ≤ cs.length
        · have e : Nat.ble (Nat.add off size) cs.length = true := Nat.ble_eq_true_of_le h3
          simp only [h1, h2, h3, e, beq_self_eq_true, Bool.and_self, if_true, decide_true]
          rw [setCsF_eq _ _ _ (by omega), fillF_eq ev r]
          simp only [setCells, h2]
        · have e : Nat.ble (Nat.add off size) cs.length = false := by
            cases hb : Nat.ble (Nat.add off size) cs.length with
            | false => rfl
            | true => exact absurd (Nat.le_of_ble_eq_true hb) h3
          simp [h1, h2, h3, e]
      · simp [h1, h2]
    · simp [h1]

theorem elemsF_eq (h : CHeap) (k : Nat) (x : CVal) : elemsF h k x = elems h k x := by
  cases x <;> first
    | rfl
    | (rename_i t l es
       show bF (Nat.beq k l) (Option (List CVal)) (some es) none = if k = l then some es else none
       rw [bF_eq, nbeq]; by_cases hk : k = l <;> simp [hk])

theorem appendF_eq (cf : Nat → List CVal → CHeap → Option (CVal × CHeap)) (ev : COpnd → CVal) (m : SMode) (T k : Nat) (x y : COpnd) (h : CHeap) (id : Nat) : appendF m T k (ev x) (ev y) h id = evalE cf ev h id (.append m T k x y) := by
  unfold appendF
  rw [elemsF_eq]
  simp only [evalE]
  cases elems h k (ev y) with
  | none => rfl
  | some ys => show evalAppend h id m T k (ev x) _ = _; rw [map_bare]

section
variable (cf : Nat → List CVal → CHeap → Option (CVal × CHeap)) (tm : List CVal) (id : Nat) (vals : List CVal) (h : CHeap) (ds : List (Nat × List CVal)) (hs : List CHeap) (k : List CVal → CHeap → List (Nat × List CVal) → List CHeap → Option RS)

theorem pK_eq (e : Option CVal) : pK e vals h ds hs k = (match e with
    | some v => if v.isUndef then none else some (⟨v :: vals, h, ds, hs⟩ : RS)
    | none => none).bind (fun s => k s.vals s.h s.defs s.hs) := by
  cases e with
  | none => rfl
  | some v =>
    show bF (isUndefF v) (Option RS) none (k (v :: vals) h ds hs) = _
    rw [bF_eq, isUndefF_eq]
    cases hu : v.isUndef <;> simp [hu]
theorem eK_eq (st : Bool) (e : Option (CVal × CHeap)) : eK st e vals h ds hs k = (match e with
    | some (v, h') => if v.isUndef && !st then none else some (⟨v :: vals, h', ds, h :: hs⟩ : RS)
    | none => none).bind (fun s => k s.vals s.h s.defs s.hs) := by
  cases e with
  | none => rfl
  | some p =>
    obtain ⟨v, h'⟩ := p
    show bF (andF (isUndefF v) (notF st)) (Option RS) none (k (v :: vals) h' ds (h :: hs)) = _
    rw [bF_eq, andF_eq, notF_eq, isUndefF_eq]
    cases hu : v.isUndef <;> cases st <;> simp [hu]

def operK (op : COp) : Option RS := (evalOper cf tm id ⟨op, none⟩ ⟨vals, h, ds, hs⟩).bind (fun s => k s.vals s.h s.defs s.hs)

theorem oper_p {op : COp} (hc : op.cls = .p) : operK cf tm id vals h ds hs k op = pK (evalP (evalOpnd tm vals) id op) vals h ds hs k := by
  rw [pK_eq]; unfold operK evalOper; simp only [wantedC, if_true, hc]
  cases evalP (evalOpnd tm vals) id op <;> rfl
theorem oper_l {op : COp} (hc : op.cls = .l) : operK cf tm id vals h ds hs k op = pK (evalL (evalOpnd tm vals) h op) vals h ds hs k := by
  rw [pK_eq]; unfold operK evalOper; simp only [wantedC, if_true, hc]
  cases evalL (evalOpnd tm vals) h op <;> rfl
theorem oper_e {op : COp} (hc : op.cls = .e) : operK cf tm id vals h ds hs k op = eK op.isStore (evalE cf (evalOpnd tm vals) h id op) vals h ds hs k := by
  rw [eK_eq]; unfold operK evalOper; simp only [wantedC, if_true, hc]
  cases evalE cf (evalOpnd tm vals) h id op <;> rfl

theorem pK_none : pK none vals h ds hs k = none := rfl

theorem slowP_eq (op : COp) : slowP op tm id vals h ds hs k = pK (evalP (evalOpnd tm vals) id op) vals h ds hs k := by unfold slowP; rw [opndF_fun]
theorem slowE_eq (op : COp) : slowE cf op tm id vals h ds hs k = eK op.isStore (evalE cf (evalOpnd tm vals) h id op) vals h ds hs k := by unfold slowE; rw [opndF_fun]

theorem callArgs_eq (keep : Bool) (args : List COpnd) : callArgs keep args tm vals = if keep then args.map (evalOpnd tm vals) else args.map fun x => (evalOpnd tm vals x).bare := by
  unfold callArgs
  rw [bF_eq, mapO_eq, mapO_eq, opndF_fun]
  cases keep
  · show args.map _ = args.map _
    congr 1
    funext o
    rw [opndF_eq, bareF_eq]
  · rfl

theorem opF_eq (op : COp) : opF op cf tm id vals h ds hs k = operK cf tm id vals h ds hs k op := by
  cases op
  case mv x => rw [oper_p cf tm id vals h ds hs k rfl]; show pK (some (opndF x tm vals)) vals h ds hs k = _; rw [opndF_eq]; rfl
  case pick c a b =>
    rw [oper_p cf tm id vals h ds hs k rfl]
    show selBool (opndF c tm vals) (Option RS) (fun t => pK (some (bF t CVal (opndF a tm vals) (opndF b tm vals))) vals h ds hs k) none = _
    rw [opndF_eq, opndF_eq, opndF_eq]
    simp only [evalP]
    cases evalOpnd tm vals c <;> first
      | rfl
      | (rename_i t; cases t <;> rfl)
  case alloc T z =>
    rw [oper_e cf tm id vals h ds hs k rfl]
    show eK false (bF (Nat.blt (lenC z) 1048576) (Option (CVal × CHeap)) (some (.ptr id (descOf T (lenC z)) 0, hputF h id (.cells z))) none) vals h ds hs k = _
    rw [bF_eq, lenC_eq]
    simp only [evalE, COp.isStore]
    by_cases hb : z.length < blockMost
    · have e : Nat.blt z.length 1048576 = true := Nat.ble_eq_true_of_le hb
      rw [if_pos e, if_pos hb]; rfl
    · have e : ¬ Nat.blt z.length 1048576 = true := fun e => hb (Nat.le_of_ble_eq_true e)
      rw [if_neg e, if_neg hb]
  case lazy d => rw [oper_p cf tm id vals h ds hs k rfl]; rfl
  case box T x => rw [oper_e cf tm id vals h ds hs k rfl]; exact slowE_eq cf tm id vals h ds hs k _
  case build z ps =>
    rw [oper_p cf tm id vals h ds hs k rfl]
    show pK (olCV (fillF ps (fun o => opndF o tm vals) z)) vals h ds hs k = _
    rw [opndF_fun, fillF_eq]
    simp only [evalP]
    cases fillCells z (ps.map fun p => (p.1, p.2.1, evalOpnd tm vals p.2.2)) <;> rfl
  case lit m a z n ps =>
    cases m
    · rw [oper_p cf tm id vals h ds hs k rfl]; exact slowP_eq tm id vals h ds hs k _
    · rw [oper_e cf tm id vals h ds hs k rfl]; exact slowE_eq cf tm id vals h ds hs k _
  case load kk a =>
    rw [oper_l cf tm id vals h ds hs k rfl, ← loadF_eq]
    show pK (loadF kk (opndF a tm vals) h) vals h ds hs k = _
    rw [opndF_eq]
  case store kk a x =>
    rw [oper_e cf tm id vals h ds hs k rfl, ← storeF_eq]
    show eK true (storeF kk (opndF a tm vals) (opndF x tm vals) h) vals h ds hs k = _
    rw [opndF_eq, opndF_eq]; rfl
  case init kk a x =>
    rw [oper_e cf tm id vals h ds hs k rfl, ← initF_eq]
    show eK true (initF kk (opndF a tm vals) (opndF x tm vals) h) vals h ds hs k = _
    rw [opndF_eq, opndF_eq]; rfl
  case nilck x =>
    rw [oper_p cf tm id vals h ds hs k rfl]
    show bF (isPtrF (opndF x tm vals)) (Option RS) (pK (some (opndF x tm vals)) vals h ds hs k) none = _
    rw [opndF_eq]
    simp only [evalP]
    cases evalOpnd tm vals x <;> rfl
  case bin b x y =>
    rw [oper_p cf tm id vals h ds hs k rfl]
    show pK (binF b (opndF x tm vals) (opndF y tm vals)) vals h ds hs k = _
    rw [opndF_eq, opndF_eq, binF_eq]; rfl
  case eqv e n x y =>
    rw [oper_p cf tm id vals h ds hs k rfl]
    show @Option.rec.{1, 0} Bool (fun _ => Option RS) none (fun c => pK (some (.bool (bF n Bool (notF c) c))) vals h ds hs k) (eqvF e (opndF x tm vals) (opndF y tm vals)) = _
    rw [opndF_eq, opndF_eq, eqvF_eq]
    simp only [evalP]
    cases eqVal e (evalOpnd tm vals x) (evalOpnd tm vals y) with
    | none => rfl
    | some c => cases n <;> cases c <;> rfl
  case not x =>
    rw [oper_p cf tm id vals h ds hs k rfl]
    show selBool (opndF x tm vals) (Option RS) (fun b => pK (some (.bool (notF b))) vals h ds hs k) none = _
    rw [opndF_eq]
    simp only [evalP]
    cases evalOpnd tm vals x <;> first
      | rfl
      | (rename_i t; cases t <;> rfl)
  case neg x => rw [oper_p cf tm id vals h ds hs k rfl]; exact slowP_eq tm id vals h ds hs k _
  case cpl x => rw [oper_p cf tm id vals h ds hs k rfl]; exact slowP_eq tm id vals h ds hs k _
  case conv kd x =>
    rw [oper_p cf tm id vals h ds hs k rfl]
    show selInt (opndF x tm vals) (Option RS) (fun _ n => pK (some (.int kd (wrapF kd n))) vals h ds hs k) none = _
    rw [opndF_eq]
    simp only [evalP]
    cases evalOpnd tm vals x <;> first
      | rfl
      | (rename_i l n; show pK (some (.int kd (wrapF kd n))) vals h ds hs k = _; rw [wrapF_eq])
  case same x => rw [oper_p cf tm id vals h ds hs k rfl]; exact slowP_eq tm id vals h ds hs k _
  case s2b m x =>
    cases m
    · rw [oper_p cf tm id vals h ds hs k rfl]; exact slowP_eq tm id vals h ds hs k _
    · rw [oper_e cf tm id vals h ds hs k rfl]; exact slowE_eq cf tm id vals h ds hs k _
  case b2s x =>
    rw [oper_l cf tm id vals h ds hs k rfl]
    show pK (evalL (fun o => opndF o tm vals) h (.b2s x)) vals h ds hs k = _
    rw [opndF_fun]
  case ifc t x =>
    rw [oper_p cf tm id vals h ds hs k rfl]
    show pK (some (.ifc t (opndF x tm vals))) vals h ds hs k = _
    rw [opndF_eq]; rfl
  case mkfn f a b =>
    rw [oper_p cf tm id vals h ds hs k rfl]
    show pK (some (.fn f (mapO (fun o => opndF o tm vals) a) (mapO (fun o => opndF o tm vals) b))) vals h ds hs k = _
    rw [mapO_eq, mapO_eq, opndF_fun]; rfl
  case fieldAddr o x =>
    rw [oper_p cf tm id vals h ds hs k rfl, ← faF_eq]
    show pK (faF o (opndF x tm vals)) vals h ds hs k = _
    rw [opndF_eq]
  case fieldOf o kk x =>
    rw [oper_p cf tm id vals h ds hs k rfl]
    show pK (selAgg (opndF x tm vals) (Option CVal) (fun cs => partF cs o kk) none) vals h ds hs k = _
    rw [opndF_eq]
    simp only [evalP]
    congr 1
    cases evalOpnd tm vals x <;> first
      | rfl
      | exact partF_eq _ _ _
  case idxAddr kk x i =>
    rw [oper_p cf tm id vals h ds hs k rfl, ← idxAddrF_eq]
    show pK (idxAddrF kk (opndF x tm vals) (opndF i tm vals)) vals h ds hs k = _
    rw [opndF_eq, opndF_eq]
  case arrAddr n kk x i => rw [oper_p cf tm id vals h ds hs k rfl]; exact slowP_eq tm id vals h ds hs k _
  case idxStr x i =>
    rw [oper_p cf tm id vals h ds hs k rfl, ← idxStrF_eq]
    show pK (idxStrF (opndF x tm vals) (opndF i tm vals)) vals h ds hs k = _
    rw [opndF_eq, opndF_eq]
  case slc kk x lo hi =>
    rw [oper_p cf tm id vals h ds hs k rfl]
    show pK (slcF kk (opndF x tm vals) (lo.map fun o => opndF o tm vals) (hi.map fun o => opndF o tm vals)) vals h ds hs k = _
    rw [opndF_eq, opndF_fun, slcF_eq]; rfl
  case len s x =>
    rw [oper_p cf tm id vals h ds hs k rfl, ← lenF_eq]
    show pK (lenF s (opndF x tm vals)) vals h ds hs k = _
    rw [opndF_eq]
  case append m T kk x y =>
    rw [oper_e cf tm id vals h ds hs k rfl, ← appendF_eq]
    show eK false (appendF m T kk (opndF x tm vals) (opndF y tm vals) h id) vals h ds hs k = _
    rw [opndF_eq, opndF_eq]; rfl
  case copy kk x y => rw [oper_e cf tm id vals h ds hs k rfl]; exact slowE_eq cf tm id vals h ds hs k _
  case mkslice m a z l c => rw [oper_e cf tm id vals h ds hs k rfl]; exact slowE_eq cf tm id vals h ds hs k _
  case extract i x =>
    rw [oper_p cf tm id vals h ds hs k rfl, ← extrF_eq]
    show pK (extrF i (opndF x tm vals)) vals h ds hs k = _
    rw [opndF_eq]
  case call keep f args =>
    rw [oper_e cf tm id vals h ds hs k rfl]
    show eK false (cf f (callArgs keep args tm vals) h) vals h ds hs k = _
    rw [callArgs_eq]; rfl
  case callv keep x args =>
    rw [oper_e cf tm id vals h ds hs k rfl]
    show eK false (selFn (opndF x tm vals) (Option (CVal × CHeap)) (fun fn first cap => @Fn.rec.{1} (fun _ => Option (CVal × CHeap)) (fun f => cf f (appC first (appC (callArgs keep args tm vals) cap)) h) (fun _ => none) (fun _ _ => none) (fun _ _ _ _ => none) (fun _ => none) fn) none) vals h ds hs k = _
    rw [opndF_eq]
    simp only [evalE, COp.isStore]
    congr 1
    cases evalOpnd tm vals x <;> first
      | rfl
      | (rename_i fn first cap
         cases fn <;> first
           | rfl
           | (show cf _ (appC first (appC (callArgs keep args tm vals) cap)) h = _
              rw [appC_eq, appC_eq, callArgs_eq]))
  case defer x args =>
    show selFn (opndF x tm vals) (Option RS) (fun fn first cap => @Fn.rec.{1} (fun _ => Option RS) (fun f => k (.undef :: vals) h ((f, appC first (appC (mapO (fun o => opndF o tm vals) args) cap)) :: ds) (h :: hs)) (fun _ => none) (fun _ _ => none) (fun _ _ _ _ => none) (fun _ => none) fn) none = _
    rw [opndF_eq, opndF_fun]
    unfold operK evalOper
    simp only [wantedC, if_true, COp.cls]
    cases evalOpnd tm vals x <;> first
      | rfl
      | (rename_i fn first cap
         cases fn <;> first
           | rfl
           | (show k _ _ ((_, appC first (appC (mapO (evalOpnd tm vals) args) cap)) :: ds) _ = _
              rw [appC_eq, appC_eq, mapO_eq]; rfl))
  case minmax m x y => rw [oper_p cf tm id vals h ds hs k rfl]; exact slowP_eq tm id vals h ds hs k _
  case ext x l => rw [oper_e cf tm id vals h ds hs k rfl]; exact slowE_eq cf tm id vals h ds hs k _
  case extl x l =>
    rw [oper_l cf tm id vals h ds hs k rfl]
    show pK (extL h x (mapO (fun o => opndF o tm vals) l)) vals h ds hs k = _
    rw [mapO_eq, opndF_fun]; rfl
  case stuck => rw [oper_p cf tm id vals h ds hs k rfl]; rfl
end

theorem operF_eq (cf : Nat → List CVal → CHeap → Option (CVal × CHeap)) (tm : List CVal) (id : Nat) (vals : List CVal) (h : CHeap) (ds : List (Nat × List CVal)) (hs : List CHeap) (k : List CVal → CHeap → List (Nat × List CVal) → List CHeap → Option RS) (o : COper) :
    operF o cf tm id vals h ds hs k = (evalOper cf tm id o ⟨vals, h, ds, hs⟩).bind (fun s => k s.vals s.h s.defs s.hs) := by
  obtain ⟨op, g⟩ := o
  cases g with
  | none => exact opF_eq cf tm id vals h ds hs k op
  | some p =>
    obtain ⟨d, b⟩ := p
    show bF (selBool (nthF vals d) Bool (fun c => bF c Bool b (notF b)) false) (Option RS) (opF op cf tm id vals h ds hs k) (k (.undef :: vals) h ds (bF (clsED op) (List CHeap) (h :: hs) hs)) = _
    have e : selBool (nthF vals d) Bool (fun c => bF c Bool b (notF b)) false = wantedC vals (some (d, b)) := by
      rw [nthF_eq]
      simp only [wantedC]
      cases nth vals d <;> first
        | rfl
        | (rename_i c; cases c <;> cases b <;> rfl)
    rw [bF_eq, e, opF_eq]
    unfold operK evalOper
    by_cases hw : wantedC vals (some (d, b)) = true
    · have h1 : wantedC vals none = true := rfl
      simp only [hw, h1, if_true]
    · have hw : wantedC vals (some (d, b)) = false := by simpa using hw
      simp only [hw, Bool.false_eq_true, if_false]
      rw [bF_eq]
      unfold clsED
      cases op.cls <;> rfl

theorem opsF_eq (cf : Nat → List CVal → CHeap → Option (CVal × CHeap)) (tm : List CVal) : ∀ (l : List COper) (id : Nat) (s : RS), opsF l cf tm id s.vals s.h s.defs s.hs = evalOps cf tm id l s
  | [], _, _ => rfl
  | o :: r, id, s => by
    show operF o cf tm id s.vals s.h s.defs s.hs (fun vals h ds hs => opsF r cf tm (Nat.succ id) vals h ds hs) = _
    rw [operF_eq]
    simp only [evalOps]
    show (evalOper cf tm id o s).bind _ = _
    cases evalOper cf tm id o s with
    | none => rfl
    | some s' => exact opsF_eq cf tm r (id + 1) s'

theorem setNF_eq : ∀ (l : List CVal) (i : Nat) (x : CVal), setNF l i x = setNth l i x
  | [], _, _ => rfl
  | _ :: _, 0, _ => rfl
  | v :: r, i + 1, x => congrArg (v :: ·) (setNF_eq r i x)
theorem wbF_eq (n : Nat) (vals : List CVal) : ∀ (wb : List (Nat × Nat)) (tm : List CVal), wbF wb n vals tm = writeBack n vals tm wb
  | [], _ => rfl
  | (j, i) :: r, tm => by
    show wbF r n vals (setNF tm j (nthF vals (Nat.sub (Nat.sub n 1) i))) = _
    rw [wbF_eq n vals r, setNF_eq, nthF_eq]; rfl
theorem nilF_eq {α : Type} (l : List α) (p : α → Bool) : bF (nilF l) Bool true (l.all p) = l.all p := by cases l <;> rfl

theorem paramsF_eq : ∀ (ps : List (Option Nat)) (args : List CVal), paramsF ps args = ps.map (initVar args)
  | [], _ => rfl
  | p :: r, args => by
    show @Option.rec.{1, 0} Nat (fun _ => List CVal → CVal) (fun _ => .undef) (fun i args => nthF args i) p args :: paramsF r args = _
    rw [paramsF_eq r args, List.map_cons]
    congr 1
    cases p with
    | none => rfl
    | some i => exact nthF_eq args i
theorem olL_eq {β : Type} (o : Option (List CVal)) (f : List CVal → β) (d : β) : olL o β f d = match o with | some v => f v | none => d := by cases o <;> rfl
theorem resF_eq (h : CHeap) (tm : List CVal) : ∀ rs : List CRes, resF rs h tm = resultsC h tm rs
  | [] => rfl
  | .var j :: r => by
    show olL (resF r h tm) (Option (List CVal)) (fun vs => some (nthF tm j :: vs)) none = _
    rw [olL_eq, resF_eq h tm r, nthF_eq]; simp only [resultsC]
    cases resultsC h tm r <;> rfl
  | .cell j k :: r => by
    show selPtr (nthF tm j) (Option (List CVal)) (fun b _ o => selCells (hgetF h b) (Option (List CVal)) (fun cs => obCV (partF cs o k) (Option (List CVal)) (fun v => olL (resF r h tm) (Option (List CVal)) (fun vs => some (v :: vs)) none) none) none) none = _
    rw [nthF_eq, resF_eq h tm r]
    simp only [resultsC]
    cases nth tm j <;> first
      | rfl
      | (rename_i b sz o
         show selCells (hgetF h b) (Option (List CVal)) (fun cs => obCV (partF cs o k) (Option (List CVal)) (fun v => olL (resultsC h tm r) (Option (List CVal)) (fun vs => some (v :: vs)) none) none) none = _
         rw [selCells_eq, hgetF_eq]
         dsimp only
         cases h.get b with
         | none => rfl
         | some c =>
           cases c
           case cells cs =>
             show obCV (partF cs o k) (Option (List CVal)) (fun v => olL (resultsC h tm r) (Option (List CVal)) (fun vs => some (v :: vs)) none) none = _
             rw [obCV_eq, partF_eq]
             dsimp only
             cases partOf cs o k with
             | none => rfl
             | some v => cases resultsC h tm r <;> rfl
           all_goals rfl)
theorem oneF_eq (vs : List CVal) : oneF vs = oneOrTuple vs := by
  match vs with
  | [] => rfl
  | [_] => rfl
  | _ :: _ :: _ => rfl
theorem dropEF_eq (n : Nat) : ∀ l : List (Nat × CObj), dropEF l n = dropEnts l n
  | [] => rfl
  | (i, o) :: r => by
    show bF (Nat.ble n i) (List (Nat × CObj)) (dropEF r n) ((i, o) :: r) = _
    rw [bF_eq, dropEF_eq n r]
    simp only [dropEnts]
    by_cases h : n ≤ i
    · rw [if_pos (Nat.ble_eq_true_of_le h), if_pos h]
    · rw [if_neg (fun e => h (Nat.le_of_ble_eq_true e)), if_neg h]
theorem dropCF_eq (n : Nat) : ∀ l : List (Nat × CObj), dropCF l n = dropCells l n
  | [] => rfl
  | (i, o) :: r => by
    show bF (Nat.ble n i) (List (Nat × CObj)) (selCells (some o) (List (Nat × CObj)) (fun _ => dropCF r n) ((i, o) :: dropCF r n)) ((i, o) :: r) = _
    rw [bF_eq, dropCF_eq n r]
    simp only [dropCells]
    by_cases h : n ≤ i
    · rw [if_pos (Nat.ble_eq_true_of_le h), if_pos h]
      cases o <;> rfl
    · rw [if_neg (fun e => h (Nat.le_of_ble_eq_true e)), if_neg h]
theorem finF_eq (fn : CFunc) (n : Nat) (v : CVal) (h : CHeap) : finF fn.keep fn.frz n v h = finishC fn n v h := by
  unfold finF finishC
  rw [bF_eq, bF_eq]
  cases fn.keep
  · cases fn.frz
    · show some (bareF v, (⟨dropEF h.ents n, h.next, h.tys⟩ : CHeap)) = _
      rw [bareF_eq, dropEF_eq]; rfl
    · rfl
  · cases fn.frz
    · rfl
    · show some (v, (⟨dropCF h.ents n, h.next, h.tys⟩ : CHeap)) = _
      rw [dropCF_eq]; rfl

section
variable (T : Nat → Option CFn) (ex : CCode → CSt → Option (CExit × CSt))

theorem bodyF_eq (fn : CFunc) (args : List CVal) (h : CHeap) : bodyF ex (runDefs T ex) fn args h = callBody ex (runDefs T ex) fn args h := by
  obtain ⟨nargs, nvars, params, results, body, keep, frz⟩ := fn
  have key : ∀ (e : CExit) (st : CSt), e ≠ .exit 0 ∨ True → True := fun _ _ _ => trivial
  unfold callBody
  show bF (Nat.beq (lenC args) nargs) (Option (CVal × CHeap)) (@Option.rec.{1, 0} (CExit × CSt) (fun _ => Option (CVal × CHeap)) none _ (ex body ⟨paramsF params args, h, []⟩)) none = _
  rw [bF_eq, lenC_eq, nbeq, paramsF_eq]
  by_cases hn : args.length = nargs
  · have e : (args.length == nargs) = true := by simpa using hn
    rw [if_pos e]
    simp only [hn, if_true]
    cases ex body ⟨params.map (initVar args), h, []⟩ with
    | none => rfl
    | some p =>
      obtain ⟨e, st⟩ := p
      have fin : (@Option.rec.{1, 0} CHeap (fun _ => Option (CVal × CHeap)) none (fun h1 => olL (resF results h1 st.tm) (Option (CVal × CHeap)) (fun vs => finF keep frz h.next (oneF vs) h1) none)
              (@List.rec.{1, 0} (Nat × List CVal) (fun _ => Option CHeap) (some st.h) (fun _ _ _ => runDefs T ex st.defs st.h) st.defs)) =
          (match runDefs T ex st.defs st.h with
            | some h1 => match resultsC h1 st.tm results with
              | some vs => finishC ⟨nargs, nvars, params, results, body, keep, frz⟩ h.next (oneOrTuple vs) h1
              | none => none
            | none => none) := by
        have e1 : (@List.rec.{1, 0} (Nat × List CVal) (fun _ => Option CHeap) (some st.h) (fun _ _ _ => runDefs T ex st.defs st.h) st.defs) = runDefs T ex st.defs st.h := by
          generalize hds : st.defs = ds
          cases ds <;> rfl
        rw [e1]
        cases runDefs T ex st.defs st.h with
        | none => rfl
        | some h1 =>
          show olL (resF results h1 st.tm) (Option (CVal × CHeap)) (fun vs => finF keep frz h.next (oneF vs) h1) none = _
          rw [olL_eq, resF_eq]
          dsimp only
          cases resultsC h1 st.tm results with
          | none => rfl
          | some vs =>
            show finF keep frz h.next (oneF vs) h1 = _
            rw [oneF_eq]
            exact finF_eq ⟨nargs, nvars, params, results, body, keep, frz⟩ h.next (oneOrTuple vs) h1
      cases e with
      | exit i => rfl
      | normal => exact fin
      | ret => exact fin
  · have e : ¬ (args.length == nargs) = true := by simpa using hn
    rw [if_neg e]
    simp only [hn, if_false]
theorem callFF_eq (f : Nat) (args : List CVal) (h : CHeap) : callFF T ex f args h = callFn T ex f args h := by
  unfold callFF callFn
  cases T f with
  | none => rfl
  | some c =>
    cases c with
    | ir fn => exact bodyF_eq T ex fn args h
    | prim p => rfl
end

theorem regF_eq (T : Nat → Option CFn) (ex : CCode → CSt → Option (CExit × CSt)) (ops : List COper) (wb : List (Nat × Nat)) (chk : List (Nat × Nat × Nat)) (sw : List (Nat × Nat)) (st : CSt) :
    regF ops wb chk sw T ex st = execStep T ex (.region ops wb chk sw) st := by
  obtain ⟨tm, ⟨e, nx, t⟩, ds⟩ := st
  show @Option.rec.{1, 0} RS (fun _ => Option (CExit × CSt)) none _ (opsF ops (callFF T ex) tm nx [] ⟨e, Nat.add nx ops.length, t⟩ ds []) = _
  have hcf : callFF T ex = callFn T ex := funext fun f => funext fun a => funext fun h => callFF_eq T ex f a h
  have h1 := opsF_eq (callFn T ex) tm ops nx ⟨[], ⟨e, nx + ops.length, t⟩, ds, []⟩
  rw [hcf]
  have h1' : opsF ops (callFn T ex) tm nx [] ⟨e, Nat.add nx ops.length, t⟩ ds [] = _ := h1
  rw [h1']
  simp only [execStep]
  cases evalOps (callFn T ex) tm nx ops ⟨[], ⟨e, nx + ops.length, t⟩, ds, []⟩ with
  | none => rfl
  | some s =>
    obtain ⟨vals, h', ds', hs⟩ := s
    show bF (andF (bF (nilF chk) Bool true (chk.all (checkOne tm ops ops.length vals (h' :: hs).reverse))) (bF (nilF sw) Bool true (sw.all (swapOne tm ops ops.length vals)))) (Option (CExit × CSt))
        (some (.normal, ⟨wbF wb ops.length vals tm, h', ds'⟩)) none = _
    rw [nilF_eq, nilF_eq, bF_eq, andF_eq, wbF_eq]

theorem exSel_eq {β : Type} (e : CExit) (a : β) (b : Nat → β) (c : β) : exSel e β a b c = match e with | .normal => a | .exit i => b i | .ret => c := by cases e <;> rfl

theorem stepF_eq (T : Nat → Option CFn) (ex : CCode → CSt → Option (CExit × CSt)) (c : CCode) (st : CSt) : stepF c T ex st = execStep T ex c st := by
  cases c
  case skip => rfl
  case region ops wb chk sw => exact regF_eq T ex ops wb chk sw st
  case seq a b =>
    show orX (ex a st) (fun e st' => exSel e (Option (CExit × CSt)) (ex b st') (fun i => some (.exit i, st')) (some (.ret, st'))) = _
    simp only [execStep]
    cases ex a st with
    | none => rfl
    | some p => obtain ⟨e, st'⟩ := p; cases e <;> rfl
  case cond c a b =>
    show selBool (opndF c st.tm []) (Option (CExit × CSt)) (fun t => bF t (Option (CExit × CSt)) (ex a st) (ex b st)) none = _
    rw [opndF_eq]
    simp only [execStep]
    cases evalOpnd st.tm [] c <;> first
      | rfl
      | (rename_i t; cases t <;> rfl)
  case block id c =>
    show orX (ex c st) (fun e st' => exSel e (Option (CExit × CSt)) (some (.normal, st')) (fun i => bF (Nat.beq i id) (Option (CExit × CSt)) (some (.normal, st')) (some (.exit i, st'))) (some (.ret, st'))) = _
    simp only [execStep]
    cases ex c st with
    | none => rfl
    | some p =>
      obtain ⟨e, st'⟩ := p
      cases e with
      | normal => rfl
      | ret => rfl
      | exit i =>
        show bF (Nat.beq i id) (Option (CExit × CSt)) (some (.normal, st')) (some (.exit i, st')) = _
        rw [bF_eq, nbeq]
        by_cases h : i = id <;> simp [h]
  case loop drop c =>
    show orX (ex c st) (fun e st' => exSel e (Option (CExit × CSt)) (ex (.loop drop c) (bF drop CSt (@CSt.rec.{1} (fun _ => CSt) (fun tm h ds => @CHeap.rec.{1} (fun _ => CSt) (fun e nx t => ⟨tm, ⟨dropCF e st.h.next, nx, t⟩, ds⟩) h) st') st')) (fun i => some (.exit i, st')) (some (.ret, st'))) = _
    simp only [execStep]
    cases ex c st with
    | none => rfl
    | some p =>
      obtain ⟨e, st'⟩ := p
      cases e with
      | normal =>
        obtain ⟨tm, ⟨en, nx, t⟩, ds⟩ := st'
        show ex (.loop drop c) (bF drop CSt (⟨tm, ⟨dropCF en st.h.next, nx, t⟩, ds⟩ : CSt) ⟨tm, ⟨en, nx, t⟩, ds⟩) = _
        rw [bF_eq, dropCF_eq]
      | ret => rfl
      | exit i => rfl
  all_goals rfl

theorem execF_eq (T : Nat → Option CFn) : ∀ n, execF T n = exec T n
  | 0 => rfl
  | n + 1 => by
    funext c st
    show stepF c T (execF T n) st = execStep T (exec T n) c st
    rw [stepF_eq, execF_eq T n]
theorem crunF_eq (T : Nat → Option CFn) (n f : Nat) (args : List CVal) (h : CHeap) : crunF T n f args h = crun T n f args h := by
  unfold crunF crun
  rw [execF_eq, callFF_eq]
theorem CTree.getF_eq (t : CTree) (f : Nat) : t.getF f = t.get f := by
  induction t with
  | leaf i fn => show bF (Nat.beq f i) (Option CFn) (some fn) none = _; rw [bF_eq]; simp only [CTree.get]; cases Nat.beq f i <;> rfl
  | node m a b iha ihb => show bF (Nat.blt f m) (Option CFn) (a.getF f) (b.getF f) = _; rw [bF_eq, iha, ihb]; simp only [CTree.get]; cases Nat.blt f m <;> rfl
theorem crun_of_fast {t : CTree} {n f : Nat} {args : List CVal} {p : Option (CVal × CHeap) → Bool} (h : p (crunF t.getF n f args noHeap) = true) : p (crun t.get n f args noHeap) = true := by
  have e : t.getF = t.get := funext fun f => t.getF_eq f
  rw [crunF_eq, e] at h
  exact h
end Go.CI

/- strings.Builder.copyCheck as a function of the interpreter's own: it is the model's. -/
set_option linter.unusedVariables false
set_option linter.unusedSimpArgs false
namespace Go.CI
open Go.Shelf Go.RowKit Go.Lib Go.Proofs

section
variable {P : Program} {ρ : Ren}

set_option maxHeartbeats 1000000 in
set_option maxRecDepth 100000 in
theorem cc_used (L : Lays.n240 P ρ) (hs : (P.info? (ρ.t 72)).map (·.size) = some 2) (b o : Nat) (w : World) (h0 : w.cell? ⟨b, o, none⟩ = some (.pointer (some ⟨b, o, none⟩))) :
    Calls P (ρ.f 240) #[.pointer (some ⟨b, o, none⟩)] w fun e w' => e = .returned (.tuple #[]) ∧ w' = w := by
  obtain ⟨j, hj, _⟩ := Option.map_eq_some_iff.1 hs
  have mixed := L.mixed
  have t72 := L.t72; have a72 := L.a72; have z72 := L.z72; have v72 := L.v72; have u72 := run_underlying L.t72
  have t70 := L.t70; have a70 := L.a70; have z70 := L.z70; have v70 := L.v70; have u70 := run_underlying L.t70
  have t9 := L.t9; have a9 := L.a9; have z9 := L.z9; have v9 := L.v9; have u9 := run_underlying L.t9
  have t4 := L.t4; have a4 := L.a4; have z4 := L.z4; have v4 := L.v4; have u4 := run_underlying L.t4
  have t164 := L.t164; have a164 := L.a164; have z164 := L.z164; have v164 := L.v164; have u164 := run_underlying L.t164
  go_enter L.f240, Body.n240_ntmps ρ
  go_wp2
  rw [Lib.run_neq_ptr_same w _ L.t70 hj]
  go_wp2
  go_end0
  exact ⟨rfl, rfl⟩

set_option maxHeartbeats 1000000 in
set_option maxRecDepth 100000 in
theorem cc_fresh (L : Lays.n240 P ρ) (hs : (P.info? (ρ.t 72)).map (·.size) = some 2) (b o : Nat) (w : World) {T cells : Nat} (h0 : w.cell? ⟨b, o, none⟩ = some (.pointer none)) (hsh : w.shape? b = some (T, cells)) (hoff : o < cells)
    (hl : liesAt P P.depth T (cells / P.cellsOf T) o (ρ.t 72) 1 = true) (hfz : w.frozen? ⟨b, o, none⟩ = false) :
    Calls P (ρ.f 240) #[.pointer (some ⟨b, o, none⟩)] w fun e w' => e = .returned (.tuple #[]) ∧ w' = w.setCell ⟨b, o, none⟩ (.pointer (some ⟨b, o, none⟩)) := by
  obtain ⟨j, hj, hjs⟩ := Option.map_eq_some_iff.1 hs
  have mixed := L.mixed
  have t72 := L.t72; have a72 := L.a72; have z72 := L.z72; have v72 := L.v72; have u72 := run_underlying L.t72
  have t70 := L.t70; have a70 := L.a70; have z70 := L.z70; have v70 := L.v70; have u70 := run_underlying L.t70
  have t9 := L.t9; have a9 := L.a9; have z9 := L.z9; have v9 := L.v9; have u9 := run_underlying L.t9
  have t4 := L.t4; have a4 := L.a4; have z4 := L.z4; have v4 := L.v4; have u4 := run_underlying L.t4
  have t164 := L.t164; have a164 := L.a164; have z164 := L.z164; have v164 := L.v164; have u164 := run_underlying L.t164
  go_enter L.f240, Body.n240_ntmps ρ
  go_wp2
  rw [Lib.run_to_unsafe w ⟨b, o, none⟩ L.t70 L.t164 hj (by rw [hjs]; decide) hsh hoff]
  simp only [Result.andThen]
  rw [Oper.upon_value]
  go_wp2
  rw [run_callFunc_extern L.f276 (by kernel_rfl) (by kernel_rfl) (by kernel_rfl) (e := Extern.AbiNoEscape.same) (by kernel_rfl)]
  rw [Lib.run_noEscape]
  simp only [Result.andThen]
  rw [Oper.upon_value]
  go_wp2
  rw [Lib.run_from_unsafe w ⟨b, o, none⟩ L.t164 L.t70 hj hsh hl]
  simp only [Result.andThen]
  rw [Oper.upon_value]
  go_wp2
  go_end0
  exact ⟨rfl, rfl⟩
end

section
variable {P : Program} {ρ : Ren}

theorem liesAt_off {e : TypeId} (hc : P.cellsOf e = 1) (count off n : Nat) (hn : off + n ≤ count) : liesAt P P.depth e count off e n = true := by
  have hd : P.depth = (2 * (P.types.size + Made.depth) + 1) + 1 := rfl
  rw [hd]
  simp only [liesAt, Bool.or_eq_true]
  left
  rw [hd]
  simp [rowAt, hc, hn, sameLayout, Nat.mod_one]

theorem run_unsafeString_at (w : World) (pt it ty e : TypeId) (hp : P.underlying pt = some (.pointer e)) (hc : P.cellsOf e = 1) (g ro cells : Nat) (hsh : w.shape? g = some (e, cells)) (l : List UInt8) (h0 : l ≠ []) (hn : ro + l.length ≤ cells) (h63 : l.length ≤ 9223372036854775807)
    (hcell : ∀ j x, l[j]? = some x → w.cell? ((⟨g, ro, none⟩ : Addr).add j) = some (.int .u8 x.toNat)) :
    (Builtin.unsafeString_ #[pt, it] ty #[.pointer (some ⟨g, ro, none⟩), .int .i64 l.length]).run P w = .ok (.string ⟨l.toArray⟩) (w.freeze ⟨g, ro, none⟩ l.length) := by
  have hl : l.length ≠ 0 := by simpa using h0
  have hlb := Lib.run_loadBytes (P := P) w l ⟨g, ro, none⟩ .empty hcell
  have hlies := liesAt_off (P := P) hc (cells / P.cellsOf e) ro l.length (by rw [hc]; simpa using hn)
  have h63' : ¬ (9223372036854775807 : Int) < (l.length : Int) := by omega
  have hdef : Builtin.unsafeString_ #[pt, it] ty #[.pointer (some ⟨g, ro, none⟩), .int .i64 l.length] =
      (do
        let n ← asInt (.int .i64 l.length)
        if n < 0 then runtimePanic (.error "unsafe.String: len out of range")
        if n > IntKind.i64.max then unsupported (.unsafePointer "String: a length above the largest int")
        if n = 0 then pure (.string .empty)
        else if ← variablesAt ⟨g, ro, none⟩ (← elemOf pt) n.toNat then do
          let s ← loadBytes ⟨g, ro, none⟩ .empty n.toNat
          freeze ⟨g, ro, none⟩ n.toNat
          pure (.string s)
        else unsupported (.unsafePointer "String: not so many bytes at ptr")) := rfl
  rw [hdef]
  have hmax : IntKind.i64.max = 9223372036854775807 := rfl
  have hneg : ¬ (l.length : Int) < 0 := by omega
  simp [asInt, asIntOf, hmax, h63', hneg, hl, variablesAt, hsh, elemOf, run_underlying hp, hlies, hlb]

set_option maxHeartbeats 2000000 in
set_option maxRecDepth 100000 in
theorem bs_row (L : Lays.n169 P ρ) (X : Builder.Extra P ρ) (b o g ro cap cells : Nat) (l : List UInt8) (w : World) (hbuf : w.cell? ⟨b, o + 1, none⟩ = some (.slice (some ⟨g, ro, none⟩) l.length cap)) (h0 : l ≠ []) (hcap : cap ≠ 0)
    (hsh : w.shape? g = some (ρ.t 5, cells)) (hn : ro + l.length ≤ cells) (h63 : l.length ≤ 9223372036854775807) (hcell : ∀ j x, l[j]? = some x → w.cell? ((⟨g, ro, none⟩ : Addr).add j) = some (.int .u8 x.toNat)) :
    Calls P (ρ.f 169) #[.pointer (some ⟨b, o, none⟩)] w fun e w' => e = .returned (.string ⟨l.toArray⟩) ∧ w' = w.drew.freeze ⟨g, ro, none⟩ l.length := by
  have c1 : w.drew.cell? ⟨b, o + 1, none⟩ = some (.slice (some ⟨g, ro, none⟩) l.length cap) := hbuf
  have hSD : (Builtin.unsafeSliceData_ #[(ρ.t 37)] (ρ.t 127) #[.slice (some ⟨g, ro, none⟩) l.length cap]).run P w.drew = .ok (.pointer (some ⟨g, ro, none⟩)) w.drew :=
    Lib.run_unsafeSliceData_row _ _ _ _ _ _ hcap
  have hUS : (Builtin.unsafeString_ #[(ρ.t 127), (ρ.t 3)] (ρ.t 9) #[.pointer (some ⟨g, ro, none⟩), .int .i64 l.length]).run P w.drew = .ok (.string ⟨l.toArray⟩) (w.drew.freeze ⟨g, ro, none⟩ l.length) :=
    run_unsafeString_at w.drew (ρ.t 127) (ρ.t 3) (ρ.t 9) (ρ.t 5) L.t127 X.cellsByte g ro cells hsh l h0 hn h63 hcell
  have mixed := L.mixed
  have t72 := L.t72; have a72 := L.a72; have z72 := L.z72; have v72 := L.v72; have u72 := run_underlying L.t72
  have t70 := L.t70; have a70 := L.a70; have z70 := L.z70; have v70 := L.v70; have u70 := run_underlying L.t70
  have t37 := L.t37; have a37 := L.a37; have z37 := L.z37; have v37 := L.v37; have u37 := run_underlying L.t37
  have t127 := L.t127; have a127 := L.a127; have z127 := L.z127; have v127 := L.v127; have u127 := run_underlying L.t127
  have t3 := L.t3; have a3 := L.a3; have z3 := L.z3; have v3 := L.v3; have u3 := run_underlying L.t3
  have t9 := L.t9; have a9 := L.a9; have z9 := L.z9; have v9 := L.v9; have u9 := run_underlying L.t9
  have t5 := X.t5; have a5 := X.a5; have z5 := X.z5; have v5 := X.v5; have u5 := run_underlying X.t5
  go_enter L.f169, Body.n169_ntmps ρ
  go_wp2
  go_region_o
  all_goals (go_wp2; go_ret; exact ⟨rfl, rfl⟩)

set_option maxHeartbeats 2000000 in
set_option maxRecDepth 100000 in
theorem bs_nil (L : Lays.n169 P ρ) (X : Builder.Extra P ρ) (b o : Nat) (w : World) (hbuf : w.cell? ⟨b, o + 1, none⟩ = some (.slice none 0 0)) :
    Calls P (ρ.f 169) #[.pointer (some ⟨b, o, none⟩)] w fun e w' => e = .returned (.string ⟨#[]⟩) ∧ w' = w.drew := by
  have hUS := Any.unsafeString_none L X
  have c1 : w.drew.cell? ⟨b, o + 1, none⟩ = some (.slice none 0 0) := hbuf
  have hSD : (Builtin.unsafeSliceData_ #[(ρ.t 37)] (ρ.t 127) #[.slice none 0 0]).run P w.drew = .ok (.pointer none) w.drew := rfl
  have mixed := L.mixed
  have t72 := L.t72; have a72 := L.a72; have z72 := L.z72; have v72 := L.v72; have u72 := run_underlying L.t72
  have t70 := L.t70; have a70 := L.a70; have z70 := L.z70; have v70 := L.v70; have u70 := run_underlying L.t70
  have t37 := L.t37; have a37 := L.a37; have z37 := L.z37; have v37 := L.v37; have u37 := run_underlying L.t37
  have t127 := L.t127; have a127 := L.a127; have z127 := L.z127; have v127 := L.v127; have u127 := run_underlying L.t127
  have t3 := L.t3; have a3 := L.a3; have z3 := L.z3; have v3 := L.v3; have u3 := run_underlying L.t3
  have t9 := L.t9; have a9 := L.a9; have z9 := L.z9; have v9 := L.v9; have u9 := run_underlying L.t9
  have t5 := X.t5; have a5 := X.a5; have z5 := X.z5; have v5 := X.v5; have u5 := run_underlying X.t5
  go_enter L.f169, Body.n169_ntmps ρ
  go_wp2
  go_region_o
  all_goals (go_wp2; go_ret; exact ⟨rfl, rfl⟩)
end

section
variable {P : Program} {base : Base} {G : Gh} {h : CHeap} {w : World} {ρ : Ren}

/-- A variable's cell is written. -/
theorem post_cell (I : Inv base G h w) {b ab d o : Nat} {cs : List CVal} {c : CVal} {u : Value} (hm : G.mu b = some (ab, d)) (hb : h.get b = some (.cells cs)) (ho : o < cs.length) (hc : VR G c u) (hf : c.flat = true) :
    Post base (· = h.next) G h w G (h.set b (.cells (setCells cs o [c]))) (w.setCells ab o [u]) := by
  obtain ⟨own, I⟩ := I
  obtain ⟨hbn, hab, hown, hbk⟩ := I.mus b ab d hm
  obtain ⟨hl, hcel⟩ := (I.ents b _ hb).2 ab d hm
  have hlive : ∀ j, j < 1 → own ab (o + j) = some (.m b) ∧ Live w ab (o + j) := fun j hj => hown (o + j) (by omega)
  have hvs : VRs G [c] [u] := VRs.cons hc (VRs.nil G)
  refine post_write I (b := b) (x := .m b) (.inl rfl) hab (fun j hj => hlive j (by simpa using hj)) hb (fun b' hne => get_set_other hne) (fun q hq => ?_) rfl rfl (nodup_set h b _ I.nod)
  rw [get_set_self hb] at hq
  cases hq
  intro ab' k hm'
  rw [hm] at hm'
  cases hm'
  have hxl : o + [c].length ≤ cs.length := by simp; omega
  refine ⟨by rw [length_setCells _ _ _ hxl, hl], fun i c' hi => ?_⟩
  rw [getElem?_setCells _ _ _ hxl] at hi
  split at hi
  · rename_i hin
    exact ⟨by have := List.mem_of_getElem? hi; simp at this; rw [this]; exact hf, holds_in (fun j hj => (hlive j (by simpa using hj)).2) hvs hin hi⟩
  · rename_i hout
    obtain ⟨h1, v, hv, hr⟩ := hcel i c' hi
    exact ⟨h1, v, by rw [setCells_out (fun _ => by simp at hout ⊢; omega)]; exact hv, hr⟩

/-- Where a Builder lies in a block. -/
def ccOks (P : Program) (B : TypeId) (oks : List (Nat × Nat)) : Bool :=
  oks.all fun p => decide (p.1 ≠ 0) && (decide (p.2 < szOf p.1) && liesAt P P.depth (tyOf p.1) (szOf p.1 / P.cellsOf (tyOf p.1)) p.2 B 1)

theorem hasPair_mem : ∀ {l : List (Nat × Nat)} {x y : Nat}, hasPair l x y = true → (x, y) ∈ l
  | (a, b) :: r, x, y, h => by
    simp only [hasPair, Bool.or_eq_true, Bool.and_eq_true, beq_iff_eq] at h
    rcases h with ⟨rfl, rfl⟩ | h
    · simp
    · exact List.mem_cons_of_mem _ (hasPair_mem h)

theorem post_call {v : CVal} {h' : CHeap} {G' : Gh} {u : Value} {w' : World} (hv : VR G' v u) (hp : Post base (· = h.next) G h w G' h' w') : CallPost base G h w v h' u w' :=
  ⟨G', hv, post_ex hp fun j hj hlt _ => absurd hlt (by omega)⟩

theorem sim_copyCheck (L : Lays.n240 P ρ) (hname : ((Body.n240 ρ).name == "runtime.NumGoroutine") = false) (hs : (P.info? (ρ.t 72)).map (·.size) = some 2) {oks : List (Nat × Nat)} (hok : ccOks P (ρ.t 72) oks = true) : SimPrim P base (ρ.f 240) (pCopyCheck oks) := by
  intro G h w xs us v h' hp I hr
  unfold pCopyCheck at hp
  split at hp
  · rename_i b d o
    obtain ⟨X, rfl, hX⟩ := vrs_one hr
    split at hp
    · rename_i hpair
      have hm0 := List.all_eq_true.1 hok _ (hasPair_mem hpair)
      simp only [Bool.and_eq_true, decide_eq_true_eq] at hm0
      obtain ⟨hd0, ho, hlies⟩ := hm0
      cases hX with
      | ptr hm =>
        rename_i ab
        have I0 := I
        obtain ⟨own, Io⟩ := I0
        obtain ⟨hbn, hab, hown, hbk⟩ := Io.mus b ab d hm
        have hsh := hbk.2 hd0
        have hent : (callFunc (ρ.f 240) ⟨[.pointer (some ⟨ab, o, none⟩)]⟩).run P w = .ok (.enter (ρ.f 240) ⟨[.pointer (some ⟨ab, o, none⟩)]⟩) w :=
          run_enter (c := ((Body.n240 ρ).body).getD .skip) L.f240 hname (by rfl) _ w
        split at hp
        · rename_i cs hg
          obtain ⟨hl, hcel⟩ := (Io.ents b _ hg).2 ab d hm
          have hcl : o < cs.length := by omega
          obtain ⟨hfl, z, hz, hzr⟩ := hcel o _ (getElem?_nth hcl)
          split at hp
          · rename_i hnil
            cases hp
            rw [hnil] at hzr
            cases hzr
            refine .inr ⟨_, _, hent, ?_⟩
            refine (cc_fresh L hs ab o w hz hsh ho hlies (hown o ho).2.2).mono fun e w' ⟨he, hw'⟩ => ⟨_, he, ?_⟩
            subst hw'
            exact post_call (.tup rfl (VRs.nil G).2) (post_cell I hm hg hcl (.ptr hm) rfl)
          · rename_i b' d' o' hptr
            split at hp
            · rename_i hc
              simp only [Bool.and_eq_true, beq_iff_eq] at hc
              obtain ⟨rfl, rfl, rfl⟩ := hc
              cases hp
              rw [hptr] at hzr
              cases hzr with
              | ptr hm2 =>
                rw [hm] at hm2
                cases hm2
                refine .inr ⟨_, _, hent, ?_⟩
                refine (cc_used L hs ab o' w hz).mono fun e w' ⟨he, hw'⟩ => ⟨_, he, ?_⟩
                subst hw'
                exact ⟨G, .tup rfl (VRs.nil G).2, .refl I⟩
            · cases hp
          · cases hp
        · cases hp
    · cases hp
  · cases hp
end
end Go.CI
