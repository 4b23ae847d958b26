/- A deterministic interpreter over values, proved sound against the model's rules (part 7 of 8): what a run of it gives, a call in the model gives. -/
import Derived.Test.YtnddcjimijmenaaGreatCi6
import Derived.Shelf.Strings.Builder1
import Derived.Shelf.Strings.Search2
import Derived.Handed
import Derived.SizedLaws
import Derived.Shelf.Vars
import Derived.Stop.LaidErr
import Derived.Shelf.Strconv.Clone
import Derived.Shelf.SlIter.Nil
import Derived.Shelf.SlIterI.Nil
import Derived.Shelf.SlMaps.Clone
import Derived.RangeFuncBound
set_option linter.unusedVariables false
set_option linter.unusedSimpArgs false

/- The fast form of operations, of code and of calls. -/
set_option linter.unusedVariables false
set_option linter.unusedSimpArgs false
namespace Go.CI

theorem fillF_eq (ev : COpnd → CVal) : ∀ (ps : List (Nat × Nat × COpnd)) (cs : List CVal), fillF ps ev cs = fillCells cs (ps.map fun p => (p.1, p.2.1, ev p.2.2))
  | [], _ => rfl
  | (off, size, x) :: r, cs => by
    show bF (andF (wholeF (ev x)) (andF (Nat.beq (lenC (cellsF (ev x))) size) (Nat.ble (Nat.add off size) (lenC cs)))) (Option (List CVal)) (fillF r ev (setCsF cs off (cellsF (ev x)))) none = _
    rw [bF_eq, andF_eq, andF_eq, wholeF_eq, cellsF_eq, lenC_eq, lenC_eq, nbeq]
    simp only [List.map_cons, fillCells]
    by_cases h1 : (ev x).whole = true
    · by_cases h2 : (ev x).cells.length = size
      · by_cases h3 : off + size ≤ cs.length
        · have e : Nat.ble (Nat.add off size) cs.length = true := Nat.ble_eq_true_of_le h3
          simp only [h1, h2, h3, e, beq_self_eq_true, Bool.and_self, if_true, decide_true]
          rw [setCsF_eq _ _ _ (by omega), fillF_eq ev r]
          simp only [setCells, h2]
        · have e : Nat.ble (Nat.add off size) cs.length = false := by
            cases hb : Nat.ble (Nat.add off size) cs.length with
            | false => rfl
            | true => exact absurd (Nat.le_of_ble_eq_true hb) h3
          simp [h1, h2, h3, e]
      · simp [h1, h2]
    · simp [h1]

theorem elemsF_eq (h : CHeap) (k : Nat) (x : CVal) : elemsF h k x = elems h k x := by
  cases x <;> first
    | rfl
    | (rename_i t l es
       show bF (Nat.beq k l) (Option (List CVal)) (some es) none = if k = l then some es else none
       rw [bF_eq, nbeq]; by_cases hk : k = l <;> simp [hk])

theorem appendF_eq (cf : Nat → List CVal → CHeap → Option (CVal × CHeap)) (ev : COpnd → CVal) (m : SMode) (T k : Nat) (x y : COpnd) (h : CHeap) (id : Nat) : appendF m T k (ev x) (ev y) h id = evalE cf ev h id (.append m T k x y) := by
  unfold appendF
  rw [elemsF_eq]
  simp only [evalE]
  cases elems h k (ev y) with
  | none => rfl
  | some ys => show evalAppend h id m T k (ev x) _ = _; rw [map_bare]

section
variable (cf : Nat → List CVal → CHeap → Option (CVal × CHeap)) (tm : List CVal) (id : Nat) (vals : List CVal) (h : CHeap) (ds : List (Nat × List CVal)) (hs : List CHeap) (k : List CVal → CHeap → List (Nat × List CVal) → List CHeap → Option RS)

theorem pK_eq (e : Option CVal) : pK e vals h ds hs k = (match e with
    | some v => if v.isUndef then none else some (⟨v :: vals, h, ds, hs⟩ : RS)
    | none => none).bind (fun s => k s.vals s.h s.defs s.hs) := by
  cases e with
  | none => rfl
  | some v =>
    show bF (isUndefF v) (Option RS) none (k (v :: vals) h ds hs) = _
    rw [bF_eq, isUndefF_eq]
    cases hu : v.isUndef <;> simp [hu]
theorem eK_eq (st : Bool) (e : Option (CVal × CHeap)) : eK st e vals h ds hs k = (match e with
    | some (v, h') => if v.isUndef && !st then none else some (⟨v :: vals, h', ds, h :: hs⟩ : RS)
    | none => none).bind (fun s => k s.vals s.h s.defs s.hs) := by
  cases e with
  | none => rfl
  | some p =>
    obtain ⟨v, h'⟩ := p
    show bF (andF (isUndefF v) (notF st)) (Option RS) none (k (v :: vals) h' ds (h :: hs)) = _
    rw [bF_eq, andF_eq, notF_eq, isUndefF_eq]
    cases hu : v.isUndef <;> cases st <;> simp [hu]

def operK (op : COp) : Option RS := (evalOper cf tm id ⟨op, none⟩ ⟨vals, h, ds, hs⟩).bind (fun s => k s.vals s.h s.defs s.hs)

theorem oper_p {op : COp} (hc : op.cls = .p) : operK cf tm id vals h ds hs k op = pK (evalP (evalOpnd tm vals) id op) vals h ds hs k := by
  rw [pK_eq]; unfold operK evalOper; simp only [wantedC, if_true, hc]
  cases evalP (evalOpnd tm vals) id op <;> rfl
theorem oper_l {op : COp} (hc : op.cls = .l) : operK cf tm id vals h ds hs k op = pK (evalL (evalOpnd tm vals) h op) vals h ds hs k := by
  rw [pK_eq]; unfold operK evalOper; simp only [wantedC, if_true, hc]
  cases evalL (evalOpnd tm vals) h op <;> rfl
theorem oper_e {op : COp} (hc : op.cls = .e) : operK cf tm id vals h ds hs k op = eK op.isStore (evalE cf (evalOpnd tm vals) h id op) vals h ds hs k := by
  rw [eK_eq]; unfold operK evalOper; simp only [wantedC, if_true, hc]
  cases evalE cf (evalOpnd tm vals) h id op <;> rfl

theorem pK_none : pK none vals h ds hs k = none := rfl

theorem slowP_eq (op : COp) : slowP op tm id vals h ds hs k = pK (evalP (evalOpnd tm vals) id op) vals h ds hs k := by unfold slowP; rw [opndF_fun]
theorem slowE_eq (op : COp) : slowE cf op tm id vals h ds hs k = eK op.isStore (evalE cf (evalOpnd tm vals) h id op) vals h ds hs k := by unfold slowE; rw [opndF_fun]

theorem callArgs_eq (keep : Bool) (args : List COpnd) : callArgs keep args tm vals = if keep then args.map (evalOpnd tm vals) else args.map fun x => (evalOpnd tm vals x).bare := by
  unfold callArgs
  rw [bF_eq, mapO_eq, mapO_eq, opndF_fun]
  cases keep
  · show args.map _ = args.map _
    congr 1
    funext o
    rw [opndF_eq, bareF_eq]
  · rfl

theorem opF_eq (op : COp) : opF op cf tm id vals h ds hs k = operK cf tm id vals h ds hs k op := by
  cases op
  case mv x => rw [oper_p cf tm id vals h ds hs k rfl]; show pK (some (opndF x tm vals)) vals h ds hs k = _; rw [opndF_eq]; rfl
  case pick c a b =>
    rw [oper_p cf tm id vals h ds hs k rfl]
    show selBool (opndF c tm vals) (Option RS) (fun t => pK (some (bF t CVal (opndF a tm vals) (opndF b tm vals))) vals h ds hs k) none = _
    rw [opndF_eq, opndF_eq, opndF_eq]
    simp only [evalP]
    cases evalOpnd tm vals c <;> first
      | rfl
      | (rename_i t; cases t <;> rfl)
  case alloc T z =>
    rw [oper_e cf tm id vals h ds hs k rfl]
    show eK false (bF (Nat.blt (lenC z) 1048576) (Option (CVal × CHeap)) (some (.ptr id (descOf T (lenC z)) 0, hputF h id (.cells z))) none) vals h ds hs k = _
    rw [bF_eq, lenC_eq]
    simp only [evalE, COp.isStore]
    by_cases hb : z.length < blockMost
    · have e : Nat.blt z.length 1048576 = true := Nat.ble_eq_true_of_le hb
      rw [if_pos e, if_pos hb]; rfl
    · have e : ¬ Nat.blt z.length 1048576 = true := fun e => hb (Nat.le_of_ble_eq_true e)
      rw [if_neg e, if_neg hb]
  case lazy d => rw [oper_p cf tm id vals h ds hs k rfl]; rfl
  case box T x => rw [oper_e cf tm id vals h ds hs k rfl]; exact slowE_eq cf tm id vals h ds hs k _
  case build z ps =>
    rw [oper_p cf tm id vals h ds hs k rfl]
    show pK (olCV (fillF ps (fun o => opndF o tm vals) z)) vals h ds hs k = _
    rw [opndF_fun, fillF_eq]
    simp only [evalP]
    cases fillCells z (ps.map fun p => (p.1, p.2.1, evalOpnd tm vals p.2.2)) <;> rfl
  case lit m a z n ps =>
    cases m
    · rw [oper_p cf tm id vals h ds hs k rfl]; exact slowP_eq tm id vals h ds hs k _
    · rw [oper_e cf tm id vals h ds hs k rfl]; exact slowE_eq cf tm id vals h ds hs k _
  case load kk a =>
    rw [oper_l cf tm id vals h ds hs k rfl, ← loadF_eq]
    show pK (loadF kk (opndF a tm vals) h) vals h ds hs k = _
    rw [opndF_eq]
  case store kk a x =>
    rw [oper_e cf tm id vals h ds hs k rfl, ← storeF_eq]
    show eK true (storeF kk (opndF a tm vals) (opndF x tm vals) h) vals h ds hs k = _
    rw [opndF_eq, opndF_eq]; rfl
  case init kk a x =>
    rw [oper_e cf tm id vals h ds hs k rfl, ← initF_eq]
    show eK true (initF kk (opndF a tm vals) (opndF x tm vals) h) vals h ds hs k = _
    rw [opndF_eq, opndF_eq]; rfl
  case nilck x =>
    rw [oper_p cf tm id vals h ds hs k rfl]
    show bF (isPtrF (opndF x tm vals)) (Option RS) (pK (some (opndF x tm vals)) vals h ds hs k) none = _
    rw [opndF_eq]
    simp only [evalP]
    cases evalOpnd tm vals x <;> rfl
  case bin b x y =>
    rw [oper_p cf tm id vals h ds hs k rfl]
    show pK (binF b (opndF x tm vals) (opndF y tm vals)) vals h ds hs k = _
    rw [opndF_eq, opndF_eq, binF_eq]; rfl
  case eqv e n x y =>
    rw [oper_p cf tm id vals h ds hs k rfl]
    show @Option.rec.{1, 0} Bool (fun _ => Option RS) none (fun c => pK (some (.bool (bF n Bool (notF c) c))) vals h ds hs k) (eqvF e (opndF x tm vals) (opndF y tm vals)) = _
    rw [opndF_eq, opndF_eq, eqvF_eq]
    simp only [evalP]
    cases eqVal e (evalOpnd tm vals x) (evalOpnd tm vals y) with
    | none => rfl
    | some c => cases n <;> cases c <;> rfl
  case not x =>
    rw [oper_p cf tm id vals h ds hs k rfl]
    show selBool (opndF x tm vals) (Option RS) (fun b => pK (some (.bool (notF b))) vals h ds hs k) none = _
    rw [opndF_eq]
    simp only [evalP]
    cases evalOpnd tm vals x <;> first
      | rfl
      | (rename_i t; cases t <;> rfl)
  case neg x => rw [oper_p cf tm id vals h ds hs k rfl]; exact slowP_eq tm id vals h ds hs k _
  case cpl x => rw [oper_p cf tm id vals h ds hs k rfl]; exact slowP_eq tm id vals h ds hs k _
  case conv kd x =>
    rw [oper_p cf tm id vals h ds hs k rfl]
    show selInt (opndF x tm vals) (Option RS) (fun _ n => pK (some (.int kd (wrapF kd n))) vals h ds hs k) none = _
    rw [opndF_eq]
    simp only [evalP]
    cases evalOpnd tm vals x <;> first
      | rfl
      | (rename_i l n; show pK (some (.int kd (wrapF kd n))) vals h ds hs k = _; rw [wrapF_eq])
  case same x => rw [oper_p cf tm id vals h ds hs k rfl]; exact slowP_eq tm id vals h ds hs k _
  case s2b m x =>
    cases m
    · rw [oper_p cf tm id vals h ds hs k rfl]; exact slowP_eq tm id vals h ds hs k _
    · rw [oper_e cf tm id vals h ds hs k rfl]; exact slowE_eq cf tm id vals h ds hs k _
  case b2s x =>
    rw [oper_l cf tm id vals h ds hs k rfl]
    show pK (evalL (fun o => opndF o tm vals) h (.b2s x)) vals h ds hs k = _
    rw [opndF_fun]
  case ifc t x =>
    rw [oper_p cf tm id vals h ds hs k rfl]
    show pK (some (.ifc t (opndF x tm vals))) vals h ds hs k = _
    rw [opndF_eq]; rfl
  case mkfn f a b =>
    rw [oper_p cf tm id vals h ds hs k rfl]
    show pK (some (.fn f (mapO (fun o => opndF o tm vals) a) (mapO (fun o => opndF o tm vals) b))) vals h ds hs k = _
    rw [mapO_eq, mapO_eq, opndF_fun]; rfl
  case fieldAddr o x =>
    rw [oper_p cf tm id vals h ds hs k rfl, ← faF_eq]
    show pK (faF o (opndF x tm vals)) vals h ds hs k = _
    rw [opndF_eq]
  case fieldOf o kk x =>
    rw [oper_p cf tm id vals h ds hs k rfl]
    show pK (selAgg (opndF x tm vals) (Option CVal) (fun cs => partF cs o kk) none) vals h ds hs k = _
    rw [opndF_eq]
    simp only [evalP]
    congr 1
    cases evalOpnd tm vals x <;> first
      | rfl
      | exact partF_eq _ _ _
  case idxAddr kk x i =>
    rw [oper_p cf tm id vals h ds hs k rfl, ← idxAddrF_eq]
    show pK (idxAddrF kk (opndF x tm vals) (opndF i tm vals)) vals h ds hs k = _
    rw [opndF_eq, opndF_eq]
  case arrAddr n kk x i => rw [oper_p cf tm id vals h ds hs k rfl]; exact slowP_eq tm id vals h ds hs k _
  case idxStr x i =>
    rw [oper_p cf tm id vals h ds hs k rfl, ← idxStrF_eq]
    show pK (idxStrF (opndF x tm vals) (opndF i tm vals)) vals h ds hs k = _
    rw [opndF_eq, opndF_eq]
  case slc kk x lo hi =>
    rw [oper_p cf tm id vals h ds hs k rfl]
    show pK (slcF kk (opndF x tm vals) (lo.map fun o => opndF o tm vals) (hi.map fun o => opndF o tm vals)) vals h ds hs k = _
    rw [opndF_eq, opndF_fun, slcF_eq]; rfl
  case len s x =>
    rw [oper_p cf tm id vals h ds hs k rfl, ← lenF_eq]
    show pK (lenF s (opndF x tm vals)) vals h ds hs k = _
    rw [opndF_eq]
  case append m T kk x y =>
    rw [oper_e cf tm id vals h ds hs k rfl, ← appendF_eq]
    show eK false (appendF m T kk (opndF x tm vals) (opndF y tm vals) h id) vals h ds hs k = _
    rw [opndF_eq, opndF_eq]; rfl
  case copy kk x y => rw [oper_e cf tm id vals h ds hs k rfl]; exact slowE_eq cf tm id vals h ds hs k _
  case mkslice m a z l c => rw [oper_e cf tm id vals h ds hs k rfl]; exact slowE_eq cf tm id vals h ds hs k _
  case extract i x =>
    rw [oper_p cf tm id vals h ds hs k rfl, ← extrF_eq]
    show pK (extrF i (opndF x tm vals)) vals h ds hs k = _
    rw [opndF_eq]
  case call keep f args =>
    rw [oper_e cf tm id vals h ds hs k rfl]
    show eK false (cf f (callArgs keep args tm vals) h) vals h ds hs k = _
    rw [callArgs_eq]; rfl
  case callv keep x args =>
    rw [oper_e cf tm id vals h ds hs k rfl]
    show eK false (selFn (opndF x tm vals) (Option (CVal × CHeap)) (fun fn first cap => @Fn.rec.{1} (fun _ => Option (CVal × CHeap)) (fun f => cf f (appC first (appC (callArgs keep args tm vals) cap)) h) (fun _ => none) (fun _ _ => none) (fun _ _ _ _ => none) (fun _ => none) fn) none) vals h ds hs k = _
    rw [opndF_eq]
    simp only [evalE, COp.isStore]
    congr 1
    cases evalOpnd tm vals x <;> first
      | rfl
      | (rename_i fn first cap
         cases fn <;> first
           | rfl
           | (show cf _ (appC first (appC (callArgs keep args tm vals) cap)) h = _
              rw [appC_eq, appC_eq, callArgs_eq]))
  case defer x args =>
    show selFn (opndF x tm vals) (Option RS) (fun fn first cap => @Fn.rec.{1} (fun _ => Option RS) (fun f => k (.undef :: vals) h ((f, appC first (appC (mapO (fun o => opndF o tm vals) args) cap)) :: ds) (h :: hs)) (fun _ => none) (fun _ _ => none) (fun _ _ _ _ => none) (fun _ => none) fn) none = _
    rw [opndF_eq, opndF_fun]
    unfold operK evalOper
    simp only [wantedC, if_true, COp.cls]
    cases evalOpnd tm vals x <;> first
      | rfl
      | (rename_i fn first cap
         cases fn <;> first
           | rfl
           | (show k _ _ ((_, appC first (appC (mapO (evalOpnd tm vals) args) cap)) :: ds) _ = _
              rw [appC_eq, appC_eq, mapO_eq]; rfl))
  case minmax m x y => rw [oper_p cf tm id vals h ds hs k rfl]; exact slowP_eq tm id vals h ds hs k _
  case ext x l => rw [oper_e cf tm id vals h ds hs k rfl]; exact slowE_eq cf tm id vals h ds hs k _
  case extl x l =>
    rw [oper_l cf tm id vals h ds hs k rfl]
    show pK (extL h x (mapO (fun o => opndF o tm vals) l)) vals h ds hs k = _
    rw [mapO_eq, opndF_fun]; rfl
  case stuck => rw [oper_p cf tm id vals h ds hs k rfl]; rfl
end

theorem operF_eq (cf : Nat → List CVal → CHeap → Option (CVal × CHeap)) (tm : List CVal) (id : Nat) (vals : List CVal) (h : CHeap) (ds : List (Nat × List CVal)) (hs : List CHeap) (k : List CVal → CHeap → List (Nat × List CVal) → List CHeap → Option RS) (o : COper) :
    operF o cf tm id vals h ds hs k = (evalOper cf tm id o ⟨vals, h, ds, hs⟩).bind (fun s => k s.vals s.h s.defs s.hs) := by
  obtain ⟨op, g⟩ := o
  cases g with
  | none => exact opF_eq cf tm id vals h ds hs k op
  | some p =>
    obtain ⟨d, b⟩ := p
    show bF (selBool (nthF vals d) Bool (fun c => bF c Bool b (notF b)) false) (Option RS) (opF op cf tm id vals h ds hs k) (k (.undef :: vals) h ds (bF (clsED op) (List CHeap) (h :: hs) hs)) = _
    have e : selBool (nthF vals d) Bool (fun c => bF c Bool b (notF b)) false = wantedC vals (some (d, b)) := by
      rw [nthF_eq]
      simp only [wantedC]
      cases nth vals d <;> first
        | rfl
        | (rename_i c; cases c <;> cases b <;> rfl)
    rw [bF_eq, e, opF_eq]
    unfold operK evalOper
    by_cases hw : wantedC vals (some (d, b)) = true
    · have h1 : wantedC vals none = true := rfl
      simp only [hw, h1, if_true]
    · have hw : wantedC vals (some (d, b)) = false := by simpa using hw
      simp only [hw, Bool.false_eq_true, if_false]
      rw [bF_eq]
      unfold clsED
      cases op.cls <;> rfl

theorem opsF_eq (cf : Nat → List CVal → CHeap → Option (CVal × CHeap)) (tm : List CVal) : ∀ (l : List COper) (id : Nat) (s : RS), opsF l cf tm id s.vals s.h s.defs s.hs = evalOps cf tm id l s
  | [], _, _ => rfl
  | o :: r, id, s => by
    show operF o cf tm id s.vals s.h s.defs s.hs (fun vals h ds hs => opsF r cf tm (Nat.succ id) vals h ds hs) = _
    rw [operF_eq]
    simp only [evalOps]
    show (evalOper cf tm id o s).bind _ = _
    cases evalOper cf tm id o s with
    | none => rfl
    | some s' => exact opsF_eq cf tm r (id + 1) s'

theorem setNF_eq : ∀ (l : List CVal) (i : Nat) (x : CVal), setNF l i x = setNth l i x
  | [], _, _ => rfl
  | _ :: _, 0, _ => rfl
  | v :: r, i + 1, x => congrArg (v :: ·) (setNF_eq r i x)
theorem wbF_eq (n : Nat) (vals : List CVal) : ∀ (wb : List (Nat × Nat)) (tm : List CVal), wbF wb n vals tm = writeBack n vals tm wb
  | [], _ => rfl
  | (j, i) :: r, tm => by
    show wbF r n vals (setNF tm j (nthF vals (Nat.sub (Nat.sub n 1) i))) = _
    rw [wbF_eq n vals r, setNF_eq, nthF_eq]; rfl
theorem nilF_eq {α : Type} (l : List α) (p : α → Bool) : bF (nilF l) Bool true (l.all p) = l.all p := by cases l <;> rfl

theorem paramsF_eq : ∀ (ps : List (Option Nat)) (args : List CVal), paramsF ps args = ps.map (initVar args)
  | [], _ => rfl
  | p :: r, args => by
    show @Option.rec.{1, 0} Nat (fun _ => List CVal → CVal) (fun _ => .undef) (fun i args => nthF args i) p args :: paramsF r args = _
    rw [paramsF_eq r args, List.map_cons]
    congr 1
    cases p with
    | none => rfl
    | some i => exact nthF_eq args i
theorem olL_eq {β : Type} (o : Option (List CVal)) (f : List CVal → β) (d : β) : olL o β f d = match o with | some v => f v | none => d := by cases o <;> rfl
theorem resF_eq (h : CHeap) (tm : List CVal) : ∀ rs : List CRes, resF rs h tm = resultsC h tm rs
  | [] => rfl
  | .var j :: r => by
    show olL (resF r h tm) (Option (List CVal)) (fun vs => some (nthF tm j :: vs)) none = _
    rw [olL_eq, resF_eq h tm r, nthF_eq]; simp only [resultsC]
    cases resultsC h tm r <;> rfl
  | .cell j k :: r => by
    show selPtr (nthF tm j) (Option (List CVal)) (fun b _ o => selCells (hgetF h b) (Option (List CVal)) (fun cs => obCV (partF cs o k) (Option (List CVal)) (fun v => olL (resF r h tm) (Option (List CVal)) (fun vs => some (v :: vs)) none) none) none) none = _
    rw [nthF_eq, resF_eq h tm r]
    simp only [resultsC]
    cases nth tm j <;> first
      | rfl
      | (rename_i b sz o
         show selCells (hgetF h b) (Option (List CVal)) (fun cs => obCV (partF cs o k) (Option (List CVal)) (fun v => olL (resultsC h tm r) (Option (List CVal)) (fun vs => some (v :: vs)) none) none) none = _
         rw [selCells_eq, hgetF_eq]
         dsimp only
         cases h.get b with
         | none => rfl
         | some c =>
           cases c
           case cells cs =>
             show obCV (partF cs o k) (Option (List CVal)) (fun v => olL (resultsC h tm r) (Option (List CVal)) (fun vs => some (v :: vs)) none) none = _
             rw [obCV_eq, partF_eq]
             dsimp only
             cases partOf cs o k with
             | none => rfl
             | some v => cases resultsC h tm r <;> rfl
           all_goals rfl)
theorem oneF_eq (vs : List CVal) : oneF vs = oneOrTuple vs := by
  match vs with
  | [] => rfl
  | [_] => rfl
  | _ :: _ :: _ => rfl
theorem dropEF_eq (n : Nat) : ∀ l : List (Nat × CObj), dropEF l n = dropEnts l n
  | [] => rfl
  | (i, o) :: r => by
    show bF (Nat.ble n i) (List (Nat × CObj)) (dropEF r n) ((i, o) :: r) = _
    rw [bF_eq, dropEF_eq n r]
    simp only [dropEnts]
    by_cases h : n ≤ i
    · rw [if_pos (Nat.ble_eq_true_of_le h), if_pos h]
    · rw [if_neg (fun e => h (Nat.le_of_ble_eq_true e)), if_neg h]
theorem dropCF_eq (n : Nat) : ∀ l : List (Nat × CObj), dropCF l n = dropCells l n
  | [] => rfl
  | (i, o) :: r => by
    show bF (Nat.ble n i) (List (Nat × CObj)) (selCells (some o) (List (Nat × CObj)) (fun _ => dropCF r n) ((i, o) :: dropCF r n)) ((i, o) :: r) = _
    rw [bF_eq, dropCF_eq n r]
    simp only [dropCells]
    by_cases h : n ≤ i
    · rw [if_pos (Nat.ble_eq_true_of_le h), if_pos h]
      cases o <;> rfl
    · rw [if_neg (fun e => h (Nat.le_of_ble_eq_true e)), if_neg h]
theorem finF_eq (fn : CFunc) (n : Nat) (v : CVal) (h : CHeap) : finF fn.keep fn.frz n v h = finishC fn n v h := by
  unfold finF finishC
  rw [bF_eq, bF_eq]
  cases fn.keep
  · cases fn.frz
    · show some (bareF v, (⟨dropEF h.ents n, h.next, h.tys⟩ : CHeap)) = _
      rw [bareF_eq, dropEF_eq]; rfl
    · rfl
  · cases fn.frz
    · rfl
    · show some (v, (⟨dropCF h.ents n, h.next, h.tys⟩ : CHeap)) = _
      rw [dropCF_eq]; rfl

section
variable (T : Nat → Option CFn) (ex : CCode → CSt → Option (CExit × CSt))

theorem bodyF_eq (fn : CFunc) (args : List CVal) (h : CHeap) : bodyF ex (runDefs T ex) fn args h = callBody ex (runDefs T ex) fn args h := by
  obtain ⟨nargs, nvars, params, results, body, keep, frz⟩ := fn
  have key : ∀ (e : CExit) (st : CSt), e ≠ .exit 0 ∨ True → True := fun _ _ _ => trivial
  unfold callBody
  show bF (Nat.beq (lenC args) nargs) (Option (CVal × CHeap)) (@Option.rec.{1, 0} (CExit × CSt) (fun _ => Option (CVal × CHeap)) none _ (ex body ⟨paramsF params args, h, []⟩)) none = _
  rw [bF_eq, lenC_eq, nbeq, paramsF_eq]
  by_cases hn : args.length = nargs
  · have e : (args.length == nargs) = true := by simpa using hn
    rw [if_pos e]
    simp only [hn, if_true]
    cases ex body ⟨params.map (initVar args), h, []⟩ with
    | none => rfl
    | some p =>
      obtain ⟨e, st⟩ := p
      have fin : (@Option.rec.{1, 0} CHeap (fun _ => Option (CVal × CHeap)) none (fun h1 => olL (resF results h1 st.tm) (Option (CVal × CHeap)) (fun vs => finF keep frz h.next (oneF vs) h1) none)
              (@List.rec.{1, 0} (Nat × List CVal) (fun _ => Option CHeap) (some st.h) (fun _ _ _ => runDefs T ex st.defs st.h) st.defs)) =
          (match runDefs T ex st.defs st.h with
            | some h1 => match resultsC h1 st.tm results with
              | some vs => finishC ⟨nargs, nvars, params, results, body, keep, frz⟩ h.next (oneOrTuple vs) h1
              | none => none
            | none => none) := by
        have e1 : (@List.rec.{1, 0} (Nat × List CVal) (fun _ => Option CHeap) (some st.h) (fun _ _ _ => runDefs T ex st.defs st.h) st.defs) = runDefs T ex st.defs st.h := by
          generalize hds : st.defs = ds
          cases ds <;> rfl
        rw [e1]
        cases runDefs T ex st.defs st.h with
        | none => rfl
        | some h1 =>
          show olL (resF results h1 st.tm) (Option (CVal × CHeap)) (fun vs => finF keep frz h.next (oneF vs) h1) none = _
          rw [olL_eq, resF_eq]
          dsimp only
          cases resultsC h1 st.tm results with
          | none => rfl
          | some vs =>
            show finF keep frz h.next (oneF vs) h1 = _
            rw [oneF_eq]
            exact finF_eq ⟨nargs, nvars, params, results, body, keep, frz⟩ h.next (oneOrTuple vs) h1
      cases e with
      | exit i => rfl
      | normal => exact fin
      | ret => exact fin
  · have e : ¬ (args.length == nargs) = true := by simpa using hn
    rw [if_neg e]
    simp only [hn, if_false]
theorem callFF_eq (f : Nat) (args : List CVal) (h : CHeap) : callFF T ex f args h = callFn T ex f args h := by
  unfold callFF callFn
  cases T f with
  | none => rfl
  | some c =>
    cases c with
    | ir fn => exact bodyF_eq T ex fn args h
    | prim p => rfl
end

theorem regF_eq (T : Nat → Option CFn) (ex : CCode → CSt → Option (CExit × CSt)) (ops : List COper) (wb : List (Nat × Nat)) (chk : List (Nat × Nat × Nat)) (sw : List (Nat × Nat)) (st : CSt) :
    regF ops wb chk sw T ex st = execStep T ex (.region ops wb chk sw) st := by
  obtain ⟨tm, ⟨e, nx, t⟩, ds⟩ := st
  show @Option.rec.{1, 0} RS (fun _ => Option (CExit × CSt)) none _ (opsF ops (callFF T ex) tm nx [] ⟨e, Nat.add nx ops.length, t⟩ ds []) = _
  have hcf : callFF T ex = callFn T ex := funext fun f => funext fun a => funext fun h => callFF_eq T ex f a h
  have h1 := opsF_eq (callFn T ex) tm ops nx ⟨[], ⟨e, nx + ops.length, t⟩, ds, []⟩
  rw [hcf]
  have h1' : opsF ops (callFn T ex) tm nx [] ⟨e, Nat.add nx ops.length, t⟩ ds [] = _ := h1
  rw [h1']
  simp only [execStep]
  cases evalOps (callFn T ex) tm nx ops ⟨[], ⟨e, nx + ops.length, t⟩, ds, []⟩ with
  | none => rfl
  | some s =>
    obtain ⟨vals, h', ds', hs⟩ := s
    show bF (andF (bF (nilF chk) Bool true (chk.all (checkOne tm ops ops.length vals (h' :: hs).reverse))) (bF (nilF sw) Bool true (sw.all (swapOne tm ops ops.length vals)))) (Option (CExit × CSt))
        (some (.normal, ⟨wbF wb ops.length vals tm, h', ds'⟩)) none = _
    rw [nilF_eq, nilF_eq, bF_eq, andF_eq, wbF_eq]

theorem exSel_eq {β : Type} (e : CExit) (a : β) (b : Nat → β) (c : β) : exSel e β a b c = match e with | .normal => a | .exit i => b i | .ret => c := by cases e <;> rfl

theorem stepF_eq (T : Nat → Option CFn) (ex : CCode → CSt → Option (CExit × CSt)) (c : CCode) (st : CSt) : stepF c T ex st = execStep T ex c st := by
  cases c
  case skip => rfl
  case region ops wb chk sw => exact regF_eq T ex ops wb chk sw st
  case seq a b =>
    show orX (ex a st) (fun e st' => exSel e (Option (CExit × CSt)) (ex b st') (fun i => some (.exit i, st')) (some (.ret, st'))) = _
    simp only [execStep]
    cases ex a st with
    | none => rfl
    | some p => obtain ⟨e, st'⟩ := p; cases e <;> rfl
  case cond c a b =>
    show selBool (opndF c st.tm []) (Option (CExit × CSt)) (fun t => bF t (Option (CExit × CSt)) (ex a st) (ex b st)) none = _
    rw [opndF_eq]
    simp only [execStep]
    cases evalOpnd st.tm [] c <;> first
      | rfl
      | (rename_i t; cases t <;> rfl)
  case block id c =>
    show orX (ex c st) (fun e st' => exSel e (Option (CExit × CSt)) (some (.normal, st')) (fun i => bF (Nat.beq i id) (Option (CExit × CSt)) (some (.normal, st')) (some (.exit i, st'))) (some (.ret, st'))) = _
    simp only [execStep]
    cases ex c st with
    | none => rfl
    | some p =>
      obtain ⟨e, st'⟩ := p
      cases e with
      | normal => rfl
      | ret => rfl
      | exit i =>
        show bF (Nat.beq i id) (Option (CExit × CSt)) (some (.normal, st')) (some (.exit i, st')) = _
        rw [bF_eq, nbeq]
        by_cases h : i = id <;> simp [h]
  case loop drop c =>
    show orX (ex c st) (fun e st' => exSel e (Option (CExit × CSt)) (ex (.loop drop c) (bF drop CSt (@CSt.rec.{1} (fun _ => CSt) (fun tm h ds => @CHeap.rec.{1} (fun _ => CSt) (fun e nx t => ⟨tm, ⟨dropCF e st.h.next, nx, t⟩, ds⟩) h) st') st')) (fun i => some (.exit i, st')) (some (.ret, st'))) = _
    simp only [execStep]
    cases ex c st with
    | none => rfl
    | some p =>
      obtain ⟨e, st'⟩ := p
      cases e with
      | normal =>
        obtain ⟨tm, ⟨en, nx, t⟩, ds⟩ := st'
        show ex (.loop drop c) (bF drop CSt (⟨tm, ⟨dropCF en st.h.next, nx, t⟩, ds⟩ : CSt) ⟨tm, ⟨en, nx, t⟩, ds⟩) = _
        rw [bF_eq, dropCF_eq]
      | ret => rfl
      | exit i => rfl
  all_goals rfl

theorem execF_eq (T : Nat → Option CFn) : ∀ n, execF T n = exec T n
  | 0 => rfl
  | n + 1 => by
    funext c st
    show stepF c T (execF T n) st = execStep T (exec T n) c st
    rw [stepF_eq, execF_eq T n]
theorem crunF_eq (T : Nat → Option CFn) (n f : Nat) (args : List CVal) (h : CHeap) : crunF T n f args h = crun T n f args h := by
  unfold crunF crun
  rw [execF_eq, callFF_eq]
theorem CTree.getF_eq (t : CTree) (f : Nat) : t.getF f = t.get f := by
  induction t with
  | leaf i fn => show bF (Nat.beq f i) (Option CFn) (some fn) none = _; rw [bF_eq]; simp only [CTree.get]; cases Nat.beq f i <;> rfl
  | node m a b iha ihb => show bF (Nat.blt f m) (Option CFn) (a.getF f) (b.getF f) = _; rw [bF_eq, iha, ihb]; simp only [CTree.get]; cases Nat.blt f m <;> rfl
theorem crun_of_fast {t : CTree} {n f : Nat} {args : List CVal} {p : Option (CVal × CHeap) → Bool} (h : p (crunF t.getF n f args noHeap) = true) : p (crun t.get n f args noHeap) = true := by
  have e : t.getF = t.get := funext fun f => t.getF_eq f
  rw [crunF_eq, e] at h
  exact h
end Go.CI

/- strings.Builder.copyCheck as a function of the interpreter's own: it is the model's. -/
set_option linter.unusedVariables false
set_option linter.unusedSimpArgs false
namespace Go.CI
open Go.Shelf Go.RowKit Go.Lib Go.Proofs

section
variable {P : Program} {ρ : Ren}

set_option maxHeartbeats 1000000 in
set_option maxRecDepth 100000 in
theorem cc_used (L : Lays.n240 P ρ) (hs : (P.info? (ρ.t 72)).map (·.size) = some 2) (b o : Nat) (w : World) (h0 : w.cell? ⟨b, o, none⟩ = some (.pointer (some ⟨b, o, none⟩))) :
    Calls P (ρ.f 240) #[.pointer (some ⟨b, o, none⟩)] w fun e w' => e = .returned (.tuple #[]) ∧ w' = w := by
  obtain ⟨j, hj, _⟩ := Option.map_eq_some_iff.1 hs
  have mixed := L.mixed
  have t72 := L.t72; have a72 := L.a72; have z72 := L.z72; have v72 := L.v72; have u72 := run_underlying L.t72
  have t70 := L.t70; have a70 := L.a70; have z70 := L.z70; have v70 := L.v70; have u70 := run_underlying L.t70
  have t9 := L.t9; have a9 := L.a9; have z9 := L.z9; have v9 := L.v9; have u9 := run_underlying L.t9
  have t4 := L.t4; have a4 := L.a4; have z4 := L.z4; have v4 := L.v4; have u4 := run_underlying L.t4
  have t164 := L.t164; have a164 := L.a164; have z164 := L.z164; have v164 := L.v164; have u164 := run_underlying L.t164
  go_enter L.f240, Body.n240_ntmps ρ
  go_wp2
  rw [Lib.run_neq_ptr_same w _ L.t70 hj]
  go_wp2
  go_end0
  exact ⟨rfl, rfl⟩

set_option maxHeartbeats 1000000 in
set_option maxRecDepth 100000 in
theorem cc_fresh (L : Lays.n240 P ρ) (hs : (P.info? (ρ.t 72)).map (·.size) = some 2) (b o : Nat) (w : World) {T cells : Nat} (h0 : w.cell? ⟨b, o, none⟩ = some (.pointer none)) (hsh : w.shape? b = some (T, cells)) (hoff : o < cells)
    (hl : liesAt P P.depth T (cells / P.cellsOf T) o (ρ.t 72) 1 = true) (hfz : w.frozen? ⟨b, o, none⟩ = false) :
    Calls P (ρ.f 240) #[.pointer (some ⟨b, o, none⟩)] w fun e w' => e = .returned (.tuple #[]) ∧ w' = w.setCell ⟨b, o, none⟩ (.pointer (some ⟨b, o, none⟩)) := by
  obtain ⟨j, hj, hjs⟩ := Option.map_eq_some_iff.1 hs
  have mixed := L.mixed
  have t72 := L.t72; have a72 := L.a72; have z72 := L.z72; have v72 := L.v72; have u72 := run_underlying L.t72
  have t70 := L.t70; have a70 := L.a70; have z70 := L.z70; have v70 := L.v70; have u70 := run_underlying L.t70
  have t9 := L.t9; have a9 := L.a9; have z9 := L.z9; have v9 := L.v9; have u9 := run_underlying L.t9
  have t4 := L.t4; have a4 := L.a4; have z4 := L.z4; have v4 := L.v4; have u4 := run_underlying L.t4
  have t164 := L.t164; have a164 := L.a164; have z164 := L.z164; have v164 := L.v164; have u164 := run_underlying L.t164
  go_enter L.f240, Body.n240_ntmps ρ
  go_wp2
  rw [Lib.run_to_unsafe w ⟨b, o, none⟩ L.t70 L.t164 hj (by rw [hjs]; decide) hsh hoff]
  simp only [Result.andThen]
  rw [Oper.upon_value]
  go_wp2
  rw [run_callFunc_extern L.f276 (by kernel_rfl) (by kernel_rfl) (by kernel_rfl) (e := Extern.AbiNoEscape.same) (by kernel_rfl)]
  rw [Lib.run_noEscape]
  simp only [Result.andThen]
  rw [Oper.upon_value]
  go_wp2
  rw [Lib.run_from_unsafe w ⟨b, o, none⟩ L.t164 L.t70 hj hsh hl]
  simp only [Result.andThen]
  rw [Oper.upon_value]
  go_wp2
  go_end0
  exact ⟨rfl, rfl⟩
end

section
variable {P : Program} {ρ : Ren}

theorem liesAt_off {e : TypeId} (hc : P.cellsOf e = 1) (count off n : Nat) (hn : off + n ≤ count) : liesAt P P.depth e count off e n = true := by
  have hd : P.depth = (2 * (P.types.size + Made.depth) + 1) + 1 := rfl
  rw [hd]
  simp only [liesAt, Bool.or_eq_true]
  left
  rw [hd]
  simp [rowAt, hc, hn, sameLayout, Nat.mod_one]

theorem run_unsafeString_at (w : World) (pt it ty e : TypeId) (hp : P.underlying pt = some (.pointer e)) (hc : P.cellsOf e = 1) (g ro cells : Nat) (hsh : w.shape? g = some (e, cells)) (l : List UInt8) (h0 : l ≠ []) (hn : ro + l.length ≤ cells) (h63 : l.length ≤ 9223372036854775807)
    (hcell : ∀ j x, l[j]? = some x → w.cell? ((⟨g, ro, none⟩ : Addr).add j) = some (.int .u8 x.toNat)) :
    (Builtin.unsafeString_ #[pt, it] ty #[.pointer (some ⟨g, ro, none⟩), .int .i64 l.length]).run P w = .ok (.string ⟨l.toArray⟩) (w.freeze ⟨g, ro, none⟩ l.length) := by
  have hl : l.length ≠ 0 := by simpa using h0
  have hlb := Lib.run_loadBytes (P := P) w l ⟨g, ro, none⟩ .empty hcell
  have hlies := liesAt_off (P := P) hc (cells / P.cellsOf e) ro l.length (by rw [hc]; simpa using hn)
  have h63' : ¬ (9223372036854775807 : Int) < (l.length : Int) := by omega
  have hdef : Builtin.unsafeString_ #[pt, it] ty #[.pointer (some ⟨g, ro, none⟩), .int .i64 l.length] =
      (do
        let n ← asInt (.int .i64 l.length)
        if n < 0 then runtimePanic (.error "unsafe.String: len out of range")
        if n > IntKind.i64.max then unsupported (.unsafePointer "String: a length above the largest int")
        if n = 0 then pure (.string .empty)
        else if ← variablesAt ⟨g, ro, none⟩ (← elemOf pt) n.toNat then do
          let s ← loadBytes ⟨g, ro, none⟩ .empty n.toNat
          freeze ⟨g, ro, none⟩ n.toNat
          pure (.string s)
        else unsupported (.unsafePointer "String: not so many bytes at ptr")) := rfl
  rw [hdef]
  have hmax : IntKind.i64.max = 9223372036854775807 := rfl
  have hneg : ¬ (l.length : Int) < 0 := by omega
  simp [asInt, asIntOf, hmax, h63', hneg, hl, variablesAt, hsh, elemOf, run_underlying hp, hlies, hlb]

set_option maxHeartbeats 2000000 in
set_option maxRecDepth 100000 in
theorem bs_row (L : Lays.n169 P ρ) (X : Builder.Extra P ρ) (b o g ro cap cells : Nat) (l : List UInt8) (w : World) (hbuf : w.cell? ⟨b, o + 1, none⟩ = some (.slice (some ⟨g, ro, none⟩) l.length cap)) (h0 : l ≠ []) (hcap : cap ≠ 0)
    (hsh : w.shape? g = some (ρ.t 5, cells)) (hn : ro + l.length ≤ cells) (h63 : l.length ≤ 9223372036854775807) (hcell : ∀ j x, l[j]? = some x → w.cell? ((⟨g, ro, none⟩ : Addr).add j) = some (.int .u8 x.toNat)) :
    Calls P (ρ.f 169) #[.pointer (some ⟨b, o, none⟩)] w fun e w' => e = .returned (.string ⟨l.toArray⟩) ∧ w' = w.drew.freeze ⟨g, ro, none⟩ l.length := by
  have c1 : w.drew.cell? ⟨b, o + 1, none⟩ = some (.slice (some ⟨g, ro, none⟩) l.length cap) := hbuf
  have hSD : (Builtin.unsafeSliceData_ #[(ρ.t 37)] (ρ.t 127) #[.slice (some ⟨g, ro, none⟩) l.length cap]).run P w.drew = .ok (.pointer (some ⟨g, ro, none⟩)) w.drew :=
    Lib.run_unsafeSliceData_row _ _ _ _ _ _ hcap
  have hUS : (Builtin.unsafeString_ #[(ρ.t 127), (ρ.t 3)] (ρ.t 9) #[.pointer (some ⟨g, ro, none⟩), .int .i64 l.length]).run P w.drew = .ok (.string ⟨l.toArray⟩) (w.drew.freeze ⟨g, ro, none⟩ l.length) :=
    run_unsafeString_at w.drew (ρ.t 127) (ρ.t 3) (ρ.t 9) (ρ.t 5) L.t127 X.cellsByte g ro cells hsh l h0 hn h63 hcell
  have mixed := L.mixed
  have t72 := L.t72; have a72 := L.a72; have z72 := L.z72; have v72 := L.v72; have u72 := run_underlying L.t72
  have t70 := L.t70; have a70 := L.a70; have z70 := L.z70; have v70 := L.v70; have u70 := run_underlying L.t70
  have t37 := L.t37; have a37 := L.a37; have z37 := L.z37; have v37 := L.v37; have u37 := run_underlying L.t37
  have t127 := L.t127; have a127 := L.a127; have z127 := L.z127; have v127 := L.v127; have u127 := run_underlying L.t127
  have t3 := L.t3; have a3 := L.a3; have z3 := L.z3; have v3 := L.v3; have u3 := run_underlying L.t3
  have t9 := L.t9; have a9 := L.a9; have z9 := L.z9; have v9 := L.v9; have u9 := run_underlying L.t9
  have t5 := X.t5; have a5 := X.a5; have z5 := X.z5; have v5 := X.v5; have u5 := run_underlying X.t5
  go_enter L.f169, Body.n169_ntmps ρ
  go_wp2
  go_region_o
  all_goals (go_wp2; go_ret; exact ⟨rfl, rfl⟩)

set_option maxHeartbeats 2000000 in
set_option maxRecDepth 100000 in
theorem bs_nil (L : Lays.n169 P ρ) (X : Builder.Extra P ρ) (b o : Nat) (w : World) (hbuf : w.cell? ⟨b, o + 1, none⟩ = some (.slice none 0 0)) :
    Calls P (ρ.f 169) #[.pointer (some ⟨b, o, none⟩)] w fun e w' => e = .returned (.string ⟨#[]⟩) ∧ w' = w.drew := by
  have hUS := Any.unsafeString_none L X
  have c1 : w.drew.cell? ⟨b, o + 1, none⟩ = some (.slice none 0 0) := hbuf
  have hSD : (Builtin.unsafeSliceData_ #[(ρ.t 37)] (ρ.t 127) #[.slice none 0 0]).run P w.drew = .ok (.pointer none) w.drew := rfl
  have mixed := L.mixed
  have t72 := L.t72; have a72 := L.a72; have z72 := L.z72; have v72 := L.v72; have u72 := run_underlying L.t72
  have t70 := L.t70; have a70 := L.a70; have z70 := L.z70; have v70 := L.v70; have u70 := run_underlying L.t70
  have t37 := L.t37; have a37 := L.a37; have z37 := L.z37; have v37 := L.v37; have u37 := run_underlying L.t37
  have t127 := L.t127; have a127 := L.a127; have z127 := L.z127; have v127 := L.v127; have u127 := run_underlying L.t127
  have t3 := L.t3; have a3 := L.a3; have z3 := L.z3; have v3 := L.v3; have u3 := run_underlying L.t3
  have t9 := L.t9; have a9 := L.a9; have z9 := L.z9; have v9 := L.v9; have u9 := run_underlying L.t9
  have t5 := X.t5; have a5 := X.a5; have z5 := X.z5; have v5 := X.v5; have u5 := run_underlying X.t5
  go_enter L.f169, Body.n169_ntmps ρ
  go_wp2
  go_region_o
  all_goals (go_wp2; go_ret; exact ⟨rfl, rfl⟩)
end

section
variable {P : Program} {base : Base} {G : Gh} {h : CHeap} {w : World} {ρ : Ren}

/-- A variable's cell is written. -/
theorem post_cell (I : Inv base G h w) {b ab d o : Nat} {cs : List CVal} {c : CVal} {u : Value} (hm : G.mu b = some (ab, d)) (hb : h.get b = some (.cells cs)) (ho : o < cs.length) (hc : VR G c u) (hf : c.flat = true) :
    Post base (· = h.next) G h w G (h.set b (.cells (setCells cs o [c]))) (w.setCells ab o [u]) := by
  obtain ⟨own, I⟩ := I
  obtain ⟨hbn, hab, hown, hbk⟩ := I.mus b ab d hm
  obtain ⟨hl, hcel⟩ := (I.ents b _ hb).2 ab d hm
  have hlive : ∀ j, j < 1 → own ab (o + j) = some (.m b) ∧ Live w ab (o + j) := fun j hj => hown (o + j) (by omega)
  have hvs : VRs G [c] [u] := VRs.cons hc (VRs.nil G)
  refine post_write I (b := b) (x := .m b) (.inl rfl) hab (fun j hj => hlive j (by simpa using hj)) hb (fun b' hne => get_set_other hne) (fun q hq => ?_) rfl rfl (nodup_set h b _ I.nod) (fun c kvs h9 => by rw [get_set, if_pos rfl, hb] at h9; cases h9)
  rw [get_set_self hb] at hq
  cases hq
  intro ab' k hm'
  rw [hm] at hm'
  cases hm'
  have hxl : o + [c].length ≤ cs.length := by simp; omega
  refine ⟨by rw [length_setCells _ _ _ hxl, hl], fun i c' hi => ?_⟩
  rw [getElem?_setCells _ _ _ hxl] at hi
  split at hi
  · rename_i hin
    exact ⟨by have := List.mem_of_getElem? hi; simp at this; rw [this]; exact hf, holds_in (fun j hj => (hlive j (by simpa using hj)).2) hvs hin hi⟩
  · rename_i hout
    obtain ⟨h1, v, hv, hr⟩ := hcel i c' hi
    exact ⟨h1, v, by rw [setCells_out (fun _ => by simp at hout ⊢; omega)]; exact hv, hr⟩

/-- Where a Builder lies in a block. -/
def ccOks (P : Program) (B : TypeId) (oks : List (Nat × Nat)) : Bool :=
  oks.all fun p => decide (p.1 ≠ 0) && (decide (p.2 < szOf p.1) && liesAt P P.depth (tyOf p.1) (szOf p.1 / P.cellsOf (tyOf p.1)) p.2 B 1)

theorem hasPair_mem : ∀ {l : List (Nat × Nat)} {x y : Nat}, hasPair l x y = true → (x, y) ∈ l
  | (a, b) :: r, x, y, h => by
    simp only [hasPair, Bool.or_eq_true, Bool.and_eq_true, beq_iff_eq] at h
    rcases h with ⟨rfl, rfl⟩ | h
    · simp
    · exact List.mem_cons_of_mem _ (hasPair_mem h)

theorem post_call {v : CVal} {h' : CHeap} {G' : Gh} {u : Value} {w' : World} (hv : VR G' v u) (hp : Post base (· = h.next) G h w G' h' w') : CallPost base G h w v h' u w' :=
  ⟨G', hv, post_ex hp fun j hj hlt _ => absurd hlt (by omega)⟩

theorem sim_copyCheck (L : Lays.n240 P ρ) (hname : ((Body.n240 ρ).name == "runtime.NumGoroutine") = false) (hs : (P.info? (ρ.t 72)).map (·.size) = some 2) {oks : List (Nat × Nat)} (hok : ccOks P (ρ.t 72) oks = true) : SimPrim P base (ρ.f 240) (pCopyCheck oks) := by
  intro G h w xs us v h' hp I hr
  unfold pCopyCheck at hp
  split at hp
  · rename_i b d o
    obtain ⟨X, rfl, hX⟩ := vrs_one hr
    split at hp
    · rename_i hpair
      have hm0 := List.all_eq_true.1 hok _ (hasPair_mem hpair)
      simp only [Bool.and_eq_true, decide_eq_true_eq] at hm0
      obtain ⟨hd0, ho, hlies⟩ := hm0
      cases hX with
      | ptr hm =>
        rename_i ab
        have I0 := I
        obtain ⟨own, Io⟩ := I0
        obtain ⟨hbn, hab, hown, hbk⟩ := Io.mus b ab d hm
        have hsh := hbk.2 hd0
        have hent : (callFunc (ρ.f 240) ⟨[.pointer (some ⟨ab, o, none⟩)]⟩).run P w = .ok (.enter (ρ.f 240) ⟨[.pointer (some ⟨ab, o, none⟩)]⟩) w :=
          run_enter (c := ((Body.n240 ρ).body).getD .skip) L.f240 hname (by rfl) _ w
        split at hp
        · rename_i cs hg
          obtain ⟨hl, hcel⟩ := (Io.ents b _ hg).2 ab d hm
          have hcl : o < cs.length := by omega
          obtain ⟨hfl, z, hz, hzr⟩ := hcel o _ (getElem?_nth hcl)
          split at hp
          · rename_i hnil
            cases hp
            rw [hnil] at hzr
            cases hzr
            refine .inr ⟨_, _, hent, ?_⟩
            refine (cc_fresh L hs ab o w hz hsh ho hlies (hown o ho).2.2).mono fun e w' ⟨he, hw'⟩ => ⟨_, he, ?_⟩
            subst hw'
            exact post_call (.tup rfl (VRs.nil G).2) (post_cell I hm hg hcl (.ptr hm) rfl)
          · rename_i b' d' o' hptr
            split at hp
            · rename_i hc
              simp only [Bool.and_eq_true, beq_iff_eq] at hc
              obtain ⟨rfl, rfl, rfl⟩ := hc
              cases hp
              rw [hptr] at hzr
              cases hzr with
              | ptr hm2 =>
                rw [hm] at hm2
                cases hm2
                refine .inr ⟨_, _, hent, ?_⟩
                refine (cc_used L hs ab o' w hz).mono fun e w' ⟨he, hw'⟩ => ⟨_, he, ?_⟩
                subst hw'
                exact ⟨G, .tup rfl (VRs.nil G).2, .refl I⟩
            · cases hp
          · cases hp
        · cases hp
    · cases hp
  · cases hp
end
end Go.CI

/- strings.Builder.String as a function of the interpreter's own: it is the model's. -/
set_option linter.unusedVariables false
set_option linter.unusedSimpArgs false
namespace Go.CI
open Go.Shelf Go.RowKit Go.Lib Go.Proofs

section
variable {P : Program} {base : Base} {G : Gh} {h : CHeap} {w : World} {ρ : Ren}

theorem freeze_heap {ab o n : Nat} {c : Array Value} {T lo hi : Nat} (hn : n ≠ 0) (hb : w.heap[ab]? = some (.cells c T (lo, hi))) (a : Nat) :
    (w.freeze ⟨ab, o, none⟩ n).heap[a]? = if a = ab then some (.cells c T (if lo == hi then (o, o + n) else (min lo o, max hi (o + n)))) else w.heap[a]? := by
  unfold World.freeze
  rw [if_neg hn]
  simp only [Array.getElem?_modify]
  by_cases h1 : ab = a
  · subst h1
    rw [if_pos rfl, if_pos rfl, hb]; rfl
  · rw [if_neg h1, if_neg (fun e => h1 e.symm)]

theorem nth_none {l : List CVal} {i : Nat} (h : l.length ≤ i) : nth l i = .undef := by rw [nth_eq, List.getElem?_eq_none h]; rfl

theorem byteVals_eq : ∀ {es : List CVal} {l : List UInt8}, byteVals es = some l → es = l.map (fun x => CVal.int .u8 x.toNat)
  | [], l, h => by simp only [byteVals] at h; cases h; rfl
  | e :: es, l, h => by
    cases e <;> try (simp [byteVals] at h; done)
    rename_i k n
    cases k <;> simp only [byteVals] at h <;> first | (cases h; done) | skip
    split at h
    · rename_i hn
      simp only [Bool.and_eq_true, decide_eq_true_eq] at hn
      obtain ⟨l', hl, rfl⟩ := Option.map_eq_some_iff.1 h
      rw [byteVals_eq hl]
      simp only [List.map_cons, List.cons.injEq, and_true, CVal.int.injEq, true_and]
      rw [UInt8.toNat_ofNat']
      omega
    · cases h

theorem freeze_size (a : Addr) (n : Nat) : (w.freeze a n).heap.size = w.heap.size := by
  unfold World.freeze
  split <;> simp

set_option maxHeartbeats 1000000 in
/-- A row is written no more. -/
theorem post_rowfreeze (I : Inv base G h w) {b ver ab ao k cap T o n : Nat} {es : List CVal} {q0 : CObj} (hb : h.get b = some q0) (hq0 : q0 = .row ver es ∨ q0 = .frow ver es) (ht : h.ty b = some T) (hr : G.rw b ver = some (ab, ao, k, cap)) (hn : n ≠ 0)
    (hsz : ∀ N, w.shape? ab = some (T, N) → o + n ≤ N) :
    Post base (fun _ => False) G h w G (h.set b (.frow ver es)) (w.drew.freeze ⟨ab, o, none⟩ n) := by
  obtain ⟨own, I⟩ := I
  obtain ⟨hRow, hsole⟩ := I.tys b T ht ver _ hr
  obtain ⟨c, lo, hi, hheap, hlh, hhc⟩ := hRow
  obtain ⟨hbn, hvmax, hab, hcap, hown, hel⟩ : b < h.next ∧ (∀ v x, G.rw b v = some x → v ≤ ver) ∧ base ≤ ab ∧ es.length ≤ cap ∧ (∀ i, i < cap * k → own ab (ao + i) = some (.r b)) ∧
      ∀ (i : Nat) (e : CVal), es[i]? = some e → e.cells.length = k ∧ ∀ (j : Nat) (c : CVal), e.cells[j]? = some c → c.flat = true ∧ Holds G w ab (ao + i * k + j) c := by
    obtain ⟨x1, x2⟩ := I.ents b _ hb
    rcases hq0 with rfl | rfl
    · obtain ⟨x3, x4⟩ := x2
      obtain ⟨y1, y2, y3, y4⟩ := x4 ab ao k cap hr
      exact ⟨x1, x3, y1, y2, fun i hi => (y3 i hi).1, y4⟩
    · obtain ⟨x3, x4⟩ := x2
      obtain ⟨y1, y2, y3, y4⟩ := x4 ab ao k cap hr
      exact ⟨x1, x3, y1, y2, fun i hi => (y3 i hi).1, y4⟩
  have hsz' : o + n ≤ c.size := hsz c.size (by unfold World.shape?; rw [hheap])
  have hH := fun a => freeze_heap (w := w.drew) (o := o) hn (show w.drew.heap[ab]? = _ from hheap) a
  have hHo : ∀ a, a ≠ ab → (w.drew.freeze ⟨ab, o, none⟩ n).heap[a]? = w.heap[a]? := fun a ha => by rw [hH, if_neg ha]; rfl
  have hHs := hH ab
  rw [if_pos rfl] at hHs
  have hcell : ∀ a i, (w.drew.freeze ⟨ab, o, none⟩ n).cell? ⟨a, i, none⟩ = w.cell? ⟨a, i, none⟩ := fun a i => by
    by_cases ha : a = ab
    · subst ha
      unfold World.cell?
      simp only [hHs, hheap]
    · unfold World.cell?
      simp only [hHo a ha]
  have hfr : ∀ a i, a ≠ ab → (w.drew.freeze ⟨ab, o, none⟩ n).frozen? ⟨a, i, none⟩ = w.frozen? ⟨a, i, none⟩ := fun a i ha => by
    unfold World.frozen?
    simp only [hHo a ha]
  have hsize : (w.drew.freeze ⟨ab, o, none⟩ n).heap.size = w.heap.size := freeze_size _ _
  have hshape : ∀ a, (w.drew.freeze ⟨ab, o, none⟩ n).shape? a = w.shape? a := fun a => by
    by_cases ha : a = ab
    · subst ha
      unfold World.shape?
      simp only [hHs, hheap]
    · unfold World.shape?
      simp only [hHo a ha]
  have hmap : ∀ (a : Nat) (es : Array MapEntry) (ck : Nat), w.heap[a]? = some (Obj.map es ck) → (w.drew.freeze ⟨ab, o, none⟩ n).heap[a]? = some (Obj.map es ck) := fun a es ck hm => by
    by_cases ha : a = ab
    · rw [ha, hheap] at hm; cases hm
    · rw [hHo a ha]; exact hm
  have hitr : ∀ (a : Nat) (m : Option Nat) (s : Nat) (sn : Array Nat) (l : Nat), w.heap[a]? = some (Obj.mapIter m s sn l) → (w.drew.freeze ⟨ab, o, none⟩ n).heap[a]? = some (Obj.mapIter m s sn l) := fun a m s sn l hm => by
    by_cases ha : a = ab
    · rw [ha, hheap] at hm; cases hm
    · rw [hHo a ha]; exact hm
  have hends : (if lo == hi then (o, o + n) else (min lo o, max hi (o + n))).1 ≤ (if lo == hi then (o, o + n) else (min lo o, max hi (o + n))).2 ∧ (if lo == hi then (o, o + n) else (min lo o, max hi (o + n))).2 ≤ c.size := by
    split
    · exact ⟨by show o ≤ o + n; omega, hsz'⟩
    · refine ⟨?_, ?_⟩
      · show min lo o ≤ max hi (o + n); omega
      · show max hi (o + n) ≤ c.size; omega
  have hrb : ∀ a T, RowB w a T → RowB (w.drew.freeze ⟨ab, o, none⟩ n) a T := fun a T' hr' => by
    obtain ⟨c', lo', hi', h1, h2, h3⟩ := hr'
    by_cases ha : a = ab
    · rw [ha, hheap] at h1
      have e := Option.some.inj h1
      injection e with _ e2 _
      rw [← e2, ha]
      exact ⟨c, _, _, hHs, hends.1, hends.2⟩
    · exact ⟨c', lo', hi', by rw [hHo a ha]; exact h1, h2, h3⟩
  have hclean : ∀ a, Clean w a → Clean (w.drew.freeze ⟨ab, o, none⟩ n) a := fun a hc => by
    refine ⟨by rw [hsize]; exact hc.1, fun st T' N hs => ?_⟩
    rw [hshape] at hs
    by_cases ha : a = ab
    · subst ha
      unfold World.shape? at hs
      rw [hheap] at hs
      cases hs
      unfold World.frozen?
      simp only [hHs]
      have := hends.2
      simp only [Bool.and_eq_false_iff, decide_eq_false_iff_not]
      right
      omega
    · rw [hfr a _ ha]; exact hc.2 st T' N hs
  have hh : ∀ a i x, Holds G w a i x → Holds G (w.drew.freeze ⟨ab, o, none⟩ n) a i x := fun a i x ⟨v, h1, h2⟩ => ⟨v, by rw [hcell]; exact h1, h2⟩
  have hlive : ∀ a i y, own a i = some y → y ≠ .r b → Live w a i → Live (w.drew.freeze ⟨ab, o, none⟩ n) a i := fun a i y hy hne hl => by
    have ha : a ≠ ab := fun e => by subst e; exact hne (hsole i y hy)
    exact ⟨by obtain ⟨v, hv⟩ := hl.1; exact ⟨v, by rw [hcell]; exact hv⟩, by rw [hfr a i ha]; exact hl.2⟩
  have hbel : Below base w (w.drew.freeze ⟨ab, o, none⟩ n) := Go.Lib.below_freeze (Below.refl base w).drew hab n
  refine ⟨.refl G, ⟨own, ?_⟩, hbel, Nat.le_refl _, fun i _ _ hf => ⟨hf.1, hf.2.1, hf.2.2.1, ?_⟩⟩
  · exact {
      fzs := fun ab o c hf => ⟨(I.fzs ab o c hf).1, hh _ _ _ (I.fzs ab o c hf).2⟩
      mus := fun b' a k' hm => by
        obtain ⟨h1, h2, h3, h4⟩ := I.mus b' a k' hm
        refine ⟨h1, h2, fun i hi => ⟨(h3 i hi).1, hlive _ _ _ (h3 i hi).1 (by simp) (h3 i hi).2⟩, fun hk => ⟨(h4.1 hk).1, ?_⟩, fun hk => by rw [hshape]; exact h4.2 hk⟩
        obtain ⟨es, ck, h5⟩ := (h4.1 hk).2
        exact ⟨es, ck, hmap _ _ _ h5⟩
      rws := I.rws
      tks := I.tks
      ents := fun b' q hq => by
        by_cases hbb : b' = b
        · subst hbb
          rw [get_set_self hb] at hq
          cases hq
          refine ⟨hbn, hvmax, fun ab2 ao2 k2 cap2 hr2 => ?_⟩
          rw [hr] at hr2
          obtain ⟨rfl, rfl, rfl, rfl⟩ : ab = ab2 ∧ ao = ao2 ∧ k = k2 ∧ cap = cap2 := by simpa using hr2
          refine ⟨hab, hcap, fun i hi => ⟨hown i hi, ?_⟩, fun i e hie => ⟨(hel i e hie).1, fun j x hj => ⟨((hel i e hie).2 j x hj).1, hh _ _ _ ((hel i e hie).2 j x hj).2⟩⟩⟩
          rw [hsize]
          exact I.old _ _ _ (hown i hi)
        · rw [get_set_other hbb] at hq
          obtain ⟨h1, h2⟩ := I.ents b' q hq
          refine ⟨h1, ?_⟩
          cases q with
          | cells cs => exact fun ab k hm => ⟨(h2 ab k hm).1, fun i c hi => ⟨((h2 ab k hm).2 i c hi).1, hh _ _ _ ((h2 ab k hm).2 i c hi).2⟩⟩
          | row ver es => exact ⟨h2.1, fun ab ao k cap hr => let ⟨x1, x2, x3, x4⟩ := h2.2 ab ao k cap hr; ⟨x1, x2, fun i hi => ⟨(x3 i hi).1, hlive _ _ _ (x3 i hi).1 (by simpa using hbb) (x3 i hi).2⟩, fun i e hie => ⟨(x4 i e hie).1, fun j c hj => ⟨((x4 i e hie).2 j c hj).1, hh _ _ _ ((x4 i e hie).2 j c hj).2⟩⟩⟩⟩
          | frow ver es => exact ⟨h2.1, fun ab ao k cap hr => let ⟨x1, x2, x3, x4⟩ := h2.2 ab ao k cap hr; ⟨x1, x2, fun i hi => ⟨(x3 i hi).1, by rw [hsize]; exact (x3 i hi).2⟩, fun i e hie => ⟨(x4 i e hie).1, fun j c hj => ⟨((x4 i e hie).2 j c hj).1, hh _ _ _ ((x4 i e hie).2 j c hj).2⟩⟩⟩⟩
          | tok ver => exact ⟨h2.1, fun ab e k room ht => ⟨(h2.2 ab e k room ht).1, fun i hi => ⟨((h2.2 ab e k room ht).2 i hi).1, hlive _ _ _ ((h2.2 ab e k room ht).2 i hi).1 (by simp) ((h2.2 ab e k room ht).2 i hi).2⟩⟩⟩
          | map ck kvs => exact fun ab hm => let ⟨es, h3, h4⟩ := h2 ab hm; ⟨es, hmap _ _ _ h3, h4⟩
      old := fun ab o x hx => by rw [hsize]; exact I.old ab o x hx
      top := by rw [hsize]; exact I.top
      nod := nodup_set h b _ I.nod
      cln := fun b v x hx => hclean _ (I.cln b v x hx)
      gls := I.gls
      tyk := I.tyk
      tys := fun b T ht v x hx => ⟨hrb _ _ (I.tys b T ht v x hx).1, (I.tys b T ht v x hx).2⟩
      its := fun i x h1 b' kvs h2 => by
        have hib : i ≠ b := fun e => by subst e; rw [get_set_self hb] at h2; cases h2
        rw [get_set_other hib] at h2
        obtain ⟨k1, k2, ⟨mb, s, sn, l, k3, k4, k5⟩, k6⟩ := I.its i x h1 b' kvs h2
        exact ⟨k1, k2, ⟨mb, s, sn, l, k3, hitr _ _ _ _ _ k4, k5⟩, k6⟩
      itj := fun i x j y hij h1 h2 h3 h4 => by
        have hib : i ≠ b := fun e => by obtain ⟨_, _, h3⟩ := h3; subst e; rw [get_set_self hb] at h3; cases h3
        have hjb : j ≠ b := fun e => by obtain ⟨_, _, h4⟩ := h4; subst e; rw [get_set_self hb] at h4; cases h4
        rw [get_set_other hib] at h3
        rw [get_set_other hjb] at h4
        exact I.itj i x j y hij h1 h2 h3 h4
      lits := fun b x ht hx => by rw [hsize]; exact I.lits b x ht hx }
  · have h0 := hf.2.2.2
    have : i ≠ b := fun e => by subst e; rw [hb] at h0; cases h0
    rw [get_set_other this]; exact h0

theorem rowOf_some {q : Option CObj} {v : Nat} {es : List CVal} (h : rowOf q = some (v, es)) : ∃ q0, q = some q0 ∧ (q0 = .row v es ∨ q0 = .frow v es) := by
  unfold rowOf at h
  split at h
  · cases h; exact ⟨_, rfl, .inl rfl⟩
  · cases h; exact ⟨_, rfl, .inr rfl⟩
  · cases h

set_option maxHeartbeats 1000000 in
theorem sim_bString (L : Lays.n169 P ρ) (X : Builder.Extra P ρ) (hname : ((Body.n169 ρ).name == "runtime.NumGoroutine") = false) : SimPrim P base (ρ.f 169) (pBString (ρ.t 5)) := by
  intro G h w xs us v h' hp I hr
  unfold pBString at hp
  split at hp
  · rename_i b d o
    obtain ⟨X0, rfl, hX⟩ := vrs_one hr
    split at hp
    · rename_i cs hg
      cases hX with
      | ptr hm =>
        rename_i ab
        have I0 := I
        obtain ⟨own, Io⟩ := I0
        have hent : (callFunc (ρ.f 169) ⟨[.pointer (some ⟨ab, o, none⟩)]⟩).run P w = .ok (.enter (ρ.f 169) ⟨[.pointer (some ⟨ab, o, none⟩)]⟩) w :=
          run_enter (c := ((Body.n169 ρ).body).getD .skip) L.f169 hname (by rfl) _ w
        obtain ⟨hl, hcel⟩ := (Io.ents b _ hg).2 ab d hm
        split at hp
        · rename_i hnil
          cases hp
          have hcl : o + 1 < cs.length := by
            rcases Nat.lt_or_ge (o + 1) cs.length with h1 | h1
            · exact h1
            · exfalso; rw [nth_none h1] at hnil; cases hnil
          obtain ⟨hfl, z, hz, hzr⟩ := hcel (o + 1) _ (getElem?_nth hcl)
          rw [hnil] at hzr
          cases hzr
          refine .inr ⟨_, _, hent, ?_⟩
          refine (bs_nil L X ab o w hz).mono fun e w' ⟨he, hw'⟩ => ⟨_, he, ?_⟩
          subst hw'
          exact ⟨G, vr_strOf rfl, ⟨.refl G, I.drew, (Below.refl _ _).drew, Nat.le_refl _, fun _ _ _ hf => hf⟩⟩
        · rename_i r ver off len href
          have hcl : o + 1 < cs.length := by
            rcases Nat.lt_or_ge (o + 1) cs.length with h1 | h1
            · exact h1
            · exfalso; rw [nth_none h1] at href; cases href
          obtain ⟨hfl, z, hz, hzr⟩ := hcel (o + 1) _ (getElem?_nth hcl)
          rw [href] at hzr
          split at hp
          · rename_i v0 es hrow0
            obtain ⟨q0, hrow, hq0⟩ := rowOf_some hrow0
            split at hp
            · rename_i hc
              simp only [Bool.and_eq_true, beq_iff_eq, decide_eq_true_eq] at hc
              obtain ⟨rfl, hle, hlen, hmost, hty⟩ := hc
              obtain ⟨l, hl1, hl2⟩ := Option.map_eq_some_iff.1 hp
              cases hl2
              have hes := byteVals_eq hl1
              cases hzr with
              | ref hrw hk hlc hsp ha =>
                rename_i ab1 ao1 cap1 a1
                have hlcut := length_cut off (off + len) es hle
                have hnl : l.length = len := by
                  have := congrArg List.length hes
                  simp at this; omega
                rcases ha with ha | rfl
                · omega
                have hel1 : ∀ (i : Nat) (e : CVal), es[i]? = some e → e.cells.length = 1 ∧ ∀ (j : Nat) (c : CVal), e.cells[j]? = some c → c.flat = true ∧ Holds G w ab1 (ao1 + i * 1 + j) c := by
                  have x2 := (Io.ents r _ hrow).2
                  rcases hq0 with rfl | rfl
                  · exact (x2.2 ab1 ao1 1 cap1 hrw).2.2.2
                  · exact (x2.2 ab1 ao1 1 cap1 hrw).2.2.2
                obtain ⟨hRow, _⟩ := Io.tys r _ hty _ _ hrw
                obtain ⟨c, lo, hi, hheap, hlh, hhc⟩ := hRow
                have hshape : w.shape? ab1 = some (ρ.t 5, c.size) := by unfold World.shape?; rw [hheap]
                have hcv : ∀ j x, l[j]? = some x → w.cell? ((⟨ab1, ao1 + off * 1, none⟩ : Addr).add j) = some (.int .u8 x.toNat) := fun j x hj => by
                  have h1 : (cut off (off + len) es)[j]? = some (.int .u8 x.toNat) := by rw [hes, List.getElem?_map, hj]; rfl
                  have hjl : j < len := by have := (List.getElem?_eq_some_iff.1 hj).1; omega
                  have h2 : es[off + j]? = some (.int .u8 x.toNat) := by
                    unfold cut at h1
                    rw [List.getElem?_drop, List.getElem?_take_of_lt (by omega)] at h1
                    exact h1
                  obtain ⟨_, u, hu, hr⟩ := (hel1 _ _ h2).2 0 _ rfl
                  cases hr
                  rw [add_eq rfl]
                  rw [show ao1 + (off + j) * 1 + 0 = ao1 + off * 1 + j by omega] at hu
                  exact hu
                have hfit : ao1 + off * 1 + len ≤ c.size := by
                  have hlast : len - 1 < l.length := by omega
                  have := hcv (len - 1) _ (List.getElem?_eq_getElem hlast)
                  rw [add_eq rfl] at this
                  unfold World.cell? at this
                  simp only [hheap] at this
                  have := (Array.getElem?_eq_some_iff.1 this).1
                  omega
                have hl0 : l ≠ [] := fun e => by subst e; simp at hnl; omega
                have hmost' : len ≤ 1073741824 := hmost
                refine .inr ⟨_, _, hent, ?_⟩
                refine (bs_row L X ab o ab1 (ao1 + off * 1) (cap1 - off) c.size l w (by rw [hnl]; exact hz) hl0 (by omega) hshape (by omega) (by omega) hcv).mono fun e w' ⟨he, hw'⟩ => ⟨_, he, ?_⟩
                subst hw'
                exact ⟨G, vr_strOf rfl, post_rowfreeze I hrow hq0 hty hrw (by omega) fun N hN => by rw [hshape] at hN; cases hN; omega⟩
            · cases hp
          · cases hp
        · cases hp
    · cases hp
  · cases hp
end
end Go.CI

/- bytealg.MakeNoZero as a function of the interpreter's own. -/
set_option linter.unusedVariables false
set_option linter.unusedSimpArgs false
namespace Go.CI
open Go.Shelf Go.RowKit Go.Lib Go.Proofs

section
variable {P : Program} {base : Base}

theorem sim_makeNoZero {f t e : Nat} (ht : P.underlying t = some (.slice e)) {ps : Array TypeId} (X : ExtOk P f (Extern.BytealgMakeNoZero.makeNoZero ps #[t])) : SimPrim P base f (pMakeNoZero e) := by
  intro G h w xs us v h' hp I hr
  unfold pMakeNoZero at hp
  split at hp
  · rename_i n
    split at hp
    · rename_i hn
      simp only [Bool.and_eq_true, decide_eq_true_eq] at hn
      have hm : (sizeMost : Int) = 1073741824 := rfl
      cases hp
      obtain ⟨x, rfl, hx⟩ := vrs_one hr
      have := vr_int (c := .nilp) hx
      subst this
      obtain ⟨cs, hrun, hle, _⟩ := Lib.run_makeNoZero (P := P) w ps t e ht n.toNat (by omega)
      rw [Int.toNat_of_nonneg hn.1] at hrun
      obtain ⟨fm, h1, h2, h3, h4, h5⟩ := X.fn
      have I2 := (I.bump 1).drew.drew
      have hf : Fresh G { h with next := h.next + 1 } h.next := I.freshAt (Nat.le_refl _) 1
      have hpost := post_new_row (T := e) (lo := 0) (hi := 0) (b := h.next) (ver := 0) (k := 1) (cap := cs.size) (es := []) (arr := cs) (h' := (({ h with next := h.next + 1 } : CHeap).put h.next (.row 0 [])).note h.next (e + 1)) I2 (Nat.le_refl _) (Nat.lt_succ_self _) (fresh_lt hf).1
        (fun _ he => by simp at he) (fun _ he => by simp at he) (Nat.zero_le _) (by omega) (fun i c hi => by simp [flatC] at hi)
        (by rw [note_get]; exact put_self _ _ _) (fun b' hne => by rw [note_get]; exact put_other hne) (by rw [note_next]; rfl) (by rw [note_ents]; obtain ⟨_, I⟩ := I; exact nodup_put I.nod hf.2.2.2) ⟨Nat.le_refl _, Nat.zero_le _⟩ (new_ty (I.bump 1) hf (.inr rfl)) new_tyo
      refine .inl ⟨.slice (some ⟨w.heap.size, 0, none⟩) n.toNat cs.size, _, by rw [run_callFunc_extern h1 h2 h3 h4 h5, hrun]; rfl, G.withRw h.next 0 (w.heap.size, 0, 1, cs.size), vr_row0 (by omega) hle, ?_⟩
      have hp2 := hpost.drewL.drewL
      exact ⟨hp2.le, hp2.inv, hp2.below, by have := hp2.next; show h.next ≤ _; exact Nat.le_trans (Nat.le_succ _) this, fun i hi _ hfr => hp2.fresh i (Nat.lt_succ_of_lt hi) (by omega) ⟨hfr.1, hfr.2.1, hfr.2.2.1, hfr.2.2.2⟩⟩
    · cases hp
  · cases hp
end
end Go.CI

/- Calls that have been run already: each is a theorem of its own, that may lean on earlier ones. -/
set_option linter.unusedVariables false
namespace Go.CI
open Go.RowKit

section
variable {P : Program} {base : Base}

theorem TOk.getF {H : Hints} {t : CTree} (h : TOk P H base t.get) : TOk P H base t.getF := by
  have e : t.getF = t.get := funext fun f => t.getF_eq f
  rw [e]; exact h

theorem crun_of {T : Nat → Option CFn} {n f : Nat} {args : List CVal} {p : Option (CVal × CHeap) → Bool} (h : p (crunF T n f args noHeap) = true) : p (crun T n f args noHeap) = true := by
  rw [crunF_eq] at h; exact h
end
end Go.CI

/- strings.Index, as the library has it, is the interpreter's. -/
set_option linter.unusedVariables false
namespace Go.CI
open Go.Shelf Go.RowKit Go.Lib Go.Proofs

theorem hasFront_eq : ∀ (s p : List UInt8), hasFront s p = p.isPrefixOf s
  | s, [] => by cases s <;> rfl
  | [], _ :: _ => rfl
  | a :: x, b :: y => by
    show (a == b && hasFront x y) = (b == a && y.isPrefixOf x)
    rw [hasFront_eq x y, Bool.beq_comm (a := a)]

theorem idxSub_eq (p : List UInt8) : ∀ (s : List UInt8) (i : Nat), idxSub p s i = if Lib.index s p = -1 then -1 else Lib.index s p + i
  | [], i => by
    cases p with
    | nil => simp [idxSub, Lib.index]
    | cons b q => simp [idxSub, Lib.index]
  | a :: r, i => by
    unfold idxSub Lib.index
    rw [hasFront_eq]
    cases hp : p.isPrefixOf (a :: r) with
    | true => simp
    | false =>
      simp only [cond_false, Bool.false_eq_true, if_false]
      rw [idxSub_eq p r (i + 1)]
      have := Lib.index_ge r p
      by_cases h : Lib.index r p = -1
      · simp [h]
      · have h1 : (Lib.index r p == -1) = false := by simpa using h
        rw [if_neg h, h1]
        simp only [Bool.false_eq_true, if_false]
        rw [if_neg (by omega)]
        push_cast
        omega

theorem idxSub_zero (p s : List UInt8) : idxSub p s 0 = Lib.index s p := by
  rw [idxSub_eq]
  split
  · rename_i h; exact h.symm
  · simp

section
variable {P : Program} {base : Base} {ρ : Ren}

theorem sim_index (L : Lays.n219 P ρ) (hname : ((Body.n219 ρ).name == "runtime.NumGoroutine") = false) {m : Int} (hm : lookupG base.gl (ρ.g 1) = some [.int .i64 m]) : SimPrim P base (ρ.f 219) pIndex := by
  intro G h w xs vs v h' hp I hr
  unfold pIndex at hp
  split at hp
  · rename_i s p
    split at hp
    · rename_i hlen
      cases hp
      obtain ⟨x, y, rfl, hx, hy⟩ := vrs_two hr
      obtain ⟨t, rfl, ht⟩ := vr_str hx
      obtain ⟨u, rfl, hu⟩ := vr_str hy
      have I0 := I
      obtain ⟨own, Io⟩ := I0
      obtain ⟨_, hf⟩ := Io.gls _ _ hm 0 _ rfl
      obtain ⟨_, z, hz, hzr⟩ := Io.fzs _ _ _ hf
      cases hzr
      have hent : (callFunc (ρ.f 219) ⟨[.string t, .string u]⟩).run P w = .ok (.enter (ρ.f 219) ⟨[.string t, .string u]⟩) w :=
        run_enter (c := ((Body.n219 ρ).body).getD .skip) L.f219 hname (by rfl) _ w
      refine .inr ⟨_, _, hent, ?_⟩
      have hsz : t.size < 4294967281 := by
        have h1 : s.length < 4294967281 := by simpa using hlen
        have h2 := congrArg List.length ht
        simp at h2
        have h3 : t.size = t.data.size := rfl
        omega
      refine (Any.stringslite_Index L t u m w hsz hz).mono fun e w' ⟨he, hw⟩ => ⟨_, he, ?_⟩
      subst hw
      refine ⟨G, ?_, .refl I⟩
      rw [idxSub_zero, ← ht, ← hu]
      exact .int _ _
    · cases hp
  · cases hp
end
end Go.CI

/- What a law's row gives at the start: cells that are known, and the shape of the world. -/
set_option linter.unusedVariables false
namespace Go
open Go.RowKit
variable {H : Type} {enc : TypeId × Value → H}

/-- A law's row from its call's contract; what is listed and the world's shape are at hand. -/
theorem CI.returnsInHanded_laid {a : Assume} {C : Checked} {os : Os} {f : FuncId} {fn : Func} {s : ChangeSpec} {conds : List PathCond} {apart fresh handsOn again : Bool} {X : World → Array Value → Prop}
    (hX : ∀ (w w' : World) (args : Array Value), w.heap = w'.heap → X w args → X w' args)
    (own : ownKnob C.prog.godebug = none) (started : os.Started) (noInit : C.prog.inits.idxOf? f = none) (hfn : C.prog.funcs[f]? = some fn)
    (witness : ∃ (w : World) (tape : Tape) (i : Input), w.os = os ∧ (w.forCall tape i).Shaped C.prog ∧ i.vars = [] ∧ Input.okWide C.prog (w.forCall tape i) .any w.heap.size f i ∧
      ((s.pre enc C.prog fn conds apart (w.forCall tape i).memory i.args ∧ X (w.forCall tape i).memory i.args) ∧ sizedMet enc C.prog fn (OpenSpec.ofChange s) apart (w.forCall tape i).memory i.args) ∧ a.holds C.prog (lone (Frame.enter C.prog f i.args .normal) [] (w.forCall tape i)))
    (contract : ∀ (W : World) (base : Nat) (args : Array Value) (ds gs : List (DataW H)) (before : List MemPlace),
      (∀ (j : Nat) t v, fn.params[j]? = some t → args[j]? = some v → Value.okWide C.prog W .any base t v) →
      DataW.Whole enc C.prog fn.params.toList s.vars apart W args.toList ds gs before →
      X W args → W.ShapedOpen C.prog →
      Calls C.prog f args W fun e W' => ∃ v, e = .returned v ∧ s.post enc C.prog fn apart fresh handsOn again W args v W') :
    ReturnsInHanded a C os f .any (fun w args => (s.pre enc C.prog fn conds apart w args ∧ X w args) ∧ sizedMet enc C.prog fn (OpenSpec.ofChange s) apart w args) (s.post enc C.prog fn apart fresh handsOn again) := by
  refine returnsInHanded_of_calls own started noInit witness ?_
  intro w tape i _ hsh _ hok hpre hholds
  obtain ⟨_, _, _, fn', hfn', _, _, _, _, hval⟩ := hok
  have e : fn' = fn := Option.some.inj (hfn'.symm.trans hfn)
  subst e
  obtain ⟨⟨⟨ds, gs, before, hw, hc⟩, hx⟩, hz⟩ := hpre
  have hw' := DataW.Whole.of_heap (w' := w.forCall tape i) (by rfl) hw
  refine (contract (w.forCall tape i) w.heap.size i.args ds gs before hval hw' (hX _ _ _ (by rfl) hx) hsh).mono fun e W' ⟨v, he, hp⟩ => ?_
  subst he
  exact ChangeSpec.post_blind hp

namespace CI

/-- What the world's cells read as, where that is plain. -/
def Fw (w : World) (ab o : Nat) : Option CVal := match w.cell? ⟨ab, o, none⟩ with
  | some (.int k n) => some (.int k n)
  | some (.string s) => some (.str s.data.toList)
  | some (.iface t (.pointer (some a))) => match w.cell? a with
    | some (.string s) => some (.ifc t (.cptr [.str s.data.toList] 0))
    | _ => none
  | _ => none

theorem fw_holds {w : World} {ab o : Nat} {c : CVal} (h : Fw w ab o = some c) : Holds (Gh.of (Fw w)) w ab o c := by
  unfold Fw at h
  split at h
  · rename_i k n hc; cases h; exact ⟨_, hc, .int _ _⟩
  · rename_i s hc; cases h; exact ⟨_, hc, .str _⟩
  · rename_i t a hc
    split at h
    · rename_i s hs
      cases h
      have hsp : a.spot = none := World.cell?_spot hs
      obtain ⟨b, p, sp⟩ := a
      have hsp : sp = none := hsp
      subst hsp
      refine ⟨_, hc, .ifc (VR.cptr (o := 0) (ao := p) fun i c hi => ?_)⟩
      match i, hi with
      | 0, hi => cases hi; exact ⟨rfl, by show Fw w b (p + 0) = _; unfold Fw; rw [Nat.add_zero, hs]⟩
      | i + 1, hi => simp at hi
    · cases h
  · cases h

/-- The variables hold what is said. -/
def GlOk (w : World) (gl : List (Nat × List CVal)) : Prop := ∀ g cs, lookupG gl g = some cs → ∀ (i : Nat) (c : CVal), cs[i]? = some c → c.flat = true ∧ Fw w g i = some c

theorem GlOk.nil {w : World} : GlOk w [] := fun g cs h => by cases h
theorem GlOk.cons {w : World} {g : Nat} {c : CVal} {gl : List (Nat × List CVal)} (hc : c.flat = true) (h : Fw w g 0 = some c) (r : GlOk w gl) : GlOk w ((g, [c]) :: gl) := fun g' cs h' i c' hi => by
  simp only [lookupG] at h'
  split at h'
  · rename_i e
    cases h'
    have e : g = g' := by simpa using e
    subst e
    match i, hi with
    | 0, hi => cases hi; exact ⟨hc, h⟩
    | i + 1, hi => simp at hi
  · exact r g' cs h' i c' hi
theorem GlOk.int {w : World} {g : Nat} {k : IntKind} {m : Int} {gl : List (Nat × List CVal)} (h : w.cell? ⟨g, 0, none⟩ = some (.int k m)) (r : GlOk w gl) : GlOk w ((g, [.int k m]) :: gl) :=
  .cons rfl (by unfold Fw; rw [h]) r
theorem GlOk.err {w : World} {g : Nat} {t : TypeId} {a : Addr} {s : ByteArray} {l : List UInt8} {gl : List (Nat × List CVal)} (h1 : w.cell? ⟨g, 0, none⟩ = some (.iface t (.pointer (some a)))) (h2 : w.cell? a = some (.string s)) (hs : s.data.toList = l) (r : GlOk w gl) :
    GlOk w ((g, [.ifc t (.cptr [.str l] 0)]) :: gl) :=
  .cons rfl (by unfold Fw; rw [h1]; simp only [h2, hs]) r
theorem begins_w {w : World} {gl : List (Nat × List CVal)} (h : GlOk w gl) : Begins w gl (Fw w) := ⟨fun ab o c hc => fw_holds hc, h⟩

theorem GlobsIn.cons {a : List (Nat × List CVal)} {g : Nat} {c : List CVal} (h : lookupG a g = none) : GlobsIn a ((g, c) :: a) := fun g' cs h' => by
  unfold lookupG
  by_cases e : g = g'
  · subst e; rw [h] at h'; cases h'
  · rw [if_neg (by simpa using e)]; exact h'

end CI
end Go

/- stringslite.Clone, as the library has it: the same text. -/
set_option linter.unusedVariables false
namespace Go.CI
open Go.Shelf Go.RowKit Go.Lib Go.Proofs

/-- What only makes new blocks turns nothing of what is known. -/
theorem Inv.below {base : Base} {G : Gh} {h : CHeap} {w w' : World} (I : Inv base G h w) (hb : Below w.heap.size w w') : Inv base G h w' := by
  obtain ⟨own, I⟩ := I
  have hc : ∀ ab i v, w.cell? ⟨ab, i, none⟩ = some v → w'.cell? ⟨ab, i, none⟩ = some v := fun ab i v hv => by rw [hb.cell (p := ⟨ab, i, none⟩) (cell_lt hv)]; exact hv
  have hl : ∀ ab i, Live w ab i → Live w' ab i := fun ab i ⟨⟨v, h1⟩, h2⟩ => ⟨⟨v, hc _ _ _ h1⟩, by rw [hb.frozen (p := ⟨ab, i, none⟩) (cell_lt h1)]; exact h2⟩
  have hh : ∀ ab i c, Holds G w ab i c → Holds G w' ab i c := fun ab i c ⟨v, h1, h2⟩ => ⟨v, hc _ _ _ h1, h2⟩
  have hg : ∀ (ab : Nat) (o : Obj), w.heap[ab]? = some o → w'.heap[ab]? = some o := fun ab o ho => by
    rw [hb.block ab (by rcases Nat.lt_or_ge ab w.heap.size with h | h; exact h; rw [Array.getElem?_eq_none h] at ho; cases ho)]; exact ho
  have hsh : ∀ ab x, w.shape? ab = some x → w'.shape? ab = some x := fun ab x hx => by
    unfold World.shape? at hx ⊢
    cases ho : w.heap[ab]? with
    | none => rw [ho] at hx; cases hx
    | some o => rw [hg ab o ho]; rw [ho] at hx; exact hx
  have hrb : ∀ ab T, RowB w ab T → RowB w' ab T := fun ab T ⟨c, lo, hi, h1, h2⟩ => ⟨c, lo, hi, hg _ _ h1, h2⟩
  refine ⟨own, fun ab o c hf => ⟨(I.fzs ab o c hf).1, hh _ _ _ (I.fzs ab o c hf).2⟩, fun b ab k hm => ⟨(I.mus b ab k hm).1, (I.mus b ab k hm).2.1, fun i hi => ⟨((I.mus b ab k hm).2.2.1 i hi).1, hl _ _ ((I.mus b ab k hm).2.2.1 i hi).2⟩, fun hk => ⟨((I.mus b ab k hm).2.2.2.1 hk).1, let ⟨es, ck, h1⟩ := ((I.mus b ab k hm).2.2.2.1 hk).2; ⟨es, ck, hg _ _ h1⟩⟩, fun hk => hsh _ _ ((I.mus b ab k hm).2.2.2.2 hk)⟩, I.rws, I.tks, fun b o ho => ⟨(I.ents b o ho).1, ?_⟩, fun ab o x hx => Nat.lt_of_lt_of_le (I.old ab o x hx) hb.size, Nat.le_trans I.top hb.size, I.nod,
    fun b v x hx => ⟨Nat.lt_of_lt_of_le (I.cln b v x hx).1 hb.size, fun st T n hq => by
      have hlt := (I.cln b v x hx).1
      rw [hb.frozen (p := ⟨x.1, n, none⟩) hlt]
      refine (I.cln b v x hx).2 st T n ?_
      unfold World.shape? at hq ⊢
      rw [← hb.block x.1 hlt]; exact hq⟩, I.gls, I.tyk, fun b T ht v x hx => ⟨hrb _ _ (I.tys b T ht v x hx).1, (I.tys b T ht v x hx).2⟩, fun i x h1 b kvs h2 => by
    obtain ⟨k1, k2, ⟨mb, s, sn, l, k3, k4, k5⟩, k6⟩ := I.its i x h1 b kvs h2
    exact ⟨k1, k2, ⟨mb, s, sn, l, k3, hg _ _ k4, k5⟩, k6⟩, I.itj, fun b x ht hx => let ⟨h0, h1, h2, h3⟩ := I.lits b x ht hx; ⟨h0, Nat.lt_of_lt_of_le h1 hb.size, h2, h3⟩⟩
  have he := (I.ents b o ho).2
  cases o with
  | cells cs => exact fun ab k hm => ⟨(he ab k hm).1, fun i c hi => ⟨((he ab k hm).2 i c hi).1, hh _ _ _ ((he ab k hm).2 i c hi).2⟩⟩
  | row ver es => exact ⟨he.1, fun ab ao k cap hr => let ⟨h1, h2, h3, h4⟩ := he.2 ab ao k cap hr; ⟨h1, h2, fun i hi => ⟨(h3 i hi).1, hl _ _ (h3 i hi).2⟩, fun i e hie => ⟨(h4 i e hie).1, fun j c hj => ⟨((h4 i e hie).2 j c hj).1, hh _ _ _ ((h4 i e hie).2 j c hj).2⟩⟩⟩⟩
  | frow ver es => exact ⟨he.1, fun ab ao k cap hr => let ⟨h0, h1, h2, h3⟩ := he.2 ab ao k cap hr; ⟨h0, h1, fun i hi => ⟨(h2 i hi).1, Nat.lt_of_lt_of_le (h2 i hi).2 hb.size⟩, fun i e hie => ⟨(h3 i e hie).1, fun j c hj => ⟨((h3 i e hie).2 j c hj).1, hh _ _ _ ((h3 i e hie).2 j c hj).2⟩⟩⟩⟩
  | map ck kvs => exact fun ab hm => let ⟨es, h1, h2⟩ := he ab hm; ⟨es, hg _ _ h1, h2⟩
  | tok ver => exact ⟨he.1, fun ab e k room ht => ⟨(he.2 ab e k room ht).1, fun i hi => ⟨((he.2 ab e k room ht).2 i hi).1, hl _ _ ((he.2 ab e k room ht).2 i hi).2⟩⟩⟩

theorem Post.of_below {base : Base} {ex : Nat → Prop} {G : Gh} {h : CHeap} {w w' : World} (I : Inv base G h w) (hb : Below w.heap.size w w') : Post base ex G h w G h w' :=
  ⟨.refl G, I.below hb, hb.mono (by obtain ⟨own, I⟩ := I; exact I.top), Nat.le_refl _, fun _ _ _ hf => hf⟩

section
variable {P : Program}
theorem lay_agg {t : TypeId} {d : TypeDesc} (h : P.underlying t = some d) (w : World) : (isAgg t).run P w = .ok (aggDesc d) w := r_agg h
theorem lay_size {t : TypeId} {n : Nat} (h : (P.info? t).map (·.size) = some n) (w : World) : (Go.sizeOf t).run P w = .ok n w := by
  obtain ⟨i, hi, rfl⟩ := Option.map_eq_some_iff.1 h
  exact r_size hi
theorem lay_zero {t : TypeId} {z : Value} (h : (P.info? t).bind (·.zero) = some z) (w : World) : (zeroValue t).run P w = .ok z w := by
  obtain ⟨i, hi, hz⟩ := Option.bind_eq_some_iff.1 h
  exact r_zero hi hz
end

def pClone (xs : List CVal) (h : CHeap) : Option (CVal × CHeap) :=
  match xs with
  | [.str s] => if decide (s.length ≤ 281474976710656) then some (.str s, h) else none
  | _ => none

section
variable {P : Program} {base : Base} {ρ : Ren}

theorem sim_clone (L : LaysM.n316 P ρ) (hname : ((Body.n316 ρ).name == "runtime.NumGoroutine") = false) : SimPrim P base (ρ.f 316) pClone := by
  intro G h w xs vs v h' hp I hr
  unfold pClone at hp
  split at hp
  · rename_i s
    split at hp
    · rename_i hlen
      cases hp
      obtain ⟨x, rfl, hx⟩ := vrs_one hr
      obtain ⟨t, rfl, ht⟩ := vr_str hx
      have hent : (callFunc (ρ.f 316) ⟨[.string t]⟩).run P w = .ok (.enter (ρ.f 316) ⟨[.string t]⟩) w :=
        run_enter (c := ((Body.n316 ρ).body).getD .skip) L.f316 hname (by rfl) _ w
      refine .inr ⟨_, _, hent, ?_⟩
      have hsz : t.size ≤ 281474976710656 := by
        have h1 : s.length ≤ 281474976710656 := by simpa using hlen
        have h2 := congrArg List.length ht
        simp at h2
        have h3 : t.size = t.data.size := rfl
        omega
      refine (Any.stringslite_Clone L t w hsz).mono fun e w' ⟨he, hw⟩ => ⟨_, he, ?_⟩
      exact ⟨G, vr_strOf ht, Post.of_below I hw⟩
    · cases hp
  · cases hp
end
end Go.CI

/- slices.Sorted(maps.Keys(m)) at keys that are strings or ints, and maps.Clone(m): what they give. -/
set_option linter.unusedVariables false
namespace Go.CI
open Go.Shelf Go.RowKit Go.Lib Go.Proofs Go.Maps

/-- Nothing of what lay before is turned: a change of nobody's. -/
theorem chg_below {own : Nat → Nat → Option Own} {w w' : World} (hb : Below w.heap.size w w') (x : Own) : Chg x own own w w' where
  live ab i hl := by
    obtain ⟨⟨v, h1⟩, h2⟩ := hl
    exact ⟨⟨v, by rw [hb.cell (p := ⟨ab, i, none⟩) (cell_lt h1)]; exact h1⟩, by rw [hb.frozen (p := ⟨ab, i, none⟩) (cell_lt h1)]; exact h2⟩
  cell ab i v _ hv := by rw [hb.cell (p := ⟨ab, i, none⟩) (cell_lt hv)]; exact hv
  own _ _ _ _ := rfl
  ownm _ _ _ h := h
  size := hb.size
  mark ab hc := by
    refine ⟨Nat.lt_of_lt_of_le hc.1 hb.size, fun st T n hq => ?_⟩
    rw [hb.frozen (p := ⟨ab, n, none⟩) hc.1]
    refine hc.2 st T n ?_
    unfold World.shape? at hq ⊢
    rw [← hb.block ab hc.1]; exact hq
  shp ab x hs := by
    have hlt : ab < w.heap.size := by
      by_cases h : ab < w.heap.size
      · exact h
      · unfold World.shape? at hs; rw [Array.getElem?_eq_none (by omega)] at hs; cases hs
    unfold World.shape? at hs ⊢; rw [hb.block ab hlt]; exact hs
  obj ab es ck _ he := by rw [hb.block ab (Array.getElem?_eq_some_iff.1 he).1]; exact he
  objs ab es ck he := ⟨es, ck, by rw [hb.block ab (Array.getElem?_eq_some_iff.1 he).1]; exact he⟩
  rowb ab T hr := by
    obtain ⟨c, lo, hi, he, h1, h2⟩ := hr
    exact ⟨c, lo, hi, by rw [hb.block ab (Array.getElem?_eq_some_iff.1 he).1]; exact he, h1, h2⟩
  itr ab m s sn l he := by rw [hb.block ab (Array.getElem?_eq_some_iff.1 he).1]; exact he
  sole _ _ _ _ h := h

section
variable {P : Program} {base : Base} {G : Gh} {h : CHeap} {w : World}

/-- A new block, made on the way, that nobody writes from now on. -/
theorem post_below_freeze {ex : Nat → Prop} {w' : World} (I : Inv base G h w) (hb : Below w.heap.size w w') {gb : Nat} (hge : w.heap.size ≤ gb) {arr : Array Value} {T : TypeId} {fr : Nat × Nat} (ha : w'.heap[gb]? = some (.cells arr T fr)) (cs : List CVal)
    (hc : ∀ (i : Nat) (c : CVal), cs[i]? = some c → ∃ v, arr[i]? = some v ∧ VR G c v) : Post base ex G h w (G.withFz gb cs) h w' := by
  obtain ⟨own, I⟩ := I
  have hle : G.le (G.withFz gb cs) := ⟨fun b o c hb' => by
    obtain ⟨_, v, hv, _⟩ := I.fzs b o c hb'
    show (if b = gb then cs[o]? else G.fz b o) = some c
    rw [if_neg (by have := cell_lt hv; omega)]; exact hb', fun _ _ h => h, fun _ _ _ h => h, fun _ _ _ h => h⟩
  refine ⟨hle, ⟨own, I.step (x := .m h.next) hle (chg_below hb _) (Nat.le_refl _) ?_ (fun b ab k hm => .inl hm) (fun b v y hy => .inl hy) (fun b v y hy => .inl hy) ?_ ?_ I.nod (fun _ _ h => .inl ⟨h, fun _ _ h => h⟩)⟩, hb.mono I.top, Nat.le_refl _, fun _ _ _ hf => hf⟩
  · intro ab o c hf
    by_cases hab : ab = gb
    · refine .inr ⟨?_, ?_⟩
      · cases ho : own ab o with
        | none => rfl
        | some y => have := I.old _ _ _ ho; omega
      · simp only [Gh.withFz, if_pos hab] at hf
        obtain ⟨v, hv, hr⟩ := hc o c hf
        refine ⟨v, ?_, hr.mono hle⟩
        rw [hab]
        unfold World.cell?
        rw [ha]; exact hv
    · simp only [Gh.withFz, if_neg hab] at hf; exact .inl hf
  · intro b o hb'
    have := (I.ents b o hb').1
    exact .inl ⟨hb', ⟨rfl, fun _ => rfl, fun _ => rfl⟩, by simp; omega, by simp, by simp⟩
  · intro ab o y ho
    exact Nat.lt_of_lt_of_le (I.old _ _ _ ho) hb.size

/-- One cell an element. -/
theorem flatC_flat : ∀ {es : List CVal}, (∀ e ∈ es, e.flat = true) → flatC es = es
  | [], _ => rfl
  | e :: r, he => by
    have h1 := CVal.cells_flat (he e (by simp))
    have h2 := flatC_flat (es := r) fun x hx => he x (by simp [hx])
    simp only [flatC, List.flatMap_cons, h1] at h2 ⊢
    rw [h2]; rfl

/-- A slice of the kit's kind, as a list. -/
theorem post_ownsRow {ex : Nat → Prop} {w' : World} (I : Inv base G h w) (hb : Below w.heap.size w w') {T : TypeId} {v : Value} {n : Nat} {xs : List Value} (hr : w'.ownsRow w.heap.size T 1 v n xs) {es : List CVal} (hn : es.length = n) (hfl : ∀ e ∈ es, e.flat = true) (hv : VRs G es xs) (hnil : v = .slice none 0 0 → es = []) (hnil2 : es = [] → v = .slice none 0 0) :
    ∃ G', VR G' (if es = [] then .nils else .imm .none 1 es) v ∧ Post base ex G h w G' h w' := by
  rcases hr.2 with ⟨rfl, hz⟩ | ⟨g, cap, cur, rfl, hge, hg, hcap, hcm, hsz, htk⟩
  · have := hnil rfl
    subst this
    exact ⟨G, .nils, Post.of_below I hb⟩
  · by_cases he : es = []
    · have := hnil2 he
      simp at this
    · rw [if_neg he]
      subst hn
      refine ⟨G.withFz g (flatC es), .imm rfl (by omega) hcap (froz_new (fun e hm => by rw [CVal.cells_flat (hfl e hm)]; rfl) (fun e hm c hc => by rw [CVal.cells_flat (hfl e hm)] at hc; simp at hc; rw [hc]; exact hfl e hm) _) trivial, post_below_freeze I hb hge hg _ ?_⟩
      rw [flatC_flat hfl]
      intro i c hi
      have hlt := (List.getElem?_eq_some_iff.1 hi).1
      have hxl : i < xs.length := by rw [← hv.1]; exact hlt
      refine ⟨xs[i], ?_, hv.2 i c _ hi (List.getElem?_eq_getElem hxl)⟩
      have h1 : (cur.toList.take (es.length * 1))[i]? = some xs[i] := by rw [htk]; exact List.getElem?_eq_getElem hxl
      rw [List.getElem?_take] at h1
      split at h1
      · simpa using h1
      · cases h1
end
end Go.CI

/- slices.Sorted(maps.Keys(m)), at keys that are strings and at keys that are ints: by the library's contracts, as functions of the interpreter's own. -/
set_option linter.unusedVariables false
namespace Go.CI
open Go.Shelf Go.RowKit Go.Lib Go.Proofs Go.Maps

/-- Numbers that rise, below a bound. -/
def risesTo (ck : Nat) : List Nat → Bool
  | [] => true
  | [a] => decide (a < ck)
  | a :: b :: r => decide (a < b) && risesTo ck (b :: r)
theorem risesTo_lt {ck : Nat} : ∀ {l : List Nat}, risesTo ck l = true → ∀ x ∈ l, x < ck
  | [], _, x, hx => by cases hx
  | [a], h, x, hx => by simp [risesTo] at h; simp at hx; omega
  | a :: b :: r, h, x, hx => by
    simp only [risesTo, Bool.and_eq_true, decide_eq_true_eq] at h
    have ih := risesTo_lt h.2
    rcases List.mem_cons.1 hx with rfl | hx
    · have := ih b (by simp); omega
    · exact ih x hx
theorem risesTo_gt {ck : Nat} : ∀ {a : Nat} {l : List Nat}, risesTo ck (a :: l) = true → ∀ x ∈ l, a < x
  | _, [], _, x, hx => by cases hx
  | a, b :: r, h, x, hx => by
    simp only [risesTo, Bool.and_eq_true, decide_eq_true_eq] at h
    rcases List.mem_cons.1 hx with rfl | hx
    · exact h.1
    · have := risesTo_gt h.2 x hx; omega
theorem risesTo_tail {ck a : Nat} {l : List Nat} (h : risesTo ck (a :: l) = true) : risesTo ck l = true := by
  cases l with
  | nil => rfl
  | cons b r => simp only [risesTo, Bool.and_eq_true] at h; exact h.2
theorem risesTo_nodup {ck : Nat} : ∀ {l : List Nat}, risesTo ck l = true → l.Nodup
  | [], _ => .nil
  | a :: l, h => List.nodup_cons.2 ⟨fun hm => by have := risesTo_gt h a hm; omega, risesTo_nodup (risesTo_tail h)⟩

theorem MapRel.born {G : Gh} : ∀ {kvs : List (Nat × CVal × CVal)} {es : List MapEntry}, MapRel G kvs es → es.map (·.born) = kvs.map (·.1)
  | [], [], _ => rfl
  | [], _ :: _, h => by have := h.1; simp at this
  | _ :: _, [], h => by have := h.1; simp at this
  | x :: kvs, e :: es, h => by
    have h0 := h.2 0 x e rfl rfl
    have ih := MapRel.born (kvs := kvs) (es := es) ⟨by have := h.1; simpa using this, fun i x e hx he => h.2 (i + 1) x e (by simpa using hx) (by simpa using he)⟩
    simp only [List.map_cons, ih, h0.1]

/-- The keys, where each is a plain one. -/
def keysKS : List (Nat × CVal × CVal) → Option (List (List UInt8))
  | [] => some []
  | (_, .str x, _) :: r => if x.length ≤ 281474976710655 then (keysKS r).map (x :: ·) else none
  | _ => none
def insS (x : (List UInt8)) : List (List UInt8) → List (List UInt8)
  | [] => [x]
  | y :: r => if decide (x ≤ y) then x :: y :: r else y :: insS x r
def sortS : List (List UInt8) → List (List UInt8)
  | [] => []
  | x :: r => insS x (sortS r)
def uniqS : List (List UInt8) → Bool
  | [] => true
  | x :: r => !r.contains x && uniqS r
theorem uniqS_nodup : ∀ {l : List (List UInt8)}, uniqS l = true → l.Nodup
  | [], _ => .nil
  | x :: r, h => by
    simp only [uniqS, Bool.and_eq_true, Bool.not_eq_true', List.contains_eq_mem, decide_eq_false_iff_not] at h
    exact List.nodup_cons.2 ⟨h.1, uniqS_nodup h.2⟩
theorem insS_perm (x : (List UInt8)) : ∀ l, (insS x l).Perm (x :: l)
  | [] => .refl _
  | y :: r => by
    unfold insS
    split
    · exact .refl _
    · exact ((insS_perm x r).cons y).trans (.swap x y r)
theorem sortS_perm : ∀ l, (sortS l).Perm l
  | [] => .refl _
  | x :: r => (insS_perm x (sortS r)).trans ((sortS_perm r).cons x)
theorem insS_sorted (x : (List UInt8)) : ∀ {l : List (List UInt8)}, l.Pairwise (· ≤ ·) → (insS x l).Pairwise (· ≤ ·)
  | [], _ => List.pairwise_singleton _ _
  | y :: r, h => by
    have hr := List.pairwise_cons.1 h
    unfold insS
    split
    · rename_i hxy
      have hxy : x ≤ y := by simpa using hxy
      refine List.pairwise_cons.2 ⟨fun z hz => ?_, h⟩
      rcases List.mem_cons.1 hz with rfl | hz
      · exact hxy
      · exact List.le_trans hxy (hr.1 z hz)
    · rename_i hxy
      have hyx : y ≤ x := (fun h => (List.le_total x y).resolve_left h) (by simpa using hxy)
      refine List.pairwise_cons.2 ⟨fun z hz => ?_, insS_sorted x hr.2⟩
      rcases List.mem_cons.1 ((insS_perm x r).mem_iff.1 hz) with rfl | hz
      · exact hyx
      · exact hr.1 z hz
theorem sortS_sorted : ∀ l : List (List UInt8), (sortS l).Pairwise (· ≤ ·)
  | [] => .nil
  | x :: r => insS_sorted x (sortS_sorted r)
theorem sortS_eq {a l : List (List UInt8)} (h : a.Perm l) : a.mergeSort (fun x y => decide (x ≤ y)) = sortS l := by
  have h1 : (a.mergeSort fun x y => decide (x ≤ y)).Perm (sortS l) := (List.mergeSort_perm a _).trans (h.trans (sortS_perm l).symm)
  have h2 : (a.mergeSort fun x y => decide (x ≤ y)).Pairwise (fun x y => x ≤ y) := by
    have := List.pairwise_mergeSort (le := fun x y : (List UInt8) => decide (x ≤ y)) (fun x y z hxy hyz => by simp only [decide_eq_true_eq] at *; exact List.le_trans hxy hyz) (fun x y => by simp only [Bool.or_eq_true, decide_eq_true_eq]; exact List.le_total x y) a
    exact this.imp fun h => by simpa using h
  exact h1.eq_of_pairwise (le := fun x y => x ≤ y) (fun x y _ _ h1 h2 => List.le_antisymm h1 h2) h2 (sortS_sorted l)

theorem keysKS_rel {G : Gh} {P : Program} {k : TypeId} (hk : P.underlying k = some TypeDesc.string) {Z : DataW Unit} : ∀ {kvs : List (Nat × CVal × CVal)} {es : List MapEntry} {ks : List (List UInt8)}, MapRel G kvs es → keysKS kvs = some ks →
    (∀ x ∈ es, ∃ y, WideElems.rd P k (fun _ => some (Z, [])) x = some y) ∧ (es.map (WideElems.rg P k (fun _ => some (Z, [])))).map (fun p => strOf p.1) = ks ∧ es.map (·.key) = ks.map encStr
  | [], [], ks, _, h => by cases h; exact ⟨fun x hx => (by cases hx), rfl, rfl⟩
  | [], _ :: _, _, h, _ => by have := h.1; simp at this
  | _ :: _, [], _, h, _ => by have := h.1; simp at this
  | (b, c, v) :: kvs, e :: es, ks, h, hks => by
    have h0 := h.2 0 _ e rfl rfl
    have ht : MapRel G kvs es := ⟨by have := h.1; simpa using this, fun i x e hx he => h.2 (i + 1) x e (by simpa using hx) (by simpa using he)⟩
    unfold keysKS at hks
    split at hks
    · rename_i heq; cases heq
    · rename_i r' x r v' heq
      cases heq
      split at hks
      · rename_i hok
        obtain ⟨ks', hks', rfl⟩ := Option.map_eq_some_iff.1 hks
        obtain ⟨i1, i2, i3⟩ := keysKS_rel hk (Z := Z) ht hks'
        have hkey : e.key = encStr x := by
          have h1 := h0.2.1
          obtain ⟨t, ht, hx⟩ := vr_str h1
          rw [ht, encStr, ← hx]
        have hko : keyOf P k e.key = some (.string x) := by
          rw [hkey]
          have := Go.WideMaps.keyOf_string_mk hk (s := ⟨x.toArray⟩) (by show x.toArray.size ≤ maxLen; rw [List.size_toArray]; exact Nat.le_trans hok (by decide))
          simpa [encStr] using this
        have hrd : WideElems.rd P k (fun _ => some (Z, [])) e = some (.string x, Z) := by simp [WideElems.rd, hko]
        refine ⟨fun y hy => ?_, ?_, ?_⟩
        · rcases List.mem_cons.1 hy with rfl | hy
          · exact ⟨_, hrd⟩
          · exact i1 y hy
        · simp only [List.map_cons, i2, WideElems.rg_of hrd]; rfl
        · simp only [List.map_cons, i3, hkey]
      · cases hks
    · cases hks

/-- slices.Sorted at maps.Keys' iterator (the function g). -/
def pSortedS (g : Nat) (xs : List CVal) (h : CHeap) : Option (CVal × CHeap) :=
  match xs with
  | [.fn (.func f) [] [.ptr b _ 0]] => if f = g then match h.get b with
    | some (.cells (.map m :: _)) => match h.get m with
      | some (.map ck kvs) => match keysKS kvs with
        | some ks => if risesTo ck (kvs.map (·.1)) && uniqS ks && decide (kvs.length ≤ 1000000) then some (if (sortS ks).map CVal.str = [] then .nils else .imm .none 1 ((sortS ks).map CVal.str), h) else none
        | none => none
      | _ => none
    | _ => none else none
  | _ => none

set_option maxHeartbeats 1000000 in
theorem sim_sortedS {P : Program} {base : Base} {ρ κ : Ren} (LS : SlLaysZ.n6 P ρ) (LK : SlLaysZ.n10 P κ) (hs : AnyZ.SortsIn P ρ Fence.wide 4) (e6 : ∀ args w, (callFunc (ρ.f 6) args).run P w = .ok (.enter (ρ.f 6) args) w) (e9 : ∀ args w, (callFunc (ρ.f 9) args).run P w = .ok (.enter (ρ.f 9) args) w) (e10 : ∀ args w, (callFunc (κ.f 10) args).run P w = .ok (.enter (κ.f 10) args) w) :
    SimPrim P base (ρ.f 6) (pSortedS (κ.f 10)) := by
  intro G h w xs vs v h' hp I hr
  unfold pSortedS at hp
  split at hp
  · rename_i f b d
    split at hp
    · rename_i hfg
      subst hfg
      split at hp
      · rename_i m cs hgb
        split at hp
        · rename_i ck kvs hgm
          split at hp
          · rename_i ks hks
            split at hp
            · rename_i hchk
              cases hp
              simp only [Bool.and_eq_true, decide_eq_true_eq] at hchk
              obtain ⟨⟨hri, hun⟩, hlen⟩ := hchk
              obtain ⟨x, rfl, hx⟩ := vrs_one hr
              cases hx with
              | fn hf hc h1 h2 =>
                rename_i vf vc
                match vf, vc, hf, hc with
                | [], [pv], _, _ =>
                have hpv := h2 0 _ _ rfl rfl
                have hpv2 : ∃ ab, pv = .pointer (some ⟨ab, 0, none⟩) ∧ G.mu b = some (ab, d) := by
                  cases hpv with
                  | ptr hmu => exact ⟨_, rfl, hmu⟩
                match pv, hpv2 with
                | _, ⟨ab, rfl, hmu⟩ =>
                  obtain ⟨own, I0⟩ := id I
                  obtain ⟨_, M, hcell, hM⟩ := ((I0.ents b _ hgb).2 ab d hmu).2 0 (.map m) rfl
                  obtain ⟨mab, es, rfl, hmm, hheap, hrel⟩ := map_obj I hM hgm
                  have hk : P.underlying (κ.t 26) = some TypeDesc.string := LK.t26
                  obtain ⟨r1, r2, r3⟩ := keysKS_rel hk (Z := .nil) hrel hks
                  have hel : es.size = kvs.length := by have := hrel.1; simpa using this.symm
                  have hmax : es.size ≤ maxLen := by rw [hel]; exact Nat.le_trans hlen (by decide)
                  have hst : MapKept.Stamped es ck := ⟨fun x hx => by
                      have := risesTo_lt hri x.born (by rw [← hrel.born]; exact List.mem_map.2 ⟨x, hx, rfl⟩)
                      exact this, by rw [hrel.born]; exact risesTo_nodup hri, by
                      rw [r3]
                      exact List.Pairwise.map _ (fun a b hab he => hab (encStr_inj he)) (uniqS_nodup hun)⟩
                  have hown : w.ownsMap (H := Unit) P (κ.t 26) (fun _ => some (.nil, [])) mab es.size (.map ((es.toList.map (WideElems.rg P (κ.t 26) (fun _ => some (.nil, [])))).foldr DataW.insert [])) :=
                    ⟨es, ck, hheap, ⟨hmax, hst, r1⟩, Nat.le_refl _, rfl⟩
                  have hsz : Maps.size (.map ((es.toList.map (WideElems.rg P (κ.t 26) (fun _ => some (DataW.nil (H := Unit), [])))).foldr DataW.insert [])) = es.size := by
                    rw [Maps.size_eq, length_sorted]; simp
                  have hblt : ab < w.heap.size := cell_lt hcell
                  have hseq := AnyZ.keys_gives (ρ := κ) { LK with } Fence.wide 2 trivial rfl (by omega) ab mab es.size _ w hblt hcell hown
                  have hS := AnyZ.sorted_in LS Fence.wide 5 trivial trivial trivial trivial rfl (by omega) hs e9 (κ.f 10) #[.pointer (some ⟨ab, 0, none⟩)] trivial e10 _ _ (by rw [hsz]; exact hmax) (by rw [hsz, hel]; omega) w hseq
                  have hC := callsIn_wide.1 hS
                  refine .inr ⟨_, _, e6 _ w, ?_⟩
                  refine hC.mono fun e w' ⟨u, ss, he, hperm, hrow, hnil, hb⟩ => ⟨u, he, ?_⟩
                  have hpk : ss.Perm ks := by
                    refine hperm.trans ?_
                    show (List.map _ _).Perm ks
                    rw [← r2]
                    exact (WideShapes.sorted_perm _).map _
                  rw [sortS_eq hpk] at hrow
                  have hl : ss.length = ((sortS ks).map CVal.str).length := by rw [List.length_map, (sortS_perm ks).length_eq, hpk.length_eq]
                  rw [hl] at hrow
                  obtain ⟨G', hv, hpo⟩ := post_ownsRow (ex := (· = h.next)) I hb hrow rfl (fun e he => by obtain ⟨x, _, rfl⟩ := List.mem_map.1 he; rfl) (by
                    refine ⟨by simp, fun i c v hc hv => ?_⟩
                    rw [List.getElem?_map] at hc hv
                    obtain ⟨x, hx, rfl⟩ := Option.map_eq_some_iff.1 hc
                    obtain ⟨y, hy, rfl⟩ := Option.map_eq_some_iff.1 hv
                    rw [hx] at hy
                    cases hy
                    have := VR.str (G := G) ⟨x.toArray⟩
                    simpa [encStr] using this) (fun hn => by
                    have := hnil.1 hn
                    subst this
                    have := List.length_eq_zero_iff.1 (show ((sortS ks).map CVal.str).length = 0 by rw [← hl]; rfl)
                    exact this) (fun hn => hnil.2 (List.length_eq_zero_iff.1 (by rw [hl, hn]; rfl)))
                  exact post_call hv hpo
            · cases hp
          · cases hp
        · cases hp
      · cases hp
    · cases hp
  · cases hp

/-- The keys, where each is a plain one. -/
def keysKI : List (Nat × CVal × CVal) → Option (List Int)
  | [] => some []
  | (_, .int .i64 x, _) :: r => if -9223372036854775808 ≤ x ∧ x < 9223372036854775808 then (keysKI r).map (x :: ·) else none
  | _ => none
def insI (x : Int) : List Int → List Int
  | [] => [x]
  | y :: r => if decide (x ≤ y) then x :: y :: r else y :: insI x r
def sortI : List Int → List Int
  | [] => []
  | x :: r => insI x (sortI r)
def uniqI : List Int → Bool
  | [] => true
  | x :: r => !r.contains x && uniqI r
theorem uniqI_nodup : ∀ {l : List Int}, uniqI l = true → l.Nodup
  | [], _ => .nil
  | x :: r, h => by
    simp only [uniqI, Bool.and_eq_true, Bool.not_eq_true', List.contains_eq_mem, decide_eq_false_iff_not] at h
    exact List.nodup_cons.2 ⟨h.1, uniqI_nodup h.2⟩
theorem insI_perm (x : Int) : ∀ l, (insI x l).Perm (x :: l)
  | [] => .refl _
  | y :: r => by
    unfold insI
    split
    · exact .refl _
    · exact ((insI_perm x r).cons y).trans (.swap x y r)
theorem sortI_perm : ∀ l, (sortI l).Perm l
  | [] => .refl _
  | x :: r => (insI_perm x (sortI r)).trans ((sortI_perm r).cons x)
theorem insI_sorted (x : Int) : ∀ {l : List Int}, l.Pairwise (· ≤ ·) → (insI x l).Pairwise (· ≤ ·)
  | [], _ => List.pairwise_singleton _ _
  | y :: r, h => by
    have hr := List.pairwise_cons.1 h
    unfold insI
    split
    · rename_i hxy
      have hxy : x ≤ y := by simpa using hxy
      refine List.pairwise_cons.2 ⟨fun z hz => ?_, h⟩
      rcases List.mem_cons.1 hz with rfl | hz
      · exact hxy
      · exact Int.le_trans hxy (hr.1 z hz)
    · rename_i hxy
      have hyx : y ≤ x := (fun h => (Int.le_total x y).resolve_left h) (by simpa using hxy)
      refine List.pairwise_cons.2 ⟨fun z hz => ?_, insI_sorted x hr.2⟩
      rcases List.mem_cons.1 ((insI_perm x r).mem_iff.1 hz) with rfl | hz
      · exact hyx
      · exact hr.1 z hz
theorem sortI_sorted : ∀ l : List Int, (sortI l).Pairwise (· ≤ ·)
  | [] => .nil
  | x :: r => insI_sorted x (sortI_sorted r)
theorem sortI_eq {a l : List Int} (h : a.Perm l) : a.mergeSort (fun x y => decide (x ≤ y)) = sortI l := by
  have h1 : (a.mergeSort fun x y => decide (x ≤ y)).Perm (sortI l) := (List.mergeSort_perm a _).trans (h.trans (sortI_perm l).symm)
  have h2 : (a.mergeSort fun x y => decide (x ≤ y)).Pairwise (fun x y => x ≤ y) := by
    have := List.pairwise_mergeSort (le := fun x y : Int => decide (x ≤ y)) (fun x y z hxy hyz => by simp only [decide_eq_true_eq] at *; exact Int.le_trans hxy hyz) (fun x y => by simp only [Bool.or_eq_true, decide_eq_true_eq]; exact Int.le_total x y) a
    exact this.imp fun h => by simpa using h
  exact h1.eq_of_pairwise (le := fun x y => x ≤ y) (fun x y _ _ h1 h2 => Int.le_antisymm h1 h2) h2 (sortI_sorted l)

theorem keysKI_rel {G : Gh} {P : Program} {k : TypeId} (hk : P.underlying k = some (TypeDesc.int .i64)) {Z : DataW Unit} : ∀ {kvs : List (Nat × CVal × CVal)} {es : List MapEntry} {ks : List Int}, MapRel G kvs es → keysKI kvs = some ks →
    (∀ x ∈ es, ∃ y, WideElems.rd P k (fun _ => some (Z, [])) x = some y) ∧ (es.map (WideElems.rg P k (fun _ => some (Z, [])))).map (fun p => intOf p.1) = ks ∧ es.map (·.key) = ks.map encZ
  | [], [], ks, _, h => by cases h; exact ⟨fun x hx => (by cases hx), rfl, rfl⟩
  | [], _ :: _, _, h, _ => by have := h.1; simp at this
  | _ :: _, [], _, h, _ => by have := h.1; simp at this
  | (b, c, v) :: kvs, e :: es, ks, h, hks => by
    have h0 := h.2 0 _ e rfl rfl
    have ht : MapRel G kvs es := ⟨by have := h.1; simpa using this, fun i x e hx he => h.2 (i + 1) x e (by simpa using hx) (by simpa using he)⟩
    unfold keysKI at hks
    split at hks
    · rename_i heq; cases heq
    · rename_i r' x r v' heq
      cases heq
      split at hks
      · rename_i hok
        obtain ⟨ks', hks', rfl⟩ := Option.map_eq_some_iff.1 hks
        obtain ⟨i1, i2, i3⟩ := keysKI_rel hk (Z := Z) ht hks'
        have hkey : e.key = encZ x := by
          have h1 := h0.2.1
          exact vr_int (c := .nilp) h1
        have hko : keyOf P k e.key = some (.int .i64 x) := by
          rw [hkey]
          refine keyOf_int_mk hk ?_
          simp only [Lit.wf, Bool.and_eq_true, decide_eq_true_eq]
          have e1 : IntKind.min .i64 = -9223372036854775808 := rfl
          have e2 : IntKind.max .i64 = 9223372036854775807 := rfl
          omega
        have hrd : WideElems.rd P k (fun _ => some (Z, [])) e = some (.int .i64 x, Z) := by simp [WideElems.rd, hko]
        refine ⟨fun y hy => ?_, ?_, ?_⟩
        · rcases List.mem_cons.1 hy with rfl | hy
          · exact ⟨_, hrd⟩
          · exact i1 y hy
        · simp only [List.map_cons, i2, WideElems.rg_of hrd]; rfl
        · simp only [List.map_cons, i3, hkey]
      · cases hks
    · cases hks

/-- slices.Sorted at maps.Keys' iterator (the function g). -/
def pSortedI (g : Nat) (xs : List CVal) (h : CHeap) : Option (CVal × CHeap) :=
  match xs with
  | [.fn (.func f) [] [.ptr b _ 0]] => if f = g then match h.get b with
    | some (.cells (.map m :: _)) => match h.get m with
      | some (.map ck kvs) => match keysKI kvs with
        | some ks => if risesTo ck (kvs.map (·.1)) && uniqI ks && decide (kvs.length ≤ 1000000) then some (if (sortI ks).map (CVal.int .i64) = [] then .nils else .imm .none 1 ((sortI ks).map (CVal.int .i64)), h) else none
        | none => none
      | _ => none
    | _ => none else none
  | _ => none

set_option maxHeartbeats 1000000 in
theorem sim_sortedI {P : Program} {base : Base} {ρ κ : Ren} (LS : SlLaysZI.n6 P ρ) (LK : SlLaysZI.n10 P κ) (hs : AnyZI.SortsIn P ρ Fence.wide 4) (e6 : ∀ args w, (callFunc (ρ.f 6) args).run P w = .ok (.enter (ρ.f 6) args) w) (e9 : ∀ args w, (callFunc (ρ.f 9) args).run P w = .ok (.enter (ρ.f 9) args) w) (e10 : ∀ args w, (callFunc (κ.f 10) args).run P w = .ok (.enter (κ.f 10) args) w) :
    SimPrim P base (ρ.f 6) (pSortedI (κ.f 10)) := by
  intro G h w xs vs v h' hp I hr
  unfold pSortedI at hp
  split at hp
  · rename_i f b d
    split at hp
    · rename_i hfg
      subst hfg
      split at hp
      · rename_i m cs hgb
        split at hp
        · rename_i ck kvs hgm
          split at hp
          · rename_i ks hks
            split at hp
            · rename_i hchk
              cases hp
              simp only [Bool.and_eq_true, decide_eq_true_eq] at hchk
              obtain ⟨⟨hri, hun⟩, hlen⟩ := hchk
              obtain ⟨x, rfl, hx⟩ := vrs_one hr
              cases hx with
              | fn hf hc h1 h2 =>
                rename_i vf vc
                match vf, vc, hf, hc with
                | [], [pv], _, _ =>
                have hpv := h2 0 _ _ rfl rfl
                have hpv2 : ∃ ab, pv = .pointer (some ⟨ab, 0, none⟩) ∧ G.mu b = some (ab, d) := by
                  cases hpv with
                  | ptr hmu => exact ⟨_, rfl, hmu⟩
                match pv, hpv2 with
                | _, ⟨ab, rfl, hmu⟩ =>
                  obtain ⟨own, I0⟩ := id I
                  obtain ⟨_, M, hcell, hM⟩ := ((I0.ents b _ hgb).2 ab d hmu).2 0 (.map m) rfl
                  obtain ⟨mab, es, rfl, hmm, hheap, hrel⟩ := map_obj I hM hgm
                  have hk : P.underlying (κ.t 26) = some (TypeDesc.int .i64) := LK.t26
                  obtain ⟨r1, r2, r3⟩ := keysKI_rel hk (Z := .nil) hrel hks
                  have hel : es.size = kvs.length := by have := hrel.1; simpa using this.symm
                  have hmax : es.size ≤ maxLen := by rw [hel]; exact Nat.le_trans hlen (by decide)
                  have hst : MapKept.Stamped es ck := ⟨fun x hx => by
                      have := risesTo_lt hri x.born (by rw [← hrel.born]; exact List.mem_map.2 ⟨x, hx, rfl⟩)
                      exact this, by rw [hrel.born]; exact risesTo_nodup hri, by
                      rw [r3]
                      exact List.Pairwise.map _ (fun a b hab he => hab (encZ_inj he)) (uniqI_nodup hun)⟩
                  have hown : w.ownsMap (H := Unit) P (κ.t 26) (fun _ => some (.nil, [])) mab es.size (.map ((es.toList.map (WideElems.rg P (κ.t 26) (fun _ => some (.nil, [])))).foldr DataW.insert [])) :=
                    ⟨es, ck, hheap, ⟨hmax, hst, r1⟩, Nat.le_refl _, rfl⟩
                  have hsz : Maps.size (.map ((es.toList.map (WideElems.rg P (κ.t 26) (fun _ => some (DataW.nil (H := Unit), [])))).foldr DataW.insert [])) = es.size := by
                    rw [Maps.size_eq, length_sorted]; simp
                  have hblt : ab < w.heap.size := cell_lt hcell
                  have hseq := AnyZI.keys_gives (ρ := κ) { LK with } Fence.wide 2 trivial rfl (by omega) ab mab es.size _ w hblt hcell hown
                  have hS := AnyZI.sorted_in LS Fence.wide 5 trivial trivial trivial trivial rfl (by omega) hs e9 (κ.f 10) #[.pointer (some ⟨ab, 0, none⟩)] trivial e10 _ _ (by rw [hsz]; exact hmax) (by rw [hsz, hel]; omega) w hseq
                  have hC := callsIn_wide.1 hS
                  refine .inr ⟨_, _, e6 _ w, ?_⟩
                  refine hC.mono fun e w' ⟨u, ss, he, hperm, hrow, hnil, hb⟩ => ⟨u, he, ?_⟩
                  have hpk : ss.Perm ks := by
                    refine hperm.trans ?_
                    show (List.map _ _).Perm ks
                    rw [← r2]
                    exact (WideShapes.sorted_perm _).map _
                  rw [sortI_eq hpk] at hrow
                  have hl : ss.length = ((sortI ks).map (CVal.int .i64)).length := by rw [List.length_map, (sortI_perm ks).length_eq, hpk.length_eq]
                  rw [hl] at hrow
                  obtain ⟨G', hv, hpo⟩ := post_ownsRow (ex := (· = h.next)) I hb hrow rfl (fun e he => by obtain ⟨x, _, rfl⟩ := List.mem_map.1 he; rfl) (by
                    refine ⟨by simp, fun i c v hc hv => ?_⟩
                    rw [List.getElem?_map] at hc hv
                    obtain ⟨x, hx, rfl⟩ := Option.map_eq_some_iff.1 hc
                    obtain ⟨y, hy, rfl⟩ := Option.map_eq_some_iff.1 hv
                    rw [hx] at hy
                    cases hy
                    exact VR.int (G := G) .i64 x) (fun hn => by
                    have := hnil.1 hn
                    subst this
                    have := List.length_eq_zero_iff.1 (show ((sortI ks).map (CVal.int .i64)).length = 0 by rw [← hl]; rfl)
                    exact this) (fun hn => hnil.2 (List.length_eq_zero_iff.1 (by rw [hl, hn]; rfl)))
                  exact post_call hv hpo
            · cases hp
          · cases hp
        · cases hp
      · cases hp
    · cases hp
  · cases hp
end Go.CI

/- maps.Clone(m), by the library's contract, as a function of the interpreter's own. -/
set_option linter.unusedVariables false
namespace Go.CI
open Go.Shelf Go.RowKit Go.Lib Go.Proofs Go.Maps

def pMapClone (xs : List CVal) (h : CHeap) : Option (CVal × CHeap) :=
  match xs with
  | [.map m] => match h.get m with
    | some (.map ck kvs) => some (.map h.next, ({ h with next := h.next + 1 } : CHeap).put h.next (.map ck kvs))
    | _ => none
  | _ => none

theorem sim_mapClone {P : Program} {base : Base} {ρ : Ren} (L : SlLaysW.n5 P ρ) (e5 : ∀ args w, (callFunc (ρ.f 5) args).run P w = .ok (.enter (ρ.f 5) args) w) : SimPrim P base (ρ.f 5) pMapClone := by
  intro G h w xs vs v h' hp I hr
  unfold pMapClone at hp
  split at hp
  · rename_i m
    split at hp
    · rename_i ck kvs hg
      cases hp
      obtain ⟨x, rfl, hx⟩ := vrs_one hr
      obtain ⟨ab, es, rfl, hmu, hh, hrel⟩ := map_obj I hx hg
      refine .inr ⟨_, _, e5 _ w, ?_⟩
      refine (AnyW.maps_Clone L ab es ck w hh).mono fun e w' ⟨he, hw⟩ => ⟨_, he, ?_⟩
      subst hw
      have hf : Fresh G { h with next := h.next + 1 } h.next := I.freshAt (Nat.le_refl _) 1
      have p1 := post_newmap (I.bump 1) hf (Nat.lt_succ_self _)
      have hmu1 : (G.withMu h.next w.heap.size 0).mu h.next = some (w.heap.size, 0) := if_pos rfl
      have hg1 : (({ h with next := h.next + 1 } : CHeap).put h.next (.map 0 [])).get h.next = some (.map 0 []) := by rw [getEnt_put, if_pos rfl]
      have p2 := post_map (id := h.next) (kvs' := kvs) (es' := es) (ck' := ck) p1.inv hmu1 hg1 (heap_new _) (hrel.mono p1.le)
      have hw : setMap (w.alloc (.map #[] 0)) w.heap.size es ck = w.alloc (.map es ck) := by
        unfold setMap World.alloc
        congr 1
        apply Array.ext_getElem?
        intro i
        simp only [Array.getElem?_setIfInBounds, Array.getElem?_push, Array.size_push]
        by_cases hi : i = w.heap.size
        · subst hi; simp
        · rw [if_neg hi, if_neg hi, if_neg (fun e => hi e.symm)]
      have hhp : (({ h with next := h.next + 1 } : CHeap).put h.next (.map 0 [])).set h.next (.map ck kvs) = ({ h with next := h.next + 1 } : CHeap).put h.next (.map ck kvs) := by simp [CHeap.set, CHeap.put, setEnt]
      rw [hw, hhp] at p2
      exact ins_post I (.map hmu1) ((p1.trans p2).mono (fun i hi => hi.elim id id))
    · cases hp
  · cases hp
end Go.CI

/- Runs of the interpreter, whatever the fuel. -/
set_option linter.unusedVariables false
set_option linter.unusedSimpArgs false
namespace Go.CI

def MonoX (ex ex' : CCode → CSt → Option (CExit × CSt)) : Prop := ∀ c st r, ex c st = some r → ex' c st = some r
def MonoC (cf cf' : Nat → List CVal → CHeap → Option (CVal × CHeap)) : Prop := ∀ f a h r, cf f a h = some r → cf' f a h = some r

section
variable {T : Nat → Option CFn}

theorem callBody_mono {ex ex' : CCode → CSt → Option (CExit × CSt)} (hx : MonoX ex ex') {cd cd' : List (Nat × List CVal) → CHeap → Option CHeap} (hcd : ∀ d h r, cd d h = some r → cd' d h = some r)
    {fn : CFunc} {args : List CVal} {h : CHeap} {r : CVal × CHeap} (hr : callBody ex cd fn args h = some r) : callBody ex' cd' fn args h = some r := by
  unfold callBody at hr ⊢
  split at hr
  · rename_i hn
    rw [if_pos hn]
    cases hb : ex fn.body ⟨fn.params.map (initVar args), h, []⟩ with
    | none => rw [hb] at hr; cases hr
    | some p =>
      rw [hb] at hr
      rw [hx _ _ _ hb]
      obtain ⟨x, st⟩ := p
      cases hc : cd st.defs st.h with
      | none => cases x <;> simp [hc] at hr
      | some h1 => cases x <;> simp only [hc, hcd _ _ _ hc] at hr ⊢ <;> exact hr
  · cases hr

theorem noDefs_mono : ∀ (d : List (Nat × List CVal)) (h : CHeap) (r : CHeap), noDefs d h = some r → noDefs d h = some r := fun _ _ _ h => h

theorem runDefs_mono {ex ex' : CCode → CSt → Option (CExit × CSt)} (hx : MonoX ex ex') : ∀ (d : List (Nat × List CVal)) (h : CHeap) (r : CHeap), runDefs T ex d h = some r → runDefs T ex' d h = some r
  | [], h, r, hr => hr
  | (f, args) :: d, h, r, hr => by
    unfold runDefs at hr ⊢
    cases hc : callFlat T ex f args h with
    | none => rw [hc] at hr; cases hr
    | some p =>
      have : callFlat T ex' f args h = some p := by
        unfold callFlat at hc ⊢
        split at hc
        · exact callBody_mono hx noDefs_mono hc
        · cases hc
      rw [hc] at hr
      rw [this]
      exact runDefs_mono hx d _ _ hr

theorem callFn_mono {ex ex' : CCode → CSt → Option (CExit × CSt)} (hx : MonoX ex ex') : MonoC (callFn T ex) (callFn T ex') := fun f a h r hr => by
  unfold callFn at hr ⊢
  split at hr
  · exact callBody_mono hx (runDefs_mono hx) hr
  · exact hr
  · cases hr

theorem evalE_mono {cf cf' : Nat → List CVal → CHeap → Option (CVal × CHeap)} (hc : MonoC cf cf') {ev : COpnd → CVal} {h : CHeap} {id : Nat} {op : COp} {r : CVal × CHeap} (hr : evalE cf ev h id op = some r) : evalE cf' ev h id op = some r := by
  cases op with
  | lit m a z n ps => cases m <;> exact hr
  | mkslice m a z l c => cases m <;> exact hr
  | s2b m x => cases m <;> exact hr
  | call keep f args => exact hc _ _ _ _ hr
  | callv keep x args =>
    unfold evalE at hr ⊢
    cases hx : ev x <;> simp only [hx] at hr ⊢ <;> try (cases hr; done)
    rename_i f a b
    cases f <;> simp only at hr ⊢ <;> first | exact hc _ _ _ _ hr | (cases hr; done)
  | _ => exact hr

theorem evalOper_mono {cf cf' : Nat → List CVal → CHeap → Option (CVal × CHeap)} (hc : MonoC cf cf') {tm : List CVal} {id : Nat} {o : COper} {s r : RS} (hr : evalOper cf tm id o s = some r) : evalOper cf' tm id o s = some r := by
  unfold evalOper at hr ⊢
  split at hr
  · rename_i hg
    rw [if_pos hg]
    cases hcls : o.op.cls <;> simp only [hcls] at hr ⊢ <;> try exact hr
    cases he : evalE cf (evalOpnd tm s.vals) s.h id o.op with
    | none => rw [he] at hr; cases hr
    | some p => rw [evalE_mono hc he]; rw [he] at hr; exact hr
  · rename_i hg
    rw [if_neg hg]; exact hr

theorem evalOps_mono {cf cf' : Nat → List CVal → CHeap → Option (CVal × CHeap)} (hc : MonoC cf cf') {tm : List CVal} : ∀ {ops : List COper} {id : Nat} {s r : RS}, evalOps cf tm id ops s = some r → evalOps cf' tm id ops s = some r
  | [], _, _, _, hr => hr
  | o :: ops, id, s, r, hr => by
    unfold evalOps at hr ⊢
    cases he : evalOper cf tm id o s with
    | none => rw [he] at hr; cases hr
    | some s' => rw [evalOper_mono hc he]; rw [he] at hr; exact evalOps_mono hc hr

theorem execStep_mono {ex ex' : CCode → CSt → Option (CExit × CSt)} (hx : MonoX ex ex') : MonoX (execStep T ex) (execStep T ex') := fun c st r hr => by
  cases c with
  | region ops wb chk sw =>
    simp only [execStep] at hr ⊢
    cases he : evalOps (callFn T ex) st.tm st.h.next ops ⟨[], { st.h with next := st.h.next + ops.length }, st.defs, []⟩ with
    | none => rw [he] at hr; cases hr
    | some s => rw [evalOps_mono (callFn_mono hx) he]; rw [he] at hr; exact hr
  | seq a b =>
    simp only [execStep] at hr ⊢
    cases he : ex a st with
    | none => rw [he] at hr; cases hr
    | some p =>
      rw [hx _ _ _ he]; rw [he] at hr
      obtain ⟨x, st'⟩ := p
      cases x <;> simp only at hr ⊢ <;> first | exact hx _ _ _ hr | exact hr
  | cond c a b =>
    simp only [execStep] at hr ⊢
    generalize evalOpnd st.tm [] c = v at hr ⊢
    cases v with
    | bool q => cases q <;> exact hx _ _ _ hr
    | _ => cases hr
  | block i b =>
    simp only [execStep] at hr ⊢
    cases he : ex b st with
    | none => rw [he] at hr; cases hr
    | some p => rw [hx _ _ _ he]; rw [he] at hr; exact hr
  | loop d b =>
    simp only [execStep] at hr ⊢
    cases he : ex b st with
    | none => rw [he] at hr; cases hr
    | some p =>
      rw [hx _ _ _ he]; rw [he] at hr
      obtain ⟨x, st'⟩ := p
      cases x <;> simp only at hr ⊢ <;> first | exact hx _ _ _ hr | exact hr
  | skip => exact hr
  | exit i => exact hr
  | ret => exact hr
  | stuck => exact hr

theorem exec_succ (n : Nat) : exec T (n + 1) = execStep T (exec T n) := rfl

theorem exec_mono1 : ∀ n, MonoX (exec T n) (exec T (n + 1))
  | 0 => fun c st r hr => by cases hr
  | n + 1 => execStep_mono (exec_mono1 n)

theorem exec_mono {n m : Nat} (h : n ≤ m) : MonoX (exec T n) (exec T m) := by
  induction h with
  | refl => exact fun _ _ _ h => h
  | step _ ih => exact fun c st r hr => exec_mono1 _ c st r (ih c st r hr)

/-- The code runs so, with fuel enough. -/
def Ev (T : Nat → Option CFn) (c : CCode) (st : CSt) (x : CExit) (st' : CSt) : Prop := ∃ n, exec T n c st = some (x, st')
/-- The call gives so, with fuel enough. -/
def Cl (T : Nat → Option CFn) (f : Nat) (args : List CVal) (h : CHeap) (v : CVal) (h' : CHeap) : Prop := ∃ n, callFn T (exec T n) f args h = some (v, h')
/-- Operations of a region. -/
def Ops (T : Nat → Option CFn) (tm : List CVal) (id : Nat) (ops : List COper) (s s' : RS) : Prop := ∃ n, evalOps (callFn T (exec T n)) tm id ops s = some s'

theorem Ev.skip {st : CSt} : Ev T .skip st .normal st := ⟨1, rfl⟩
theorem Ev.ret {st : CSt} : Ev T .ret st .ret st := ⟨1, rfl⟩
theorem Ev.exit {st : CSt} {i : Nat} : Ev T (.exit i) st (.exit i) st := ⟨1, rfl⟩
theorem Ev.seq {a b : CCode} {st st1 st' : CSt} {x : CExit} (h1 : Ev T a st .normal st1) (h2 : Ev T b st1 x st') : Ev T (.seq a b) st x st' := by
  obtain ⟨n, h1⟩ := h1
  obtain ⟨m, h2⟩ := h2
  refine ⟨max n m + 1, ?_⟩
  rw [exec_succ]
  simp only [execStep]
  rw [exec_mono (Nat.le_max_left n m) _ _ _ h1]
  exact exec_mono (Nat.le_max_right n m) _ _ _ h2
theorem Ev.seq_out {a b : CCode} {st st' : CSt} {x : CExit} (h1 : Ev T a st x st') (hx : x ≠ .normal) : Ev T (.seq a b) st x st' := by
  obtain ⟨n, h1⟩ := h1
  refine ⟨n + 1, ?_⟩
  rw [exec_succ]
  simp only [execStep]
  rw [h1]
  cases x <;> first | rfl | exact absurd rfl hx
theorem Ev.cond_true {c : COpnd} {a b : CCode} {st st' : CSt} {x : CExit} (hc : evalOpnd st.tm [] c = .bool true) (h : Ev T a st x st') : Ev T (.cond c a b) st x st' := by
  obtain ⟨n, h⟩ := h
  refine ⟨n + 1, ?_⟩
  rw [exec_succ]
  simp only [execStep]
  rw [hc]; exact h
theorem Ev.cond_false {c : COpnd} {a b : CCode} {st st' : CSt} {x : CExit} (hc : evalOpnd st.tm [] c = .bool false) (h : Ev T b st x st') : Ev T (.cond c a b) st x st' := by
  obtain ⟨n, h⟩ := h
  refine ⟨n + 1, ?_⟩
  rw [exec_succ]
  simp only [execStep]
  rw [hc]; exact h
def outOf (id : Nat) : CExit → CExit
  | .exit i => if i = id then .normal else .exit i
  | x => x
theorem Ev.block {id : Nat} {c : CCode} {st st' : CSt} {x : CExit} (h : Ev T c st x st') : Ev T (.block id c) st (outOf id x) st' := by
  obtain ⟨n, h⟩ := h
  refine ⟨n + 1, ?_⟩
  rw [exec_succ]
  simp only [execStep]
  rw [h]
  cases x <;> simp only [outOf]
  split <;> rfl
def dropped (drop : Bool) (n : Nat) (st : CSt) : CSt := if drop then { st with h := { st.h with ents := dropCells st.h.ents n } } else st
theorem Ev.loop_step {drop : Bool} {c : CCode} {st st1 st' : CSt} {x : CExit} (h1 : Ev T c st .normal st1) (h2 : Ev T (.loop drop c) (dropped drop st.h.next st1) x st') : Ev T (.loop drop c) st x st' := by
  obtain ⟨n, h1⟩ := h1
  obtain ⟨m, h2⟩ := h2
  refine ⟨max n m + 1, ?_⟩
  rw [exec_succ]
  simp only [execStep]
  rw [exec_mono (Nat.le_max_left n m) _ _ _ h1]
  exact exec_mono (Nat.le_max_right n m) _ _ _ h2
theorem Ev.loop_out {drop : Bool} {c : CCode} {st st' : CSt} {x : CExit} (h1 : Ev T c st x st') (hx : x ≠ .normal) : Ev T (.loop drop c) st x st' := by
  obtain ⟨n, h1⟩ := h1
  refine ⟨n + 1, ?_⟩
  rw [exec_succ]
  simp only [execStep]
  rw [h1]
  cases x <;> first | rfl | exact absurd rfl hx

theorem Ops.nil {tm : List CVal} {id : Nat} {s : RS} : Ops T tm id [] s s := ⟨0, rfl⟩
/-- What calls nothing. -/
theorem Ops.plain {tm : List CVal} {id : Nat} {o : COper} {r : List COper} {s s1 s' : RS} (h1 : evalOper (fun _ _ _ => none) tm id o s = some s1) (h2 : Ops T tm (id + 1) r s1 s') : Ops T tm id (o :: r) s s' := by
  obtain ⟨n, h2⟩ := h2
  refine ⟨n, ?_⟩
  unfold evalOps
  rw [evalOper_mono (cf := fun _ _ _ => none) (fun _ _ _ _ h => by cases h) h1]
  exact h2
open Classical in
/-- A call. -/
theorem Ops.call {tm : List CVal} {id : Nat} {o : COper} {r : List COper} {s s1 s' : RS} {f : Nat} {args : List CVal} {v : CVal} {h' : CHeap} (hc : Cl T f args s.h v h')
    (h1 : evalOper (fun g a h => if g = f ∧ a = args ∧ h = s.h then some (v, h') else none) tm id o s = some s1) (h2 : Ops T tm (id + 1) r s1 s') : Ops T tm id (o :: r) s s' := by
  obtain ⟨n, hc⟩ := hc
  obtain ⟨m, h2⟩ := h2
  refine ⟨max n m, ?_⟩
  unfold evalOps
  rw [evalOper_mono (cf := fun g a h => if g = f ∧ a = args ∧ h = s.h then some (v, h') else none) (fun g a h q hq => by
    by_cases e : g = f ∧ a = args ∧ h = s.h
    · obtain ⟨rfl, rfl, rfl⟩ := e
      simp at hq
      subst hq
      exact callFn_mono (exec_mono (Nat.le_max_left n m)) _ _ _ _ hc
    · simp only [if_neg e] at hq; cases hq) h1]
  exact evalOps_mono (callFn_mono (exec_mono (Nat.le_max_right n m))) h2

theorem Ev.region {ops : List COper} {wb : List (Nat × Nat)} {chk : List (Nat × Nat × Nat)} {sw : List (Nat × Nat)} {st : CSt} {s : RS} (h : Ops T st.tm st.h.next ops ⟨[], { st.h with next := st.h.next + ops.length }, st.defs, []⟩ s)
    (hc : (chk.all (checkOne st.tm ops ops.length s.vals (s.h :: s.hs).reverse) && sw.all (swapOne st.tm ops ops.length s.vals)) = true) :
    Ev T (.region ops wb chk sw) st .normal ⟨writeBack ops.length s.vals st.tm wb, s.h, s.defs⟩ := by
  obtain ⟨n, h⟩ := h
  refine ⟨n + 1, ?_⟩
  rw [exec_succ]
  simp only [execStep]
  rw [h]
  simp only [hc, if_true]

/-- Deferred calls. -/
def Defs (T : Nat → Option CFn) (d : List (Nat × List CVal)) (h h' : CHeap) : Prop := ∃ n, runDefs T (exec T n) d h = some h'
theorem Defs.nil {h : CHeap} : Defs T [] h h := ⟨0, rfl⟩
theorem Defs.cons {f : Nat} {fn : CFunc} {args : List CVal} {d : List (Nat × List CVal)} {h h1 h' : CHeap} {st : CSt} {x : CExit} {vs : List CVal} {v : CVal} (hf : T f = some (.ir fn)) (hn : args.length = fn.nargs)
    (hb : Ev T fn.body ⟨fn.params.map (initVar args), h, []⟩ x st) (hx : ∀ i, x ≠ .exit i) (hd : st.defs = []) (hr : resultsC st.h st.tm fn.results = some vs) (hfin : finishC fn h.next (oneOrTuple vs) st.h = some (v, h1)) (h2 : Defs T d h1 h') : Defs T ((f, args) :: d) h h' := by
  obtain ⟨n, hb⟩ := hb
  obtain ⟨m, h2⟩ := h2
  refine ⟨max n m, ?_⟩
  unfold runDefs
  have : callFlat T (exec T (max n m)) f args h = some (v, h1) := by
    unfold callFlat
    rw [hf]
    show callBody _ _ _ _ _ = _
    unfold callBody
    rw [if_pos hn, exec_mono (Nat.le_max_left n m) _ _ _ hb]
    cases x with
    | exit i => exact absurd rfl (hx i)
    | normal => simp only [hd, noDefs, hr, hfin]
    | ret => simp only [hd, noDefs, hr, hfin]
  rw [this]
  exact runDefs_mono (exec_mono (Nat.le_max_right n m)) _ _ _ h2

theorem Cl.mk {f : Nat} {fn : CFunc} {args : List CVal} {h h1 h' : CHeap} {st : CSt} {x : CExit} {vs : List CVal} {v : CVal} (hf : T f = some (.ir fn)) (hn : args.length = fn.nargs)
    (hb : Ev T fn.body ⟨fn.params.map (initVar args), h, []⟩ x st) (hx : ∀ i, x ≠ .exit i) (hd : Defs T st.defs st.h h1) (hr : resultsC h1 st.tm fn.results = some vs) (hfin : finishC fn h.next (oneOrTuple vs) h1 = some (v, h')) : Cl T f args h v h' := by
  obtain ⟨n, hb⟩ := hb
  obtain ⟨m, hd⟩ := hd
  refine ⟨max n m, ?_⟩
  unfold callFn
  rw [hf]
  show callBody _ _ _ _ _ = _
  unfold callBody
  rw [if_pos hn, exec_mono (Nat.le_max_left n m) _ _ _ hb]
  cases x with
  | exit i => exact absurd rfl (hx i)
  | normal => simp only [runDefs_mono (exec_mono (Nat.le_max_right n m)) _ _ _ hd, hr, hfin]
  | ret => simp only [runDefs_mono (exec_mono (Nat.le_max_right n m)) _ _ _ hd, hr, hfin]

theorem Cl.prim {f : Nat} {p : List CVal → CHeap → Option (CVal × CHeap)} {args : List CVal} {h h' : CHeap} {v : CVal} (hf : T f = some (.prim p)) (hp : p args h = some (v, h')) : Cl T f args h v h' := by
  refine ⟨0, ?_⟩
  unfold callFn
  rw [hf]; exact hp
end
end Go.CI
