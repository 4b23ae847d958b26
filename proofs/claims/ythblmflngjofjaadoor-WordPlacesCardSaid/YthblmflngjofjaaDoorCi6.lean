/- A deterministic interpreter over values, proved sound against the model's rules (part 6 of 7): what a run of it gives, a call in the model gives. -/
import Derived.Test.YthblmflngjofjaaDoorCi5
import Derived.Shelf.Strings.Builder1
import Derived.Shelf.Strings.Search2
import Derived.Handed
import Derived.SizedLaws
import Derived.Shelf.Vars
import Derived.Stop.LaidErr
import Derived.Shelf.Strconv.Clone
set_option linter.unusedVariables false
set_option linter.unusedSimpArgs false

/- The fast form of operations, of code and of calls. -/
set_option linter.unusedVariables false
set_option linter.unusedSimpArgs false
namespace Go.CI

theorem fillF_eq (ev : COpnd → CVal) : ∀ (ps : List (Nat × Nat × COpnd)) (cs : List CVal), fillF ps ev cs = fillCells cs (ps.map fun p => (p.1, p.2.1, ev p.2.2))
  | [], _ => rfl
  | (off, size, x) :: r, cs => by
    show bF (andF (wholeF (ev x)) (andF (Nat.beq (lenC (cellsF (ev x))) size) (Nat.ble (Nat.add off size) (lenC cs)))) (Option (List CVal)) (fillF r ev (setCsF cs off (cellsF (ev x)))) none = _
    rw [bF_eq, andF_eq, andF_eq, wholeF_eq, cellsF_eq, lenC_eq, lenC_eq, nbeq]
    simp only [List.map_cons, fillCells]
    by_cases h1 : (ev x).whole = true
    · by_cases h2 : (ev x).cells.length = size
      · by_cases h3 : off + size ≤ cs.length
        · have e : Nat.ble (Nat.add off size) cs.length = true := Nat.ble_eq_true_of_le h3
          simp only [h1, h2, h3, e, beq_self_eq_true, Bool.and_self, if_true, decide_true]
          rw [setCsF_eq _ _ _ (by omega), fillF_eq ev r]
          simp only [setCells, h2]
        · have e : Nat.ble (Nat.add off size) cs.length = false := by
            cases hb : Nat.ble (Nat.add off size) cs.length with
            | false => rfl
            | true => exact absurd (Nat.le_of_ble_eq_true hb) h3
          simp [h1, h2, h3, e]
      · simp [h1, h2]
    · simp [h1]

theorem elemsF_eq (h : CHeap) (k : Nat) (x : CVal) : elemsF h k x = elems h k x := by
  cases x <;> first
    | rfl
    | (rename_i t l es
       show bF (Nat.beq k l) (Option (List CVal)) (some es) none = if k = l then some es else none
       rw [bF_eq, nbeq]; by_cases hk : k = l <;> simp [hk])

theorem appendF_eq (cf : Nat → List CVal → CHeap → Option (CVal × CHeap)) (ev : COpnd → CVal) (m : SMode) (T k : Nat) (x y : COpnd) (h : CHeap) (id : Nat) : appendF m T k (ev x) (ev y) h id = evalE cf ev h id (.append m T k x y) := by
  unfold appendF
  rw [elemsF_eq]
  simp only [evalE]
  cases elems h k (ev y) with
  | none => rfl
  | some ys => show evalAppend h id m T k (ev x) _ = _; rw [map_bare]

section
variable (cf : Nat → List CVal → CHeap → Option (CVal × CHeap)) (tm : List CVal) (id : Nat) (vals : List CVal) (h : CHeap) (ds : List (Nat × List CVal)) (hs : List CHeap) (k : List CVal → CHeap → List (Nat × List CVal) → List CHeap → Option RS)

theorem pK_eq (e : Option CVal) : pK e vals h ds hs k = (match e with
    | some v => if v.isUndef then none else some (⟨v :: vals, h, ds, hs⟩ : RS)
    | none => none).bind (fun s => k s.vals s.h s.defs s.hs) := by
  cases e with
  | none => rfl
  | some v =>
    show bF (isUndefF v) (Option RS) none (k (v :: vals) h ds hs) = _
    rw [bF_eq, isUndefF_eq]
    cases hu : v.isUndef <;> simp [hu]
theorem eK_eq (st : Bool) (e : Option (CVal × CHeap)) : eK st e vals h ds hs k = (match e with
    | some (v, h') => if v.isUndef && !st then none else some (⟨v :: vals, h', ds, h :: hs⟩ : RS)
    | none => none).bind (fun s => k s.vals s.h s.defs s.hs) := by
  cases e with
  | none => rfl
  | some p =>
    obtain ⟨v, h'⟩ := p
    show bF (andF (isUndefF v) (notF st)) (Option RS) none (k (v :: vals) h' ds (h :: hs)) = _
    rw [bF_eq, andF_eq, notF_eq, isUndefF_eq]
    cases hu : v.isUndef <;> cases st <;> simp [hu]

def operK (op : COp) : Option RS := (evalOper cf tm id ⟨op, none⟩ ⟨vals, h, ds, hs⟩).bind (fun s => k s.vals s.h s.defs s.hs)

theorem oper_p {op : COp} (hc : op.cls = .p) : operK cf tm id vals h ds hs k op = pK (evalP (evalOpnd tm vals) id op) vals h ds hs k := by
  rw [pK_eq]; unfold operK evalOper; simp only [wantedC, if_true, hc]
  cases evalP (evalOpnd tm vals) id op <;> rfl
theorem oper_l {op : COp} (hc : op.cls = .l) : operK cf tm id vals h ds hs k op = pK (evalL (evalOpnd tm vals) h op) vals h ds hs k := by
  rw [pK_eq]; unfold operK evalOper; simp only [wantedC, if_true, hc]
  cases evalL (evalOpnd tm vals) h op <;> rfl
theorem oper_e {op : COp} (hc : op.cls = .e) : operK cf tm id vals h ds hs k op = eK op.isStore (evalE cf (evalOpnd tm vals) h id op) vals h ds hs k := by
  rw [eK_eq]; unfold operK evalOper; simp only [wantedC, if_true, hc]
  cases evalE cf (evalOpnd tm vals) h id op <;> rfl

theorem pK_none : pK none vals h ds hs k = none := rfl

theorem slowP_eq (op : COp) : slowP op tm id vals h ds hs k = pK (evalP (evalOpnd tm vals) id op) vals h ds hs k := by unfold slowP; rw [opndF_fun]
theorem slowE_eq (op : COp) : slowE cf op tm id vals h ds hs k = eK op.isStore (evalE cf (evalOpnd tm vals) h id op) vals h ds hs k := by unfold slowE; rw [opndF_fun]

theorem callArgs_eq (keep : Bool) (args : List COpnd) : callArgs keep args tm vals = if keep then args.map (evalOpnd tm vals) else args.map fun x => (evalOpnd tm vals x).bare := by
  unfold callArgs
  rw [bF_eq, mapO_eq, mapO_eq, opndF_fun]
  cases keep
  · show args.map _ = args.map _
    congr 1
    funext o
    rw [opndF_eq, bareF_eq]
  · rfl

theorem opF_eq (op : COp) : opF op cf tm id vals h ds hs k = operK cf tm id vals h ds hs k op := by
  cases op
  case mv x => rw [oper_p cf tm id vals h ds hs k rfl]; show pK (some (opndF x tm vals)) vals h ds hs k = _; rw [opndF_eq]; rfl
  case pick c a b =>
    rw [oper_p cf tm id vals h ds hs k rfl]
    show selBool (opndF c tm vals) (Option RS) (fun t => pK (some (bF t CVal (opndF a tm vals) (opndF b tm vals))) vals h ds hs k) none = _
    rw [opndF_eq, opndF_eq, opndF_eq]
    simp only [evalP]
    cases evalOpnd tm vals c <;> first
      | rfl
      | (rename_i t; cases t <;> rfl)
  case alloc T z =>
    rw [oper_e cf tm id vals h ds hs k rfl]
    show eK false (bF (Nat.blt (lenC z) 1048576) (Option (CVal × CHeap)) (some (.ptr id (descOf T (lenC z)) 0, hputF h id (.cells z))) none) vals h ds hs k = _
    rw [bF_eq, lenC_eq]
    simp only [evalE, COp.isStore]
    by_cases hb : z.length < blockMost
    · have e : Nat.blt z.length 1048576 = true := Nat.ble_eq_true_of_le hb
      rw [if_pos e, if_pos hb]; rfl
    · have e : ¬ Nat.blt z.length 1048576 = true := fun e => hb (Nat.le_of_ble_eq_true e)
      rw [if_neg e, if_neg hb]
  case lazy d => rw [oper_p cf tm id vals h ds hs k rfl]; rfl
  case box T x => rw [oper_e cf tm id vals h ds hs k rfl]; exact slowE_eq cf tm id vals h ds hs k _
  case build z ps =>
    rw [oper_p cf tm id vals h ds hs k rfl]
    show pK (olCV (fillF ps (fun o => opndF o tm vals) z)) vals h ds hs k = _
    rw [opndF_fun, fillF_eq]
    simp only [evalP]
    cases fillCells z (ps.map fun p => (p.1, p.2.1, evalOpnd tm vals p.2.2)) <;> rfl
  case lit m a z n ps =>
    cases m
    · rw [oper_p cf tm id vals h ds hs k rfl]; exact slowP_eq tm id vals h ds hs k _
    · rw [oper_e cf tm id vals h ds hs k rfl]; exact slowE_eq cf tm id vals h ds hs k _
  case load kk a =>
    rw [oper_l cf tm id vals h ds hs k rfl, ← loadF_eq]
    show pK (loadF kk (opndF a tm vals) h) vals h ds hs k = _
    rw [opndF_eq]
  case store kk a x =>
    rw [oper_e cf tm id vals h ds hs k rfl, ← storeF_eq]
    show eK true (storeF kk (opndF a tm vals) (opndF x tm vals) h) vals h ds hs k = _
    rw [opndF_eq, opndF_eq]; rfl
  case init kk a x =>
    rw [oper_e cf tm id vals h ds hs k rfl, ← initF_eq]
    show eK true (initF kk (opndF a tm vals) (opndF x tm vals) h) vals h ds hs k = _
    rw [opndF_eq, opndF_eq]; rfl
  case nilck x =>
    rw [oper_p cf tm id vals h ds hs k rfl]
    show bF (isPtrF (opndF x tm vals)) (Option RS) (pK (some (opndF x tm vals)) vals h ds hs k) none = _
    rw [opndF_eq]
    simp only [evalP]
    cases evalOpnd tm vals x <;> rfl
  case bin b x y =>
    rw [oper_p cf tm id vals h ds hs k rfl]
    show pK (binF b (opndF x tm vals) (opndF y tm vals)) vals h ds hs k = _
    rw [opndF_eq, opndF_eq, binF_eq]; rfl
  case eqv e n x y =>
    rw [oper_p cf tm id vals h ds hs k rfl]
    show @Option.rec.{1, 0} Bool (fun _ => Option RS) none (fun c => pK (some (.bool (bF n Bool (notF c) c))) vals h ds hs k) (eqvF e (opndF x tm vals) (opndF y tm vals)) = _
    rw [opndF_eq, opndF_eq, eqvF_eq]
    simp only [evalP]
    cases eqVal e (evalOpnd tm vals x) (evalOpnd tm vals y) with
    | none => rfl
    | some c => cases n <;> cases c <;> rfl
  case not x =>
    rw [oper_p cf tm id vals h ds hs k rfl]
    show selBool (opndF x tm vals) (Option RS) (fun b => pK (some (.bool (notF b))) vals h ds hs k) none = _
    rw [opndF_eq]
    simp only [evalP]
    cases evalOpnd tm vals x <;> first
      | rfl
      | (rename_i t; cases t <;> rfl)
  case neg x => rw [oper_p cf tm id vals h ds hs k rfl]; exact slowP_eq tm id vals h ds hs k _
  case cpl x => rw [oper_p cf tm id vals h ds hs k rfl]; exact slowP_eq tm id vals h ds hs k _
  case conv kd x =>
    rw [oper_p cf tm id vals h ds hs k rfl]
    show selInt (opndF x tm vals) (Option RS) (fun _ n => pK (some (.int kd (wrapF kd n))) vals h ds hs k) none = _
    rw [opndF_eq]
    simp only [evalP]
    cases evalOpnd tm vals x <;> first
      | rfl
      | (rename_i l n; show pK (some (.int kd (wrapF kd n))) vals h ds hs k = _; rw [wrapF_eq])
  case same x => rw [oper_p cf tm id vals h ds hs k rfl]; exact slowP_eq tm id vals h ds hs k _
  case s2b m x =>
    cases m
    · rw [oper_p cf tm id vals h ds hs k rfl]; exact slowP_eq tm id vals h ds hs k _
    · rw [oper_e cf tm id vals h ds hs k rfl]; exact slowE_eq cf tm id vals h ds hs k _
  case b2s x =>
    rw [oper_l cf tm id vals h ds hs k rfl]
    show pK (evalL (fun o => opndF o tm vals) h (.b2s x)) vals h ds hs k = _
    rw [opndF_fun]
  case ifc t x =>
    rw [oper_p cf tm id vals h ds hs k rfl]
    show pK (some (.ifc t (opndF x tm vals))) vals h ds hs k = _
    rw [opndF_eq]; rfl
  case mkfn f a b =>
    rw [oper_p cf tm id vals h ds hs k rfl]
    show pK (some (.fn f (mapO (fun o => opndF o tm vals) a) (mapO (fun o => opndF o tm vals) b))) vals h ds hs k = _
    rw [mapO_eq, mapO_eq, opndF_fun]; rfl
  case fieldAddr o x =>
    rw [oper_p cf tm id vals h ds hs k rfl, ← faF_eq]
    show pK (faF o (opndF x tm vals)) vals h ds hs k = _
    rw [opndF_eq]
  case fieldOf o kk x =>
    rw [oper_p cf tm id vals h ds hs k rfl]
    show pK (selAgg (opndF x tm vals) (Option CVal) (fun cs => partF cs o kk) none) vals h ds hs k = _
    rw [opndF_eq]
    simp only [evalP]
    congr 1
    cases evalOpnd tm vals x <;> first
      | rfl
      | exact partF_eq _ _ _
  case idxAddr kk x i =>
    rw [oper_p cf tm id vals h ds hs k rfl, ← idxAddrF_eq]
    show pK (idxAddrF kk (opndF x tm vals) (opndF i tm vals)) vals h ds hs k = _
    rw [opndF_eq, opndF_eq]
  case arrAddr n kk x i => rw [oper_p cf tm id vals h ds hs k rfl]; exact slowP_eq tm id vals h ds hs k _
  case idxStr x i =>
    rw [oper_p cf tm id vals h ds hs k rfl, ← idxStrF_eq]
    show pK (idxStrF (opndF x tm vals) (opndF i tm vals)) vals h ds hs k = _
    rw [opndF_eq, opndF_eq]
  case slc kk x lo hi =>
    rw [oper_p cf tm id vals h ds hs k rfl]
    show pK (slcF kk (opndF x tm vals) (lo.map fun o => opndF o tm vals) (hi.map fun o => opndF o tm vals)) vals h ds hs k = _
    rw [opndF_eq, opndF_fun, slcF_eq]; rfl
  case len s x =>
    rw [oper_p cf tm id vals h ds hs k rfl, ← lenF_eq]
    show pK (lenF s (opndF x tm vals)) vals h ds hs k = _
    rw [opndF_eq]
  case append m T kk x y =>
    rw [oper_e cf tm id vals h ds hs k rfl, ← appendF_eq]
    show eK false (appendF m T kk (opndF x tm vals) (opndF y tm vals) h id) vals h ds hs k = _
    rw [opndF_eq, opndF_eq]; rfl
  case copy kk x y => rw [oper_e cf tm id vals h ds hs k rfl]; exact slowE_eq cf tm id vals h ds hs k _
  case mkslice m a z l c => rw [oper_e cf tm id vals h ds hs k rfl]; exact slowE_eq cf tm id vals h ds hs k _
  case extract i x =>
    rw [oper_p cf tm id vals h ds hs k rfl, ← extrF_eq]
    show pK (extrF i (opndF x tm vals)) vals h ds hs k = _
    rw [opndF_eq]
  case call keep f args =>
    rw [oper_e cf tm id vals h ds hs k rfl]
    show eK false (cf f (callArgs keep args tm vals) h) vals h ds hs k = _
    rw [callArgs_eq]; rfl
  case callv keep x args =>
    rw [oper_e cf tm id vals h ds hs k rfl]
    show eK false (selFn (opndF x tm vals) (Option (CVal × CHeap)) (fun fn first cap => @Fn.rec.{1} (fun _ => Option (CVal × CHeap)) (fun f => cf f (appC first (appC (callArgs keep args tm vals) cap)) h) (fun _ => none) (fun _ _ => none) (fun _ _ _ _ => none) (fun _ => none) fn) none) vals h ds hs k = _
    rw [opndF_eq]
    simp only [evalE, COp.isStore]
    congr 1
    cases evalOpnd tm vals x <;> first
      | rfl
      | (rename_i fn first cap
         cases fn <;> first
           | rfl
           | (show cf _ (appC first (appC (callArgs keep args tm vals) cap)) h = _
              rw [appC_eq, appC_eq, callArgs_eq]))
  case defer x args =>
    show selFn (opndF x tm vals) (Option RS) (fun fn first cap => @Fn.rec.{1} (fun _ => Option RS) (fun f => k (.undef :: vals) h ((f, appC first (appC (mapO (fun o => opndF o tm vals) args) cap)) :: ds) (h :: hs)) (fun _ => none) (fun _ _ => none) (fun _ _ _ _ => none) (fun _ => none) fn) none = _
    rw [opndF_eq, opndF_fun]
    unfold operK evalOper
    simp only [wantedC, if_true, COp.cls]
    cases evalOpnd tm vals x <;> first
      | rfl
      | (rename_i fn first cap
         cases fn <;> first
           | rfl
           | (show k _ _ ((_, appC first (appC (mapO (evalOpnd tm vals) args) cap)) :: ds) _ = _
              rw [appC_eq, appC_eq, mapO_eq]; rfl))
  case minmax m x y => rw [oper_p cf tm id vals h ds hs k rfl]; exact slowP_eq tm id vals h ds hs k _
  case ext x l => rw [oper_e cf tm id vals h ds hs k rfl]; exact slowE_eq cf tm id vals h ds hs k _
  case extl x l =>
    rw [oper_l cf tm id vals h ds hs k rfl]
    show pK (extL h x (mapO (fun o => opndF o tm vals) l)) vals h ds hs k = _
    rw [mapO_eq, opndF_fun]; rfl
  case stuck => rw [oper_p cf tm id vals h ds hs k rfl]; rfl
end

theorem operF_eq (cf : Nat → List CVal → CHeap → Option (CVal × CHeap)) (tm : List CVal) (id : Nat) (vals : List CVal) (h : CHeap) (ds : List (Nat × List CVal)) (hs : List CHeap) (k : List CVal → CHeap → List (Nat × List CVal) → List CHeap → Option RS) (o : COper) :
    operF o cf tm id vals h ds hs k = (evalOper cf tm id o ⟨vals, h, ds, hs⟩).bind (fun s => k s.vals s.h s.defs s.hs) := by
  obtain ⟨op, g⟩ := o
  cases g with
  | none => exact opF_eq cf tm id vals h ds hs k op
  | some p =>
    obtain ⟨d, b⟩ := p
    show bF (selBool (nthF vals d) Bool (fun c => bF c Bool b (notF b)) false) (Option RS) (opF op cf tm id vals h ds hs k) (k (.undef :: vals) h ds (bF (clsED op) (List CHeap) (h :: hs) hs)) = _
    have e : selBool (nthF vals d) Bool (fun c => bF c Bool b (notF b)) false = wantedC vals (some (d, b)) := by
      rw [nthF_eq]
      simp only [wantedC]
      cases nth vals d <;> first
        | rfl
        | (rename_i c; cases c <;> cases b <;> rfl)
    rw [bF_eq, e, opF_eq]
    unfold operK evalOper
    by_cases hw : wantedC vals (some (d, b)) = true
    · have h1 : wantedC vals none = true := rfl
      simp only [hw, h1, if_true]
    · have hw : wantedC vals (some (d, b)) = false := by simpa using hw
      simp only [hw, Bool.false_eq_true, if_false]
      rw [bF_eq]
      unfold clsED
      cases op.cls <;> rfl

theorem opsF_eq (cf : Nat → List CVal → CHeap → Option (CVal × CHeap)) (tm : List CVal) : ∀ (l : List COper) (id : Nat) (s : RS), opsF l cf tm id s.vals s.h s.defs s.hs = evalOps cf tm id l s
  | [], _, _ => rfl
  | o :: r, id, s => by
    show operF o cf tm id s.vals s.h s.defs s.hs (fun vals h ds hs => opsF r cf tm (Nat.succ id) vals h ds hs) = _
    rw [operF_eq]
    simp only [evalOps]
    show (evalOper cf tm id o s).bind _ = _
    cases evalOper cf tm id o s with
    | none => rfl
    | some s' => exact opsF_eq cf tm r (id + 1) s'

theorem setNF_eq : ∀ (l : List CVal) (i : Nat) (x : CVal), setNF l i x = setNth l i x
  | [], _, _ => rfl
  | _ :: _, 0, _ => rfl
  | v :: r, i + 1, x => congrArg (v :: ·) (setNF_eq r i x)
theorem wbF_eq (n : Nat) (vals : List CVal) : ∀ (wb : List (Nat × Nat)) (tm : List CVal), wbF wb n vals tm = writeBack n vals tm wb
  | [], _ => rfl
  | (j, i) :: r, tm => by
    show wbF r n vals (setNF tm j (nthF vals (Nat.sub (Nat.sub n 1) i))) = _
    rw [wbF_eq n vals r, setNF_eq, nthF_eq]; rfl
theorem nilF_eq {α : Type} (l : List α) (p : α → Bool) : bF (nilF l) Bool true (l.all p) = l.all p := by cases l <;> rfl

theorem paramsF_eq : ∀ (ps : List (Option Nat)) (args : List CVal), paramsF ps args = ps.map (initVar args)
  | [], _ => rfl
  | p :: r, args => by
    show @Option.rec.{1, 0} Nat (fun _ => List CVal → CVal) (fun _ => .undef) (fun i args => nthF args i) p args :: paramsF r args = _
    rw [paramsF_eq r args, List.map_cons]
    congr 1
    cases p with
    | none => rfl
    | some i => exact nthF_eq args i
theorem olL_eq {β : Type} (o : Option (List CVal)) (f : List CVal → β) (d : β) : olL o β f d = match o with | some v => f v | none => d := by cases o <;> rfl
theorem resF_eq (h : CHeap) (tm : List CVal) : ∀ rs : List CRes, resF rs h tm = resultsC h tm rs
  | [] => rfl
  | .var j :: r => by
    show olL (resF r h tm) (Option (List CVal)) (fun vs => some (nthF tm j :: vs)) none = _
    rw [olL_eq, resF_eq h tm r, nthF_eq]; simp only [resultsC]
    cases resultsC h tm r <;> rfl
  | .cell j k :: r => by
    show selPtr (nthF tm j) (Option (List CVal)) (fun b _ o => selCells (hgetF h b) (Option (List CVal)) (fun cs => obCV (partF cs o k) (Option (List CVal)) (fun v => olL (resF r h tm) (Option (List CVal)) (fun vs => some (v :: vs)) none) none) none) none = _
    rw [nthF_eq, resF_eq h tm r]
    simp only [resultsC]
    cases nth tm j <;> first
      | rfl
      | (rename_i b sz o
         show selCells (hgetF h b) (Option (List CVal)) (fun cs => obCV (partF cs o k) (Option (List CVal)) (fun v => olL (resultsC h tm r) (Option (List CVal)) (fun vs => some (v :: vs)) none) none) none = _
         rw [selCells_eq, hgetF_eq]
         dsimp only
         cases h.get b with
         | none => rfl
         | some c =>
           cases c
           case cells cs =>
             show obCV (partF cs o k) (Option (List CVal)) (fun v => olL (resultsC h tm r) (Option (List CVal)) (fun vs => some (v :: vs)) none) none = _
             rw [obCV_eq, partF_eq]
             dsimp only
             cases partOf cs o k with
             | none => rfl
             | some v => cases resultsC h tm r <;> rfl
           all_goals rfl)
theorem oneF_eq (vs : List CVal) : oneF vs = oneOrTuple vs := by
  match vs with
  | [] => rfl
  | [_] => rfl
  | _ :: _ :: _ => rfl
theorem dropEF_eq (n : Nat) : ∀ l : List (Nat × CObj), dropEF l n = dropEnts l n
  | [] => rfl
  | (i, o) :: r => by
    show bF (Nat.ble n i) (List (Nat × CObj)) (dropEF r n) ((i, o) :: r) = _
    rw [bF_eq, dropEF_eq n r]
    simp only [dropEnts]
    by_cases h : n ≤ i
    · rw [if_pos (Nat.ble_eq_true_of_le h), if_pos h]
    · rw [if_neg (fun e => h (Nat.le_of_ble_eq_true e)), if_neg h]
theorem dropCF_eq (n : Nat) : ∀ l : List (Nat × CObj), dropCF l n = dropCells l n
  | [] => rfl
  | (i, o) :: r => by
    show bF (Nat.ble n i) (List (Nat × CObj)) (selCells (some o) (List (Nat × CObj)) (fun _ => dropCF r n) ((i, o) :: dropCF r n)) ((i, o) :: r) = _
    rw [bF_eq, dropCF_eq n r]
    simp only [dropCells]
    by_cases h : n ≤ i
    · rw [if_pos (Nat.ble_eq_true_of_le h), if_pos h]
      cases o <;> rfl
    · rw [if_neg (fun e => h (Nat.le_of_ble_eq_true e)), if_neg h]
theorem finF_eq (fn : CFunc) (n : Nat) (v : CVal) (h : CHeap) : finF fn.keep fn.frz n v h = finishC fn n v h := by
  unfold finF finishC
  rw [bF_eq, bF_eq]
  cases fn.keep
  · cases fn.frz
    · show some (bareF v, (⟨dropEF h.ents n, h.next, h.tys⟩ : CHeap)) = _
      rw [bareF_eq, dropEF_eq]; rfl
    · rfl
  · cases fn.frz
    · rfl
    · show some (v, (⟨dropCF h.ents n, h.next, h.tys⟩ : CHeap)) = _
      rw [dropCF_eq]; rfl

section
variable (T : Nat → Option CFn) (ex : CCode → CSt → Option (CExit × CSt))

theorem bodyF_eq (fn : CFunc) (args : List CVal) (h : CHeap) : bodyF ex (runDefs T ex) fn args h = callBody ex (runDefs T ex) fn args h := by
  obtain ⟨nargs, nvars, params, results, body, keep, frz⟩ := fn
  have key : ∀ (e : CExit) (st : CSt), e ≠ .exit 0 ∨ True → True := fun _ _ _ => trivial
  unfold callBody
  show bF (Nat.beq (lenC args) nargs) (Option (CVal × CHeap)) (@Option.rec.{1, 0} (CExit × CSt) (fun _ => Option (CVal × CHeap)) none _ (ex body ⟨paramsF params args, h, []⟩)) none = _
  rw [bF_eq, lenC_eq, nbeq, paramsF_eq]
  by_cases hn : args.length = nargs
  · have e : (args.length == nargs) = true := by simpa using hn
    rw [if_pos e]
    simp only [hn, if_true]
    cases ex body ⟨params.map (initVar args), h, []⟩ with
    | none => rfl
    | some p =>
      obtain ⟨e, st⟩ := p
      have fin : (@Option.rec.{1, 0} CHeap (fun _ => Option (CVal × CHeap)) none (fun h1 => olL (resF results h1 st.tm) (Option (CVal × CHeap)) (fun vs => finF keep frz h.next (oneF vs) h1) none)
              (@List.rec.{1, 0} (Nat × List CVal) (fun _ => Option CHeap) (some st.h) (fun _ _ _ => runDefs T ex st.defs st.h) st.defs)) =
          (match runDefs T ex st.defs st.h with
            | some h1 => match resultsC h1 st.tm results with
              | some vs => finishC ⟨nargs, nvars, params, results, body, keep, frz⟩ h.next (oneOrTuple vs) h1
              | none => none
            | none => none) := by
        have e1 : (@List.rec.{1, 0} (Nat × List CVal) (fun _ => Option CHeap) (some st.h) (fun _ _ _ => runDefs T ex st.defs st.h) st.defs) = runDefs T ex st.defs st.h := by
          generalize hds : st.defs = ds
          cases ds <;> rfl
        rw [e1]
        cases runDefs T ex st.defs st.h with
        | none => rfl
        | some h1 =>
          show olL (resF results h1 st.tm) (Option (CVal × CHeap)) (fun vs => finF keep frz h.next (oneF vs) h1) none = _
          rw [olL_eq, resF_eq]
          dsimp only
          cases resultsC h1 st.tm results with
          | none => rfl
          | some vs =>
            show finF keep frz h.next (oneF vs) h1 = _
            rw [oneF_eq]
            exact finF_eq ⟨nargs, nvars, params, results, body, keep, frz⟩ h.next (oneOrTuple vs) h1
      cases e with
      | exit i => rfl
      | normal => exact fin
      | ret => exact fin
  · have e : ¬ (args.length == nargs) = true := by simpa using hn
    rw [if_neg e]
    simp only [hn, if_false]
theorem callFF_eq (f : Nat) (args : List CVal) (h : CHeap) : callFF T ex f args h = callFn T ex f args h := by
  unfold callFF callFn
  cases T f with
  | none => rfl
  | some c =>
    cases c with
    | ir fn => exact bodyF_eq T ex fn args h
    | prim p => rfl
end

theorem regF_eq (T : Nat → Option CFn) (ex : CCode → CSt → Option (CExit × CSt)) (ops : List COper) (wb : List (Nat × Nat)) (chk : List (Nat × Nat × Nat)) (sw : List (Nat × Nat)) (st : CSt) :
    regF ops wb chk sw T ex st = execStep T ex (.region ops wb chk sw) st := by
  obtain ⟨tm, ⟨e, nx, t⟩, ds⟩ := st
  show @Option.rec.{1, 0} RS (fun _ => Option (CExit × CSt)) none _ (opsF ops (callFF T ex) tm nx [] ⟨e, Nat.add nx ops.length, t⟩ ds []) = _
  have hcf : callFF T ex = callFn T ex := funext fun f => funext fun a => funext fun h => callFF_eq T ex f a h
  have h1 := opsF_eq (callFn T ex) tm ops nx ⟨[], ⟨e, nx + ops.length, t⟩, ds, []⟩
  rw [hcf]
  have h1' : opsF ops (callFn T ex) tm nx [] ⟨e, Nat.add nx ops.length, t⟩ ds [] = _ := h1
  rw [h1']
  simp only [execStep]
  cases evalOps (callFn T ex) tm nx ops ⟨[], ⟨e, nx + ops.length, t⟩, ds, []⟩ with
  | none => rfl
  | some s =>
    obtain ⟨vals, h', ds', hs⟩ := s
    show bF (andF (bF (nilF chk) Bool true (chk.all (checkOne tm ops ops.length vals (h' :: hs).reverse))) (bF (nilF sw) Bool true (sw.all (swapOne tm ops ops.length vals)))) (Option (CExit × CSt))
        (some (.normal, ⟨wbF wb ops.length vals tm, h', ds'⟩)) none = _
    rw [nilF_eq, nilF_eq, bF_eq, andF_eq, wbF_eq]

theorem exSel_eq {β : Type} (e : CExit) (a : β) (b : Nat → β) (c : β) : exSel e β a b c = match e with | .normal => a | .exit i => b i | .ret => c := by cases e <;> rfl

theorem stepF_eq (T : Nat → Option CFn) (ex : CCode → CSt → Option (CExit × CSt)) (c : CCode) (st : CSt) : stepF c T ex st = execStep T ex c st := by
  cases c
  case skip => rfl
  case region ops wb chk sw => exact regF_eq T ex ops wb chk sw st
  case seq a b =>
    show orX (ex a st) (fun e st' => exSel e (Option (CExit × CSt)) (ex b st') (fun i => some (.exit i, st')) (some (.ret, st'))) = _
    simp only [execStep]
    cases ex a st with
    | none => rfl
    | some p => obtain ⟨e, st'⟩ := p; cases e <;> rfl
  case cond c a b =>
    show selBool (opndF c st.tm []) (Option (CExit × CSt)) (fun t => bF t (Option (CExit × CSt)) (ex a st) (ex b st)) none = _
    rw [opndF_eq]
    simp only [execStep]
    cases evalOpnd st.tm [] c <;> first
      | rfl
      | (rename_i t; cases t <;> rfl)
  case block id c =>
    show orX (ex c st) (fun e st' => exSel e (Option (CExit × CSt)) (some (.normal, st')) (fun i => bF (Nat.beq i id) (Option (CExit × CSt)) (some (.normal, st')) (some (.exit i, st'))) (some (.ret, st'))) = _
    simp only [execStep]
    cases ex c st with
    | none => rfl
    | some p =>
      obtain ⟨e, st'⟩ := p
      cases e with
      | normal => rfl
      | ret => rfl
      | exit i =>
        show bF (Nat.beq i id) (Option (CExit × CSt)) (some (.normal, st')) (some (.exit i, st')) = _
        rw [bF_eq, nbeq]
        by_cases h : i = id <;> simp [h]
  case loop drop c =>
    show orX (ex c st) (fun e st' => exSel e (Option (CExit × CSt)) (ex (.loop drop c) (bF drop CSt (@CSt.rec.{1} (fun _ => CSt) (fun tm h ds => @CHeap.rec.{1} (fun _ => CSt) (fun e nx t => ⟨tm, ⟨dropCF e st.h.next, nx, t⟩, ds⟩) h) st') st')) (fun i => some (.exit i, st')) (some (.ret, st'))) = _
    simp only [execStep]
    cases ex c st with
    | none => rfl
    | some p =>
      obtain ⟨e, st'⟩ := p
      cases e with
      | normal =>
        obtain ⟨tm, ⟨en, nx, t⟩, ds⟩ := st'
        show ex (.loop drop c) (bF drop CSt (⟨tm, ⟨dropCF en st.h.next, nx, t⟩, ds⟩ : CSt) ⟨tm, ⟨en, nx, t⟩, ds⟩) = _
        rw [bF_eq, dropCF_eq]
      | ret => rfl
      | exit i => rfl
  all_goals rfl

theorem execF_eq (T : Nat → Option CFn) : ∀ n, execF T n = exec T n
  | 0 => rfl
  | n + 1 => by
    funext c st
    show stepF c T (execF T n) st = execStep T (exec T n) c st
    rw [stepF_eq, execF_eq T n]
theorem crunF_eq (T : Nat → Option CFn) (n f : Nat) (args : List CVal) (h : CHeap) : crunF T n f args h = crun T n f args h := by
  unfold crunF crun
  rw [execF_eq, callFF_eq]
theorem CTree.getF_eq (t : CTree) (f : Nat) : t.getF f = t.get f := by
  induction t with
  | leaf i fn => show bF (Nat.beq f i) (Option CFn) (some fn) none = _; rw [bF_eq]; simp only [CTree.get]; cases Nat.beq f i <;> rfl
  | node m a b iha ihb => show bF (Nat.blt f m) (Option CFn) (a.getF f) (b.getF f) = _; rw [bF_eq, iha, ihb]; simp only [CTree.get]; cases Nat.blt f m <;> rfl
theorem crun_of_fast {t : CTree} {n f : Nat} {args : List CVal} {p : Option (CVal × CHeap) → Bool} (h : p (crunF t.getF n f args noHeap) = true) : p (crun t.get n f args noHeap) = true := by
  have e : t.getF = t.get := funext fun f => t.getF_eq f
  rw [crunF_eq, e] at h
  exact h
end Go.CI

/- strings.Builder.copyCheck as a function of the interpreter's own: it is the model's. -/
set_option linter.unusedVariables false
set_option linter.unusedSimpArgs false
namespace Go.CI
open Go.Shelf Go.RowKit Go.Lib Go.Proofs

section
variable {P : Program} {ρ : Ren}

set_option maxHeartbeats 1000000 in
set_option maxRecDepth 100000 in
theorem cc_used (L : Lays.n240 P ρ) (hs : (P.info? (ρ.t 72)).map (·.size) = some 2) (b o : Nat) (w : World) (h0 : w.cell? ⟨b, o, none⟩ = some (.pointer (some ⟨b, o, none⟩))) :
    Calls P (ρ.f 240) #[.pointer (some ⟨b, o, none⟩)] w fun e w' => e = .returned (.tuple #[]) ∧ w' = w := by
  obtain ⟨j, hj, _⟩ := Option.map_eq_some_iff.1 hs
  have mixed := L.mixed
  have t72 := L.t72; have a72 := L.a72; have z72 := L.z72; have v72 := L.v72; have u72 := run_underlying L.t72
  have t70 := L.t70; have a70 := L.a70; have z70 := L.z70; have v70 := L.v70; have u70 := run_underlying L.t70
  have t9 := L.t9; have a9 := L.a9; have z9 := L.z9; have v9 := L.v9; have u9 := run_underlying L.t9
  have t4 := L.t4; have a4 := L.a4; have z4 := L.z4; have v4 := L.v4; have u4 := run_underlying L.t4
  have t164 := L.t164; have a164 := L.a164; have z164 := L.z164; have v164 := L.v164; have u164 := run_underlying L.t164
  go_enter L.f240, Body.n240_ntmps ρ
  go_wp2
  rw [Lib.run_neq_ptr_same w _ L.t70 hj]
  go_wp2
  go_end0
  exact ⟨rfl, rfl⟩

set_option maxHeartbeats 1000000 in
set_option maxRecDepth 100000 in
theorem cc_fresh (L : Lays.n240 P ρ) (hs : (P.info? (ρ.t 72)).map (·.size) = some 2) (b o : Nat) (w : World) {T cells : Nat} (h0 : w.cell? ⟨b, o, none⟩ = some (.pointer none)) (hsh : w.shape? b = some (T, cells)) (hoff : o < cells)
    (hl : liesAt P P.depth T (cells / P.cellsOf T) o (ρ.t 72) 1 = true) (hfz : w.frozen? ⟨b, o, none⟩ = false) :
    Calls P (ρ.f 240) #[.pointer (some ⟨b, o, none⟩)] w fun e w' => e = .returned (.tuple #[]) ∧ w' = w.setCell ⟨b, o, none⟩ (.pointer (some ⟨b, o, none⟩)) := by
  obtain ⟨j, hj, hjs⟩ := Option.map_eq_some_iff.1 hs
  have mixed := L.mixed
  have t72 := L.t72; have a72 := L.a72; have z72 := L.z72; have v72 := L.v72; have u72 := run_underlying L.t72
  have t70 := L.t70; have a70 := L.a70; have z70 := L.z70; have v70 := L.v70; have u70 := run_underlying L.t70
  have t9 := L.t9; have a9 := L.a9; have z9 := L.z9; have v9 := L.v9; have u9 := run_underlying L.t9
  have t4 := L.t4; have a4 := L.a4; have z4 := L.z4; have v4 := L.v4; have u4 := run_underlying L.t4
  have t164 := L.t164; have a164 := L.a164; have z164 := L.z164; have v164 := L.v164; have u164 := run_underlying L.t164
  go_enter L.f240, Body.n240_ntmps ρ
  go_wp2
  rw [Lib.run_to_unsafe w ⟨b, o, none⟩ L.t70 L.t164 hj (by rw [hjs]; decide) hsh hoff]
  simp only [Result.andThen]
  rw [Oper.upon_value]
  go_wp2
  rw [run_callFunc_extern L.f276 (by kernel_rfl) (by kernel_rfl) (by kernel_rfl) (e := Extern.AbiNoEscape.same) (by kernel_rfl)]
  rw [Lib.run_noEscape]
  simp only [Result.andThen]
  rw [Oper.upon_value]
  go_wp2
  rw [Lib.run_from_unsafe w ⟨b, o, none⟩ L.t164 L.t70 hj hsh hl]
  simp only [Result.andThen]
  rw [Oper.upon_value]
  go_wp2
  go_end0
  exact ⟨rfl, rfl⟩
end

section
variable {P : Program} {ρ : Ren}

theorem liesAt_off {e : TypeId} (hc : P.cellsOf e = 1) (count off n : Nat) (hn : off + n ≤ count) : liesAt P P.depth e count off e n = true := by
  have hd : P.depth = (2 * (P.types.size + Made.depth) + 1) + 1 := rfl
  rw [hd]
  simp only [liesAt, Bool.or_eq_true]
  left
  rw [hd]
  simp [rowAt, hc, hn, sameLayout, Nat.mod_one]

theorem run_unsafeString_at (w : World) (pt it ty e : TypeId) (hp : P.underlying pt = some (.pointer e)) (hc : P.cellsOf e = 1) (g ro cells : Nat) (hsh : w.shape? g = some (e, cells)) (l : List UInt8) (h0 : l ≠ []) (hn : ro + l.length ≤ cells) (h63 : l.length ≤ 9223372036854775807)
    (hcell : ∀ j x, l[j]? = some x → w.cell? ((⟨g, ro, none⟩ : Addr).add j) = some (.int .u8 x.toNat)) :
    (Builtin.unsafeString_ #[pt, it] ty #[.pointer (some ⟨g, ro, none⟩), .int .i64 l.length]).run P w = .ok (.string ⟨l.toArray⟩) (w.freeze ⟨g, ro, none⟩ l.length) := by
  have hl : l.length ≠ 0 := by simpa using h0
  have hlb := Lib.run_loadBytes (P := P) w l ⟨g, ro, none⟩ .empty hcell
  have hlies := liesAt_off (P := P) hc (cells / P.cellsOf e) ro l.length (by rw [hc]; simpa using hn)
  have h63' : ¬ (9223372036854775807 : Int) < (l.length : Int) := by omega
  have hdef : Builtin.unsafeString_ #[pt, it] ty #[.pointer (some ⟨g, ro, none⟩), .int .i64 l.length] =
      (do
        let n ← asInt (.int .i64 l.length)
        if n < 0 then runtimePanic (.error "unsafe.String: len out of range")
        if n > IntKind.i64.max then unsupported (.unsafePointer "String: a length above the largest int")
        if n = 0 then pure (.string .empty)
        else if ← variablesAt ⟨g, ro, none⟩ (← elemOf pt) n.toNat then do
          let s ← loadBytes ⟨g, ro, none⟩ .empty n.toNat
          freeze ⟨g, ro, none⟩ n.toNat
          pure (.string s)
        else unsupported (.unsafePointer "String: not so many bytes at ptr")) := rfl
  rw [hdef]
  have hmax : IntKind.i64.max = 9223372036854775807 := rfl
  have hneg : ¬ (l.length : Int) < 0 := by omega
  simp [asInt, asIntOf, hmax, h63', hneg, hl, variablesAt, hsh, elemOf, run_underlying hp, hlies, hlb]

set_option maxHeartbeats 2000000 in
set_option maxRecDepth 100000 in
theorem bs_row (L : Lays.n169 P ρ) (X : Builder.Extra P ρ) (b o g ro cap cells : Nat) (l : List UInt8) (w : World) (hbuf : w.cell? ⟨b, o + 1, none⟩ = some (.slice (some ⟨g, ro, none⟩) l.length cap)) (h0 : l ≠ []) (hcap : cap ≠ 0)
    (hsh : w.shape? g = some (ρ.t 5, cells)) (hn : ro + l.length ≤ cells) (h63 : l.length ≤ 9223372036854775807) (hcell : ∀ j x, l[j]? = some x → w.cell? ((⟨g, ro, none⟩ : Addr).add j) = some (.int .u8 x.toNat)) :
    Calls P (ρ.f 169) #[.pointer (some ⟨b, o, none⟩)] w fun e w' => e = .returned (.string ⟨l.toArray⟩) ∧ w' = w.drew.freeze ⟨g, ro, none⟩ l.length := by
  have c1 : w.drew.cell? ⟨b, o + 1, none⟩ = some (.slice (some ⟨g, ro, none⟩) l.length cap) := hbuf
  have hSD : (Builtin.unsafeSliceData_ #[(ρ.t 37)] (ρ.t 127) #[.slice (some ⟨g, ro, none⟩) l.length cap]).run P w.drew = .ok (.pointer (some ⟨g, ro, none⟩)) w.drew :=
    Lib.run_unsafeSliceData_row _ _ _ _ _ _ hcap
  have hUS : (Builtin.unsafeString_ #[(ρ.t 127), (ρ.t 3)] (ρ.t 9) #[.pointer (some ⟨g, ro, none⟩), .int .i64 l.length]).run P w.drew = .ok (.string ⟨l.toArray⟩) (w.drew.freeze ⟨g, ro, none⟩ l.length) :=
    run_unsafeString_at w.drew (ρ.t 127) (ρ.t 3) (ρ.t 9) (ρ.t 5) L.t127 X.cellsByte g ro cells hsh l h0 hn h63 hcell
  have mixed := L.mixed
  have t72 := L.t72; have a72 := L.a72; have z72 := L.z72; have v72 := L.v72; have u72 := run_underlying L.t72
  have t70 := L.t70; have a70 := L.a70; have z70 := L.z70; have v70 := L.v70; have u70 := run_underlying L.t70
  have t37 := L.t37; have a37 := L.a37; have z37 := L.z37; have v37 := L.v37; have u37 := run_underlying L.t37
  have t127 := L.t127; have a127 := L.a127; have z127 := L.z127; have v127 := L.v127; have u127 := run_underlying L.t127
  have t3 := L.t3; have a3 := L.a3; have z3 := L.z3; have v3 := L.v3; have u3 := run_underlying L.t3
  have t9 := L.t9; have a9 := L.a9; have z9 := L.z9; have v9 := L.v9; have u9 := run_underlying L.t9
  have t5 := X.t5; have a5 := X.a5; have z5 := X.z5; have v5 := X.v5; have u5 := run_underlying X.t5
  go_enter L.f169, Body.n169_ntmps ρ
  go_wp2
  go_region_o
  all_goals (go_wp2; go_ret; exact ⟨rfl, rfl⟩)

set_option maxHeartbeats 2000000 in
set_option maxRecDepth 100000 in
theorem bs_nil (L : Lays.n169 P ρ) (X : Builder.Extra P ρ) (b o : Nat) (w : World) (hbuf : w.cell? ⟨b, o + 1, none⟩ = some (.slice none 0 0)) :
    Calls P (ρ.f 169) #[.pointer (some ⟨b, o, none⟩)] w fun e w' => e = .returned (.string ⟨#[]⟩) ∧ w' = w.drew := by
  have hUS := Any.unsafeString_none L X
  have c1 : w.drew.cell? ⟨b, o + 1, none⟩ = some (.slice none 0 0) := hbuf
  have hSD : (Builtin.unsafeSliceData_ #[(ρ.t 37)] (ρ.t 127) #[.slice none 0 0]).run P w.drew = .ok (.pointer none) w.drew := rfl
  have mixed := L.mixed
  have t72 := L.t72; have a72 := L.a72; have z72 := L.z72; have v72 := L.v72; have u72 := run_underlying L.t72
  have t70 := L.t70; have a70 := L.a70; have z70 := L.z70; have v70 := L.v70; have u70 := run_underlying L.t70
  have t37 := L.t37; have a37 := L.a37; have z37 := L.z37; have v37 := L.v37; have u37 := run_underlying L.t37
  have t127 := L.t127; have a127 := L.a127; have z127 := L.z127; have v127 := L.v127; have u127 := run_underlying L.t127
  have t3 := L.t3; have a3 := L.a3; have z3 := L.z3; have v3 := L.v3; have u3 := run_underlying L.t3
  have t9 := L.t9; have a9 := L.a9; have z9 := L.z9; have v9 := L.v9; have u9 := run_underlying L.t9
  have t5 := X.t5; have a5 := X.a5; have z5 := X.z5; have v5 := X.v5; have u5 := run_underlying X.t5
  go_enter L.f169, Body.n169_ntmps ρ
  go_wp2
  go_region_o
  all_goals (go_wp2; go_ret; exact ⟨rfl, rfl⟩)
end

section
variable {P : Program} {base : Base} {G : Gh} {h : CHeap} {w : World} {ρ : Ren}

/-- A variable's cell is written. -/
theorem post_cell (I : Inv base G h w) {b ab d o : Nat} {cs : List CVal} {c : CVal} {u : Value} (hm : G.mu b = some (ab, d)) (hb : h.get b = some (.cells cs)) (ho : o < cs.length) (hc : VR G c u) (hf : c.flat = true) :
    Post base (· = h.next) G h w G (h.set b (.cells (setCells cs o [c]))) (w.setCells ab o [u]) := by
  obtain ⟨own, I⟩ := I
  obtain ⟨hbn, hab, hown, hbk⟩ := I.mus b ab d hm
  obtain ⟨hl, hcel⟩ := (I.ents b _ hb).2 ab d hm
  have hlive : ∀ j, j < 1 → own ab (o + j) = some (.m b) ∧ Live w ab (o + j) := fun j hj => hown (o + j) (by omega)
  have hvs : VRs G [c] [u] := VRs.cons hc (VRs.nil G)
  refine post_write I (b := b) (x := .m b) (.inl rfl) hab (fun j hj => hlive j (by simpa using hj)) hb (fun b' hne => get_set_other hne) (fun q hq => ?_) rfl rfl (nodup_set h b _ I.nod)
  rw [get_set_self hb] at hq
  cases hq
  intro ab' k hm'
  rw [hm] at hm'
  cases hm'
  have hxl : o + [c].length ≤ cs.length := by simp; omega
  refine ⟨by rw [length_setCells _ _ _ hxl, hl], fun i c' hi => ?_⟩
  rw [getElem?_setCells _ _ _ hxl] at hi
  split at hi
  · rename_i hin
    exact ⟨by have := List.mem_of_getElem? hi; simp at this; rw [this]; exact hf, holds_in (fun j hj => (hlive j (by simpa using hj)).2) hvs hin hi⟩
  · rename_i hout
    obtain ⟨h1, v, hv, hr⟩ := hcel i c' hi
    exact ⟨h1, v, by rw [setCells_out (fun _ => by simp at hout ⊢; omega)]; exact hv, hr⟩

/-- Where a Builder lies in a block. -/
def ccOks (P : Program) (B : TypeId) (oks : List (Nat × Nat)) : Bool :=
  oks.all fun p => decide (p.1 ≠ 0) && (decide (p.2 < szOf p.1) && liesAt P P.depth (tyOf p.1) (szOf p.1 / P.cellsOf (tyOf p.1)) p.2 B 1)

theorem hasPair_mem : ∀ {l : List (Nat × Nat)} {x y : Nat}, hasPair l x y = true → (x, y) ∈ l
  | (a, b) :: r, x, y, h => by
    simp only [hasPair, Bool.or_eq_true, Bool.and_eq_true, beq_iff_eq] at h
    rcases h with ⟨rfl, rfl⟩ | h
    · simp
    · exact List.mem_cons_of_mem _ (hasPair_mem h)

theorem post_call {v : CVal} {h' : CHeap} {G' : Gh} {u : Value} {w' : World} (hv : VR G' v u) (hp : Post base (· = h.next) G h w G' h' w') : CallPost base G h w v h' u w' :=
  ⟨G', hv, post_ex hp fun j hj hlt _ => absurd hlt (by omega)⟩

theorem sim_copyCheck (L : Lays.n240 P ρ) (hname : ((Body.n240 ρ).name == "runtime.NumGoroutine") = false) (hs : (P.info? (ρ.t 72)).map (·.size) = some 2) {oks : List (Nat × Nat)} (hok : ccOks P (ρ.t 72) oks = true) : SimPrim P base (ρ.f 240) (pCopyCheck oks) := by
  intro G h w xs us v h' hp I hr
  unfold pCopyCheck at hp
  split at hp
  · rename_i b d o
    obtain ⟨X, rfl, hX⟩ := vrs_one hr
    split at hp
    · rename_i hpair
      have hm0 := List.all_eq_true.1 hok _ (hasPair_mem hpair)
      simp only [Bool.and_eq_true, decide_eq_true_eq] at hm0
      obtain ⟨hd0, ho, hlies⟩ := hm0
      cases hX with
      | ptr hm =>
        rename_i ab
        have I0 := I
        obtain ⟨own, Io⟩ := I0
        obtain ⟨hbn, hab, hown, hbk⟩ := Io.mus b ab d hm
        have hsh := hbk.2 hd0
        have hent : (callFunc (ρ.f 240) ⟨[.pointer (some ⟨ab, o, none⟩)]⟩).run P w = .ok (.enter (ρ.f 240) ⟨[.pointer (some ⟨ab, o, none⟩)]⟩) w :=
          run_enter (c := ((Body.n240 ρ).body).getD .skip) L.f240 hname (by rfl) _ w
        split at hp
        · rename_i cs hg
          obtain ⟨hl, hcel⟩ := (Io.ents b _ hg).2 ab d hm
          have hcl : o < cs.length := by omega
          obtain ⟨hfl, z, hz, hzr⟩ := hcel o _ (getElem?_nth hcl)
          split at hp
          · rename_i hnil
            cases hp
            rw [hnil] at hzr
            cases hzr
            refine .inr ⟨_, _, hent, ?_⟩
            refine (cc_fresh L hs ab o w hz hsh ho hlies (hown o ho).2.2).mono fun e w' ⟨he, hw'⟩ => ⟨_, he, ?_⟩
            subst hw'
            exact post_call (.tup rfl (VRs.nil G).2) (post_cell I hm hg hcl (.ptr hm) rfl)
          · rename_i b' d' o' hptr
            split at hp
            · rename_i hc
              simp only [Bool.and_eq_true, beq_iff_eq] at hc
              obtain ⟨rfl, rfl, rfl⟩ := hc
              cases hp
              rw [hptr] at hzr
              cases hzr with
              | ptr hm2 =>
                rw [hm] at hm2
                cases hm2
                refine .inr ⟨_, _, hent, ?_⟩
                refine (cc_used L hs ab o' w hz).mono fun e w' ⟨he, hw'⟩ => ⟨_, he, ?_⟩
                subst hw'
                exact ⟨G, .tup rfl (VRs.nil G).2, .refl I⟩
            · cases hp
          · cases hp
        · cases hp
    · cases hp
  · cases hp
end
end Go.CI

/- strings.Builder.String as a function of the interpreter's own: it is the model's. -/
set_option linter.unusedVariables false
set_option linter.unusedSimpArgs false
namespace Go.CI
open Go.Shelf Go.RowKit Go.Lib Go.Proofs

section
variable {P : Program} {base : Base} {G : Gh} {h : CHeap} {w : World} {ρ : Ren}

theorem freeze_heap {ab o n : Nat} {c : Array Value} {T lo hi : Nat} (hn : n ≠ 0) (hb : w.heap[ab]? = some (.cells c T (lo, hi))) (a : Nat) :
    (w.freeze ⟨ab, o, none⟩ n).heap[a]? = if a = ab then some (.cells c T (if lo == hi then (o, o + n) else (min lo o, max hi (o + n)))) else w.heap[a]? := by
  unfold World.freeze
  rw [if_neg hn]
  simp only [Array.getElem?_modify]
  by_cases h1 : ab = a
  · subst h1
    rw [if_pos rfl, if_pos rfl, hb]; rfl
  · rw [if_neg h1, if_neg (fun e => h1 e.symm)]

theorem nth_none {l : List CVal} {i : Nat} (h : l.length ≤ i) : nth l i = .undef := by rw [nth_eq, List.getElem?_eq_none h]; rfl

theorem byteVals_eq : ∀ {es : List CVal} {l : List UInt8}, byteVals es = some l → es = l.map (fun x => CVal.int .u8 x.toNat)
  | [], l, h => by simp only [byteVals] at h; cases h; rfl
  | e :: es, l, h => by
    cases e <;> try (simp [byteVals] at h; done)
    rename_i k n
    cases k <;> simp only [byteVals] at h <;> first | (cases h; done) | skip
    split at h
    · rename_i hn
      simp only [Bool.and_eq_true, decide_eq_true_eq] at hn
      obtain ⟨l', hl, rfl⟩ := Option.map_eq_some_iff.1 h
      rw [byteVals_eq hl]
      simp only [List.map_cons, List.cons.injEq, and_true, CVal.int.injEq, true_and]
      rw [UInt8.toNat_ofNat']
      omega
    · cases h

theorem freeze_size (a : Addr) (n : Nat) : (w.freeze a n).heap.size = w.heap.size := by
  unfold World.freeze
  split <;> simp

set_option maxHeartbeats 1000000 in
/-- A row is written no more. -/
theorem post_rowfreeze (I : Inv base G h w) {b ver ab ao k cap T o n : Nat} {es : List CVal} {q0 : CObj} (hb : h.get b = some q0) (hq0 : q0 = .row ver es ∨ q0 = .frow ver es) (ht : h.ty b = some T) (hr : G.rw b ver = some (ab, ao, k, cap)) (hn : n ≠ 0)
    (hsz : ∀ N, w.shape? ab = some (T, N) → o + n ≤ N) :
    Post base (fun _ => False) G h w G (h.set b (.frow ver es)) (w.drew.freeze ⟨ab, o, none⟩ n) := by
  obtain ⟨own, I⟩ := I
  obtain ⟨hRow, hsole⟩ := I.tys b T ht ver _ hr
  obtain ⟨c, lo, hi, hheap, hlh, hhc⟩ := hRow
  obtain ⟨hbn, hvmax, hab, hcap, hown, hel⟩ : b < h.next ∧ (∀ v x, G.rw b v = some x → v ≤ ver) ∧ base ≤ ab ∧ es.length ≤ cap ∧ (∀ i, i < cap * k → own ab (ao + i) = some (.r b)) ∧
      ∀ (i : Nat) (e : CVal), es[i]? = some e → e.cells.length = k ∧ ∀ (j : Nat) (c : CVal), e.cells[j]? = some c → c.flat = true ∧ Holds G w ab (ao + i * k + j) c := by
    obtain ⟨x1, x2⟩ := I.ents b _ hb
    rcases hq0 with rfl | rfl
    · obtain ⟨x3, x4⟩ := x2
      obtain ⟨y1, y2, y3, y4⟩ := x4 ab ao k cap hr
      exact ⟨x1, x3, y1, y2, fun i hi => (y3 i hi).1, y4⟩
    · obtain ⟨x3, x4⟩ := x2
      obtain ⟨y1, y2, y3, y4⟩ := x4 ab ao k cap hr
      exact ⟨x1, x3, y1, y2, fun i hi => (y3 i hi).1, y4⟩
  have hsz' : o + n ≤ c.size := hsz c.size (by unfold World.shape?; rw [hheap])
  have hH := fun a => freeze_heap (w := w.drew) (o := o) hn (show w.drew.heap[ab]? = _ from hheap) a
  have hHo : ∀ a, a ≠ ab → (w.drew.freeze ⟨ab, o, none⟩ n).heap[a]? = w.heap[a]? := fun a ha => by rw [hH, if_neg ha]; rfl
  have hHs := hH ab
  rw [if_pos rfl] at hHs
  have hcell : ∀ a i, (w.drew.freeze ⟨ab, o, none⟩ n).cell? ⟨a, i, none⟩ = w.cell? ⟨a, i, none⟩ := fun a i => by
    by_cases ha : a = ab
    · subst ha
      unfold World.cell?
      simp only [hHs, hheap]
    · unfold World.cell?
      simp only [hHo a ha]
  have hfr : ∀ a i, a ≠ ab → (w.drew.freeze ⟨ab, o, none⟩ n).frozen? ⟨a, i, none⟩ = w.frozen? ⟨a, i, none⟩ := fun a i ha => by
    unfold World.frozen?
    simp only [hHo a ha]
  have hsize : (w.drew.freeze ⟨ab, o, none⟩ n).heap.size = w.heap.size := freeze_size _ _
  have hshape : ∀ a, (w.drew.freeze ⟨ab, o, none⟩ n).shape? a = w.shape? a := fun a => by
    by_cases ha : a = ab
    · subst ha
      unfold World.shape?
      simp only [hHs, hheap]
    · unfold World.shape?
      simp only [hHo a ha]
  have hmap : ∀ (a : Nat) (es : Array MapEntry) (ck : Nat), w.heap[a]? = some (Obj.map es ck) → (w.drew.freeze ⟨ab, o, none⟩ n).heap[a]? = some (Obj.map es ck) := fun a es ck hm => by
    by_cases ha : a = ab
    · rw [ha, hheap] at hm; cases hm
    · rw [hHo a ha]; exact hm
  have hends : (if lo == hi then (o, o + n) else (min lo o, max hi (o + n))).1 ≤ (if lo == hi then (o, o + n) else (min lo o, max hi (o + n))).2 ∧ (if lo == hi then (o, o + n) else (min lo o, max hi (o + n))).2 ≤ c.size := by
    split
    · exact ⟨by show o ≤ o + n; omega, hsz'⟩
    · refine ⟨?_, ?_⟩
      · show min lo o ≤ max hi (o + n); omega
      · show max hi (o + n) ≤ c.size; omega
  have hrb : ∀ a T, RowB w a T → RowB (w.drew.freeze ⟨ab, o, none⟩ n) a T := fun a T' hr' => by
    obtain ⟨c', lo', hi', h1, h2, h3⟩ := hr'
    by_cases ha : a = ab
    · rw [ha, hheap] at h1
      have e := Option.some.inj h1
      injection e with _ e2 _
      rw [← e2, ha]
      exact ⟨c, _, _, hHs, hends.1, hends.2⟩
    · exact ⟨c', lo', hi', by rw [hHo a ha]; exact h1, h2, h3⟩
  have hclean : ∀ a, Clean w a → Clean (w.drew.freeze ⟨ab, o, none⟩ n) a := fun a hc => by
    refine ⟨by rw [hsize]; exact hc.1, fun T' N hs => ?_⟩
    rw [hshape] at hs
    by_cases ha : a = ab
    · subst ha
      unfold World.shape? at hs
      rw [hheap] at hs
      cases hs
      unfold World.frozen?
      simp only [hHs]
      have := hends.2
      simp only [Bool.and_eq_false_iff, decide_eq_false_iff_not]
      right
      omega
    · rw [hfr a _ ha]; exact hc.2 T' N hs
  have hh : ∀ a i x, Holds G w a i x → Holds G (w.drew.freeze ⟨ab, o, none⟩ n) a i x := fun a i x ⟨v, h1, h2⟩ => ⟨v, by rw [hcell]; exact h1, h2⟩
  have hlive : ∀ a i y, own a i = some y → y ≠ .r b → Live w a i → Live (w.drew.freeze ⟨ab, o, none⟩ n) a i := fun a i y hy hne hl => by
    have ha : a ≠ ab := fun e => by subst e; exact hne (hsole i y hy)
    exact ⟨by obtain ⟨v, hv⟩ := hl.1; exact ⟨v, by rw [hcell]; exact hv⟩, by rw [hfr a i ha]; exact hl.2⟩
  have hbel : Below base w (w.drew.freeze ⟨ab, o, none⟩ n) := Go.Lib.below_freeze (Below.refl base w).drew hab n
  refine ⟨.refl G, ⟨own, ?_⟩, hbel, Nat.le_refl _, fun i _ _ hf => ⟨hf.1, hf.2.1, hf.2.2.1, ?_⟩⟩
  · exact {
      fzs := fun ab o c hf => ⟨(I.fzs ab o c hf).1, hh _ _ _ (I.fzs ab o c hf).2⟩
      mus := fun b' a k' hm => by
        obtain ⟨h1, h2, h3, h4⟩ := I.mus b' a k' hm
        refine ⟨h1, h2, fun i hi => ⟨(h3 i hi).1, hlive _ _ _ (h3 i hi).1 (by simp) (h3 i hi).2⟩, fun hk => ⟨(h4.1 hk).1, ?_⟩, fun hk => by rw [hshape]; exact h4.2 hk⟩
        obtain ⟨es, ck, h5⟩ := (h4.1 hk).2
        exact ⟨es, ck, hmap _ _ _ h5⟩
      rws := I.rws
      tks := I.tks
      ents := fun b' q hq => by
        by_cases hbb : b' = b
        · subst hbb
          rw [get_set_self hb] at hq
          cases hq
          refine ⟨hbn, hvmax, fun ab2 ao2 k2 cap2 hr2 => ?_⟩
          rw [hr] at hr2
          obtain ⟨rfl, rfl, rfl, rfl⟩ : ab = ab2 ∧ ao = ao2 ∧ k = k2 ∧ cap = cap2 := by simpa using hr2
          refine ⟨hab, hcap, fun i hi => ⟨hown i hi, ?_⟩, fun i e hie => ⟨(hel i e hie).1, fun j x hj => ⟨((hel i e hie).2 j x hj).1, hh _ _ _ ((hel i e hie).2 j x hj).2⟩⟩⟩
          rw [hsize]
          exact I.old _ _ _ (hown i hi)
        · rw [get_set_other hbb] at hq
          obtain ⟨h1, h2⟩ := I.ents b' q hq
          refine ⟨h1, ?_⟩
          cases q with
          | cells cs => exact fun ab k hm => ⟨(h2 ab k hm).1, fun i c hi => ⟨((h2 ab k hm).2 i c hi).1, hh _ _ _ ((h2 ab k hm).2 i c hi).2⟩⟩
          | row ver es => exact ⟨h2.1, fun ab ao k cap hr => let ⟨x1, x2, x3, x4⟩ := h2.2 ab ao k cap hr; ⟨x1, x2, fun i hi => ⟨(x3 i hi).1, hlive _ _ _ (x3 i hi).1 (by simpa using hbb) (x3 i hi).2⟩, fun i e hie => ⟨(x4 i e hie).1, fun j c hj => ⟨((x4 i e hie).2 j c hj).1, hh _ _ _ ((x4 i e hie).2 j c hj).2⟩⟩⟩⟩
          | frow ver es => exact ⟨h2.1, fun ab ao k cap hr => let ⟨x1, x2, x3, x4⟩ := h2.2 ab ao k cap hr; ⟨x1, x2, fun i hi => ⟨(x3 i hi).1, by rw [hsize]; exact (x3 i hi).2⟩, fun i e hie => ⟨(x4 i e hie).1, fun j c hj => ⟨((x4 i e hie).2 j c hj).1, hh _ _ _ ((x4 i e hie).2 j c hj).2⟩⟩⟩⟩
          | tok ver => exact ⟨h2.1, fun ab e k room ht => ⟨(h2.2 ab e k room ht).1, fun i hi => ⟨((h2.2 ab e k room ht).2 i hi).1, hlive _ _ _ ((h2.2 ab e k room ht).2 i hi).1 (by simp) ((h2.2 ab e k room ht).2 i hi).2⟩⟩⟩
          | map ck kvs => exact fun ab hm => let ⟨es, h3, h4⟩ := h2 ab hm; ⟨es, hmap _ _ _ h3, h4⟩
      old := fun ab o x hx => by rw [hsize]; exact I.old ab o x hx
      top := by rw [hsize]; exact I.top
      nod := nodup_set h b _ I.nod
      cln := fun b v x hx => hclean _ (I.cln b v x hx)
      gls := I.gls
      tyk := I.tyk
      tys := fun b T ht v x hx => ⟨hrb _ _ (I.tys b T ht v x hx).1, (I.tys b T ht v x hx).2⟩ }
  · have h0 := hf.2.2.2
    have : i ≠ b := fun e => by subst e; rw [hb] at h0; cases h0
    rw [get_set_other this]; exact h0

theorem rowOf_some {q : Option CObj} {v : Nat} {es : List CVal} (h : rowOf q = some (v, es)) : ∃ q0, q = some q0 ∧ (q0 = .row v es ∨ q0 = .frow v es) := by
  unfold rowOf at h
  split at h
  · cases h; exact ⟨_, rfl, .inl rfl⟩
  · cases h; exact ⟨_, rfl, .inr rfl⟩
  · cases h

set_option maxHeartbeats 1000000 in
theorem sim_bString (L : Lays.n169 P ρ) (X : Builder.Extra P ρ) (hname : ((Body.n169 ρ).name == "runtime.NumGoroutine") = false) : SimPrim P base (ρ.f 169) (pBString (ρ.t 5)) := by
  intro G h w xs us v h' hp I hr
  unfold pBString at hp
  split at hp
  · rename_i b d o
    obtain ⟨X0, rfl, hX⟩ := vrs_one hr
    split at hp
    · rename_i cs hg
      cases hX with
      | ptr hm =>
        rename_i ab
        have I0 := I
        obtain ⟨own, Io⟩ := I0
        have hent : (callFunc (ρ.f 169) ⟨[.pointer (some ⟨ab, o, none⟩)]⟩).run P w = .ok (.enter (ρ.f 169) ⟨[.pointer (some ⟨ab, o, none⟩)]⟩) w :=
          run_enter (c := ((Body.n169 ρ).body).getD .skip) L.f169 hname (by rfl) _ w
        obtain ⟨hl, hcel⟩ := (Io.ents b _ hg).2 ab d hm
        split at hp
        · rename_i hnil
          cases hp
          have hcl : o + 1 < cs.length := by
            rcases Nat.lt_or_ge (o + 1) cs.length with h1 | h1
            · exact h1
            · exfalso; rw [nth_none h1] at hnil; cases hnil
          obtain ⟨hfl, z, hz, hzr⟩ := hcel (o + 1) _ (getElem?_nth hcl)
          rw [hnil] at hzr
          cases hzr
          refine .inr ⟨_, _, hent, ?_⟩
          refine (bs_nil L X ab o w hz).mono fun e w' ⟨he, hw'⟩ => ⟨_, he, ?_⟩
          subst hw'
          exact ⟨G, vr_strOf rfl, ⟨.refl G, I.drew, (Below.refl _ _).drew, Nat.le_refl _, fun _ _ _ hf => hf⟩⟩
        · rename_i r ver off len href
          have hcl : o + 1 < cs.length := by
            rcases Nat.lt_or_ge (o + 1) cs.length with h1 | h1
            · exact h1
            · exfalso; rw [nth_none h1] at href; cases href
          obtain ⟨hfl, z, hz, hzr⟩ := hcel (o + 1) _ (getElem?_nth hcl)
          rw [href] at hzr
          split at hp
          · rename_i v0 es hrow0
            obtain ⟨q0, hrow, hq0⟩ := rowOf_some hrow0
            split at hp
            · rename_i hc
              simp only [Bool.and_eq_true, beq_iff_eq, decide_eq_true_eq] at hc
              obtain ⟨rfl, hle, hlen, hmost, hty⟩ := hc
              obtain ⟨l, hl1, hl2⟩ := Option.map_eq_some_iff.1 hp
              cases hl2
              have hes := byteVals_eq hl1
              cases hzr with
              | ref hrw hk hlc hsp ha =>
                rename_i ab1 ao1 cap1 a1
                have hlcut := length_cut off (off + len) es hle
                have hnl : l.length = len := by
                  have := congrArg List.length hes
                  simp at this; omega
                rcases ha with ha | rfl
                · omega
                have hel1 : ∀ (i : Nat) (e : CVal), es[i]? = some e → e.cells.length = 1 ∧ ∀ (j : Nat) (c : CVal), e.cells[j]? = some c → c.flat = true ∧ Holds G w ab1 (ao1 + i * 1 + j) c := by
                  have x2 := (Io.ents r _ hrow).2
                  rcases hq0 with rfl | rfl
                  · exact (x2.2 ab1 ao1 1 cap1 hrw).2.2.2
                  · exact (x2.2 ab1 ao1 1 cap1 hrw).2.2.2
                obtain ⟨hRow, _⟩ := Io.tys r _ hty _ _ hrw
                obtain ⟨c, lo, hi, hheap, hlh, hhc⟩ := hRow
                have hshape : w.shape? ab1 = some (ρ.t 5, c.size) := by unfold World.shape?; rw [hheap]
                have hcv : ∀ j x, l[j]? = some x → w.cell? ((⟨ab1, ao1 + off * 1, none⟩ : Addr).add j) = some (.int .u8 x.toNat) := fun j x hj => by
                  have h1 : (cut off (off + len) es)[j]? = some (.int .u8 x.toNat) := by rw [hes, List.getElem?_map, hj]; rfl
                  have hjl : j < len := by have := (List.getElem?_eq_some_iff.1 hj).1; omega
                  have h2 : es[off + j]? = some (.int .u8 x.toNat) := by
                    unfold cut at h1
                    rw [List.getElem?_drop, List.getElem?_take_of_lt (by omega)] at h1
                    exact h1
                  obtain ⟨_, u, hu, hr⟩ := (hel1 _ _ h2).2 0 _ rfl
                  cases hr
                  rw [add_eq rfl]
                  rw [show ao1 + (off + j) * 1 + 0 = ao1 + off * 1 + j by omega] at hu
                  exact hu
                have hfit : ao1 + off * 1 + len ≤ c.size := by
                  have hlast : len - 1 < l.length := by omega
                  have := hcv (len - 1) _ (List.getElem?_eq_getElem hlast)
                  rw [add_eq rfl] at this
                  unfold World.cell? at this
                  simp only [hheap] at this
                  have := (Array.getElem?_eq_some_iff.1 this).1
                  omega
                have hl0 : l ≠ [] := fun e => by subst e; simp at hnl; omega
                have hmost' : len ≤ 1073741824 := hmost
                refine .inr ⟨_, _, hent, ?_⟩
                refine (bs_row L X ab o ab1 (ao1 + off * 1) (cap1 - off) c.size l w (by rw [hnl]; exact hz) hl0 (by omega) hshape (by omega) (by omega) hcv).mono fun e w' ⟨he, hw'⟩ => ⟨_, he, ?_⟩
                subst hw'
                exact ⟨G, vr_strOf rfl, post_rowfreeze I hrow hq0 hty hrw (by omega) fun N hN => by rw [hshape] at hN; cases hN; omega⟩
            · cases hp
          · cases hp
        · cases hp
    · cases hp
  · cases hp
end
end Go.CI

/- bytealg.MakeNoZero as a function of the interpreter's own. -/
set_option linter.unusedVariables false
set_option linter.unusedSimpArgs false
namespace Go.CI
open Go.Shelf Go.RowKit Go.Lib Go.Proofs

section
variable {P : Program} {base : Base}

theorem sim_makeNoZero {f t e : Nat} (ht : P.underlying t = some (.slice e)) {ps : Array TypeId} (X : ExtOk P f (Extern.BytealgMakeNoZero.makeNoZero ps #[t])) : SimPrim P base f (pMakeNoZero e) := by
  intro G h w xs us v h' hp I hr
  unfold pMakeNoZero at hp
  split at hp
  · rename_i n
    split at hp
    · rename_i hn
      simp only [Bool.and_eq_true, decide_eq_true_eq] at hn
      have hm : (sizeMost : Int) = 1073741824 := rfl
      cases hp
      obtain ⟨x, rfl, hx⟩ := vrs_one hr
      have := vr_int (c := .nilp) hx
      subst this
      obtain ⟨cs, hrun, hle, _⟩ := Lib.run_makeNoZero (P := P) w ps t e ht n.toNat (by omega)
      rw [Int.toNat_of_nonneg hn.1] at hrun
      obtain ⟨fm, h1, h2, h3, h4, h5⟩ := X.fn
      have I2 := (I.bump 1).drew.drew
      have hf : Fresh G { h with next := h.next + 1 } h.next := I.freshAt (Nat.le_refl _) 1
      have hpost := post_new_row (T := e) (lo := 0) (hi := 0) (b := h.next) (ver := 0) (k := 1) (cap := cs.size) (es := []) (arr := cs) (h' := (({ h with next := h.next + 1 } : CHeap).put h.next (.row 0 [])).note h.next (e + 1)) I2 (Nat.le_refl _) (Nat.lt_succ_self _) (fresh_lt hf).1
        (fun _ he => by simp at he) (fun _ he => by simp at he) (Nat.zero_le _) (by omega) (fun i c hi => by simp [flatC] at hi)
        (by rw [note_get]; exact put_self _ _ _) (fun b' hne => by rw [note_get]; exact put_other hne) (by rw [note_next]; rfl) (by rw [note_ents]; obtain ⟨_, I⟩ := I; exact nodup_put I.nod hf.2.2.2) ⟨Nat.le_refl _, Nat.zero_le _⟩ (new_ty (I.bump 1) hf (.inr rfl)) new_tyo
      refine .inl ⟨.slice (some ⟨w.heap.size, 0, none⟩) n.toNat cs.size, _, by rw [run_callFunc_extern h1 h2 h3 h4 h5, hrun]; rfl, G.withRw h.next 0 (w.heap.size, 0, 1, cs.size), vr_row0 (by omega) hle, ?_⟩
      have hp2 := hpost.drewL.drewL
      exact ⟨hp2.le, hp2.inv, hp2.below, by have := hp2.next; show h.next ≤ _; exact Nat.le_trans (Nat.le_succ _) this, fun i hi _ hfr => hp2.fresh i (Nat.lt_succ_of_lt hi) (by omega) ⟨hfr.1, hfr.2.1, hfr.2.2.1, hfr.2.2.2⟩⟩
    · cases hp
  · cases hp
end
end Go.CI

/- Calls that have been run already: each is a theorem of its own, that may lean on earlier ones. -/
set_option linter.unusedVariables false
namespace Go.CI
open Go.RowKit

section
variable {P : Program} {base : Base}

theorem TOk.getF {H : Hints} {t : CTree} (h : TOk P H base t.get) : TOk P H base t.getF := by
  have e : t.getF = t.get := funext fun f => t.getF_eq f
  rw [e]; exact h

theorem crun_of {T : Nat → Option CFn} {n f : Nat} {args : List CVal} {p : Option (CVal × CHeap) → Bool} (h : p (crunF T n f args noHeap) = true) : p (crun T n f args noHeap) = true := by
  rw [crunF_eq] at h; exact h
end
end Go.CI

/- strings.Index, as the library has it, is the interpreter's. -/
set_option linter.unusedVariables false
namespace Go.CI
open Go.Shelf Go.RowKit Go.Lib Go.Proofs

theorem hasFront_eq : ∀ (s p : List UInt8), hasFront s p = p.isPrefixOf s
  | s, [] => by cases s <;> rfl
  | [], _ :: _ => rfl
  | a :: x, b :: y => by
    show (a == b && hasFront x y) = (b == a && y.isPrefixOf x)
    rw [hasFront_eq x y, Bool.beq_comm (a := a)]

theorem idxSub_eq (p : List UInt8) : ∀ (s : List UInt8) (i : Nat), idxSub p s i = if Lib.index s p = -1 then -1 else Lib.index s p + i
  | [], i => by
    cases p with
    | nil => simp [idxSub, Lib.index]
    | cons b q => simp [idxSub, Lib.index]
  | a :: r, i => by
    unfold idxSub Lib.index
    rw [hasFront_eq]
    cases hp : p.isPrefixOf (a :: r) with
    | true => simp
    | false =>
      simp only [cond_false, Bool.false_eq_true, if_false]
      rw [idxSub_eq p r (i + 1)]
      have := Lib.index_ge r p
      by_cases h : Lib.index r p = -1
      · simp [h]
      · have h1 : (Lib.index r p == -1) = false := by simpa using h
        rw [if_neg h, h1]
        simp only [Bool.false_eq_true, if_false]
        rw [if_neg (by omega)]
        push_cast
        omega

theorem idxSub_zero (p s : List UInt8) : idxSub p s 0 = Lib.index s p := by
  rw [idxSub_eq]
  split
  · rename_i h; exact h.symm
  · simp

section
variable {P : Program} {base : Base} {ρ : Ren}

theorem sim_index (L : Lays.n219 P ρ) (hname : ((Body.n219 ρ).name == "runtime.NumGoroutine") = false) {m : Int} (hm : lookupG base.gl (ρ.g 1) = some [.int .i64 m]) : SimPrim P base (ρ.f 219) pIndex := by
  intro G h w xs vs v h' hp I hr
  unfold pIndex at hp
  split at hp
  · rename_i s p
    split at hp
    · rename_i hlen
      cases hp
      obtain ⟨x, y, rfl, hx, hy⟩ := vrs_two hr
      obtain ⟨t, rfl, ht⟩ := vr_str hx
      obtain ⟨u, rfl, hu⟩ := vr_str hy
      have I0 := I
      obtain ⟨own, Io⟩ := I0
      obtain ⟨_, hf⟩ := Io.gls _ _ hm 0 _ rfl
      obtain ⟨_, z, hz, hzr⟩ := Io.fzs _ _ _ hf
      cases hzr
      have hent : (callFunc (ρ.f 219) ⟨[.string t, .string u]⟩).run P w = .ok (.enter (ρ.f 219) ⟨[.string t, .string u]⟩) w :=
        run_enter (c := ((Body.n219 ρ).body).getD .skip) L.f219 hname (by rfl) _ w
      refine .inr ⟨_, _, hent, ?_⟩
      have hsz : t.size < 4294967281 := by
        have h1 : s.length < 4294967281 := by simpa using hlen
        have h2 := congrArg List.length ht
        simp at h2
        have h3 : t.size = t.data.size := rfl
        omega
      refine (Any.stringslite_Index L t u m w hsz hz).mono fun e w' ⟨he, hw⟩ => ⟨_, he, ?_⟩
      subst hw
      refine ⟨G, ?_, .refl I⟩
      rw [idxSub_zero, ← ht, ← hu]
      exact .int _ _
    · cases hp
  · cases hp
end
end Go.CI

/- What a law's row gives at the start: cells that are known, and the shape of the world. -/
set_option linter.unusedVariables false
namespace Go
open Go.RowKit
variable {H : Type} {enc : TypeId × Value → H}

/-- A law's row from its call's contract; what is listed and the world's shape are at hand. -/
theorem CI.returnsInHanded_laid {a : Assume} {C : Checked} {os : Os} {f : FuncId} {fn : Func} {s : ChangeSpec} {conds : List PathCond} {apart fresh handsOn again : Bool} {X : World → Array Value → Prop}
    (hX : ∀ (w w' : World) (args : Array Value), w.heap = w'.heap → X w args → X w' args)
    (own : ownKnob C.prog.godebug = none) (started : os.Started) (noInit : C.prog.inits.idxOf? f = none) (hfn : C.prog.funcs[f]? = some fn)
    (witness : ∃ (w : World) (tape : Tape) (i : Input), w.os = os ∧ (w.forCall tape i).Shaped C.prog ∧ i.vars = [] ∧ Input.okWide C.prog (w.forCall tape i) .any w.heap.size f i ∧
      ((s.pre enc C.prog fn conds apart (w.forCall tape i).memory i.args ∧ X (w.forCall tape i).memory i.args) ∧ sizedMet enc C.prog fn (OpenSpec.ofChange s) apart (w.forCall tape i).memory i.args) ∧ a.holds C.prog (lone (Frame.enter C.prog f i.args .normal) [] (w.forCall tape i)))
    (contract : ∀ (W : World) (base : Nat) (args : Array Value) (ds gs : List (DataW H)) (before : List MemPlace),
      (∀ (j : Nat) t v, fn.params[j]? = some t → args[j]? = some v → Value.okWide C.prog W .any base t v) →
      DataW.Whole enc C.prog fn.params.toList s.vars apart W args.toList ds gs before →
      X W args → W.ShapedOpen C.prog →
      Calls C.prog f args W fun e W' => ∃ v, e = .returned v ∧ s.post enc C.prog fn apart fresh handsOn again W args v W') :
    ReturnsInHanded a C os f .any (fun w args => (s.pre enc C.prog fn conds apart w args ∧ X w args) ∧ sizedMet enc C.prog fn (OpenSpec.ofChange s) apart w args) (s.post enc C.prog fn apart fresh handsOn again) := by
  refine returnsInHanded_of_calls own started noInit witness ?_
  intro w tape i _ hsh _ hok hpre hholds
  obtain ⟨_, _, _, fn', hfn', _, _, _, _, hval⟩ := hok
  have e : fn' = fn := Option.some.inj (hfn'.symm.trans hfn)
  subst e
  obtain ⟨⟨⟨ds, gs, before, hw, hc⟩, hx⟩, hz⟩ := hpre
  have hw' := DataW.Whole.of_heap (w' := w.forCall tape i) (by rfl) hw
  refine (contract (w.forCall tape i) w.heap.size i.args ds gs before hval hw' (hX _ _ _ (by rfl) hx) hsh).mono fun e W' ⟨v, he, hp⟩ => ?_
  subst he
  exact ChangeSpec.post_blind hp

namespace CI

/-- What the world's cells read as, where that is plain. -/
def Fw (w : World) (ab o : Nat) : Option CVal := match w.cell? ⟨ab, o, none⟩ with
  | some (.int k n) => some (.int k n)
  | some (.string s) => some (.str s.data.toList)
  | some (.iface t (.pointer (some a))) => match w.cell? a with
    | some (.string s) => some (.ifc t (.cptr [.str s.data.toList] 0))
    | _ => none
  | _ => none

theorem fw_holds {w : World} {ab o : Nat} {c : CVal} (h : Fw w ab o = some c) : Holds (Gh.of (Fw w)) w ab o c := by
  unfold Fw at h
  split at h
  · rename_i k n hc; cases h; exact ⟨_, hc, .int _ _⟩
  · rename_i s hc; cases h; exact ⟨_, hc, .str _⟩
  · rename_i t a hc
    split at h
    · rename_i s hs
      cases h
      have hsp : a.spot = none := World.cell?_spot hs
      obtain ⟨b, p, sp⟩ := a
      have hsp : sp = none := hsp
      subst hsp
      refine ⟨_, hc, .ifc (VR.cptr (o := 0) (ao := p) fun i c hi => ?_)⟩
      match i, hi with
      | 0, hi => cases hi; exact ⟨rfl, by show Fw w b (p + 0) = _; unfold Fw; rw [Nat.add_zero, hs]⟩
      | i + 1, hi => simp at hi
    · cases h
  · cases h

/-- The variables hold what is said. -/
def GlOk (w : World) (gl : List (Nat × List CVal)) : Prop := ∀ g cs, lookupG gl g = some cs → ∀ (i : Nat) (c : CVal), cs[i]? = some c → c.flat = true ∧ Fw w g i = some c

theorem GlOk.nil {w : World} : GlOk w [] := fun g cs h => by cases h
theorem GlOk.cons {w : World} {g : Nat} {c : CVal} {gl : List (Nat × List CVal)} (hc : c.flat = true) (h : Fw w g 0 = some c) (r : GlOk w gl) : GlOk w ((g, [c]) :: gl) := fun g' cs h' i c' hi => by
  simp only [lookupG] at h'
  split at h'
  · rename_i e
    cases h'
    have e : g = g' := by simpa using e
    subst e
    match i, hi with
    | 0, hi => cases hi; exact ⟨hc, h⟩
    | i + 1, hi => simp at hi
  · exact r g' cs h' i c' hi
theorem GlOk.int {w : World} {g : Nat} {k : IntKind} {m : Int} {gl : List (Nat × List CVal)} (h : w.cell? ⟨g, 0, none⟩ = some (.int k m)) (r : GlOk w gl) : GlOk w ((g, [.int k m]) :: gl) :=
  .cons rfl (by unfold Fw; rw [h]) r
theorem GlOk.err {w : World} {g : Nat} {t : TypeId} {a : Addr} {s : ByteArray} {l : List UInt8} {gl : List (Nat × List CVal)} (h1 : w.cell? ⟨g, 0, none⟩ = some (.iface t (.pointer (some a)))) (h2 : w.cell? a = some (.string s)) (hs : s.data.toList = l) (r : GlOk w gl) :
    GlOk w ((g, [.ifc t (.cptr [.str l] 0)]) :: gl) :=
  .cons rfl (by unfold Fw; rw [h1]; simp only [h2, hs]) r
theorem begins_w {w : World} {gl : List (Nat × List CVal)} (h : GlOk w gl) : Begins w gl (Fw w) := ⟨fun ab o c hc => fw_holds hc, h⟩

theorem GlobsIn.cons {a : List (Nat × List CVal)} {g : Nat} {c : List CVal} (h : lookupG a g = none) : GlobsIn a ((g, c) :: a) := fun g' cs h' => by
  unfold lookupG
  by_cases e : g = g'
  · subst e; rw [h] at h'; cases h'
  · rw [if_neg (by simpa using e)]; exact h'

end CI
end Go

/- stringslite.Clone, as the library has it: the same text. -/
set_option linter.unusedVariables false
namespace Go.CI
open Go.Shelf Go.RowKit Go.Lib Go.Proofs

/-- What only makes new blocks turns nothing of what is known. -/
theorem Inv.below {base : Base} {G : Gh} {h : CHeap} {w w' : World} (I : Inv base G h w) (hb : Below w.heap.size w w') : Inv base G h w' := by
  obtain ⟨own, I⟩ := I
  have hc : ∀ ab i v, w.cell? ⟨ab, i, none⟩ = some v → w'.cell? ⟨ab, i, none⟩ = some v := fun ab i v hv => by rw [hb.cell (p := ⟨ab, i, none⟩) (cell_lt hv)]; exact hv
  have hl : ∀ ab i, Live w ab i → Live w' ab i := fun ab i ⟨⟨v, h1⟩, h2⟩ => ⟨⟨v, hc _ _ _ h1⟩, by rw [hb.frozen (p := ⟨ab, i, none⟩) (cell_lt h1)]; exact h2⟩
  have hh : ∀ ab i c, Holds G w ab i c → Holds G w' ab i c := fun ab i c ⟨v, h1, h2⟩ => ⟨v, hc _ _ _ h1, h2⟩
  have hg : ∀ (ab : Nat) (o : Obj), w.heap[ab]? = some o → w'.heap[ab]? = some o := fun ab o ho => by
    rw [hb.block ab (by rcases Nat.lt_or_ge ab w.heap.size with h | h; exact h; rw [Array.getElem?_eq_none h] at ho; cases ho)]; exact ho
  have hsh : ∀ ab x, w.shape? ab = some x → w'.shape? ab = some x := fun ab x hx => by
    unfold World.shape? at hx ⊢
    cases ho : w.heap[ab]? with
    | none => rw [ho] at hx; cases hx
    | some o => rw [hg ab o ho]; rw [ho] at hx; exact hx
  have hrb : ∀ ab T, RowB w ab T → RowB w' ab T := fun ab T ⟨c, lo, hi, h1, h2⟩ => ⟨c, lo, hi, hg _ _ h1, h2⟩
  refine ⟨own, fun ab o c hf => ⟨(I.fzs ab o c hf).1, hh _ _ _ (I.fzs ab o c hf).2⟩, fun b ab k hm => ⟨(I.mus b ab k hm).1, (I.mus b ab k hm).2.1, fun i hi => ⟨((I.mus b ab k hm).2.2.1 i hi).1, hl _ _ ((I.mus b ab k hm).2.2.1 i hi).2⟩, fun hk => ⟨((I.mus b ab k hm).2.2.2.1 hk).1, let ⟨es, ck, h1⟩ := ((I.mus b ab k hm).2.2.2.1 hk).2; ⟨es, ck, hg _ _ h1⟩⟩, fun hk => hsh _ _ ((I.mus b ab k hm).2.2.2.2 hk)⟩, I.rws, I.tks, fun b o ho => ⟨(I.ents b o ho).1, ?_⟩, fun ab o x hx => Nat.lt_of_lt_of_le (I.old ab o x hx) hb.size, Nat.le_trans I.top hb.size, I.nod,
    fun b v x hx => ⟨Nat.lt_of_lt_of_le (I.cln b v x hx).1 hb.size, fun T n hq => by
      have hlt := (I.cln b v x hx).1
      rw [hb.frozen (p := ⟨x.1, n, none⟩) hlt]
      refine (I.cln b v x hx).2 T n ?_
      unfold World.shape? at hq ⊢
      rw [← hb.block x.1 hlt]; exact hq⟩, I.gls, I.tyk, fun b T ht v x hx => ⟨hrb _ _ (I.tys b T ht v x hx).1, (I.tys b T ht v x hx).2⟩⟩
  have he := (I.ents b o ho).2
  cases o with
  | cells cs => exact fun ab k hm => ⟨(he ab k hm).1, fun i c hi => ⟨((he ab k hm).2 i c hi).1, hh _ _ _ ((he ab k hm).2 i c hi).2⟩⟩
  | row ver es => exact ⟨he.1, fun ab ao k cap hr => let ⟨h1, h2, h3, h4⟩ := he.2 ab ao k cap hr; ⟨h1, h2, fun i hi => ⟨(h3 i hi).1, hl _ _ (h3 i hi).2⟩, fun i e hie => ⟨(h4 i e hie).1, fun j c hj => ⟨((h4 i e hie).2 j c hj).1, hh _ _ _ ((h4 i e hie).2 j c hj).2⟩⟩⟩⟩
  | frow ver es => exact ⟨he.1, fun ab ao k cap hr => let ⟨h0, h1, h2, h3⟩ := he.2 ab ao k cap hr; ⟨h0, h1, fun i hi => ⟨(h2 i hi).1, Nat.lt_of_lt_of_le (h2 i hi).2 hb.size⟩, fun i e hie => ⟨(h3 i e hie).1, fun j c hj => ⟨((h3 i e hie).2 j c hj).1, hh _ _ _ ((h3 i e hie).2 j c hj).2⟩⟩⟩⟩
  | map ck kvs => exact fun ab hm => let ⟨es, h1, h2⟩ := he ab hm; ⟨es, hg _ _ h1, h2⟩
  | tok ver => exact ⟨he.1, fun ab e k room ht => ⟨(he.2 ab e k room ht).1, fun i hi => ⟨((he.2 ab e k room ht).2 i hi).1, hl _ _ ((he.2 ab e k room ht).2 i hi).2⟩⟩⟩

theorem Post.of_below {base : Base} {ex : Nat → Prop} {G : Gh} {h : CHeap} {w w' : World} (I : Inv base G h w) (hb : Below w.heap.size w w') : Post base ex G h w G h w' :=
  ⟨.refl G, I.below hb, hb.mono (by obtain ⟨own, I⟩ := I; exact I.top), Nat.le_refl _, fun _ _ _ hf => hf⟩

section
variable {P : Program}
theorem lay_agg {t : TypeId} {d : TypeDesc} (h : P.underlying t = some d) (w : World) : (isAgg t).run P w = .ok (aggDesc d) w := r_agg h
theorem lay_size {t : TypeId} {n : Nat} (h : (P.info? t).map (·.size) = some n) (w : World) : (Go.sizeOf t).run P w = .ok n w := by
  obtain ⟨i, hi, rfl⟩ := Option.map_eq_some_iff.1 h
  exact r_size hi
theorem lay_zero {t : TypeId} {z : Value} (h : (P.info? t).bind (·.zero) = some z) (w : World) : (zeroValue t).run P w = .ok z w := by
  obtain ⟨i, hi, hz⟩ := Option.bind_eq_some_iff.1 h
  exact r_zero hi hz
end

def pClone (xs : List CVal) (h : CHeap) : Option (CVal × CHeap) :=
  match xs with
  | [.str s] => if decide (s.length ≤ 281474976710656) then some (.str s, h) else none
  | _ => none

section
variable {P : Program} {base : Base} {ρ : Ren}

theorem sim_clone (L : LaysM.n316 P ρ) (hname : ((Body.n316 ρ).name == "runtime.NumGoroutine") = false) : SimPrim P base (ρ.f 316) pClone := by
  intro G h w xs vs v h' hp I hr
  unfold pClone at hp
  split at hp
  · rename_i s
    split at hp
    · rename_i hlen
      cases hp
      obtain ⟨x, rfl, hx⟩ := vrs_one hr
      obtain ⟨t, rfl, ht⟩ := vr_str hx
      have hent : (callFunc (ρ.f 316) ⟨[.string t]⟩).run P w = .ok (.enter (ρ.f 316) ⟨[.string t]⟩) w :=
        run_enter (c := ((Body.n316 ρ).body).getD .skip) L.f316 hname (by rfl) _ w
      refine .inr ⟨_, _, hent, ?_⟩
      have hsz : t.size ≤ 281474976710656 := by
        have h1 : s.length ≤ 281474976710656 := by simpa using hlen
        have h2 := congrArg List.length ht
        simp at h2
        have h3 : t.size = t.data.size := rfl
        omega
      refine (Any.stringslite_Clone L t w hsz).mono fun e w' ⟨he, hw⟩ => ⟨_, he, ?_⟩
      exact ⟨G, vr_strOf ht, Post.of_below I hw⟩
    · cases hp
  · cases hp
end
end Go.CI

/- Runs of the interpreter, whatever the fuel. -/
set_option linter.unusedVariables false
set_option linter.unusedSimpArgs false
namespace Go.CI

def MonoX (ex ex' : CCode → CSt → Option (CExit × CSt)) : Prop := ∀ c st r, ex c st = some r → ex' c st = some r
def MonoC (cf cf' : Nat → List CVal → CHeap → Option (CVal × CHeap)) : Prop := ∀ f a h r, cf f a h = some r → cf' f a h = some r

section
variable {T : Nat → Option CFn}

theorem callBody_mono {ex ex' : CCode → CSt → Option (CExit × CSt)} (hx : MonoX ex ex') {cd cd' : List (Nat × List CVal) → CHeap → Option CHeap} (hcd : ∀ d h r, cd d h = some r → cd' d h = some r)
    {fn : CFunc} {args : List CVal} {h : CHeap} {r : CVal × CHeap} (hr : callBody ex cd fn args h = some r) : callBody ex' cd' fn args h = some r := by
  unfold callBody at hr ⊢
  split at hr
  · rename_i hn
    rw [if_pos hn]
    cases hb : ex fn.body ⟨fn.params.map (initVar args), h, []⟩ with
    | none => rw [hb] at hr; cases hr
    | some p =>
      rw [hb] at hr
      rw [hx _ _ _ hb]
      obtain ⟨x, st⟩ := p
      cases hc : cd st.defs st.h with
      | none => cases x <;> simp [hc] at hr
      | some h1 => cases x <;> simp only [hc, hcd _ _ _ hc] at hr ⊢ <;> exact hr
  · cases hr

theorem noDefs_mono : ∀ (d : List (Nat × List CVal)) (h : CHeap) (r : CHeap), noDefs d h = some r → noDefs d h = some r := fun _ _ _ h => h

theorem runDefs_mono {ex ex' : CCode → CSt → Option (CExit × CSt)} (hx : MonoX ex ex') : ∀ (d : List (Nat × List CVal)) (h : CHeap) (r : CHeap), runDefs T ex d h = some r → runDefs T ex' d h = some r
  | [], h, r, hr => hr
  | (f, args) :: d, h, r, hr => by
    unfold runDefs at hr ⊢
    cases hc : callFlat T ex f args h with
    | none => rw [hc] at hr; cases hr
    | some p =>
      have : callFlat T ex' f args h = some p := by
        unfold callFlat at hc ⊢
        split at hc
        · exact callBody_mono hx noDefs_mono hc
        · cases hc
      rw [hc] at hr
      rw [this]
      exact runDefs_mono hx d _ _ hr

theorem callFn_mono {ex ex' : CCode → CSt → Option (CExit × CSt)} (hx : MonoX ex ex') : MonoC (callFn T ex) (callFn T ex') := fun f a h r hr => by
  unfold callFn at hr ⊢
  split at hr
  · exact callBody_mono hx (runDefs_mono hx) hr
  · exact hr
  · cases hr

theorem evalE_mono {cf cf' : Nat → List CVal → CHeap → Option (CVal × CHeap)} (hc : MonoC cf cf') {ev : COpnd → CVal} {h : CHeap} {id : Nat} {op : COp} {r : CVal × CHeap} (hr : evalE cf ev h id op = some r) : evalE cf' ev h id op = some r := by
  cases op with
  | lit m a z n ps => cases m <;> exact hr
  | mkslice m a z l c => cases m <;> exact hr
  | call keep f args => exact hc _ _ _ _ hr
  | callv keep x args =>
    unfold evalE at hr ⊢
    cases hx : ev x <;> simp only [hx] at hr ⊢ <;> try (cases hr; done)
    rename_i f a b
    cases f <;> simp only at hr ⊢ <;> first | exact hc _ _ _ _ hr | (cases hr; done)
  | _ => exact hr

theorem evalOper_mono {cf cf' : Nat → List CVal → CHeap → Option (CVal × CHeap)} (hc : MonoC cf cf') {tm : List CVal} {id : Nat} {o : COper} {s r : RS} (hr : evalOper cf tm id o s = some r) : evalOper cf' tm id o s = some r := by
  unfold evalOper at hr ⊢
  split at hr
  · rename_i hg
    rw [if_pos hg]
    cases hcls : o.op.cls <;> simp only [hcls] at hr ⊢ <;> try exact hr
    cases he : evalE cf (evalOpnd tm s.vals) s.h id o.op with
    | none => rw [he] at hr; cases hr
    | some p => rw [evalE_mono hc he]; rw [he] at hr; exact hr
  · rename_i hg
    rw [if_neg hg]; exact hr

theorem evalOps_mono {cf cf' : Nat → List CVal → CHeap → Option (CVal × CHeap)} (hc : MonoC cf cf') {tm : List CVal} : ∀ {ops : List COper} {id : Nat} {s r : RS}, evalOps cf tm id ops s = some r → evalOps cf' tm id ops s = some r
  | [], _, _, _, hr => hr
  | o :: ops, id, s, r, hr => by
    unfold evalOps at hr ⊢
    cases he : evalOper cf tm id o s with
    | none => rw [he] at hr; cases hr
    | some s' => rw [evalOper_mono hc he]; rw [he] at hr; exact evalOps_mono hc hr

theorem execStep_mono {ex ex' : CCode → CSt → Option (CExit × CSt)} (hx : MonoX ex ex') : MonoX (execStep T ex) (execStep T ex') := fun c st r hr => by
  cases c with
  | region ops wb chk sw =>
    simp only [execStep] at hr ⊢
    cases he : evalOps (callFn T ex) st.tm st.h.next ops ⟨[], { st.h with next := st.h.next + ops.length }, st.defs, []⟩ with
    | none => rw [he] at hr; cases hr
    | some s => rw [evalOps_mono (callFn_mono hx) he]; rw [he] at hr; exact hr
  | seq a b =>
    simp only [execStep] at hr ⊢
    cases he : ex a st with
    | none => rw [he] at hr; cases hr
    | some p =>
      rw [hx _ _ _ he]; rw [he] at hr
      obtain ⟨x, st'⟩ := p
      cases x <;> simp only at hr ⊢ <;> first | exact hx _ _ _ hr | exact hr
  | cond c a b =>
    simp only [execStep] at hr ⊢
    generalize evalOpnd st.tm [] c = v at hr ⊢
    cases v with
    | bool q => cases q <;> exact hx _ _ _ hr
    | _ => cases hr
  | block i b =>
    simp only [execStep] at hr ⊢
    cases he : ex b st with
    | none => rw [he] at hr; cases hr
    | some p => rw [hx _ _ _ he]; rw [he] at hr; exact hr
  | loop d b =>
    simp only [execStep] at hr ⊢
    cases he : ex b st with
    | none => rw [he] at hr; cases hr
    | some p =>
      rw [hx _ _ _ he]; rw [he] at hr
      obtain ⟨x, st'⟩ := p
      cases x <;> simp only at hr ⊢ <;> first | exact hx _ _ _ hr | exact hr
  | skip => exact hr
  | exit i => exact hr
  | ret => exact hr
  | stuck => exact hr

theorem exec_succ (n : Nat) : exec T (n + 1) = execStep T (exec T n) := rfl

theorem exec_mono1 : ∀ n, MonoX (exec T n) (exec T (n + 1))
  | 0 => fun c st r hr => by cases hr
  | n + 1 => execStep_mono (exec_mono1 n)

theorem exec_mono {n m : Nat} (h : n ≤ m) : MonoX (exec T n) (exec T m) := by
  induction h with
  | refl => exact fun _ _ _ h => h
  | step _ ih => exact fun c st r hr => exec_mono1 _ c st r (ih c st r hr)

/-- The code runs so, with fuel enough. -/
def Ev (T : Nat → Option CFn) (c : CCode) (st : CSt) (x : CExit) (st' : CSt) : Prop := ∃ n, exec T n c st = some (x, st')
/-- The call gives so, with fuel enough. -/
def Cl (T : Nat → Option CFn) (f : Nat) (args : List CVal) (h : CHeap) (v : CVal) (h' : CHeap) : Prop := ∃ n, callFn T (exec T n) f args h = some (v, h')
/-- Operations of a region. -/
def Ops (T : Nat → Option CFn) (tm : List CVal) (id : Nat) (ops : List COper) (s s' : RS) : Prop := ∃ n, evalOps (callFn T (exec T n)) tm id ops s = some s'

theorem Ev.skip {st : CSt} : Ev T .skip st .normal st := ⟨1, rfl⟩
theorem Ev.ret {st : CSt} : Ev T .ret st .ret st := ⟨1, rfl⟩
theorem Ev.exit {st : CSt} {i : Nat} : Ev T (.exit i) st (.exit i) st := ⟨1, rfl⟩
theorem Ev.seq {a b : CCode} {st st1 st' : CSt} {x : CExit} (h1 : Ev T a st .normal st1) (h2 : Ev T b st1 x st') : Ev T (.seq a b) st x st' := by
  obtain ⟨n, h1⟩ := h1
  obtain ⟨m, h2⟩ := h2
  refine ⟨max n m + 1, ?_⟩
  rw [exec_succ]
  simp only [execStep]
  rw [exec_mono (Nat.le_max_left n m) _ _ _ h1]
  exact exec_mono (Nat.le_max_right n m) _ _ _ h2
theorem Ev.seq_out {a b : CCode} {st st' : CSt} {x : CExit} (h1 : Ev T a st x st') (hx : x ≠ .normal) : Ev T (.seq a b) st x st' := by
  obtain ⟨n, h1⟩ := h1
  refine ⟨n + 1, ?_⟩
  rw [exec_succ]
  simp only [execStep]
  rw [h1]
  cases x <;> first | rfl | exact absurd rfl hx
theorem Ev.cond_true {c : COpnd} {a b : CCode} {st st' : CSt} {x : CExit} (hc : evalOpnd st.tm [] c = .bool true) (h : Ev T a st x st') : Ev T (.cond c a b) st x st' := by
  obtain ⟨n, h⟩ := h
  refine ⟨n + 1, ?_⟩
  rw [exec_succ]
  simp only [execStep]
  rw [hc]; exact h
theorem Ev.cond_false {c : COpnd} {a b : CCode} {st st' : CSt} {x : CExit} (hc : evalOpnd st.tm [] c = .bool false) (h : Ev T b st x st') : Ev T (.cond c a b) st x st' := by
  obtain ⟨n, h⟩ := h
  refine ⟨n + 1, ?_⟩
  rw [exec_succ]
  simp only [execStep]
  rw [hc]; exact h
def outOf (id : Nat) : CExit → CExit
  | .exit i => if i = id then .normal else .exit i
  | x => x
theorem Ev.block {id : Nat} {c : CCode} {st st' : CSt} {x : CExit} (h : Ev T c st x st') : Ev T (.block id c) st (outOf id x) st' := by
  obtain ⟨n, h⟩ := h
  refine ⟨n + 1, ?_⟩
  rw [exec_succ]
  simp only [execStep]
  rw [h]
  cases x <;> simp only [outOf]
  split <;> rfl
def dropped (drop : Bool) (n : Nat) (st : CSt) : CSt := if drop then { st with h := { st.h with ents := dropCells st.h.ents n } } else st
theorem Ev.loop_step {drop : Bool} {c : CCode} {st st1 st' : CSt} {x : CExit} (h1 : Ev T c st .normal st1) (h2 : Ev T (.loop drop c) (dropped drop st.h.next st1) x st') : Ev T (.loop drop c) st x st' := by
  obtain ⟨n, h1⟩ := h1
  obtain ⟨m, h2⟩ := h2
  refine ⟨max n m + 1, ?_⟩
  rw [exec_succ]
  simp only [execStep]
  rw [exec_mono (Nat.le_max_left n m) _ _ _ h1]
  exact exec_mono (Nat.le_max_right n m) _ _ _ h2
theorem Ev.loop_out {drop : Bool} {c : CCode} {st st' : CSt} {x : CExit} (h1 : Ev T c st x st') (hx : x ≠ .normal) : Ev T (.loop drop c) st x st' := by
  obtain ⟨n, h1⟩ := h1
  refine ⟨n + 1, ?_⟩
  rw [exec_succ]
  simp only [execStep]
  rw [h1]
  cases x <;> first | rfl | exact absurd rfl hx

theorem Ops.nil {tm : List CVal} {id : Nat} {s : RS} : Ops T tm id [] s s := ⟨0, rfl⟩
/-- What calls nothing. -/
theorem Ops.plain {tm : List CVal} {id : Nat} {o : COper} {r : List COper} {s s1 s' : RS} (h1 : evalOper (fun _ _ _ => none) tm id o s = some s1) (h2 : Ops T tm (id + 1) r s1 s') : Ops T tm id (o :: r) s s' := by
  obtain ⟨n, h2⟩ := h2
  refine ⟨n, ?_⟩
  unfold evalOps
  rw [evalOper_mono (cf := fun _ _ _ => none) (fun _ _ _ _ h => by cases h) h1]
  exact h2
open Classical in
/-- A call. -/
theorem Ops.call {tm : List CVal} {id : Nat} {o : COper} {r : List COper} {s s1 s' : RS} {f : Nat} {args : List CVal} {v : CVal} {h' : CHeap} (hc : Cl T f args s.h v h')
    (h1 : evalOper (fun g a h => if g = f ∧ a = args ∧ h = s.h then some (v, h') else none) tm id o s = some s1) (h2 : Ops T tm (id + 1) r s1 s') : Ops T tm id (o :: r) s s' := by
  obtain ⟨n, hc⟩ := hc
  obtain ⟨m, h2⟩ := h2
  refine ⟨max n m, ?_⟩
  unfold evalOps
  rw [evalOper_mono (cf := fun g a h => if g = f ∧ a = args ∧ h = s.h then some (v, h') else none) (fun g a h q hq => by
    by_cases e : g = f ∧ a = args ∧ h = s.h
    · obtain ⟨rfl, rfl, rfl⟩ := e
      simp at hq
      subst hq
      exact callFn_mono (exec_mono (Nat.le_max_left n m)) _ _ _ _ hc
    · simp only [if_neg e] at hq; cases hq) h1]
  exact evalOps_mono (callFn_mono (exec_mono (Nat.le_max_right n m))) h2

theorem Ev.region {ops : List COper} {wb : List (Nat × Nat)} {chk : List (Nat × Nat × Nat)} {sw : List (Nat × Nat)} {st : CSt} {s : RS} (h : Ops T st.tm st.h.next ops ⟨[], { st.h with next := st.h.next + ops.length }, st.defs, []⟩ s)
    (hc : (chk.all (checkOne st.tm ops ops.length s.vals (s.h :: s.hs).reverse) && sw.all (swapOne st.tm ops ops.length s.vals)) = true) :
    Ev T (.region ops wb chk sw) st .normal ⟨writeBack ops.length s.vals st.tm wb, s.h, s.defs⟩ := by
  obtain ⟨n, h⟩ := h
  refine ⟨n + 1, ?_⟩
  rw [exec_succ]
  simp only [execStep]
  rw [h]
  simp only [hc, if_true]

/-- Deferred calls. -/
def Defs (T : Nat → Option CFn) (d : List (Nat × List CVal)) (h h' : CHeap) : Prop := ∃ n, runDefs T (exec T n) d h = some h'
theorem Defs.nil {h : CHeap} : Defs T [] h h := ⟨0, rfl⟩
theorem Defs.cons {f : Nat} {fn : CFunc} {args : List CVal} {d : List (Nat × List CVal)} {h h1 h' : CHeap} {st : CSt} {x : CExit} {vs : List CVal} {v : CVal} (hf : T f = some (.ir fn)) (hn : args.length = fn.nargs)
    (hb : Ev T fn.body ⟨fn.params.map (initVar args), h, []⟩ x st) (hx : ∀ i, x ≠ .exit i) (hd : st.defs = []) (hr : resultsC st.h st.tm fn.results = some vs) (hfin : finishC fn h.next (oneOrTuple vs) st.h = some (v, h1)) (h2 : Defs T d h1 h') : Defs T ((f, args) :: d) h h' := by
  obtain ⟨n, hb⟩ := hb
  obtain ⟨m, h2⟩ := h2
  refine ⟨max n m, ?_⟩
  unfold runDefs
  have : callFlat T (exec T (max n m)) f args h = some (v, h1) := by
    unfold callFlat
    rw [hf]
    show callBody _ _ _ _ _ = _
    unfold callBody
    rw [if_pos hn, exec_mono (Nat.le_max_left n m) _ _ _ hb]
    cases x with
    | exit i => exact absurd rfl (hx i)
    | normal => simp only [hd, noDefs, hr, hfin]
    | ret => simp only [hd, noDefs, hr, hfin]
  rw [this]
  exact runDefs_mono (exec_mono (Nat.le_max_right n m)) _ _ _ h2

theorem Cl.mk {f : Nat} {fn : CFunc} {args : List CVal} {h h1 h' : CHeap} {st : CSt} {x : CExit} {vs : List CVal} {v : CVal} (hf : T f = some (.ir fn)) (hn : args.length = fn.nargs)
    (hb : Ev T fn.body ⟨fn.params.map (initVar args), h, []⟩ x st) (hx : ∀ i, x ≠ .exit i) (hd : Defs T st.defs st.h h1) (hr : resultsC h1 st.tm fn.results = some vs) (hfin : finishC fn h.next (oneOrTuple vs) h1 = some (v, h')) : Cl T f args h v h' := by
  obtain ⟨n, hb⟩ := hb
  obtain ⟨m, hd⟩ := hd
  refine ⟨max n m, ?_⟩
  unfold callFn
  rw [hf]
  show callBody _ _ _ _ _ = _
  unfold callBody
  rw [if_pos hn, exec_mono (Nat.le_max_left n m) _ _ _ hb]
  cases x with
  | exit i => exact absurd rfl (hx i)
  | normal => simp only [runDefs_mono (exec_mono (Nat.le_max_right n m)) _ _ _ hd, hr, hfin]
  | ret => simp only [runDefs_mono (exec_mono (Nat.le_max_right n m)) _ _ _ hd, hr, hfin]

theorem Cl.prim {f : Nat} {p : List CVal → CHeap → Option (CVal × CHeap)} {args : List CVal} {h h' : CHeap} {v : CVal} (hf : T f = some (.prim p)) (hp : p args h = some (v, h')) : Cl T f args h v h' := by
  refine ⟨0, ?_⟩
  unfold callFn
  rw [hf]; exact hp
end
end Go.CI

/- What a run comes to, backwards: rules by which a run is walked by hand. -/
set_option linter.unusedVariables false
set_option linter.unusedSimpArgs false
namespace Go.CI

section
variable {T : Nat → Option CFn}

def W (T : Nat → Option CFn) (c : CCode) (st : CSt) (Q : CExit → CSt → Prop) : Prop := ∃ x st', Ev T c st x st' ∧ Q x st'
def Wc (T : Nat → Option CFn) (f : Nat) (args : List CVal) (h : CHeap) (K : CVal → CHeap → Prop) : Prop := ∃ v h', Cl T f args h v h' ∧ K v h'
def Wo (T : Nat → Option CFn) (tm : List CVal) (id : Nat) (ops : List COper) (s : RS) (K : RS → Prop) : Prop := ∃ s', Ops T tm id ops s s' ∧ K s'

/-- Behind the first of two. -/
def thenW (T : Nat → Option CFn) (b : CCode) (Q : CExit → CSt → Prop) (x : CExit) (st : CSt) : Prop := match x with
  | .normal => W T b st Q
  | x => Q x st
theorem thenW_normal {b : CCode} {Q : CExit → CSt → Prop} {st : CSt} : thenW T b Q .normal st = W T b st Q := rfl
theorem thenW_ret {b : CCode} {Q : CExit → CSt → Prop} {st : CSt} : thenW T b Q .ret st = Q .ret st := rfl
theorem thenW_exit {b : CCode} {Q : CExit → CSt → Prop} {st : CSt} {i : Nat} : thenW T b Q (.exit i) st = Q (.exit i) st := rfl

theorem W.skip {st : CSt} {Q : CExit → CSt → Prop} (h : Q .normal st) : W T .skip st Q := ⟨_, _, Ev.skip, h⟩
theorem W.ret {st : CSt} {Q : CExit → CSt → Prop} (h : Q .ret st) : W T .ret st Q := ⟨_, _, Ev.ret, h⟩
theorem W.exit {st : CSt} {i : Nat} {Q : CExit → CSt → Prop} (h : Q (.exit i) st) : W T (.exit i) st Q := ⟨_, _, Ev.exit, h⟩
theorem W.seq {a b : CCode} {st : CSt} {Q : CExit → CSt → Prop} (h : W T a st (thenW T b Q)) : W T (.seq a b) st Q := by
  obtain ⟨x, st1, h1, h2⟩ := h
  cases x with
  | normal => obtain ⟨y, st2, h3, h4⟩ := h2; exact ⟨y, st2, h1.seq h3, h4⟩
  | ret => exact ⟨_, _, h1.seq_out (by simp), h2⟩
  | exit i => exact ⟨_, _, h1.seq_out (by simp), h2⟩
theorem W.cond {c : COpnd} {a b : CCode} {st : CSt} {Q : CExit → CSt → Prop} (h : match evalOpnd st.tm [] c with | .bool true => W T a st Q | .bool false => W T b st Q | _ => False) : W T (.cond c a b) st Q := by
  split at h
  · rename_i e; obtain ⟨x, st', h1, h2⟩ := h; exact ⟨x, st', Ev.cond_true e h1, h2⟩
  · rename_i e; obtain ⟨x, st', h1, h2⟩ := h; exact ⟨x, st', Ev.cond_false e h1, h2⟩
  · exact h.elim
theorem W.cond_true {c : COpnd} {a b : CCode} {st : CSt} {Q : CExit → CSt → Prop} (e : evalOpnd st.tm [] c = .bool true) (h : W T a st Q) : W T (.cond c a b) st Q := W.cond (by rw [e]; exact h)
theorem W.cond_false {c : COpnd} {a b : CCode} {st : CSt} {Q : CExit → CSt → Prop} (e : evalOpnd st.tm [] c = .bool false) (h : W T b st Q) : W T (.cond c a b) st Q := W.cond (by rw [e]; exact h)
theorem W.block {id : Nat} {c : CCode} {st : CSt} {Q : CExit → CSt → Prop} (h : W T c st fun x st' => Q (outOf id x) st') : W T (.block id c) st Q := by
  obtain ⟨x, st', h1, h2⟩ := h
  exact ⟨_, _, h1.block, h2⟩
/-- Behind a round. -/
def roundW (T : Nat → Option CFn) (drop : Bool) (c : CCode) (n : Nat) (Q : CExit → CSt → Prop) (x : CExit) (st : CSt) : Prop := match x with
  | .normal => W T (.loop drop c) (dropped drop n st) Q
  | x => Q x st
theorem W.loop {drop : Bool} {c : CCode} {st : CSt} {Q : CExit → CSt → Prop} (h : W T c st (roundW T drop c st.h.next Q)) : W T (.loop drop c) st Q := by
  obtain ⟨x, st1, h1, h2⟩ := h
  cases x with
  | normal => obtain ⟨y, st2, h3, h4⟩ := h2; exact ⟨y, st2, h1.loop_step h3, h4⟩
  | ret => exact ⟨_, _, h1.loop_out (by simp), h2⟩
  | exit i => exact ⟨_, _, h1.loop_out (by simp), h2⟩
theorem W.mono {c : CCode} {st : CSt} {Q R : CExit → CSt → Prop} (h : W T c st Q) (hq : ∀ x st', Q x st' → R x st') : W T c st R := by
  obtain ⟨x, st', h1, h2⟩ := h
  exact ⟨x, st', h1, hq _ _ h2⟩

theorem Wo.nil {tm : List CVal} {id : Nat} {s : RS} {K : RS → Prop} (h : K s) : Wo T tm id [] s K := ⟨s, Ops.nil, h⟩
theorem Wo.plain {tm : List CVal} {id : Nat} {o : COper} {r : List COper} {s s1 : RS} {K : RS → Prop} (h1 : evalOper (fun _ _ _ => none) tm id o s = some s1) (h : Wo T tm (id + 1) r s1 K) : Wo T tm id (o :: r) s K := by
  obtain ⟨s', h2, h3⟩ := h
  exact ⟨s', Ops.plain h1 h2, h3⟩
/-- All that calls nothing, at once. -/
theorem Wo.all {tm : List CVal} {id : Nat} {ops : List COper} {s s1 : RS} {K : RS → Prop} (h1 : evalOps (fun _ _ _ => none) tm id ops s = some s1) (h : K s1) : Wo T tm id ops s K :=
  ⟨s1, ⟨0, evalOps_mono (fun _ _ _ _ h => by cases h) h1⟩, h⟩
theorem evalOps_append {cf : Nat → List CVal → CHeap → Option (CVal × CHeap)} {tm : List CVal} : ∀ {a b : List COper} {id : Nat} {s : RS}, evalOps cf tm id (a ++ b) s = (evalOps cf tm id a s).bind (evalOps cf tm (id + a.length) b)
  | [], b, id, s => by simp [evalOps]
  | o :: a, b, id, s => by
    simp only [List.cons_append, evalOps]
    cases evalOper cf tm id o s with
    | none => rfl
    | some s1 => simp only; rw [evalOps_append]; simp [Nat.add_comm, Nat.add_left_comm]
/-- .. a part of them. -/
theorem Wo.front {tm : List CVal} {id : Nat} {a b : List COper} {s s1 : RS} {K : RS → Prop} (h1 : evalOps (fun _ _ _ => none) tm id a s = some s1) (h : Wo T tm (id + a.length) b s1 K) : Wo T tm id (a ++ b) s K := by
  obtain ⟨s', ⟨n, h2⟩, h3⟩ := h
  refine ⟨s', ⟨n, ?_⟩, h3⟩
  rw [evalOps_append, evalOps_mono (fun _ _ _ _ h => by cases h) h1]
  exact h2
theorem Wo.call {tm : List CVal} {id : Nat} {keep : Bool} {f : Nat} {xs : List COpnd} {r : List COper} {s : RS} {K : RS → Prop}
    (h : Wc T f (if keep then xs.map (evalOpnd tm s.vals) else xs.map fun x => (evalOpnd tm s.vals x).bare) s.h fun v h' => v.isUndef = false ∧ Wo T tm (id + 1) r { s with vals := v :: s.vals, h := h', hs := s.h :: s.hs } K) :
    Wo T tm id (⟨.call keep f xs, none⟩ :: r) s K := by
  obtain ⟨v, h', hc, hu, s', h2, h3⟩ := h
  refine ⟨s', Ops.call hc (s1 := { s with vals := v :: s.vals, h := h', hs := s.h :: s.hs }) ?_ h2, h3⟩
  simp [evalOper, wantedC, COp.cls, evalE, hu]
theorem W.region {ops : List COper} {wb : List (Nat × Nat)} {st : CSt} {Q : CExit → CSt → Prop} (h : Wo T st.tm st.h.next ops ⟨[], { st.h with next := st.h.next + ops.length }, st.defs, []⟩ fun s => Q .normal ⟨writeBack ops.length s.vals st.tm wb, s.h, s.defs⟩) :
    W T (.region ops wb [] []) st Q := by
  obtain ⟨s, h1, h2⟩ := h
  exact ⟨_, _, Ev.region h1 rfl, h2⟩

/-- A region whose readers are checked. -/
theorem W.regionC {ops : List COper} {wb : List (Nat × Nat)} {chk : List (Nat × Nat × Nat)} {sw : List (Nat × Nat)} {st : CSt} {Q : CExit → CSt → Prop}
    (h : Wo T st.tm st.h.next ops ⟨[], { st.h with next := st.h.next + ops.length }, st.defs, []⟩ fun s => (chk.all (checkOne st.tm ops ops.length s.vals (s.h :: s.hs).reverse) && sw.all (swapOne st.tm ops ops.length s.vals)) = true ∧ Q .normal ⟨writeBack ops.length s.vals st.tm wb, s.h, s.defs⟩) :
    W T (.region ops wb chk sw) st Q := by
  obtain ⟨s, h1, hc, h2⟩ := h
  exact ⟨_, _, Ev.region h1 hc, h2⟩

theorem Wc.mk {f : Nat} {fn : CFunc} {args : List CVal} {h : CHeap} {K : CVal → CHeap → Prop} (hf : T f = some (.ir fn)) (hn : args.length = fn.nargs)
    (hb : W T fn.body ⟨fn.params.map (initVar args), h, []⟩ fun x st => (∀ i, x ≠ .exit i) ∧ st.defs = [] ∧ ∃ vs v h', resultsC st.h st.tm fn.results = some vs ∧ finishC fn h.next (oneOrTuple vs) st.h = some (v, h') ∧ K v h') : Wc T f args h K := by
  obtain ⟨x, st, h1, hx, hd, vs, v, h', h2, h3, h4⟩ := hb
  exact ⟨v, h', Cl.mk hf hn h1 hx (by rw [hd]; exact Defs.nil) h2 h3, h4⟩
/-- What a function gives at its end. -/
def endsC (fn : CFunc) (n : Nat) (st : CSt) : Option (CVal × CHeap) := match resultsC st.h st.tm fn.results with
  | some vs => finishC fn n (oneOrTuple vs) st.h
  | none => none
def endW (fn : CFunc) (n : Nat) (K : CVal → CHeap → Prop) (x : CExit) (st : CSt) : Prop := (∀ i, x ≠ .exit i) ∧ st.defs = [] ∧ match endsC fn n st with
  | some p => K p.1 p.2
  | none => False
theorem Wc.mk' {f : Nat} {fn : CFunc} {args : List CVal} {h : CHeap} {K : CVal → CHeap → Prop} (hf : T f = some (.ir fn)) (hn : args.length = fn.nargs)
    (hb : W T fn.body ⟨fn.params.map (initVar args), h, []⟩ (endW fn h.next K)) : Wc T f args h K := by
  refine Wc.mk hf hn (hb.mono fun x st ⟨h1, h2, h3⟩ => ⟨h1, h2, ?_⟩)
  unfold endsC at h3
  cases hr : resultsC st.h st.tm fn.results with
  | none => rw [hr] at h3; exact h3.elim
  | some vs =>
    rw [hr] at h3
    dsimp only at h3
    cases hf : finishC fn h.next (oneOrTuple vs) st.h with
    | none => rw [hf] at h3; exact h3.elim
    | some p => rw [hf] at h3; exact ⟨vs, p.1, p.2, rfl, hf, h3⟩
theorem endW.intro {fn : CFunc} {n : Nat} {K : CVal → CHeap → Prop} {st : CSt} (hd : st.defs = []) (h : match endsC fn n st with | some p => K p.1 p.2 | none => False) : endW fn n K .ret st := ⟨by simp, hd, h⟩
theorem Wc.mono {f : Nat} {args : List CVal} {h : CHeap} {K L : CVal → CHeap → Prop} (hc : Wc T f args h K) (hk : ∀ v h', K v h' → L v h') : Wc T f args h L := by
  obtain ⟨v, h', h1, h2⟩ := hc
  exact ⟨v, h', h1, hk _ _ h2⟩
theorem Wc.prim {f : Nat} {p : List CVal → CHeap → Option (CVal × CHeap)} {args : List CVal} {h h' : CHeap} {v : CVal} {K : CVal → CHeap → Prop} (hf : T f = some (.prim p)) (hp : p args h = some (v, h')) (hk : K v h') : Wc T f args h K :=
  ⟨v, h', Cl.prim hf hp, hk⟩

/-- A region that calls nothing. -/
def stepR (st : CSt) (ops : List COper) (wb : List (Nat × Nat)) : Option CSt :=
  (evalOps (fun _ _ _ => none) st.tm st.h.next ops ⟨[], { st.h with next := st.h.next + ops.length }, st.defs, []⟩).map fun s => ⟨writeBack ops.length s.vals st.tm wb, s.h, s.defs⟩
theorem W.reg {ops : List COper} {wb : List (Nat × Nat)} {st : CSt} {Q : CExit → CSt → Prop} (h : match stepR st ops wb with | some st1 => Q .normal st1 | none => False) : W T (.region ops wb [] []) st Q := by
  unfold stepR at h
  cases he : evalOps (fun _ _ _ => none) st.tm st.h.next ops ⟨[], { st.h with next := st.h.next + ops.length }, st.defs, []⟩ with
  | none => rw [he] at h; exact h.elim
  | some s => rw [he] at h; exact W.region (Wo.all he h)
/-- .. up to a call. -/
theorem Wo.upto (k : Nat) {tm : List CVal} {id : Nat} {ops : List COper} {s : RS} {K : RS → Prop} (hk : (ops.take k).length = k) (h : match evalOps (fun _ _ _ => none) tm id (ops.take k) s with | some s1 => Wo T tm (id + k) (ops.drop k) s1 K | none => False) : Wo T tm id ops s K := by
  cases he : evalOps (fun _ _ _ => none) tm id (ops.take k) s with
  | none => rw [he] at h; exact h.elim
  | some s1 =>
    rw [he] at h
    have := Wo.front (b := ops.drop k) (K := K) he (by rw [hk]; exact h)
    rwa [List.take_append_drop] at this
theorem Wo.rest {tm : List CVal} {id : Nat} {ops : List COper} {s : RS} {K : RS → Prop} (h : match evalOps (fun _ _ _ => none) tm id ops s with | some s1 => K s1 | none => False) : Wo T tm id ops s K := by
  cases he : evalOps (fun _ _ _ => none) tm id ops s with
  | none => rw [he] at h; exact h.elim
  | some s1 => rw [he] at h; exact Wo.all he h

/-- All of a heap's numbers lie below the next one. -/
def Under (l : List (Nat × CObj)) (n : Nat) : Prop := ∀ x ∈ l, x.1 < n
theorem dropEnts_under : ∀ {l : List (Nat × CObj)} {n : Nat}, Under l n → dropEnts l n = l
  | [], _, _ => rfl
  | (i, o) :: r, n, h => by
    have h1 : ¬ n ≤ i := by have := h (i, o) (by simp); simp at this; omega
    have h2 := dropEnts_under (l := r) (n := n) fun x hx => h x (by simp [hx])
    simp only [dropEnts, if_neg h1, h2]
theorem dropCells_under : ∀ {l : List (Nat × CObj)} {n : Nat}, Under l n → dropCells l n = l
  | [], _, _ => rfl
  | (i, o) :: r, n, h => by
    have h1 : ¬ n ≤ i := by have := h (i, o) (by simp); simp at this; omega
    have h2 := dropCells_under (l := r) (n := n) fun x hx => h x (by simp [hx])
    simp only [dropCells, if_neg h1, h2]
theorem getEnt_under {l : List (Nat × CObj)} {n b : Nat} (h : Under l n) (hb : n ≤ b) : getEnt l b = none := by
  induction l with
  | nil => rfl
  | cons x r ih =>
    obtain ⟨i, o⟩ := x
    unfold getEnt
    rw [if_neg (by have := h (i, o) (by simp); simp; omega)]
    exact ih fun x hx => h x (by simp [hx])
end
end Go.CI

/- Rules and facts for runs that are walked by hand. -/
set_option linter.unusedVariables false
set_option linter.unusedSimpArgs false
set_option maxRecDepth 100000
namespace Go.CI
open Go.RowKit
theorem sy_nbeq {a b : Nat} (h : a ≠ b) : (a == b) = false := by simp [h]
theorem sy_neqF {a b : Nat} (h : a ≠ b) : (a = b) = False := by simp [h]
theorem sy_leT {a b : Nat} (h : a ≤ b) : (a ≤ b) = True := by simp [h]
theorem sy_leF {a b : Nat} (h : b < a) : (a ≤ b) = False := by simp [h]
theorem sy_setEnt_setEnt : ∀ (l : List (Nat × CObj)) (m : Nat) (x y : CObj), setEnt (setEnt l m x) m y = setEnt l m y
  | [], _, _, _ => rfl
  | (i, o) :: r, m, x, y => by
    by_cases h : i = m
    · subst h; simp [setEnt]
    · simp [setEnt, h, sy_setEnt_setEnt r m x y]
theorem sy_getEnt_setEnt : ∀ {l : List (Nat × CObj)} {m : Nat} {o x : CObj}, getEnt l m = some o → getEnt (setEnt l m x) m = some x
  | [], _, _, _, h => by cases h
  | (i, q) :: r, m, o, x, h => by
    by_cases hi : i = m
    · subst hi; simp [setEnt, getEnt]
    · simp [getEnt, hi] at h
      simp [setEnt, getEnt, hi, sy_getEnt_setEnt h]
theorem Under.set {l : List (Nat × CObj)} {n m : Nat} {x : CObj} (h : Under l n) : Under (setEnt l m x) n := by
  induction l with
  | nil => exact h
  | cons a r ih =>
    obtain ⟨i, o⟩ := a
    have h1 : i < n := h (i, o) (by simp)
    have h2 : Under r n := fun y hy => h y (by simp [hy])
    unfold setEnt
    split
    · rename_i e; intro y hy; rcases List.mem_cons.1 hy with rfl | hy; exact h1; exact h2 y hy
    · intro y hy; rcases List.mem_cons.1 hy with rfl | hy; exact h1; exact ih h2 y hy
theorem Under.cons {l : List (Nat × CObj)} {n i : Nat} {o : CObj} (hi : i < n) (h : Under l n) : Under ((i, o) :: l) n := fun y hy => by
  rcases List.mem_cons.1 hy with rfl | hy
  · exact hi
  · exact h y hy
theorem Under.le {l : List (Nat × CObj)} {n m : Nat} (h : Under l n) (hnm : n ≤ m) : Under l m := fun y hy => Nat.lt_of_lt_of_le (h y hy) hnm
theorem sy_wrap64 {x : Int} (h : -4611686018427387904 ≤ x) (h2 : x < 4611686018427387904) : IntKind.i64.wrap x = x := by
  simp [IntKind.wrap, IntKind.bits, IntKind.signed]; omega

theorem Under.nil {n : Nat} : Under [] n := fun x hx => by cases hx
theorem Ev.seq_inv {T : Nat → Option CFn} {a b : CCode} {st st' : CSt} {x : CExit} (h : Ev T (.seq a b) st x st') : (∃ st1, Ev T a st .normal st1 ∧ Ev T b st1 x st') ∨ (Ev T a st x st' ∧ x ≠ .normal) := by
  obtain ⟨n, hx⟩ := h
  cases n with
  | zero => cases hx
  | succ n =>
    have hx : (match exec T n a st with | some (.normal, st1) => exec T n b st1 | r => r) = some (x, st') := hx
    cases ha : exec T n a st with
    | none => rw [ha] at hx; cases hx
    | some p =>
      obtain ⟨y, st1⟩ := p
      rw [ha] at hx
      cases y with
      | normal => exact .inl ⟨st1, ⟨n, ha⟩, ⟨n, hx⟩⟩
      | ret => cases hx; exact .inr ⟨⟨n, ha⟩, by simp⟩
      | exit i => cases hx; exact .inr ⟨⟨n, ha⟩, by simp⟩
theorem W.assoc {T : Nat → Option CFn} {a b c : CCode} {st : CSt} {Q : CExit → CSt → Prop} (h : W T (.seq (.seq a b) c) st Q) : W T (.seq a (.seq b c)) st Q := by
  obtain ⟨x, st', hx, hq⟩ := h
  refine ⟨x, st', ?_, hq⟩
  rcases hx.seq_inv with ⟨st1, h1, h2⟩ | ⟨h1, h2⟩
  · rcases h1.seq_inv with ⟨st2, h3, h4⟩ | ⟨_, h4⟩
    · exact h3.seq (h4.seq h2)
    · exact absurd rfl h4
  · rcases h1.seq_inv with ⟨st2, h3, h4⟩ | ⟨h3, _⟩
    · exact h3.seq (h4.seq_out h2)
    · exact h3.seq_out h2
theorem W.of_exec {T : Nat → Option CFn} {n : Nat} {c : CCode} {st st' : CSt} {x : CExit} {Q : CExit → CSt → Prop} (h : execF T n c st = some (x, st')) (hq : Q x st') : W T c st Q :=
  ⟨x, st', ⟨n, by rw [← execF_eq]; exact h⟩, hq⟩
/-- A run of the interpreter that says true, at whatever arguments. -/
theorem law_calls {P : Program} {H : Hints} {T : Nat → Option CFn} {n f : Nat} {fn : CFunc} (w : World) {F : Nat → Nat → Option CVal} {gl : List (Nat × List CVal)} {cs : List CVal} {args : List Value} (hgl : GlobsIn H.globals gl) (hmixed : P.follows .mixedOrders = true) (hT : TOk P H ⟨w.heap.size, gl⟩ T) (hf : T f = some (.ir fn)) (B : Begins w gl F)
    (ha : VRs (Gh.of F) cs args) (hrun : saysTrue (crun T n f cs noHeap) = true) : Calls P f ⟨args⟩ w fun e w' => e = .returned (.bool true) ∧ Below w.heap.size w w' := by
  cases hr : crun T n f cs noHeap with
  | none => rw [hr] at hrun; cases hrun
  | some x =>
    obtain ⟨v, h'⟩ := x
    rw [hr] at hrun
    have hv : v = .bool true := by cases v <;> simp_all [saysTrue]
    subst hv
    refine Calls.mono (crun_calls hgl hmixed hT hf B ha hr) ?_
    rintro e w' ⟨u, G, rfl, _, hu, hb, _⟩
    rw [vr_bool hu]
    exact ⟨rfl, hb⟩
theorem crun_of_at {T : Nat → Option CFn} {n f : Nat} {args : List CVal} {p : Option (CVal × CHeap) → Bool} (h : p (crunF T n f args noHeap) = true) : p (crun T n f args noHeap) = true := by
  rw [crunF_eq] at h; exact h

section
variable {T : Nat → Option CFn}
/-- Deferred calls. -/
def Wd (T : Nat → Option CFn) (d : List (Nat × List CVal)) (h : CHeap) (K : CHeap → Prop) : Prop := ∃ h', Defs T d h h' ∧ K h'
theorem Wd.nil {h : CHeap} {K : CHeap → Prop} (hk : K h) : Wd T [] h K := ⟨h, Defs.nil, hk⟩
theorem Wd.cons {f : Nat} {fn : CFunc} {args : List CVal} {d : List (Nat × List CVal)} {h : CHeap} {K : CHeap → Prop} (hf : T f = some (.ir fn)) (hn : args.length = fn.nargs)
    (hb : W T fn.body ⟨fn.params.map (initVar args), h, []⟩ (endW fn h.next fun _ h1 => Wd T d h1 K)) : Wd T ((f, args) :: d) h K := by
  obtain ⟨x, st, h1, hx, hd, h2⟩ := hb
  unfold endsC at h2
  cases hr : resultsC st.h st.tm fn.results with
  | none => rw [hr] at h2; exact h2.elim
  | some vs =>
    rw [hr] at h2
    dsimp only at h2
    cases hfin : finishC fn h.next (oneOrTuple vs) st.h with
    | none => rw [hfin] at h2; exact h2.elim
    | some p =>
      rw [hfin] at h2
      obtain ⟨h', h3, h4⟩ := h2
      exact ⟨h', Defs.cons hf hn h1 hx hd hr hfin h3, h4⟩
/-- The end of a function that defers. -/
def endWD (T : Nat → Option CFn) (fn : CFunc) (n : Nat) (K : CVal → CHeap → Prop) (x : CExit) (st : CSt) : Prop := (∀ i, x ≠ .exit i) ∧ Wd T st.defs st.h fun h1 => match endsC fn n { st with h := h1 } with
  | some p => K p.1 p.2
  | none => False
theorem endWD.intro {fn : CFunc} {n : Nat} {K : CVal → CHeap → Prop} {st : CSt} (h : Wd T st.defs st.h fun h1 => match endsC fn n { st with h := h1 } with | some p => K p.1 p.2 | none => False) : endWD T fn n K .ret st := ⟨by simp, h⟩
theorem Wc.mkD {f : Nat} {fn : CFunc} {args : List CVal} {h : CHeap} {K : CVal → CHeap → Prop} (hf : T f = some (.ir fn)) (hn : args.length = fn.nargs)
    (hb : W T fn.body ⟨fn.params.map (initVar args), h, []⟩ (endWD T fn h.next K)) : Wc T f args h K := by
  obtain ⟨x, st, h1, hx, h2, h3, h4⟩ := hb
  unfold endsC at h4
  dsimp only at h4
  cases hr : resultsC h2 st.tm fn.results with
  | none => rw [hr] at h4; exact h4.elim
  | some vs =>
    rw [hr] at h4
    dsimp only at h4
    cases hfin : finishC fn h.next (oneOrTuple vs) h2 with
    | none => rw [hfin] at h4; exact h4.elim
    | some p => rw [hfin] at h4; exact ⟨p.1, p.2, Cl.mk hf hn h1 hx h3 hr hfin, h4⟩
end

/-- From a contract of the law's function to a run that says true. -/
theorem says_of {T : Nat → Option CFn} {f : Nat} {args : List CVal} (h : Wc T f args noHeap fun v h => v = .bool true) : ∃ m, saysTrue (crun T m f args noHeap) = true := by
  obtain ⟨v, h', ⟨m, hc⟩, rfl⟩ := h
  refine ⟨m, ?_⟩
  have : crun T m f args noHeap = some (.bool true, h') := hc
  rw [this]; rfl

theorem sy_wrapu64 {x : Int} (h : 0 ≤ x) (h2 : x < 18446744073709551616) : IntKind.u64.wrap x = x := by
  simp [IntKind.wrap, IntKind.bits, IntKind.signed]; omega
theorem sy_wrapu8 {x : Int} (h : 0 ≤ x) (h2 : x < 256) : IntKind.u8.wrap x = x := by
  simp [IntKind.wrap, IntKind.bits, IntKind.signed]; omega

/-- 'Or' of what does not overlap is the sum. -/
theorem or_low {v c s : Nat} (hv : v < 2 ^ s) : v ||| (c * 2 ^ s) = v + c * 2 ^ s := by
  have := Nat.shiftLeft_add_eq_or_of_lt hv c
  rw [Nat.shiftLeft_eq] at this
  rw [Nat.or_comm, ← this, Nat.add_comm]
theorem or_u64 {v c s : Nat} (hv : v < 2 ^ s) (hm : v + c * 2 ^ s < 2 ^ 64) : evalBits .or .u64 (v : Int) ((c * 2 ^ s : Nat) : Int) = some (.int .u64 ((v + c * 2 ^ s : Nat) : Int)) := by
  have h1 : v < 2 ^ 64 := by omega
  have h2 : c * 2 ^ s < 2 ^ 64 := by omega
  have e1 : (BitVec.ofInt 64 (v : Int)).toNat = v := by rw [BitVec.ofInt_natCast, BitVec.toNat_ofNat]; exact Nat.mod_eq_of_lt h1
  have e2 : (BitVec.ofInt 64 ((c * 2 ^ s : Nat) : Int)).toNat = c * 2 ^ s := by rw [BitVec.ofInt_natCast, BitVec.toNat_ofNat]; exact Nat.mod_eq_of_lt h2
  have e3 : (BitVec.ofInt 64 (v : Int) ||| BitVec.ofInt 64 ((c * 2 ^ s : Nat) : Int)).toNat = v + c * 2 ^ s := by
    rw [BitVec.toNat_or, e1, e2, or_low hv]
  show some (CVal.int .u64 (IntKind.u64.wrap ((BitVec.ofInt 64 (v : Int) ||| BitVec.ofInt 64 ((c * 2 ^ s : Nat) : Int)).toNat))) = _
  rw [e3, sy_wrapu64 (by omega) (by omega)]

/-- A number in groups of seven bits, the lowest first. -/
def vb (x : Nat) : List UInt8 := if x < 128 then [UInt8.ofNat x] else UInt8.ofNat (x % 128 + 128) :: vb (x / 128)
termination_by x
decreasing_by omega
theorem vb_small {x : Nat} (h : x < 128) : vb x = [UInt8.ofNat x] := by rw [vb, if_pos h]
theorem vb_great {x : Nat} (h : ¬ x < 128) : vb x = UInt8.ofNat (x % 128 + 128) :: vb (x / 128) := by rw [vb, if_neg h]
theorem vb_len : ∀ (n x : Nat), x < 128 ^ (n + 1) → (vb x).length ≤ n + 1
  | 0, x, h => by rw [vb_small (by simpa using h)]; simp
  | n + 1, x, h => by
    by_cases hs : x < 128
    · rw [vb_small hs]; simp
    · rw [vb_great hs]
      have := vb_len n (x / 128) (by rw [Nat.div_lt_iff_lt_mul (by omega)]; rw [Nat.pow_succ] at h; exact h)
      simp; omega
theorem vb_len_lt (x : Nat) (h : x < 18446744073709551616) : (vb x).length ≤ 10 := vb_len 9 x (Nat.lt_of_lt_of_le h (by decide))
theorem vb_ne (x : Nat) : vb x ≠ [] := by rw [vb]; split <;> simp
/-- Where the next call stands. -/
def callAt : List COper → Nat
  | [] => 0
  | ⟨.call _ _ _, none⟩ :: _ => 0
  | _ :: r => callAt r + 1
theorem callAt_le : ∀ ops : List COper, callAt ops ≤ ops.length
  | [] => Nat.le_refl _
  | o :: r => by
    unfold callAt
    split
    · exact Nat.zero_le _
    · exact Nat.zero_le _
    · rename_i h; cases h; have := callAt_le r; simp; omega
theorem Wo.next {T : Nat → Option CFn} {tm : List CVal} {id : Nat} {ops : List COper} {s : RS} {K : RS → Prop} (h : match evalOps (fun _ _ _ => none) tm id (ops.take (callAt ops)) s with | some s1 => Wo T tm (id + callAt ops) (ops.drop (callAt ops)) s1 K | none => False) : Wo T tm id ops s K :=
  Wo.upto (callAt ops) (by rw [List.length_take]; have := callAt_le ops; omega) h
theorem sy_ibeqF {a b : Int} (h : a ≠ b) : (a == b) = false := by simp [h]
theorem sy_ieqF {a b : Int} (h : a ≠ b) : (a = b) = False := by simp [h]
theorem sy_ileT {a b : Int} (h : a ≤ b) : (a ≤ b) = True := by simp [h]
theorem sy_ileF {a b : Int} (h : b < a) : (a ≤ b) = False := by simp [h]
theorem sy_iltT {a b : Int} (h : a < b) : (a < b) = True := by simp [h]
theorem sy_iltF {a b : Int} (h : b ≤ a) : (a < b) = False := by simp [h]
theorem sy_ltT {a b : Nat} (h : a < b) : (a < b) = True := by simp [h]
theorem sy_ltF {a b : Nat} (h : b ≤ a) : (a < b) = False := by simp [h]
/-- .. whatever it hangs on. -/
def callAtG : List COper → Nat
  | [] => 0
  | ⟨.call _ _ _, _⟩ :: _ => 0
  | _ :: r => callAtG r + 1
theorem callAtG_le : ∀ ops : List COper, callAtG ops ≤ ops.length
  | [] => Nat.le_refl _
  | o :: r => by
    unfold callAtG
    split
    · exact Nat.zero_le _
    · exact Nat.zero_le _
    · rename_i h; cases h; have := callAtG_le r; simp; omega
theorem Wo.nextG {T : Nat → Option CFn} {tm : List CVal} {id : Nat} {ops : List COper} {s : RS} {K : RS → Prop} (h : match evalOps (fun _ _ _ => none) tm id (ops.take (callAtG ops)) s with | some s1 => Wo T tm (id + callAtG ops) (ops.drop (callAtG ops)) s1 K | none => False) : Wo T tm id ops s K :=
  Wo.upto (callAtG ops) (by rw [List.length_take]; have := callAtG_le ops; omega) h
theorem Wo.callG {T : Nat → Option CFn} {tm : List CVal} {id : Nat} {keep : Bool} {f : Nat} {xs : List COpnd} {g : Option (Nat × Bool)} {r : List COper} {s : RS} {K : RS → Prop} (hw : wantedC s.vals g = true)
    (h : Wc T f (if keep then xs.map (evalOpnd tm s.vals) else xs.map fun x => (evalOpnd tm s.vals x).bare) s.h fun v h' => v.isUndef = false ∧ Wo T tm (id + 1) r { s with vals := v :: s.vals, h := h', hs := s.h :: s.hs } K) :
    Wo T tm id (⟨.call keep f xs, g⟩ :: r) s K := by
  obtain ⟨v, h', hc, hu, s', h2, h3⟩ := h
  refine ⟨s', Ops.call hc (s1 := { s with vals := v :: s.vals, h := h', hs := s.h :: s.hs }) ?_ h2, h3⟩
  simp [evalOper, hw, COp.cls, evalE, hu]
end Go.CI
