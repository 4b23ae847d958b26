/- What the functions of the law 'WordPlaces' do: part 3. -/
import Derived.Test.YthblmflngjofjaaDoorLxPA
namespace Go.Proofs.YthblmflngjofjaaDoor.IrP
open Go Go.CI
set_option maxRecDepth 100000
set_option linter.unusedVariables false
set_option linter.unusedSimpArgs false
attribute [local irreducible] W Wo Wc
attribute [local simp] stepR evalOps evalOper evalE evalP evalL evalOpnd nth setNth COp.cls COp.isStore CVal.isUndef CVal.whole CVal.cells CHeap.put CHeap.get CHeap.set wantedC getEnt setEnt partOf writeBack evalBin evalInt evalStr blockMost initVar descOf List.take List.drop CVal.lenOf CVal.isStr CVal.bare CVal.strip CVal.flat endsC resultsC oneOrTuple finishC cut fillCells setCells szOf szOf_desc elems bytesOf evalAppend fillElems mkElem List.replicate sy_nbeq sy_neqF sy_leT sy_leF sy_setEnt_setEnt dropped sy_wrap64 dropEnts dropCells sizeMost callAt callAtG sy_ibeqF sy_ieqF sy_ileT sy_ileF sy_iltT sy_iltF sy_ltT sy_ltF

/-- How many bytes of a set stand at a text's front. -/
theorem front_spec (cs ds rest : List UInt8) (hc1 : 2 ≤ cs.length) (hcs : cs.length < 1073741824) (hr : ∀ c ∈ cs, c.toNat < 128) (hds : ∀ c ∈ ds, inSet (marks marks0 cs) c true) (hrs : ∀ c r, rest = c :: r → inSet (marks marks0 cs) c false) (hlen : ds.length + rest.length < 1073741824) (h : CHeap) (hu : Under h.ents h.next) (K : CVal → CHeap → Prop)
    (hk : ∀ n', h.next ≤ n' → K (.int .i64 ds.length) { h with next := n' }) : Wc tree.getF 13 [.str (ds ++ rest), .str cs] h K := by
  have hD := dropEnts_under hu
  refine Wc.mk' (fn := c13) (by kernel_rfl) rfl ?_
  repeat (first
    | refine W.seq ?_
    | refine W.block ?_
    | (refine W.reg ?_; generalize e : stepR _ _ _ = r; simp (disch := omega) [evalSlc, optBound, c13, hD] at e; replace e : some _ = _ := e; subst e; try dsimp only [callAt, callAtG, List.drop, List.take])
    | refine W.cond_true rfl ?_
    | refine W.cond_false rfl ?_
    | refine W.skip ?_
    | refine W.exit ?_
    | (refine W.region (Wo.next ?_); generalize e : evalOps _ _ _ _ _ = r; simp (disch := omega) [evalSlc, optBound, c13, hD] at e; replace e : some _ = _ := e; subst e; try dsimp only [callAt, callAtG, List.drop, List.take]; refine Wo.call ?_)
    | (refine W.regionC (Wo.next ?_); generalize e : evalOps _ _ _ _ _ = r; simp (disch := omega) [evalSlc, optBound, c13, hD] at e; replace e : some _ = _ := e; subst e; try dsimp only [callAt, callAtG, List.drop, List.take]; refine Wo.call ?_)
    | (refine Wo.rest ?_; generalize e : evalOps _ _ _ _ _ = r; simp (disch := omega) [evalSlc, optBound, c13, hD] at e; replace e : some _ = _ := e; subst e; try dsimp only [callAt, callAtG, List.drop, List.take])
    | (refine Wo.next ?_; generalize e : evalOps _ _ _ _ _ = r; simp (disch := omega) [evalSlc, optBound, c13, hD] at e; replace e : some _ = _ := e; subst e; try dsimp only [callAt, callAtG, List.drop, List.take]; refine Wo.call ?_)
    | (refine W.region (Wo.nextG ?_); generalize e : evalOps _ _ _ _ _ = r; simp (disch := omega) [evalSlc, optBound, c13, hD] at e; replace e : some _ = _ := e; subst e; try dsimp only [callAt, callAtG, List.drop, List.take]; refine Wo.callG rfl ?_)
    | (refine W.regionC (Wo.nextG ?_); generalize e : evalOps _ _ _ _ _ = r; simp (disch := omega) [evalSlc, optBound, c13, hD] at e; replace e : some _ = _ := e; subst e; try dsimp only [callAt, callAtG, List.drop, List.take]; refine Wo.callG rfl ?_)
    | (refine Wo.nextG ?_; generalize e : evalOps _ _ _ _ _ = r; simp (disch := omega) [evalSlc, optBound, c13, hD] at e; replace e : some _ = _ := e; subst e; try dsimp only [callAt, callAtG, List.drop, List.take]; refine Wo.callG rfl ?_)
    | (refine trimLeft_spec cs ds rest hc1 hcs hr hds hrs hlen _ (by repeat (first | exact hu.le (by (try dsimp only); omega) | exact hu.set.le (by (try dsimp only); omega) | refine Under.cons (by (try dsimp only); omega) ?_ | exact Under.nil)) _ fun n1 hn1 => ⟨rfl, ?_⟩; try dsimp only at hn1))
  refine W.ret ?_
  try simp only [outOf, thenW_ret]
  refine endW.intro rfl ?_
  generalize e : endsC _ _ _ = r
  simp (disch := omega) [c13, hD] at e
  subst e
  try dsimp only
  refine hk _ ?_; omega

/-- Does a text begin with another one? -/
theorem prefix0_spec (s p : List UInt8) (v : Bool) (hv : (decide (p.length ≤ s.length) && (s.take p.length == p)) = v) (h : CHeap) (hu : Under h.ents h.next) (K : CVal → CHeap → Prop) (hk : ∀ n', h.next ≤ n' → K (.bool v) { h with next := n' }) : Wc tree.getF 30 [.str s, .str p] h K := by
  have hD := dropEnts_under hu
  by_cases hl : p.length ≤ s.length
  · have hv2 : (List.take p.length s == p) = v := by simpa [hl] using hv
    have hl2 : (p.length : Int) ≤ s.length := by omega
    refine Wc.mk' (fn := c30) (by kernel_rfl) rfl ?_
    repeat (first
      | refine W.seq ?_
      | refine W.block ?_
      | (refine W.reg ?_; generalize e : stepR _ _ _ = r; simp (disch := omega) [evalSlc, optBound, c30, hD, hl, hl2, hv2] at e; replace e : some _ = _ := e; subst e; try dsimp only [callAt, callAtG, List.drop, List.take])
      | refine W.cond_true rfl ?_
      | refine W.cond_false rfl ?_
      | refine W.skip ?_
      | refine W.exit ?_
      | (refine W.region (Wo.next ?_); generalize e : evalOps _ _ _ _ _ = r; simp (disch := omega) [evalSlc, optBound, c30, hD, hl, hl2, hv2] at e; replace e : some _ = _ := e; subst e; try dsimp only [callAt, callAtG, List.drop, List.take]; refine Wo.call ?_)
      | (refine W.regionC (Wo.next ?_); generalize e : evalOps _ _ _ _ _ = r; simp (disch := omega) [evalSlc, optBound, c30, hD, hl, hl2, hv2] at e; replace e : some _ = _ := e; subst e; try dsimp only [callAt, callAtG, List.drop, List.take]; refine Wo.call ?_)
      | (refine Wo.rest ?_; generalize e : evalOps _ _ _ _ _ = r; simp (disch := omega) [evalSlc, optBound, c30, hD, hl, hl2, hv2] at e; replace e : some _ = _ := e; subst e; try dsimp only [callAt, callAtG, List.drop, List.take])
      | (refine Wo.next ?_; generalize e : evalOps _ _ _ _ _ = r; simp (disch := omega) [evalSlc, optBound, c30, hD, hl, hl2, hv2] at e; replace e : some _ = _ := e; subst e; try dsimp only [callAt, callAtG, List.drop, List.take]; refine Wo.call ?_))
    refine W.ret ?_
    try simp only [outOf, thenW_ret]
    refine endW.intro rfl ?_
    generalize e : endsC _ _ _ = r
    simp (disch := omega) [c30, hD] at e
    subst e
    try dsimp only
    refine hk _ ?_; omega
  · have hv2 : v = false := by simpa [hl] using hv.symm
    have hl2 : ¬ ((p.length : Int) ≤ s.length) := by omega
    subst hv2
    refine Wc.mk' (fn := c30) (by kernel_rfl) rfl ?_
    repeat (first
      | refine W.seq ?_
      | refine W.block ?_
      | (refine W.reg ?_; generalize e : stepR _ _ _ = r; simp (disch := omega) [evalSlc, optBound, c30, hD, hl, hl2] at e; replace e : some _ = _ := e; subst e; try dsimp only [callAt, callAtG, List.drop, List.take])
      | refine W.cond_true rfl ?_
      | refine W.cond_false rfl ?_
      | refine W.skip ?_
      | refine W.exit ?_
      | (refine W.region (Wo.next ?_); generalize e : evalOps _ _ _ _ _ = r; simp (disch := omega) [evalSlc, optBound, c30, hD, hl, hl2] at e; replace e : some _ = _ := e; subst e; try dsimp only [callAt, callAtG, List.drop, List.take]; refine Wo.call ?_)
      | (refine W.regionC (Wo.next ?_); generalize e : evalOps _ _ _ _ _ = r; simp (disch := omega) [evalSlc, optBound, c30, hD, hl, hl2] at e; replace e : some _ = _ := e; subst e; try dsimp only [callAt, callAtG, List.drop, List.take]; refine Wo.call ?_)
      | (refine Wo.rest ?_; generalize e : evalOps _ _ _ _ _ = r; simp (disch := omega) [evalSlc, optBound, c30, hD, hl, hl2] at e; replace e : some _ = _ := e; subst e; try dsimp only [callAt, callAtG, List.drop, List.take])
      | (refine Wo.next ?_; generalize e : evalOps _ _ _ _ _ = r; simp (disch := omega) [evalSlc, optBound, c30, hD, hl, hl2] at e; replace e : some _ = _ := e; subst e; try dsimp only [callAt, callAtG, List.drop, List.take]; refine Wo.call ?_))
    refine W.ret ?_
    try simp only [outOf, thenW_ret]
    refine endW.intro rfl ?_
    generalize e : endsC _ _ _ = r
    simp (disch := omega) [c30, hD] at e
    subst e
    try dsimp only
    refine hk _ ?_; omega

theorem prefix_spec (s p : List UInt8) (v : Bool) (hv : (decide (p.length ≤ s.length) && (s.take p.length == p)) = v) (h : CHeap) (hu : Under h.ents h.next) (K : CVal → CHeap → Prop) (hk : ∀ n', h.next ≤ n' → K (.bool v) { h with next := n' }) : Wc tree.getF 14 [.str s, .str p] h K := by
  have hD := dropEnts_under hu
  refine Wc.mk' (fn := c14) (by kernel_rfl) rfl ?_
  repeat (first
    | refine W.seq ?_
    | refine W.block ?_
    | (refine W.reg ?_; generalize e : stepR _ _ _ = r; simp (disch := omega) [evalSlc, optBound, c14, hD] at e; replace e : some _ = _ := e; subst e; try dsimp only [callAt, callAtG, List.drop, List.take])
    | refine W.cond_true rfl ?_
    | refine W.cond_false rfl ?_
    | refine W.skip ?_
    | refine W.exit ?_
    | (refine W.region (Wo.next ?_); generalize e : evalOps _ _ _ _ _ = r; simp (disch := omega) [evalSlc, optBound, c14, hD] at e; replace e : some _ = _ := e; subst e; try dsimp only [callAt, callAtG, List.drop, List.take]; refine Wo.call ?_)
    | (refine W.regionC (Wo.next ?_); generalize e : evalOps _ _ _ _ _ = r; simp (disch := omega) [evalSlc, optBound, c14, hD] at e; replace e : some _ = _ := e; subst e; try dsimp only [callAt, callAtG, List.drop, List.take]; refine Wo.call ?_)
    | (refine Wo.rest ?_; generalize e : evalOps _ _ _ _ _ = r; simp (disch := omega) [evalSlc, optBound, c14, hD] at e; replace e : some _ = _ := e; subst e; try dsimp only [callAt, callAtG, List.drop, List.take])
    | (refine Wo.next ?_; generalize e : evalOps _ _ _ _ _ = r; simp (disch := omega) [evalSlc, optBound, c14, hD] at e; replace e : some _ = _ := e; subst e; try dsimp only [callAt, callAtG, List.drop, List.take]; refine Wo.call ?_)
    | (refine W.region (Wo.nextG ?_); generalize e : evalOps _ _ _ _ _ = r; simp (disch := omega) [evalSlc, optBound, c14, hD] at e; replace e : some _ = _ := e; subst e; try dsimp only [callAt, callAtG, List.drop, List.take]; refine Wo.callG rfl ?_)
    | (refine W.regionC (Wo.nextG ?_); generalize e : evalOps _ _ _ _ _ = r; simp (disch := omega) [evalSlc, optBound, c14, hD] at e; replace e : some _ = _ := e; subst e; try dsimp only [callAt, callAtG, List.drop, List.take]; refine Wo.callG rfl ?_)
    | (refine Wo.nextG ?_; generalize e : evalOps _ _ _ _ _ = r; simp (disch := omega) [evalSlc, optBound, c14, hD] at e; replace e : some _ = _ := e; subst e; try dsimp only [callAt, callAtG, List.drop, List.take]; refine Wo.callG rfl ?_)
    | (refine prefix0_spec s p v hv _ (by repeat (first | exact hu.le (by (try dsimp only); omega) | exact hu.set.le (by (try dsimp only); omega) | refine Under.cons (by (try dsimp only); omega) ?_ | exact Under.nil)) _ fun n1 hn1 => ⟨rfl, ?_⟩; try dsimp only at hn1))
  refine W.ret ?_
  try simp only [outOf, thenW_ret]
  refine endW.intro rfl ?_
  generalize e : endsC _ _ _ = r
  simp (disch := omega) [c14, hD] at e
  subst e
  try dsimp only
  refine hk _ ?_; omega

/-- Where a text stands in another one. -/
theorem index_spec (s p : List UInt8) (hs : s.length < 4294967281) (h : CHeap) (hu : Under h.ents h.next) (K : CVal → CHeap → Prop) (hk : ∀ n', h.next ≤ n' → K (.int .i64 (idxSub p s 0)) { h with next := n' }) : Wc tree.getF 16 [.str s, .str p] h K := by
  have hD := dropEnts_under hu
  have hp : ∀ h : CHeap, pIndex [.str s, .str p] h = some (.int .i64 (idxSub p s 0), h) := fun h => by simp [pIndex, hs]
  refine Wc.mk' (fn := c16) (by kernel_rfl) rfl ?_
  repeat (first
    | refine W.seq ?_
    | refine W.block ?_
    | (refine W.reg ?_; generalize e : stepR _ _ _ = r; simp (disch := omega) [evalSlc, optBound, c16, hD] at e; replace e : some _ = _ := e; subst e; try dsimp only [callAt, callAtG, List.drop, List.take])
    | refine W.cond_true rfl ?_
    | refine W.cond_false rfl ?_
    | refine W.skip ?_
    | refine W.exit ?_
    | (refine W.region (Wo.next ?_); generalize e : evalOps _ _ _ _ _ = r; simp (disch := omega) [evalSlc, optBound, c16, hD] at e; replace e : some _ = _ := e; subst e; try dsimp only [callAt, callAtG, List.drop, List.take]; refine Wo.call ?_)
    | (refine W.regionC (Wo.next ?_); generalize e : evalOps _ _ _ _ _ = r; simp (disch := omega) [evalSlc, optBound, c16, hD] at e; replace e : some _ = _ := e; subst e; try dsimp only [callAt, callAtG, List.drop, List.take]; refine Wo.call ?_)
    | (refine Wo.rest ?_; generalize e : evalOps _ _ _ _ _ = r; simp (disch := omega) [evalSlc, optBound, c16, hD] at e; replace e : some _ = _ := e; subst e; try dsimp only [callAt, callAtG, List.drop, List.take])
    | (refine Wo.next ?_; generalize e : evalOps _ _ _ _ _ = r; simp (disch := omega) [evalSlc, optBound, c16, hD] at e; replace e : some _ = _ := e; subst e; try dsimp only [callAt, callAtG, List.drop, List.take]; refine Wo.call ?_))
  refine Wc.prim (p := pIndex) (by kernel_rfl) (hp _) ⟨rfl, ?_⟩
  repeat (first
    | refine W.seq ?_
    | refine W.block ?_
    | (refine W.reg ?_; generalize e : stepR _ _ _ = r; simp (disch := omega) [evalSlc, optBound, hD] at e; replace e : some _ = _ := e; subst e; try dsimp only [callAt, callAtG, List.drop, List.take])
    | refine W.cond_true rfl ?_
    | refine W.cond_false rfl ?_
    | refine W.skip ?_
    | refine W.exit ?_
    | (refine W.region (Wo.next ?_); generalize e : evalOps _ _ _ _ _ = r; simp (disch := omega) [evalSlc, optBound, hD] at e; replace e : some _ = _ := e; subst e; try dsimp only [callAt, callAtG, List.drop, List.take]; refine Wo.call ?_)
    | (refine W.regionC (Wo.next ?_); generalize e : evalOps _ _ _ _ _ = r; simp (disch := omega) [evalSlc, optBound, hD] at e; replace e : some _ = _ := e; subst e; try dsimp only [callAt, callAtG, List.drop, List.take]; refine Wo.call ?_)
    | (refine Wo.rest ?_; generalize e : evalOps _ _ _ _ _ = r; simp (disch := omega) [evalSlc, optBound, hD] at e; replace e : some _ = _ := e; subst e; try dsimp only [callAt, callAtG, List.drop, List.take])
    | (refine Wo.next ?_; generalize e : evalOps _ _ _ _ _ = r; simp (disch := omega) [evalSlc, optBound, hD] at e; replace e : some _ = _ := e; subst e; try dsimp only [callAt, callAtG, List.drop, List.take]; refine Wo.call ?_))
  refine W.ret ?_
  try simp only [outOf, thenW_ret]
  refine endW.intro rfl ?_
  generalize e : endsC _ _ _ = r
  simp (disch := omega) [c16, hD] at e
  subst e
  try dsimp only
  refine hk _ ?_; omega

theorem contains0_spec (s p : List UInt8) (v : Bool) (hs : s.length < 4294967281) (hv : decide (0 ≤ idxSub p s 0) = v) (h : CHeap) (hu : Under h.ents h.next) (K : CVal → CHeap → Prop) (hk : ∀ n', h.next ≤ n' → K (.bool v) { h with next := n' }) : Wc tree.getF 19 [.str s, .str p] h K := by
  have hD := dropEnts_under hu
  refine Wc.mk' (fn := c19) (by kernel_rfl) rfl ?_
  repeat (first
    | refine W.seq ?_
    | refine W.block ?_
    | (refine W.reg ?_; generalize e : stepR _ _ _ = r; simp (disch := omega) [evalSlc, optBound, c19, hD, hv] at e; replace e : some _ = _ := e; subst e; try dsimp only [callAt, callAtG, List.drop, List.take])
    | refine W.cond_true rfl ?_
    | refine W.cond_false rfl ?_
    | refine W.skip ?_
    | refine W.exit ?_
    | (refine W.region (Wo.next ?_); generalize e : evalOps _ _ _ _ _ = r; simp (disch := omega) [evalSlc, optBound, c19, hD, hv] at e; replace e : some _ = _ := e; subst e; try dsimp only [callAt, callAtG, List.drop, List.take]; refine Wo.call ?_)
    | (refine W.regionC (Wo.next ?_); generalize e : evalOps _ _ _ _ _ = r; simp (disch := omega) [evalSlc, optBound, c19, hD, hv] at e; replace e : some _ = _ := e; subst e; try dsimp only [callAt, callAtG, List.drop, List.take]; refine Wo.call ?_)
    | (refine Wo.rest ?_; generalize e : evalOps _ _ _ _ _ = r; simp (disch := omega) [evalSlc, optBound, c19, hD, hv] at e; replace e : some _ = _ := e; subst e; try dsimp only [callAt, callAtG, List.drop, List.take])
    | (refine Wo.next ?_; generalize e : evalOps _ _ _ _ _ = r; simp (disch := omega) [evalSlc, optBound, c19, hD, hv] at e; replace e : some _ = _ := e; subst e; try dsimp only [callAt, callAtG, List.drop, List.take]; refine Wo.call ?_)
    | (refine W.region (Wo.nextG ?_); generalize e : evalOps _ _ _ _ _ = r; simp (disch := omega) [evalSlc, optBound, c19, hD, hv] at e; replace e : some _ = _ := e; subst e; try dsimp only [callAt, callAtG, List.drop, List.take]; refine Wo.callG rfl ?_)
    | (refine W.regionC (Wo.nextG ?_); generalize e : evalOps _ _ _ _ _ = r; simp (disch := omega) [evalSlc, optBound, c19, hD, hv] at e; replace e : some _ = _ := e; subst e; try dsimp only [callAt, callAtG, List.drop, List.take]; refine Wo.callG rfl ?_)
    | (refine Wo.nextG ?_; generalize e : evalOps _ _ _ _ _ = r; simp (disch := omega) [evalSlc, optBound, c19, hD, hv] at e; replace e : some _ = _ := e; subst e; try dsimp only [callAt, callAtG, List.drop, List.take]; refine Wo.callG rfl ?_)
    | (refine index_spec s p hs _ (by repeat (first | exact hu.le (by (try dsimp only); omega) | exact hu.set.le (by (try dsimp only); omega) | refine Under.cons (by (try dsimp only); omega) ?_ | exact Under.nil)) _ fun n1 hn1 => ⟨rfl, ?_⟩; try dsimp only at hn1))
  refine W.ret ?_
  try simp only [outOf, thenW_ret]
  refine endW.intro rfl ?_
  generalize e : endsC _ _ _ = r
  simp (disch := omega) [c19, hD] at e
  subst e
  try dsimp only
  refine hk _ ?_; omega

abbrev lettersB : List UInt8 := [65, 66, 67, 68, 69, 70, 71, 72, 73, 74, 75, 76, 77, 78, 79, 80, 81, 82, 83, 84, 85, 86, 87, 88, 89, 90, 97, 98, 99, 100, 101, 102, 103, 104, 105, 106, 107, 108, 109, 110, 111, 112, 113, 114, 115, 116, 117, 118, 119, 120, 121, 122, 95]
/-- A word that does not begin with a letter is none. -/
theorem word_no (c : UInt8) (r : List UInt8) (hc : decide (0 ≤ idxSub [c] lettersB 0) = false) (h : CHeap) (hu : Under h.ents h.next) (K : CVal → CHeap → Prop) (hk : ∀ n', h.next ≤ n' → K (.int .i64 0) { h with next := n' }) : Wc tree.getF 33 [.str (c :: r)] h K := by
  have hD := dropEnts_under hu
  refine Wc.mk' (fn := c33) (by kernel_rfl) rfl ?_
  repeat (first
    | refine W.seq ?_
    | refine W.block ?_
    | (refine W.reg ?_; generalize e : stepR _ _ _ = r; simp (disch := omega) [evalSlc, optBound, c33, hD] at e; replace e : some _ = _ := e; subst e; try dsimp only [callAt, callAtG, List.drop, List.take])
    | refine W.cond_true rfl ?_
    | refine W.cond_false rfl ?_
    | refine W.skip ?_
    | refine W.exit ?_
    | (refine W.region (Wo.next ?_); generalize e : evalOps _ _ _ _ _ = r; simp (disch := omega) [evalSlc, optBound, c33, hD] at e; replace e : some _ = _ := e; subst e; try dsimp only [callAt, callAtG, List.drop, List.take]; refine Wo.call ?_)
    | (refine W.regionC (Wo.next ?_); generalize e : evalOps _ _ _ _ _ = r; simp (disch := omega) [evalSlc, optBound, c33, hD] at e; replace e : some _ = _ := e; subst e; try dsimp only [callAt, callAtG, List.drop, List.take]; refine Wo.call ?_)
    | (refine Wo.rest ?_; generalize e : evalOps _ _ _ _ _ = r; simp (disch := omega) [evalSlc, optBound, c33, hD] at e; replace e : some _ = _ := e; subst e; try dsimp only [callAt, callAtG, List.drop, List.take])
    | (refine Wo.next ?_; generalize e : evalOps _ _ _ _ _ = r; simp (disch := omega) [evalSlc, optBound, c33, hD] at e; replace e : some _ = _ := e; subst e; try dsimp only [callAt, callAtG, List.drop, List.take]; refine Wo.call ?_)
    | (refine W.region (Wo.nextG ?_); generalize e : evalOps _ _ _ _ _ = r; simp (disch := omega) [evalSlc, optBound, c33, hD] at e; replace e : some _ = _ := e; subst e; try dsimp only [callAt, callAtG, List.drop, List.take]; refine Wo.callG rfl ?_)
    | (refine W.regionC (Wo.nextG ?_); generalize e : evalOps _ _ _ _ _ = r; simp (disch := omega) [evalSlc, optBound, c33, hD] at e; replace e : some _ = _ := e; subst e; try dsimp only [callAt, callAtG, List.drop, List.take]; refine Wo.callG rfl ?_)
    | (refine Wo.nextG ?_; generalize e : evalOps _ _ _ _ _ = r; simp (disch := omega) [evalSlc, optBound, c33, hD] at e; replace e : some _ = _ := e; subst e; try dsimp only [callAt, callAtG, List.drop, List.take]; refine Wo.callG rfl ?_)
    | (refine contains0_spec lettersB [c] false (by decide) hc _ (by repeat (first | exact hu.le (by (try dsimp only); omega) | exact hu.set.le (by (try dsimp only); omega) | refine Under.cons (by (try dsimp only); omega) ?_ | exact Under.nil)) _ fun n1 hn1 => ⟨rfl, ?_⟩; try dsimp only at hn1))
  refine W.ret ?_
  try simp only [outOf, thenW_ret]
  refine endW.intro rfl ?_
  generalize e : endsC _ _ _ = r
  simp (disch := omega) [c33, hD] at e
  subst e
  try dsimp only
  refine hk _ ?_; omega

theorem name_no (c : UInt8) (r : List UInt8) (hl : r.length < 1073741824) (hc : decide (0 ≤ idxSub [c] lettersB 0) = false) (hc2 : c ≠ 46) (h : CHeap) (hu : Under h.ents h.next) (K : CVal → CHeap → Prop) (hk : ∀ n', h.next ≤ n' → K (.int .i64 0) { h with next := n' }) : Wc tree.getF 18 [.str (c :: r)] h K := by
  have hD := dropEnts_under hu
  have hp : (decide (([46] : List UInt8).length ≤ (c :: r).length) && ((c :: r).take ([46] : List UInt8).length == [46])) = false := by simp [hc2]
  refine Wc.mk' (fn := c18) (by kernel_rfl) rfl ?_
  repeat (first
    | refine W.seq ?_
    | refine W.block ?_
    | (refine W.reg ?_; generalize e : stepR _ _ _ = r; simp (disch := omega) [evalSlc, optBound, c18, hD] at e; replace e : some _ = _ := e; subst e; try dsimp only [callAt, callAtG, List.drop, List.take])
    | refine W.cond_true rfl ?_
    | refine W.cond_false rfl ?_
    | refine W.skip ?_
    | refine W.exit ?_
    | (refine W.region (Wo.next ?_); generalize e : evalOps _ _ _ _ _ = r; simp (disch := omega) [evalSlc, optBound, c18, hD] at e; replace e : some _ = _ := e; subst e; try dsimp only [callAt, callAtG, List.drop, List.take]; refine Wo.call ?_)
    | (refine W.regionC (Wo.next ?_); generalize e : evalOps _ _ _ _ _ = r; simp (disch := omega) [evalSlc, optBound, c18, hD] at e; replace e : some _ = _ := e; subst e; try dsimp only [callAt, callAtG, List.drop, List.take]; refine Wo.call ?_)
    | (refine Wo.rest ?_; generalize e : evalOps _ _ _ _ _ = r; simp (disch := omega) [evalSlc, optBound, c18, hD] at e; replace e : some _ = _ := e; subst e; try dsimp only [callAt, callAtG, List.drop, List.take])
    | (refine Wo.next ?_; generalize e : evalOps _ _ _ _ _ = r; simp (disch := omega) [evalSlc, optBound, c18, hD] at e; replace e : some _ = _ := e; subst e; try dsimp only [callAt, callAtG, List.drop, List.take]; refine Wo.call ?_)
    | (refine W.region (Wo.nextG ?_); generalize e : evalOps _ _ _ _ _ = r; simp (disch := omega) [evalSlc, optBound, c18, hD] at e; replace e : some _ = _ := e; subst e; try dsimp only [callAt, callAtG, List.drop, List.take]; refine Wo.callG rfl ?_)
    | (refine W.regionC (Wo.nextG ?_); generalize e : evalOps _ _ _ _ _ = r; simp (disch := omega) [evalSlc, optBound, c18, hD] at e; replace e : some _ = _ := e; subst e; try dsimp only [callAt, callAtG, List.drop, List.take]; refine Wo.callG rfl ?_)
    | (refine Wo.nextG ?_; generalize e : evalOps _ _ _ _ _ = r; simp (disch := omega) [evalSlc, optBound, c18, hD] at e; replace e : some _ = _ := e; subst e; try dsimp only [callAt, callAtG, List.drop, List.take]; refine Wo.callG rfl ?_)
    | (refine prefix_spec (c :: r) [46] false hp _ (by repeat (first | exact hu.le (by (try dsimp only); omega) | exact hu.set.le (by (try dsimp only); omega) | refine Under.cons (by (try dsimp only); omega) ?_ | exact Under.nil)) _ fun n1 hn1 => ⟨rfl, ?_⟩; try dsimp only at hn1)
    | (refine word_no c r hc _ (by repeat (first | exact hu.le (by (try dsimp only); omega) | exact hu.set.le (by (try dsimp only); omega) | refine Under.cons (by (try dsimp only); omega) ?_ | exact Under.nil)) _ fun n2 hn2 => ⟨rfl, ?_⟩; try dsimp only at hn2))
  refine W.ret ?_
  try simp only [outOf, thenW_ret]
  refine endW.intro rfl ?_
  generalize e : endsC _ _ _ = r
  simp (disch := omega) [c18, hD] at e
  subst e
  try dsimp only
  refine hk _ ?_; omega
end Go.Proofs.YthblmflngjofjaaDoor.IrP
