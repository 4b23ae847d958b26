/- What the functions of the law 'WordPlaces' do: part 2. -/
import Derived.Test.YthblmflngjofjaaDoorIrP
namespace Go.Proofs.YthblmflngjofjaaDoor.IrP
open Go Go.CI
set_option maxRecDepth 100000
set_option linter.unusedVariables false
set_option linter.unusedSimpArgs false
attribute [local irreducible] W Wo Wc
attribute [local simp] stepR evalOps evalOper evalE evalP evalL evalOpnd nth setNth COp.cls COp.isStore CVal.isUndef CVal.whole CVal.cells CHeap.put CHeap.get CHeap.set wantedC getEnt setEnt partOf writeBack evalBin evalInt evalStr blockMost initVar descOf List.take List.drop CVal.lenOf CVal.isStr CVal.bare CVal.strip CVal.flat endsC resultsC oneOrTuple finishC cut fillCells setCells szOf szOf_desc elems bytesOf evalAppend fillElems mkElem List.replicate sy_nbeq sy_neqF sy_leT sy_leF sy_setEnt_setEnt dropped sy_wrap64 dropEnts dropCells sizeMost callAt callAtG sy_ibeqF sy_ieqF sy_ileT sy_ileF sy_iltT sy_iltF sy_ltT sy_ltF

theorem getEnt_setEnt_ne {l : List (Nat × CObj)} {m n : Nat} {x : CObj} (h : n ≠ m) : getEnt (setEnt l m x) n = getEnt l n := by
  induction l with
  | nil => rfl
  | cons a r ih =>
    obtain ⟨i, o⟩ := a
    by_cases hi : i = m
    · subst hi
      have : (i == n) = false := by simp; omega
      simp [setEnt, getEnt, Ne.symm h]
    · by_cases hn : i = n
      · subst hn; simp [setEnt, getEnt, hi]
      · simp [setEnt, getEnt, hi, hn, ih]
theorem setEnt_comm {l : List (Nat × CObj)} {m n : Nat} {x y : CObj} (h : m ≠ n) : setEnt (setEnt l m x) n y = setEnt (setEnt l n y) m x := by
  induction l with
  | nil => rfl
  | cons a r ih =>
    obtain ⟨i, o⟩ := a
    by_cases hi : i = m
    · subst hi; simp [setEnt, h]
    · by_cases hn : i = n
      · subst hn; simp [setEnt, hi]
      · simp [setEnt, hi, hn, ih]
theorem setEnt_same : ∀ {l : List (Nat × CObj)} {m : Nat} {x : CObj}, getEnt l m = some x → setEnt l m x = l
  | [], _, _, h => by cases h
  | (i, o) :: r, m, x, h => by
    by_cases hi : i = m
    · subst hi; simp [getEnt] at h; subst h; simp [setEnt]
    · simp [getEnt, hi] at h; simp [setEnt, hi, setEnt_same h]
theorem set3 {l : List (Nat × CObj)} {p r q : Nat} {x1 y1 z1 x2 y2 z2 : CObj} (h1 : r ≠ p) (h2 : q ≠ p) (h3 : r ≠ q) :
    setEnt (setEnt (setEnt (setEnt (setEnt (setEnt l p x1) r y1) q z1) p x2) r y2) q z2 = setEnt (setEnt (setEnt l p x2) r y2) q z2 := by
  rw [setEnt_comm (l := setEnt (setEnt l p x1) r y1) h2, setEnt_comm (l := setEnt l p x1) h1, sy_setEnt_setEnt, setEnt_comm (l := setEnt (setEnt l p x2) r y1) (m := q) (n := r) (Ne.symm h3), sy_setEnt_setEnt, sy_setEnt_setEnt]


/-- A set of bytes, as 256 marks. -/
def inSet (bs : List CVal) (c : UInt8) (v : Bool) : Prop := nth bs c.toNat = .bool v

theorem contains_spec (p d : Nat) (bs : List CVal) (c : UInt8) (v : Bool) (hv : inSet bs c v) (hl : bs.length = 256) (h : CHeap) (hg : getEnt h.ents p = some (.cells bs)) (hu : Under h.ents h.next) (K : CVal → CHeap → Prop) (hk : ∀ n', h.next ≤ n' → K (.bool v) { h with next := n' }) : Wc tree.getF 53 [.ptr p d 0, .int .u8 (c.toNat : Int)] h K := by
  have hD := dropEnts_under hu
  have hc : c.toNat < 256 := c.toNat_lt
  have hv2 : nth bs c.toNat = .bool v := hv
  refine Wc.mk' (fn := c53) (by kernel_rfl) rfl ?_
  repeat (first
    | refine W.seq ?_
    | refine W.block ?_
    | (refine W.reg ?_; generalize e : stepR _ _ _ = r; simp (disch := omega) [evalSlc, optBound, c53, hD, hg, hl, hv2] at e; replace e : some _ = _ := e; subst e; try dsimp only [callAt, List.drop, List.take])
    | refine W.cond_true rfl ?_
    | refine W.cond_false rfl ?_
    | refine W.skip ?_
    | refine W.exit ?_
    | (refine W.region (Wo.next ?_); generalize e : evalOps _ _ _ _ _ = r; simp (disch := omega) [evalSlc, optBound, c53, hD, hg, hl, hv2] at e; replace e : some _ = _ := e; subst e; try dsimp only [callAt, List.drop, List.take]; refine Wo.call ?_)
    | (refine W.regionC (Wo.next ?_); generalize e : evalOps _ _ _ _ _ = r; simp (disch := omega) [evalSlc, optBound, c53, hD, hg, hl, hv2] at e; replace e : some _ = _ := e; subst e; try dsimp only [callAt, List.drop, List.take]; refine Wo.call ?_)
    | (refine Wo.rest ?_; generalize e : evalOps _ _ _ _ _ = r; simp (disch := omega) [evalSlc, optBound, c53, hD, hg, hl, hv2] at e; replace e : some _ = _ := e; subst e; try dsimp only [callAt, List.drop, List.take])
    | (refine Wo.next ?_; generalize e : evalOps _ _ _ _ _ = r; simp (disch := omega) [evalSlc, optBound, c53, hD, hg, hl, hv2] at e; replace e : some _ = _ := e; subst e; try dsimp only [callAt, List.drop, List.take]; refine Wo.call ?_))
  refine W.ret ?_
  try simp only [outOf, thenW_ret]
  refine endW.intro rfl ?_
  generalize e : endsC _ _ _ = r
  simp (disch := omega) [c53, hD, hg, hl, hv2] at e
  subst e
  try dsimp only
  refine hk _ ?_; omega

abbrev trimLoop : CCode := (.loop true (.seq (.seq (.region [⟨.mv (.var 0), none⟩, ⟨.len true (.loc 0), none⟩, ⟨.bin .gtr (.loc 0) (.const (.int .i64 0)), none⟩] [(1, 2)] [] []) (.cond (.var 1) .skip (.exit 0))) (.block 1 (.seq (.seq (.region [⟨.mv (.var 2), none⟩, ⟨.mv (.var 0), none⟩, ⟨.idxStr (.loc 0) (.const (.int .i64 0)), none⟩, ⟨.call false 53 [(.loc 2), (.loc 0)], none⟩, ⟨.not (.loc 0), none⟩] [(3, 4)] [] []) (.cond (.var 3) (.exit 0) .skip)) (.region [⟨.mv (.var 0), none⟩, ⟨.slc 0 (.loc 0) (some (.const (.int .i64 1))) none, none⟩, ⟨.mv (.loc 0), none⟩] [(0, 2)] [] [])))))
theorem trim_loop (p d : Nat) (bs : List CVal) (hl : bs.length = 256) (rest : List UInt8) (hr : ∀ c r, rest = c :: r → inSet bs c false) (Q : CExit → CSt → Prop) :
    ∀ (ds : List UInt8), (∀ c ∈ ds, inSet bs c true) → ∀ (h : CHeap) (b1 b3 b4 : CVal), getEnt h.ents p = some (.cells bs) → Under h.ents h.next → ds.length + rest.length < 1073741824 →
    (∀ n' c1 c3, h.next ≤ n' → Q (.exit 0) ⟨[.str rest, c1, .ptr p d 0, c3, b4], { h with next := n' }, []⟩) →
    W tree.getF trimLoop ⟨[.str (ds ++ rest), b1, .ptr p d 0, b3, b4], h, []⟩ Q := by
  intro ds
  induction ds with
  | nil =>
    intro _ h b1 b3 b4 hg hu hlen hq
    cases rest with
    | nil =>
      refine W.loop ?_
      repeat (first
        | refine W.seq ?_
        | refine W.block ?_
        | (refine W.reg ?_; generalize e : stepR _ _ _ = r; simp (disch := omega) [evalSlc, optBound, hg, List.nil_append, List.cons_append] at e; replace e : some _ = _ := e; subst e; try dsimp only [callAt, List.drop, List.take])
        | refine W.cond_true rfl ?_
        | refine W.cond_false rfl ?_
        | refine W.skip ?_
        | refine W.exit ?_
        | (refine W.region (Wo.next ?_); generalize e : evalOps _ _ _ _ _ = r; simp (disch := omega) [evalSlc, optBound, hg, List.nil_append, List.cons_append] at e; replace e : some _ = _ := e; subst e; try dsimp only [callAt, List.drop, List.take]; refine Wo.call ?_)
        | (refine W.regionC (Wo.next ?_); generalize e : evalOps _ _ _ _ _ = r; simp (disch := omega) [evalSlc, optBound, hg, List.nil_append, List.cons_append] at e; replace e : some _ = _ := e; subst e; try dsimp only [callAt, List.drop, List.take]; refine Wo.call ?_)
        | (refine Wo.rest ?_; generalize e : evalOps _ _ _ _ _ = r; simp (disch := omega) [evalSlc, optBound, hg, List.nil_append, List.cons_append] at e; replace e : some _ = _ := e; subst e; try dsimp only [callAt, List.drop, List.take])
        | (refine Wo.next ?_; generalize e : evalOps _ _ _ _ _ = r; simp (disch := omega) [evalSlc, optBound, hg, List.nil_append, List.cons_append] at e; replace e : some _ = _ := e; subst e; try dsimp only [callAt, List.drop, List.take]; refine Wo.call ?_))
      exact hq _ _ _ (by omega)
    | cons c r =>
      have hc := hr c r rfl
      refine W.loop ?_
      repeat (first
        | refine W.seq ?_
        | refine W.block ?_
        | (refine W.reg ?_; generalize e : stepR _ _ _ = r; simp (disch := omega) [evalSlc, optBound, hg, List.nil_append, List.cons_append] at e; replace e : some _ = _ := e; subst e; try dsimp only [callAt, List.drop, List.take])
        | refine W.cond_true rfl ?_
        | refine W.cond_false rfl ?_
        | refine W.skip ?_
        | refine W.exit ?_
        | (refine W.region (Wo.next ?_); generalize e : evalOps _ _ _ _ _ = r; simp (disch := omega) [evalSlc, optBound, hg, List.nil_append, List.cons_append] at e; replace e : some _ = _ := e; subst e; try dsimp only [callAt, List.drop, List.take]; refine Wo.call ?_)
        | (refine W.regionC (Wo.next ?_); generalize e : evalOps _ _ _ _ _ = r; simp (disch := omega) [evalSlc, optBound, hg, List.nil_append, List.cons_append] at e; replace e : some _ = _ := e; subst e; try dsimp only [callAt, List.drop, List.take]; refine Wo.call ?_)
        | (refine Wo.rest ?_; generalize e : evalOps _ _ _ _ _ = r; simp (disch := omega) [evalSlc, optBound, hg, List.nil_append, List.cons_append] at e; replace e : some _ = _ := e; subst e; try dsimp only [callAt, List.drop, List.take])
        | (refine Wo.next ?_; generalize e : evalOps _ _ _ _ _ = r; simp (disch := omega) [evalSlc, optBound, hg, List.nil_append, List.cons_append] at e; replace e : some _ = _ := e; subst e; try dsimp only [callAt, List.drop, List.take]; refine Wo.call ?_)
        | (refine contains_spec p d bs c false hc hl _ (by simp [hg]) (by repeat (first | exact hu.le (by (try dsimp only); omega) | exact hu.set.le (by (try dsimp only); omega) | refine Under.cons (by (try dsimp only); omega) ?_ | exact Under.nil)) _ fun n1 hn1 => ⟨rfl, ?_⟩; try dsimp only at hn1))
      exact hq _ _ _ (by omega)
  | cons c ds ih =>
    intro hds h b1 b3 b4 hg hu hlen hq
    have hc := hds c (List.mem_cons_self ..)
    have hC : dropCells h.ents h.next = h.ents := dropCells_under hu
    have htk : List.take (ds.length + rest.length) (ds ++ rest) = ds ++ rest := by rw [← List.length_append, List.take_length]
    have hl3 : ds.length + 1 + rest.length < 1073741824 := by simpa using hlen
    refine W.loop ?_
    repeat (first
      | refine W.seq ?_
      | refine W.block ?_
      | (refine W.reg ?_; generalize e : stepR _ _ _ = r; simp (disch := omega) [evalSlc, optBound, hg, List.nil_append, List.cons_append, hC, htk] at e; replace e : some _ = _ := e; subst e; try dsimp only [callAt, List.drop, List.take])
      | refine W.cond_true rfl ?_
      | refine W.cond_false rfl ?_
      | refine W.skip ?_
      | refine W.exit ?_
      | (refine W.region (Wo.next ?_); generalize e : evalOps _ _ _ _ _ = r; simp (disch := omega) [evalSlc, optBound, hg, List.nil_append, List.cons_append, hC, htk] at e; replace e : some _ = _ := e; subst e; try dsimp only [callAt, List.drop, List.take]; refine Wo.call ?_)
      | (refine W.regionC (Wo.next ?_); generalize e : evalOps _ _ _ _ _ = r; simp (disch := omega) [evalSlc, optBound, hg, List.nil_append, List.cons_append, hC, htk] at e; replace e : some _ = _ := e; subst e; try dsimp only [callAt, List.drop, List.take]; refine Wo.call ?_)
      | (refine Wo.rest ?_; generalize e : evalOps _ _ _ _ _ = r; simp (disch := omega) [evalSlc, optBound, hg, List.nil_append, List.cons_append, hC, htk] at e; replace e : some _ = _ := e; subst e; try dsimp only [callAt, List.drop, List.take])
      | (refine Wo.next ?_; generalize e : evalOps _ _ _ _ _ = r; simp (disch := omega) [evalSlc, optBound, hg, List.nil_append, List.cons_append, hC, htk] at e; replace e : some _ = _ := e; subst e; try dsimp only [callAt, List.drop, List.take]; refine Wo.call ?_)
      | (refine contains_spec p d bs c true hc hl _ (by simp [hg]) (by repeat (first | exact hu.le (by (try dsimp only); omega) | exact hu.set.le (by (try dsimp only); omega) | refine Under.cons (by (try dsimp only); omega) ?_ | exact Under.nil)) _ fun n1 hn1 => ⟨rfl, ?_⟩; try dsimp only at hn1))
    show W tree.getF trimLoop (dropped true _ _) Q
    generalize e : dropped _ _ _ = r
    simp (disch := omega) [hg, List.nil_append, List.cons_append, hC] at e
    subst e
    try dsimp only
    exact ih (fun c hc => hds c (List.mem_cons_of_mem _ hc)) _ _ _ _ (by exact hg) (hu.le (by (try dsimp only); omega)) (by simp at hlen; omega) (fun n' c1 c3 hn => hq n' c1 c3 (by dsimp only at hn; omega))

/-- What a text is behind a set's bytes at its front. -/
theorem trimA_spec (p d : Nat) (bs : List CVal) (hl : bs.length = 256) (ds rest : List UInt8) (hds : ∀ c ∈ ds, inSet bs c true) (hr : ∀ c r, rest = c :: r → inSet bs c false) (h : CHeap) (hg : getEnt h.ents p = some (.cells bs)) (hu : Under h.ents h.next) (hlen : ds.length + rest.length < 1073741824) (K : CVal → CHeap → Prop)
    (hk : ∀ n', h.next ≤ n' → K (.str rest) { h with next := n' }) : Wc tree.getF 42 [.str (ds ++ rest), .ptr p d 0] h K := by
  have hD := dropEnts_under hu
  refine Wc.mk' (fn := c42) (by kernel_rfl) rfl ?_
  repeat (first
    | refine W.seq ?_
    | refine W.block ?_
    | (refine W.reg ?_; generalize e : stepR _ _ _ = r; simp (disch := omega) [evalSlc, optBound, c42, hg, hD] at e; replace e : some _ = _ := e; subst e; try dsimp only [callAt, List.drop, List.take])
    | refine W.cond_true rfl ?_
    | refine W.cond_false rfl ?_
    | refine W.skip ?_
    | refine W.exit ?_
    | (refine W.region (Wo.next ?_); generalize e : evalOps _ _ _ _ _ = r; simp (disch := omega) [evalSlc, optBound, c42, hg, hD] at e; replace e : some _ = _ := e; subst e; try dsimp only [callAt, List.drop, List.take]; refine Wo.call ?_)
    | (refine W.regionC (Wo.next ?_); generalize e : evalOps _ _ _ _ _ = r; simp (disch := omega) [evalSlc, optBound, c42, hg, hD] at e; replace e : some _ = _ := e; subst e; try dsimp only [callAt, List.drop, List.take]; refine Wo.call ?_)
    | (refine Wo.rest ?_; generalize e : evalOps _ _ _ _ _ = r; simp (disch := omega) [evalSlc, optBound, c42, hg, hD] at e; replace e : some _ = _ := e; subst e; try dsimp only [callAt, List.drop, List.take])
    | (refine Wo.next ?_; generalize e : evalOps _ _ _ _ _ = r; simp (disch := omega) [evalSlc, optBound, c42, hg, hD] at e; replace e : some _ = _ := e; subst e; try dsimp only [callAt, List.drop, List.take]; refine Wo.call ?_))
  refine trim_loop p d bs hl rest hr _ ds hds _ _ _ _ (by simp [hg]) (by repeat (first | exact hu.le (by (try dsimp only); omega) | exact hu.set.le (by (try dsimp only); omega) | refine Under.cons (by (try dsimp only); omega) ?_ | exact Under.nil)) hlen fun n1 c1 c3 hn1 => ?_
  try dsimp only at hn1
  repeat (first
    | refine W.seq ?_
    | refine W.block ?_
    | (refine W.reg ?_; generalize e : stepR _ _ _ = r; simp (disch := omega) [evalSlc, optBound, hg, hD] at e; replace e : some _ = _ := e; subst e; try dsimp only [callAt, List.drop, List.take])
    | refine W.cond_true rfl ?_
    | refine W.cond_false rfl ?_
    | refine W.skip ?_
    | refine W.exit ?_
    | (refine W.region (Wo.next ?_); generalize e : evalOps _ _ _ _ _ = r; simp (disch := omega) [evalSlc, optBound, hg, hD] at e; replace e : some _ = _ := e; subst e; try dsimp only [callAt, List.drop, List.take]; refine Wo.call ?_)
    | (refine W.regionC (Wo.next ?_); generalize e : evalOps _ _ _ _ _ = r; simp (disch := omega) [evalSlc, optBound, hg, hD] at e; replace e : some _ = _ := e; subst e; try dsimp only [callAt, List.drop, List.take]; refine Wo.call ?_)
    | (refine Wo.rest ?_; generalize e : evalOps _ _ _ _ _ = r; simp (disch := omega) [evalSlc, optBound, hg, hD] at e; replace e : some _ = _ := e; subst e; try dsimp only [callAt, List.drop, List.take])
    | (refine Wo.next ?_; generalize e : evalOps _ _ _ _ _ = r; simp (disch := omega) [evalSlc, optBound, hg, hD] at e; replace e : some _ = _ := e; subst e; try dsimp only [callAt, List.drop, List.take]; refine Wo.call ?_))
  refine W.ret ?_
  try simp only [outOf, thenW_ret]
  refine endW.intro rfl ?_
  generalize e : endsC _ _ _ = r
  simp (disch := omega) [c42, hg, hD] at e
  subst e
  try dsimp only
  refine hk _ ?_; omega

/-- The set of some bytes. -/
def marks : List CVal → List UInt8 → List CVal
  | bs, [] => bs
  | bs, c :: r => marks (setCells bs c.toNat [.bool true]) r
theorem setCells_len (bs : List CVal) (c : Nat) (hc : c < bs.length) (x : CVal) : (setCells bs c [x]).length = bs.length := by
  simp [setCells]; omega
abbrev setLoop : CCode := (.loop true (.seq (.seq (.region [⟨.mv (.var 0), none⟩, ⟨.mv (.var 1), none⟩, ⟨.len true (.loc 0), none⟩, ⟨.bin .lss (.loc 2) (.loc 0), none⟩] [(2, 3)] [] []) (.cond (.var 2) .skip (.exit 0))) (.seq (.block 1 (.seq (.region [⟨.mv (.var 1), none⟩, ⟨.mv (.var 0), none⟩, ⟨.idxStr (.loc 1) (.loc 0), none⟩, ⟨.mv (.loc 0), none⟩] [(3, 3)] [] []) (.seq (.seq (.region [⟨.mv (.var 3), none⟩, ⟨.bin .geq (.loc 0) (.const (.int .u8 128)), none⟩] [(4, 1)] [] []) (.cond (.var 4) (.seq (.region [⟨.load (some 256) (.var 5), none⟩, ⟨.store 256 (.var 5) (.loc 0), none⟩, ⟨.mv (.const (.bool false)), none⟩] [(6, 2)] [] []) .ret) .skip)) (.region [⟨.mv (.var 3), none⟩, ⟨.arrAddr 256 1 (.var 5) (.loc 0), none⟩, ⟨.store 1 (.loc 0) (.const (.bool true)), none⟩] [] [] [])))) (.region [⟨.mv (.var 0), none⟩, ⟨.bin .add (.loc 0) (.const (.int .i64 1)), none⟩, ⟨.mv (.loc 0), none⟩] [(0, 2)] [] []))))
theorem set_loop (s : List UInt8) (p d : Nat) (hs : s.length < 1073741824) (Q : CExit → CSt → Prop) : ∀ (r : List UInt8) (i : Nat), s.drop i = r → (∀ c ∈ r, c.toNat < 128) → ∀ (bs : List CVal), bs.length = 256 → ∀ (h : CHeap) (b2 b3 b4 b6 : CVal), getEnt h.ents p = some (.cells bs) → Under h.ents h.next →
    (∀ n' c0 c2 c3 c4, h.next ≤ n' → Q (.exit 0) ⟨[c0, .str s, c2, c3, c4, .ptr p d 0, b6], { h with ents := setEnt h.ents p (.cells (marks bs r)), next := n' }, []⟩) →
    W tree.getF setLoop ⟨[.int .i64 i, .str s, b2, b3, b4, .ptr p d 0, b6], h, []⟩ Q := by
  intro r
  induction r with
  | nil =>
    intro i hi _ bs hbl h b2 b3 b4 b6 hg hu hq
    have hle : s.length ≤ i := List.drop_eq_nil_iff.1 hi
    refine W.loop ?_
    repeat (first
      | refine W.seq ?_
      | refine W.block ?_
      | (refine W.reg ?_; generalize e : stepR _ _ _ = r; simp (disch := omega) [evalSlc, optBound, hg] at e; replace e : some _ = _ := e; subst e; try dsimp only [callAt, List.drop, List.take])
      | refine W.cond_true rfl ?_
      | refine W.cond_false rfl ?_
      | refine W.skip ?_
      | refine W.exit ?_
      | (refine W.region (Wo.next ?_); generalize e : evalOps _ _ _ _ _ = r; simp (disch := omega) [evalSlc, optBound, hg] at e; replace e : some _ = _ := e; subst e; try dsimp only [callAt, List.drop, List.take]; refine Wo.call ?_)
      | (refine W.regionC (Wo.next ?_); generalize e : evalOps _ _ _ _ _ = r; simp (disch := omega) [evalSlc, optBound, hg] at e; replace e : some _ = _ := e; subst e; try dsimp only [callAt, List.drop, List.take]; refine Wo.call ?_)
      | (refine Wo.rest ?_; generalize e : evalOps _ _ _ _ _ = r; simp (disch := omega) [evalSlc, optBound, hg] at e; replace e : some _ = _ := e; subst e; try dsimp only [callAt, List.drop, List.take])
      | (refine Wo.next ?_; generalize e : evalOps _ _ _ _ _ = r; simp (disch := omega) [evalSlc, optBound, hg] at e; replace e : some _ = _ := e; subst e; try dsimp only [callAt, List.drop, List.take]; refine Wo.call ?_))
    have := hq (h.next + 4) (.int .i64 i) (.bool false) b3 b4 (by omega)
    rw [show marks bs [] = bs from rfl, setEnt_same hg] at this
    exact this
  | cons c r ih =>
    intro i hi hr bs hbl h b2 b3 b4 b6 hg hu hq
    have hc : c.toNat < 128 := hr c (List.mem_cons_self ..)
    have hlt : i < s.length := by
      rcases Nat.lt_or_ge i s.length with h1 | h1
      · exact h1
      · rw [List.drop_eq_nil_of_le h1] at hi; cases hi
    have hget : s[i] = c := by
      have h1 := List.drop_eq_getElem_cons hlt
      rw [hi] at h1
      exact (List.cons.inj h1).1.symm
    have hi2 : s.drop (i + 1) = r := by
      have h1 := List.drop_eq_getElem_cons hlt
      rw [hi] at h1
      exact (List.cons.inj h1).2.symm
    have hget2 : s[i]? = some c := by rw [List.getElem?_eq_getElem hlt, hget]
    have hC : ∀ x, dropCells (setEnt h.ents p x) h.next = setEnt h.ents p x := fun x => dropCells_under hu.set
    have hG : ∀ x, getEnt (setEnt h.ents p x) p = some x := fun x => sy_getEnt_setEnt hg
    have hcl : c.toNat < bs.length := by omega
    refine W.loop ?_
    repeat (first
      | refine W.seq ?_
      | refine W.block ?_
      | (refine W.reg ?_; generalize e : stepR _ _ _ = r; simp (disch := omega) [evalSlc, optBound, hg, hC, hG, hget2, hbl, hget] at e; replace e : some _ = _ := e; subst e; try dsimp only [callAt, List.drop, List.take])
      | refine W.cond_true rfl ?_
      | refine W.cond_false rfl ?_
      | refine W.skip ?_
      | refine W.exit ?_
      | (refine W.region (Wo.next ?_); generalize e : evalOps _ _ _ _ _ = r; simp (disch := omega) [evalSlc, optBound, hg, hC, hG, hget2, hbl, hget] at e; replace e : some _ = _ := e; subst e; try dsimp only [callAt, List.drop, List.take]; refine Wo.call ?_)
      | (refine W.regionC (Wo.next ?_); generalize e : evalOps _ _ _ _ _ = r; simp (disch := omega) [evalSlc, optBound, hg, hC, hG, hget2, hbl, hget] at e; replace e : some _ = _ := e; subst e; try dsimp only [callAt, List.drop, List.take]; refine Wo.call ?_)
      | (refine Wo.rest ?_; generalize e : evalOps _ _ _ _ _ = r; simp (disch := omega) [evalSlc, optBound, hg, hC, hG, hget2, hbl, hget] at e; replace e : some _ = _ := e; subst e; try dsimp only [callAt, List.drop, List.take])
      | (refine Wo.next ?_; generalize e : evalOps _ _ _ _ _ = r; simp (disch := omega) [evalSlc, optBound, hg, hC, hG, hget2, hbl, hget] at e; replace e : some _ = _ := e; subst e; try dsimp only [callAt, List.drop, List.take]; refine Wo.call ?_))
    show W tree.getF setLoop (dropped true _ _) Q
    generalize e : dropped _ _ _ = r
    simp (disch := omega) [hg, hC] at e
    subst e
    try dsimp only
    refine ih (i + 1) hi2 (fun c hc => hr c (List.mem_cons_of_mem _ hc)) (setCells bs c.toNat [.bool true]) (by rw [setCells_len _ _ hcl]; exact hbl) _ _ _ _ _ (by exact hG _) (hu.set.le (by (try dsimp only); omega)) (fun n' c0 c2 c3 c4 hn => ?_)
    have := hq n' c0 c2 c3 c4 (by dsimp only at hn; omega)
    rw [sy_setEnt_setEnt]
    exact this

def marks0 : List CVal := List.replicate 256 (.bool false)
theorem marks_len : ∀ (r : List UInt8) (bs : List CVal), bs.length = 256 → (marks bs r).length = 256
  | [], _, h => h
  | c :: r, bs, h => marks_len r _ (by rw [setCells_len _ _ (by have := c.toNat_lt; omega)]; exact h)
theorem marks_strip : ∀ (r : List UInt8) (bs : List CVal), bs.map CVal.strip = bs → (marks bs r).map CVal.strip = marks bs r
  | [], _, h => h
  | c :: r, bs, h => marks_strip r _ (by simp only [setCells, List.map_append, List.map_take, List.map_drop, h]; rfl)
set_option maxHeartbeats 1000000 in
theorem makeSet_spec (s : List UInt8) (hs : s.length < 1073741824) (hr : ∀ c ∈ s, c.toNat < 128) (h : CHeap) (hu : Under h.ents h.next) (K : CVal → CHeap → Prop)
    (hk : ∀ n', h.next ≤ n' → K (.tup [.agg (marks marks0 s), .bool true]) { h with next := n' }) : Wc tree.getF 41 [.str s] h K := by
  have hD := dropEnts_under hu
  have hml := marks_len s marks0 rfl
  have hst := marks_strip s marks0 rfl
  have htk : List.take 256 (marks marks0 s) = marks marks0 s := by rw [← hml, List.take_length]
  refine Wc.mk' (fn := c41) (by kernel_rfl) rfl ?_
  refine W.seq ?_
  refine W.reg ?_
  generalize e : stepR _ _ _ = r
  simp (disch := omega) [evalSlc, optBound] at e
  subst e
  try dsimp only
  rw [show ([.bool false, .bool false, .bool false, .bool false, .bool false, .bool false, .bool false, .bool false, .bool false, .bool false, .bool false, .bool false, .bool false, .bool false, .bool false, .bool false, .bool false, .bool false, .bool false, .bool false, .bool false, .bool false, .bool false, .bool false, .bool false, .bool false, .bool false, .bool false, .bool false, .bool false, .bool false, .bool false, .bool false, .bool false, .bool false, .bool false, .bool false, .bool false, .bool false, .bool false, .bool false, .bool false, .bool false, .bool false, .bool false, .bool false, .bool false, .bool false, .bool false, .bool false, .bool false, .bool false, .bool false, .bool false, .bool false, .bool false, .bool false, .bool false, .bool false, .bool false, .bool false, .bool false, .bool false, .bool false, .bool false, .bool false, .bool false, .bool false, .bool false, .bool false, .bool false, .bool false, .bool false, .bool false, .bool false, .bool false, .bool false, .bool false, .bool false, .bool false, .bool false, .bool false, .bool false, .bool false, .bool false, .bool false, .bool false, .bool false, .bool false, .bool false, .bool false, .bool false, .bool false, .bool false, .bool false, .bool false, .bool false, .bool false, .bool false, .bool false, .bool false, .bool false, .bool false, .bool false, .bool false, .bool false, .bool false, .bool false, .bool false, .bool false, .bool false, .bool false, .bool false, .bool false, .bool false, .bool false, .bool false, .bool false, .bool false, .bool false, .bool false, .bool false, .bool false, .bool false, .bool false, .bool false, .bool false, .bool false, .bool false, .bool false, .bool false, .bool false, .bool false, .bool false, .bool false, .bool false, .bool false, .bool false, .bool false, .bool false, .bool false, .bool false, .bool false, .bool false, .bool false, .bool false, .bool false, .bool false, .bool false, .bool false, .bool false, .bool false, .bool false, .bool false, .bool false, .bool false, .bool false, .bool false, .bool false, .bool false, .bool false, .bool false, .bool false, .bool false, .bool false, .bool false, .bool false, .bool false, .bool false, .bool false, .bool false, .bool false, .bool false, .bool false, .bool false, .bool false, .bool false, .bool false, .bool false, .bool false, .bool false, .bool false, .bool false, .bool false, .bool false, .bool false, .bool false, .bool false, .bool false, .bool false, .bool false, .bool false, .bool false, .bool false, .bool false, .bool false, .bool false, .bool false, .bool false, .bool false, .bool false, .bool false, .bool false, .bool false, .bool false, .bool false, .bool false, .bool false, .bool false, .bool false, .bool false, .bool false, .bool false, .bool false, .bool false, .bool false, .bool false, .bool false, .bool false, .bool false, .bool false, .bool false, .bool false, .bool false, .bool false, .bool false, .bool false, .bool false, .bool false, .bool false, .bool false, .bool false, .bool false, .bool false, .bool false, .bool false, .bool false, .bool false, .bool false, .bool false, .bool false, .bool false, .bool false, .bool false, .bool false, .bool false, .bool false, .bool false, .bool false, .bool false, .bool false, .bool false, .bool false, .bool false, .bool false, .bool false] : List CVal) = marks0 from rfl]
  repeat (first
    | refine W.seq ?_
    | refine W.block ?_
    | (refine W.reg ?_; generalize e : stepR _ _ _ = r; simp (disch := omega) [evalSlc, optBound, hD, hml, htk, hst, c41] at e; replace e : some _ = _ := e; subst e; try dsimp only [callAt, List.drop, List.take])
    | refine W.cond_true rfl ?_
    | refine W.cond_false rfl ?_
    | refine W.skip ?_
    | refine W.exit ?_
    | (refine W.region (Wo.next ?_); generalize e : evalOps _ _ _ _ _ = r; simp (disch := omega) [evalSlc, optBound, hD, hml, htk, hst, c41] at e; replace e : some _ = _ := e; subst e; try dsimp only [callAt, List.drop, List.take]; refine Wo.call ?_)
    | (refine W.regionC (Wo.next ?_); generalize e : evalOps _ _ _ _ _ = r; simp (disch := omega) [evalSlc, optBound, hD, hml, htk, hst, c41] at e; replace e : some _ = _ := e; subst e; try dsimp only [callAt, List.drop, List.take]; refine Wo.call ?_)
    | (refine Wo.rest ?_; generalize e : evalOps _ _ _ _ _ = r; simp (disch := omega) [evalSlc, optBound, hD, hml, htk, hst, c41] at e; replace e : some _ = _ := e; subst e; try dsimp only [callAt, List.drop, List.take])
    | (refine Wo.next ?_; generalize e : evalOps _ _ _ _ _ = r; simp (disch := omega) [evalSlc, optBound, hD, hml, htk, hst, c41] at e; replace e : some _ = _ := e; subst e; try dsimp only [callAt, List.drop, List.take]; refine Wo.call ?_))
  refine set_loop s h.next _ hs _ s 0 rfl hr marks0 rfl _ _ _ _ _ (by simp [getEnt]) (by repeat (first | exact hu.le (by (try dsimp only); omega) | exact hu.set.le (by (try dsimp only); omega) | refine Under.cons (by (try dsimp only); omega) ?_ | exact Under.nil)) fun n1 c0 c2 c3 c4 hn1 => ?_
  try dsimp only at hn1
  repeat (first
    | refine W.seq ?_
    | refine W.block ?_
    | (refine W.reg ?_; generalize e : stepR _ _ _ = r; simp (disch := omega) [evalSlc, optBound, hD, hml, htk, hst] at e; replace e : some _ = _ := e; subst e; try dsimp only [callAt, List.drop, List.take])
    | refine W.cond_true rfl ?_
    | refine W.cond_false rfl ?_
    | refine W.skip ?_
    | refine W.exit ?_
    | (refine W.region (Wo.next ?_); generalize e : evalOps _ _ _ _ _ = r; simp (disch := omega) [evalSlc, optBound, hD, hml, htk, hst] at e; replace e : some _ = _ := e; subst e; try dsimp only [callAt, List.drop, List.take]; refine Wo.call ?_)
    | (refine W.regionC (Wo.next ?_); generalize e : evalOps _ _ _ _ _ = r; simp (disch := omega) [evalSlc, optBound, hD, hml, htk, hst] at e; replace e : some _ = _ := e; subst e; try dsimp only [callAt, List.drop, List.take]; refine Wo.call ?_)
    | (refine Wo.rest ?_; generalize e : evalOps _ _ _ _ _ = r; simp (disch := omega) [evalSlc, optBound, hD, hml, htk, hst] at e; replace e : some _ = _ := e; subst e; try dsimp only [callAt, List.drop, List.take])
    | (refine Wo.next ?_; generalize e : evalOps _ _ _ _ _ = r; simp (disch := omega) [evalSlc, optBound, hD, hml, htk, hst] at e; replace e : some _ = _ := e; subst e; try dsimp only [callAt, List.drop, List.take]; refine Wo.call ?_))
  refine W.ret ?_
  try simp only [outOf, thenW_ret]
  refine endW.intro rfl ?_
  generalize e : endsC _ _ _ = r
  simp (disch := omega) [c41, hD, hml, htk, hst] at e
  subst e
  try dsimp only
  refine hk _ ?_; omega

/-- strings.TrimLeft, by a set of several bytes. -/
theorem trimLeft_spec (cs ds rest : List UInt8) (hc1 : 2 ≤ cs.length) (hcs : cs.length < 1073741824) (hr : ∀ c ∈ cs, c.toNat < 128) (hds : ∀ c ∈ ds, inSet (marks marks0 cs) c true) (hrs : ∀ c r, rest = c :: r → inSet (marks marks0 cs) c false) (hlen : ds.length + rest.length < 1073741824) (h : CHeap) (hu : Under h.ents h.next) (K : CVal → CHeap → Prop)
    (hk : ∀ n', h.next ≤ n' → K (.str rest) { h with next := n' }) : Wc tree.getF 29 [.str (ds ++ rest), .str cs] h K := by
  have hD := dropEnts_under hu
  have hml := marks_len cs marks0 rfl
  have hN : ∀ q, h.next ≤ q → getEnt h.ents q = none := fun q hq => getEnt_under hu hq
  have hcn : (cs == []) = false := by cases cs with | nil => simp at hc1 | cons a l => rfl
  have hcn2 : ¬ cs = [] := by intro e; rw [e] at hc1; simp at hc1
  by_cases he : ds ++ rest = []
  · have he2 : rest = [] := (List.append_eq_nil_iff.1 he).2
    rw [he2] at hk
    rw [he]
    refine Wc.mk' (fn := c29) (by kernel_rfl) rfl ?_
    repeat (first
      | refine W.seq ?_
      | refine W.block ?_
      | (refine W.reg ?_; generalize e : stepR _ _ _ = r; simp (disch := omega) [evalSlc, optBound, c29, hD, hml, hcn, hcn2, hN] at e; replace e : some _ = _ := e; subst e; try dsimp only [callAt, List.drop, List.take])
      | refine W.cond_true rfl ?_
      | refine W.cond_false rfl ?_
      | refine W.skip ?_
      | refine W.exit ?_
      | (refine W.region (Wo.next ?_); generalize e : evalOps _ _ _ _ _ = r; simp (disch := omega) [evalSlc, optBound, c29, hD, hml, hcn, hcn2, hN] at e; replace e : some _ = _ := e; subst e; try dsimp only [callAt, List.drop, List.take]; refine Wo.call ?_)
      | (refine W.regionC (Wo.next ?_); generalize e : evalOps _ _ _ _ _ = r; simp (disch := omega) [evalSlc, optBound, c29, hD, hml, hcn, hcn2, hN] at e; replace e : some _ = _ := e; subst e; try dsimp only [callAt, List.drop, List.take]; refine Wo.call ?_)
      | (refine Wo.rest ?_; generalize e : evalOps _ _ _ _ _ = r; simp (disch := omega) [evalSlc, optBound, c29, hD, hml, hcn, hcn2, hN] at e; replace e : some _ = _ := e; subst e; try dsimp only [callAt, List.drop, List.take])
      | (refine Wo.next ?_; generalize e : evalOps _ _ _ _ _ = r; simp (disch := omega) [evalSlc, optBound, c29, hD, hml, hcn, hcn2, hN] at e; replace e : some _ = _ := e; subst e; try dsimp only [callAt, List.drop, List.take]; refine Wo.call ?_))
    refine W.ret ?_
    try simp only [outOf, thenW_ret]
    refine endW.intro rfl ?_
    generalize e : endsC _ _ _ = r
    simp (disch := omega) [c29, hD, hml, hcn, hcn2, hN] at e
    subst e
    try dsimp only
    refine hk _ ?_; omega
  · have heb : (ds ++ rest == []) = false := by cases hx : ds ++ rest with | nil => exact absurd hx he | cons a l => rfl
    refine Wc.mk' (fn := c29) (by kernel_rfl) rfl ?_
    repeat (first
      | refine W.seq ?_
      | refine W.block ?_
      | (refine W.reg ?_; generalize e : stepR _ _ _ = r; simp (disch := omega) [evalSlc, optBound, c29, he, heb, hD, hml, hcn, hcn2, hN] at e; replace e : some _ = _ := e; subst e; try dsimp only [callAt, List.drop, List.take])
      | refine W.cond_true rfl ?_
      | refine W.cond_false rfl ?_
      | refine W.skip ?_
      | refine W.exit ?_
      | (refine W.region (Wo.next ?_); generalize e : evalOps _ _ _ _ _ = r; simp (disch := omega) [evalSlc, optBound, c29, he, heb, hD, hml, hcn, hcn2, hN] at e; replace e : some _ = _ := e; subst e; try dsimp only [callAt, List.drop, List.take]; refine Wo.call ?_)
      | (refine W.regionC (Wo.next ?_); generalize e : evalOps _ _ _ _ _ = r; simp (disch := omega) [evalSlc, optBound, c29, he, heb, hD, hml, hcn, hcn2, hN] at e; replace e : some _ = _ := e; subst e; try dsimp only [callAt, List.drop, List.take]; refine Wo.call ?_)
      | (refine Wo.rest ?_; generalize e : evalOps _ _ _ _ _ = r; simp (disch := omega) [evalSlc, optBound, c29, he, heb, hD, hml, hcn, hcn2, hN] at e; replace e : some _ = _ := e; subst e; try dsimp only [callAt, List.drop, List.take])
      | (refine Wo.next ?_; generalize e : evalOps _ _ _ _ _ = r; simp (disch := omega) [evalSlc, optBound, c29, he, heb, hD, hml, hcn, hcn2, hN] at e; replace e : some _ = _ := e; subst e; try dsimp only [callAt, List.drop, List.take]; refine Wo.call ?_)
      | (refine makeSet_spec cs hcs hr _ (by repeat (first | exact hu.le (by (try dsimp only); omega) | exact hu.set.le (by (try dsimp only); omega) | refine Under.cons (by (try dsimp only); omega) ?_ | exact Under.nil)) _ fun n1 hn1 => ⟨rfl, ?_⟩; try dsimp only at hn1)
      | (refine trimA_spec _ _ (marks marks0 cs) hml ds rest hds hrs _ (by simp [getEnt]) (by repeat (first | exact hu.le (by (try dsimp only); omega) | exact hu.set.le (by (try dsimp only); omega) | refine Under.cons (by (try dsimp only); omega) ?_ | exact Under.nil)) hlen _ fun n2 hn2 => ⟨rfl, ?_⟩; try dsimp only at hn2))
    refine W.ret ?_
    try simp only [outOf, thenW_ret]
    refine endW.intro rfl ?_
    generalize e : endsC _ _ _ = r
    simp (disch := omega) [c29, hD, hml, hcn, hcn2, hN] at e
    subst e
    try dsimp only
    refine hk _ ?_; omega
end Go.Proofs.YthblmflngjofjaaDoor.IrP
