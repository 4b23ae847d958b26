/- What the functions of the law 'PfileMost' do: part 1 of 8. -/
import Derived.Test.YtjecpdnjpggcoaaGreatDoorIrM
namespace Go.LexF
set_option linter.unusedVariables false
set_option linter.unusedSimpArgs false
abbrev Bytes := List UInt8
abbrev spacesB : Bytes := [9, 10, 11, 12, 13, 32]
abbrev lettersB : Bytes := [65, 66, 67, 68, 69, 70, 71, 72, 73, 74, 75, 76, 77, 78, 79, 80, 81, 82, 83, 84, 85, 86, 87, 88, 89, 90, 97, 98, 99, 100, 101, 102, 103, 104, 105, 106, 107, 108, 109, 110, 111, 112, 113, 114, 115, 116, 117, 118, 119, 120, 121, 122, 95]
abbrev D10 : Bytes := [48, 49, 50, 51, 52, 53, 54, 55, 56, 57]
abbrev D8 : Bytes := [48, 49, 50, 51, 52, 53, 54, 55]
abbrev hexesB : Bytes := [48, 49, 50, 51, 52, 53, 54, 55, 56, 57, 97, 98, 99, 100, 101, 102, 65, 66, 67, 68, 69, 70]
abbrev namesB : Bytes := lettersB ++ D10
abbrev signsB : Bytes := [123, 125, 40, 41, 91, 93, 61, 59, 44, 60, 62, 45]
def fr (cs s : Bytes) : Bytes := s.takeWhile cs.contains
def bk (cs s : Bytes) : Bytes := s.dropWhile cs.contains
theorem fr_bk (cs s : Bytes) : fr cs s ++ bk cs s = s := List.takeWhile_append_dropWhile
theorem fr_mem {cs s : Bytes} {c : UInt8} (h : c ∈ fr cs s) : cs.contains c = true := by
 unfold fr at h
 induction s with
 | nil => cases h
 | cons a s ih =>
  rw [List.takeWhile_cons] at h
  split at h
  · rcases List.mem_cons.1 h with rfl | h
    · assumption
    · exact ih h
  · cases h
theorem bk_head {cs s r : Bytes} {c : UInt8} (h : bk cs s = c :: r) : cs.contains c = false := by
 unfold bk at h
 induction s with
 | nil => cases h
 | cons a s ih =>
  rw [List.dropWhile_cons] at h
  split at h
  · exact ih h
  · rename_i hc; cases h; simpa using hc
theorem fr_len (cs s : Bytes) : (fr cs s).length + (bk cs s).length = s.length := by
 rw [← List.length_append, fr_bk]
theorem drop_fr (cs s : Bytes) : s.drop (fr cs s).length = bk cs s := by
 have := congrArg (List.drop (fr cs s).length) (fr_bk cs s)
 rw [← this, List.drop_left]
theorem take_fr (cs s : Bytes) : s.take (fr cs s).length = fr cs s := by
 have := congrArg (List.take (fr cs s).length) (fr_bk cs s)
 rw [← this, List.take_left]
def zB5 : Bytes → Bytes
 | [] => []
 | c :: r => if c = 10 then c :: r else zB5 r
def dropCmt : Bytes → Option Bytes
 | [] => none
 | c :: r => if c = 42 then (match r with
  | [] => none
  | d :: r' => if d = 47 then some r' else dropCmt (d :: r')) else dropCmt r
theorem dropLine_le : ∀ s : Bytes, (zB5 s).length ≤ s.length
 | [] => Nat.le_refl _
 | c :: r => by unfold zB5; split <;> simp; have := dropLine_le r; omega
theorem dropCmt_lt : ∀ {s u : Bytes}, dropCmt s = some u → u.length + 2 ≤ s.length
 | [], _, h => by cases h
 | c :: r, u, h => by
  unfold dropCmt at h
  split at h
  · split at h
    · cases h
    · split at h
      · cases h; simp
      · have := dropCmt_lt h; simp at this ⊢; omega
  · have := dropCmt_lt h; simp at this ⊢; omega
def skipF (s : Bytes) : Bytes × Bool := match s with
 | [] => ([], true)
 | c :: r => if spacesB.contains c then skipF r else if c = 47 then (match hr : r with
  | [] => (c :: r, true)
  | d :: r' => if d = 47 then skipF (zB5 r') else if d = 42 then (match hd : dropCmt r' with
   | none => (c :: r, false)
   | some u => skipF u) else (c :: r, true)) else (c :: r, true)
 termination_by s.length
 decreasing_by
 · simp
 · have := dropLine_le r'; simp; omega
 · have := dropCmt_lt hd; simp; omega
def wordF : Bytes → Nat
 | [] => 0
 | c :: r => if lettersB.contains c then (fr namesB (c :: r)).length else 0
theorem wordF_le (s : Bytes) : wordF s ≤ s.length := by
 cases s with
 | nil => exact Nat.le_refl _
 | cons c r =>
  have := fr_len namesB (c :: r)
  have h0 := Nat.zero_le (c :: r).length
  simp only [wordF]
  split <;> omega
def tailF (s : Bytes) : Nat := match s with
 | [] => 0
 | c :: t => if c = 46 then (if wordF t = 0 then 0 else 1 + wordF t + tailF (t.drop (wordF t))) else 0
 termination_by s.length
 decreasing_by simp; omega
theorem tailF_le (s : Bytes) : tailF s ≤ s.length := by
 match s with
 | [] => rw [tailF]; exact Nat.le_refl _
 | c :: t =>
  rw [tailF]
  split
  · split
    · exact Nat.zero_le _
    · have h1 := tailF_le (t.drop (wordF t))
      have h2 := wordF_le t
      simp at h1 ⊢; omega
  · exact Nat.zero_le _
 termination_by s.length
 decreasing_by simp; omega
def nameF : Bytes → Nat
 | [] => 0
 | c :: t => if c = 46 then tailF (c :: t) else if wordF (c :: t) = 0 then 0 else wordF (c :: t) + tailF ((c :: t).drop (wordF (c :: t)))
theorem nameF_le (s : Bytes) : nameF s ≤ s.length := by
 cases s with
 | nil => exact Nat.le_refl _
 | cons c t =>
  have h1 := tailF_le ((c :: t).drop (wordF (c :: t)))
  have h2 := wordF_le (c :: t)
  have h3 := tailF_le (c :: t)
  have h0 := Nat.zero_le (c :: t).length
  rw [List.length_drop] at h1
  simp only [nameF]
  split
  · exact h3
  · split <;> omega
def digF (c : UInt8) : Nat := if c.toNat ≤ 57 then c.toNat - 48 else if c.toNat ≤ 70 then c.toNat - 55 else c.toNat - 87
def valF (B : Nat) : Nat → Bytes → Nat
 | n, [] => n
 | n, c :: r => valF B (n * B + digF c) r
def numF (s : Bytes) : Nat × Nat × Bytes :=
 if (s.take 2 = [48, 120] ∨ s.take 2 = [48, 88]) ∧ 0 < (fr hexesB (s.drop 2)).length then (16, 2, fr hexesB (s.drop 2))
 else if s.head? = some 48 then (8, 0, fr D8 s) else (10, 0, fr D10 s)
inductive Tk where
 | mk (kind : Nat) (text : Bytes) (n : Nat) (at' : Nat)
inductive Wd where
 | err (e : Nat)
 | tok (kind : Nat) (text : Bytes) (n len : Nat)
def numW (s : Bytes) : Wd := match numF s with
 | (B, n, ds) => if 18446744073709551616 ≤ valF B 0 ds then .err 3 else match s.drop (n + ds.length) with
  | [] => .tok 2 [] (valF B 0 ds) (n + ds.length)
  | c :: _ => if (namesB ++ [46]).contains c then .err 2 else .tok 2 [] (valF B 0 ds) (n + ds.length)
def meantF (c : UInt8) : Option UInt8 := if c = 92 then some 92 else if c = 34 then some 34 else if c = 39 then some 39 else if c = 110 then some 10 else none
def textF (q : UInt8) : Bytes → Bytes → Nat → Option (Bytes × Nat)
 | [], _, _ => none
 | c :: t, acc, k => if c = q then some (acc, k + 1) else if c = 10 then none else if c = 92 then (match t with
  | [] => none
  | x :: u => match meantF x with
   | none => none
   | some m => textF q u (acc ++ [m]) (k + 2)) else textF q t (acc ++ [c]) (k + 1)
def wordW (valid : Bytes → Bool) (s : Bytes) : Wd := match s with
 | [] => .err 0
 | c :: r => if 0 < nameF (c :: r) then .tok 1 ((c :: r).take (nameF (c :: r))) 0 (nameF (c :: r)) else
  if D10.contains c then numW (c :: r) else
  if c = 34 ∨ c = 39 then (match textF c r [] 0 with
   | none => .err 2
   | some (t, k) => if valid t then .tok 3 t 0 (k + 1) else .err 2) else
  if signsB.contains c then .tok 4 [c] 0 1 else .err 2
end Go.LexF
namespace Go.Proofs.YtjecpdnjpggcoaaGreatDoor.IrM
open Go Go.CI
set_option maxRecDepth 100000
set_option linter.unusedVariables false
set_option linter.unusedSimpArgs false
attribute [local irreducible] W Wo Wc
attribute [local simp] stepR zAe zBg evalE evalP evalL zAy nth setNth COp.cls COp.isStore CVal.isUndef CVal.whole CVal.cells CHeap.put CHeap.get CHeap.set wantedC zA2 zA0 partOf zB9 evalBin evalInt evalStr zB8 initVar descOf List.take List.drop CVal.lenOf CVal.isStr CVal.bare CVal.strip CVal.flat zAo zBm zB6 finishC cut fillCells setCells szOf szOf_desc elems bytesOf evalAppend fillElems mkElem List.replicate sy_nbeq sy_neqF sy_leT sy_leF zAj dropped sy_wrap64 zAx zAc zBb zAm zAu sy_ibeqF sy_ieqF sy_ileT sy_ileF sy_iltT sy_iltF sy_ltT sy_ltF
theorem zA1 {l : List (Nat × CObj)} {m n : Nat} {x : CObj} (h : n ≠ m) : zA2 (zA0 l m x) n = zA2 l n := by
 induction l with
 | nil => rfl
 | cons a r ih =>
  obtain ⟨i, o⟩ := a
  by_cases hi : i = m
  · subst hi
    have : (i == n) = false := by simp; omega
    simp [zA0, zA2, Ne.symm h]
  · by_cases hn : i = n
    · subst hn; simp [zA0, zA2, hi]
    · simp [zA0, zA2, hi, hn, ih]
theorem zAw {l : List (Nat × CObj)} {m n : Nat} {x y : CObj} (h : m ≠ n) : zA0 (zA0 l m x) n y = zA0 (zA0 l n y) m x := by
 induction l with
 | nil => rfl
 | cons a r ih =>
  obtain ⟨i, o⟩ := a
  by_cases hi : i = m
  · subst hi; simp [zA0, h]
  · by_cases hn : i = n
    · subst hn; simp [zA0, hi]
    · simp [zA0, hi, hn, ih]
theorem zAs : ∀ {l : List (Nat × CObj)} {m : Nat} {x : CObj}, zA2 l m = some x → zA0 l m x = l
 | [], _, _, h => by cases h
 | (i, o) :: r, m, x, h => by
  by_cases hi : i = m
  · subst hi; simp [zA2] at h; subst h; simp [zA0]
  · simp [zA2, hi] at h; simp [zA0, hi, zAs h]
theorem set3 {l : List (Nat × CObj)} {p r q : Nat} {x1 y1 z1 x2 y2 z2 : CObj} (h1 : r ≠ p) (h2 : q ≠ p) (h3 : r ≠ q) :
    zA0 (zA0 (zA0 (zA0 (zA0 (zA0 l p x1) r y1) q z1) p x2) r y2) q z2 = zA0 (zA0 (zA0 l p x2) r y2) q z2 := by
 rw [zAw (l := zA0 (zA0 l p x1) r y1) h2, zAw (l := zA0 l p x1) h1, zAj, zAw (l := zA0 (zA0 l p x2) r y1) (m := q) (n := r) (Ne.symm h3), zAj, zAj]
def inSet (bs : List CVal) (c : UInt8) (v : Bool) : Prop := nth bs c.toNat = .bool v
theorem contains_spec (p d : Nat) (bs : List CVal) (c : UInt8) (v : Bool) (hv : inSet bs c v) (hl : bs.length = 256) (h : CHeap) (hg : zA2 h.ents p = some (.cells bs)) (hu : Under h.ents h.next) (K : CVal → CHeap → Prop) (hk : ∀ n', h.next ≤ n' → K (.bool v) { h with next := n' }) : Wc tree.getF 74 [.ptr p d 0, .int .u8 (c.toNat : Int)] h K := by
 have hD := zAr hu
 have hc : c.toNat < 256 := c.toNat_lt
 have hv2 : nth bs c.toNat = .bool v := hv
 refine Wc.mk' (fn := c74) (by kernel_rfl) rfl ?_
 repeat (first
  | refine W.seq ?_
  | refine W.block ?_
  | (refine W.reg ?_; generalize e : stepR _ _ _ = r; simp (disch := omega) [zAg, zA8, c74, hD, hg, hl, hv2] at e; replace e : some _ = _ := e; subst e; try dsimp only [zAm, List.drop, List.take])
  | refine W.cond_true rfl ?_
  | refine W.cond_false rfl ?_
  | refine W.skip ?_
  | refine W.exit ?_
  | (refine W.region (Wo.next ?_); generalize e : zAe _ _ _ _ _ = r; simp (disch := omega) [zAg, zA8, c74, hD, hg, hl, hv2] at e; replace e : some _ = _ := e; subst e; try dsimp only [zAm, List.drop, List.take]; refine Wo.call ?_)
  | (refine W.regionC (Wo.next ?_); generalize e : zAe _ _ _ _ _ = r; simp (disch := omega) [zAg, zA8, c74, hD, hg, hl, hv2] at e; replace e : some _ = _ := e; subst e; try dsimp only [zAm, List.drop, List.take]; refine Wo.call ?_)
  | (refine Wo.rest ?_; generalize e : zAe _ _ _ _ _ = r; simp (disch := omega) [zAg, zA8, c74, hD, hg, hl, hv2] at e; replace e : some _ = _ := e; subst e; try dsimp only [zAm, List.drop, List.take])
  | (refine Wo.next ?_; generalize e : zAe _ _ _ _ _ = r; simp (disch := omega) [zAg, zA8, c74, hD, hg, hl, hv2] at e; replace e : some _ = _ := e; subst e; try dsimp only [zAm, List.drop, List.take]; refine Wo.call ?_))
 refine W.ret ?_
 try simp only [zAl, zA3]
 refine endW.intro rfl ?_
 generalize e : zAo _ _ _ = r
 simp (disch := omega) [c74, hD, hg, hl, hv2] at e
 subst e
 try dsimp only
 refine hk _ ?_; omega
abbrev trimLoop : CCode := (.loop true (.seq (.seq (.region [.v 0, .g (.len true (.loc 0)), .g (.bin .gtr (.loc 0) (.const (.int .i64 0)))] [(1, 2)] [] []) (.cond (.var 1) .skip (.exit 0))) (.block 1 (.seq (.seq (.region [.v 2, .v 0, .g (.idxStr (.loc 0) (.const (.int .i64 0))), .g (.call false 74 [(.loc 2), (.loc 0)]), .g (.not (.loc 0))] [(3, 4)] [] []) (.cond (.var 3) (.exit 0) .skip)) (.region [.v 0, .g (.slc 0 (.loc 0) (some (.const (.int .i64 1))) none), .m (.loc 0)] [(0, 2)] [] [])))))
theorem trim_loop (p d : Nat) (bs : List CVal) (hl : bs.length = 256) (rest : List UInt8) (hr : ∀ c r, rest = c :: r → inSet bs c false) (Q : CExit → CSt → Prop) :
    ∀ (ds : List UInt8), (∀ c ∈ ds, inSet bs c true) → ∀ (h : CHeap) (b1 b3 b4 : CVal), zA2 h.ents p = some (.cells bs) → Under h.ents h.next → ds.length + rest.length < 1073741824 →
    (∀ n' c1 c3, h.next ≤ n' → Q (.exit 0) ⟨[.str rest, c1, .ptr p d 0, c3, b4], { h with next := n' }, []⟩) →
    W tree.getF trimLoop ⟨[.str (ds ++ rest), b1, .ptr p d 0, b3, b4], h, []⟩ Q := by
 intro ds
 induction ds with
 | nil =>
  intro _ h b1 b3 b4 hg hu hlen hq
  cases rest with
  | nil =>
   refine W.loop ?_
   repeat (first
    | refine W.seq ?_
    | refine W.block ?_
    | (refine W.reg ?_; generalize e : stepR _ _ _ = r; simp (disch := omega) [zAg, zA8, hg, List.nil_append, List.cons_append] at e; replace e : some _ = _ := e; subst e; try dsimp only [zAm, List.drop, List.take])
    | refine W.cond_true rfl ?_
    | refine W.cond_false rfl ?_
    | refine W.skip ?_
    | refine W.exit ?_
    | (refine W.region (Wo.next ?_); generalize e : zAe _ _ _ _ _ = r; simp (disch := omega) [zAg, zA8, hg, List.nil_append, List.cons_append] at e; replace e : some _ = _ := e; subst e; try dsimp only [zAm, List.drop, List.take]; refine Wo.call ?_)
    | (refine W.regionC (Wo.next ?_); generalize e : zAe _ _ _ _ _ = r; simp (disch := omega) [zAg, zA8, hg, List.nil_append, List.cons_append] at e; replace e : some _ = _ := e; subst e; try dsimp only [zAm, List.drop, List.take]; refine Wo.call ?_)
    | (refine Wo.rest ?_; generalize e : zAe _ _ _ _ _ = r; simp (disch := omega) [zAg, zA8, hg, List.nil_append, List.cons_append] at e; replace e : some _ = _ := e; subst e; try dsimp only [zAm, List.drop, List.take])
    | (refine Wo.next ?_; generalize e : zAe _ _ _ _ _ = r; simp (disch := omega) [zAg, zA8, hg, List.nil_append, List.cons_append] at e; replace e : some _ = _ := e; subst e; try dsimp only [zAm, List.drop, List.take]; refine Wo.call ?_))
   exact hq _ _ _ (by omega)
  | cons c r =>
   have hc := hr c r rfl
   refine W.loop ?_
   repeat (first
    | refine W.seq ?_
    | refine W.block ?_
    | (refine W.reg ?_; generalize e : stepR _ _ _ = r; simp (disch := omega) [zAg, zA8, hg, List.nil_append, List.cons_append] at e; replace e : some _ = _ := e; subst e; try dsimp only [zAm, List.drop, List.take])
    | refine W.cond_true rfl ?_
    | refine W.cond_false rfl ?_
    | refine W.skip ?_
    | refine W.exit ?_
    | (refine W.region (Wo.next ?_); generalize e : zAe _ _ _ _ _ = r; simp (disch := omega) [zAg, zA8, hg, List.nil_append, List.cons_append] at e; replace e : some _ = _ := e; subst e; try dsimp only [zAm, List.drop, List.take]; refine Wo.call ?_)
    | (refine W.regionC (Wo.next ?_); generalize e : zAe _ _ _ _ _ = r; simp (disch := omega) [zAg, zA8, hg, List.nil_append, List.cons_append] at e; replace e : some _ = _ := e; subst e; try dsimp only [zAm, List.drop, List.take]; refine Wo.call ?_)
    | (refine Wo.rest ?_; generalize e : zAe _ _ _ _ _ = r; simp (disch := omega) [zAg, zA8, hg, List.nil_append, List.cons_append] at e; replace e : some _ = _ := e; subst e; try dsimp only [zAm, List.drop, List.take])
    | (refine Wo.next ?_; generalize e : zAe _ _ _ _ _ = r; simp (disch := omega) [zAg, zA8, hg, List.nil_append, List.cons_append] at e; replace e : some _ = _ := e; subst e; try dsimp only [zAm, List.drop, List.take]; refine Wo.call ?_)
    | (refine contains_spec p d bs c false hc hl _ (by simp [hg]) (by repeat (first | exact hu.le (by (try dsimp only); omega) | exact hu.set.le (by (try dsimp only); omega) | refine Under.cons (by (try dsimp only); omega) ?_ | exact Under.nil)) _ fun n1 hn1 => ⟨rfl, ?_⟩; try dsimp only at hn1))
   exact hq _ _ _ (by omega)
 | cons c ds ih =>
  intro hds h b1 b3 b4 hg hu hlen hq
  have hc := hds c (List.mem_cons_self ..)
  have hC : zAc h.ents h.next = h.ents := zAh hu
  have htk : List.take (ds.length + rest.length) (ds ++ rest) = ds ++ rest := by rw [← List.length_append, List.take_length]
  have hl3 : ds.length + 1 + rest.length < 1073741824 := by simpa using hlen
  refine W.loop ?_
  repeat (first
   | refine W.seq ?_
   | refine W.block ?_
   | (refine W.reg ?_; generalize e : stepR _ _ _ = r; simp (disch := omega) [zAg, zA8, hg, List.nil_append, List.cons_append, hC, htk] at e; replace e : some _ = _ := e; subst e; try dsimp only [zAm, List.drop, List.take])
   | refine W.cond_true rfl ?_
   | refine W.cond_false rfl ?_
   | refine W.skip ?_
   | refine W.exit ?_
   | (refine W.region (Wo.next ?_); generalize e : zAe _ _ _ _ _ = r; simp (disch := omega) [zAg, zA8, hg, List.nil_append, List.cons_append, hC, htk] at e; replace e : some _ = _ := e; subst e; try dsimp only [zAm, List.drop, List.take]; refine Wo.call ?_)
   | (refine W.regionC (Wo.next ?_); generalize e : zAe _ _ _ _ _ = r; simp (disch := omega) [zAg, zA8, hg, List.nil_append, List.cons_append, hC, htk] at e; replace e : some _ = _ := e; subst e; try dsimp only [zAm, List.drop, List.take]; refine Wo.call ?_)
   | (refine Wo.rest ?_; generalize e : zAe _ _ _ _ _ = r; simp (disch := omega) [zAg, zA8, hg, List.nil_append, List.cons_append, hC, htk] at e; replace e : some _ = _ := e; subst e; try dsimp only [zAm, List.drop, List.take])
   | (refine Wo.next ?_; generalize e : zAe _ _ _ _ _ = r; simp (disch := omega) [zAg, zA8, hg, List.nil_append, List.cons_append, hC, htk] at e; replace e : some _ = _ := e; subst e; try dsimp only [zAm, List.drop, List.take]; refine Wo.call ?_)
   | (refine contains_spec p d bs c true hc hl _ (by simp [hg]) (by repeat (first | exact hu.le (by (try dsimp only); omega) | exact hu.set.le (by (try dsimp only); omega) | refine Under.cons (by (try dsimp only); omega) ?_ | exact Under.nil)) _ fun n1 hn1 => ⟨rfl, ?_⟩; try dsimp only at hn1))
  show W tree.getF trimLoop (dropped true _ _) Q
  generalize e : dropped _ _ _ = r
  simp (disch := omega) [hg, List.nil_append, List.cons_append, hC] at e
  subst e
  try dsimp only
  exact ih (fun c hc => hds c (List.mem_cons_of_mem _ hc)) _ _ _ _ (by exact hg) (hu.le (by (try dsimp only); omega)) (by simp at hlen; omega) (fun n' c1 c3 hn => hq n' c1 c3 (by dsimp only at hn; omega))
theorem trimA_spec (p d : Nat) (bs : List CVal) (hl : bs.length = 256) (ds rest : List UInt8) (hds : ∀ c ∈ ds, inSet bs c true) (hr : ∀ c r, rest = c :: r → inSet bs c false) (h : CHeap) (hg : zA2 h.ents p = some (.cells bs)) (hu : Under h.ents h.next) (hlen : ds.length + rest.length < 1073741824) (K : CVal → CHeap → Prop)
    (hk : ∀ n', h.next ≤ n' → K (.str rest) { h with next := n' }) : Wc tree.getF 64 [.str (ds ++ rest), .ptr p d 0] h K := by
 have hD := zAr hu
 refine Wc.mk' (fn := c64) (by kernel_rfl) rfl ?_
 repeat (first
  | refine W.seq ?_
  | refine W.block ?_
  | (refine W.reg ?_; generalize e : stepR _ _ _ = r; simp (disch := omega) [zAg, zA8, c64, hg, hD] at e; replace e : some _ = _ := e; subst e; try dsimp only [zAm, List.drop, List.take])
  | refine W.cond_true rfl ?_
  | refine W.cond_false rfl ?_
  | refine W.skip ?_
  | refine W.exit ?_
  | (refine W.region (Wo.next ?_); generalize e : zAe _ _ _ _ _ = r; simp (disch := omega) [zAg, zA8, c64, hg, hD] at e; replace e : some _ = _ := e; subst e; try dsimp only [zAm, List.drop, List.take]; refine Wo.call ?_)
  | (refine W.regionC (Wo.next ?_); generalize e : zAe _ _ _ _ _ = r; simp (disch := omega) [zAg, zA8, c64, hg, hD] at e; replace e : some _ = _ := e; subst e; try dsimp only [zAm, List.drop, List.take]; refine Wo.call ?_)
  | (refine Wo.rest ?_; generalize e : zAe _ _ _ _ _ = r; simp (disch := omega) [zAg, zA8, c64, hg, hD] at e; replace e : some _ = _ := e; subst e; try dsimp only [zAm, List.drop, List.take])
  | (refine Wo.next ?_; generalize e : zAe _ _ _ _ _ = r; simp (disch := omega) [zAg, zA8, c64, hg, hD] at e; replace e : some _ = _ := e; subst e; try dsimp only [zAm, List.drop, List.take]; refine Wo.call ?_))
 refine trim_loop p d bs hl rest hr _ ds hds _ _ _ _ (by simp [hg]) (by repeat (first | exact hu.le (by (try dsimp only); omega) | exact hu.set.le (by (try dsimp only); omega) | refine Under.cons (by (try dsimp only); omega) ?_ | exact Under.nil)) hlen fun n1 c1 c3 hn1 => ?_
 try dsimp only at hn1
 repeat (first
  | refine W.seq ?_
  | refine W.block ?_
  | (refine W.reg ?_; generalize e : stepR _ _ _ = r; simp (disch := omega) [zAg, zA8, hg, hD] at e; replace e : some _ = _ := e; subst e; try dsimp only [zAm, List.drop, List.take])
  | refine W.cond_true rfl ?_
  | refine W.cond_false rfl ?_
  | refine W.skip ?_
  | refine W.exit ?_
  | (refine W.region (Wo.next ?_); generalize e : zAe _ _ _ _ _ = r; simp (disch := omega) [zAg, zA8, hg, hD] at e; replace e : some _ = _ := e; subst e; try dsimp only [zAm, List.drop, List.take]; refine Wo.call ?_)
  | (refine W.regionC (Wo.next ?_); generalize e : zAe _ _ _ _ _ = r; simp (disch := omega) [zAg, zA8, hg, hD] at e; replace e : some _ = _ := e; subst e; try dsimp only [zAm, List.drop, List.take]; refine Wo.call ?_)
  | (refine Wo.rest ?_; generalize e : zAe _ _ _ _ _ = r; simp (disch := omega) [zAg, zA8, hg, hD] at e; replace e : some _ = _ := e; subst e; try dsimp only [zAm, List.drop, List.take])
  | (refine Wo.next ?_; generalize e : zAe _ _ _ _ _ = r; simp (disch := omega) [zAg, zA8, hg, hD] at e; replace e : some _ = _ := e; subst e; try dsimp only [zAm, List.drop, List.take]; refine Wo.call ?_))
 refine W.ret ?_
 try simp only [zAl, zA3]
 refine endW.intro rfl ?_
 generalize e : zAo _ _ _ = r
 simp (disch := omega) [c64, hg, hD] at e
 subst e
 try dsimp only
 refine hk _ ?_; omega
def marks : List CVal → List UInt8 → List CVal
 | bs, [] => bs
 | bs, c :: r => marks (setCells bs c.toNat [.bool true]) r
theorem setCells_len (bs : List CVal) (c : Nat) (hc : c < bs.length) (x : CVal) : (setCells bs c [x]).length = bs.length := by
 simp [setCells]; omega
abbrev setLoop : CCode := (.loop true (.seq (.seq (.region [.v 0, .v 1, .g (.len true (.loc 0)), .g (.bin .lss (.loc 2) (.loc 0))] [(2, 3)] [] []) (.cond (.var 2) .skip (.exit 0))) (.seq (.block 1 (.seq (.region [.v 1, .v 0, .g (.idxStr (.loc 1) (.loc 0)), .m (.loc 0)] [(3, 3)] [] []) (.seq (.seq (.region [.v 3, .g (.bin .geq (.loc 0) (.const (.int .u8 128)))] [(4, 1)] [] []) (.cond (.var 4) (.seq (.region [.g (.load (some 256) (.var 5)), .g (.store 256 (.var 5) (.loc 0)), .m (.const (.bool false))] [(6, 2)] [] []) .ret) .skip)) (.region [.v 3, .g (.arrAddr 256 1 (.var 5) (.loc 0)), .g (.store 1 (.loc 0) (.const (.bool true)))] [] [] [])))) (.region [.v 0, .g (.bin .add (.loc 0) (.const (.int .i64 1))), .m (.loc 0)] [(0, 2)] [] []))))
theorem set_loop (s : List UInt8) (p d : Nat) (hs : s.length < 1073741824) (Q : CExit → CSt → Prop) : ∀ (r : List UInt8) (i : Nat), s.drop i = r → (∀ c ∈ r, c.toNat < 128) → ∀ (bs : List CVal), bs.length = 256 → ∀ (h : CHeap) (b2 b3 b4 b6 : CVal), zA2 h.ents p = some (.cells bs) → Under h.ents h.next →
    (∀ n' c0 c2 c3 c4, h.next ≤ n' → Q (.exit 0) ⟨[c0, .str s, c2, c3, c4, .ptr p d 0, b6], { h with ents := zA0 h.ents p (.cells (marks bs r)), next := n' }, []⟩) →
    W tree.getF setLoop ⟨[.int .i64 i, .str s, b2, b3, b4, .ptr p d 0, b6], h, []⟩ Q := by
 intro r
 induction r with
 | nil =>
  intro i hi _ bs hbl h b2 b3 b4 b6 hg hu hq
  have hle : s.length ≤ i := List.drop_eq_nil_iff.1 hi
  refine W.loop ?_
  repeat (first
   | refine W.seq ?_
   | refine W.block ?_
   | (refine W.reg ?_; generalize e : stepR _ _ _ = r; simp (disch := omega) [zAg, zA8, hg] at e; replace e : some _ = _ := e; subst e; try dsimp only [zAm, List.drop, List.take])
   | refine W.cond_true rfl ?_
   | refine W.cond_false rfl ?_
   | refine W.skip ?_
   | refine W.exit ?_
   | (refine W.region (Wo.next ?_); generalize e : zAe _ _ _ _ _ = r; simp (disch := omega) [zAg, zA8, hg] at e; replace e : some _ = _ := e; subst e; try dsimp only [zAm, List.drop, List.take]; refine Wo.call ?_)
   | (refine W.regionC (Wo.next ?_); generalize e : zAe _ _ _ _ _ = r; simp (disch := omega) [zAg, zA8, hg] at e; replace e : some _ = _ := e; subst e; try dsimp only [zAm, List.drop, List.take]; refine Wo.call ?_)
   | (refine Wo.rest ?_; generalize e : zAe _ _ _ _ _ = r; simp (disch := omega) [zAg, zA8, hg] at e; replace e : some _ = _ := e; subst e; try dsimp only [zAm, List.drop, List.take])
   | (refine Wo.next ?_; generalize e : zAe _ _ _ _ _ = r; simp (disch := omega) [zAg, zA8, hg] at e; replace e : some _ = _ := e; subst e; try dsimp only [zAm, List.drop, List.take]; refine Wo.call ?_))
  have := hq (h.next + 4) (.int .i64 i) (.bool false) b3 b4 (by omega)
  rw [show marks bs [] = bs from rfl, zAs hg] at this
  exact this
 | cons c r ih =>
  intro i hi hr bs hbl h b2 b3 b4 b6 hg hu hq
  have hc : c.toNat < 128 := hr c (List.mem_cons_self ..)
  have hlt : i < s.length := by
   rcases Nat.lt_or_ge i s.length with h1 | h1
   · exact h1
   · rw [List.drop_eq_nil_of_le h1] at hi; cases hi
  have hget : s[i] = c := by
   have h1 := List.drop_eq_getElem_cons hlt
   rw [hi] at h1
   exact (List.cons.inj h1).1.symm
  have hi2 : s.drop (i + 1) = r := by
   have h1 := List.drop_eq_getElem_cons hlt
   rw [hi] at h1
   exact (List.cons.inj h1).2.symm
  have hget2 : s[i]? = some c := by rw [List.getElem?_eq_getElem hlt, hget]
  have hC : ∀ x, zAc (zA0 h.ents p x) h.next = zA0 h.ents p x := fun x => zAh hu.set
  have hG : ∀ x, zA2 (zA0 h.ents p x) p = some x := fun x => zA7 hg
  have hcl : c.toNat < bs.length := by omega
  refine W.loop ?_
  repeat (first
   | refine W.seq ?_
   | refine W.block ?_
   | (refine W.reg ?_; generalize e : stepR _ _ _ = r; simp (disch := omega) [zAg, zA8, hg, hC, hG, hget2, hbl, hget] at e; replace e : some _ = _ := e; subst e; try dsimp only [zAm, List.drop, List.take])
   | refine W.cond_true rfl ?_
   | refine W.cond_false rfl ?_
   | refine W.skip ?_
   | refine W.exit ?_
   | (refine W.region (Wo.next ?_); generalize e : zAe _ _ _ _ _ = r; simp (disch := omega) [zAg, zA8, hg, hC, hG, hget2, hbl, hget] at e; replace e : some _ = _ := e; subst e; try dsimp only [zAm, List.drop, List.take]; refine Wo.call ?_)
   | (refine W.regionC (Wo.next ?_); generalize e : zAe _ _ _ _ _ = r; simp (disch := omega) [zAg, zA8, hg, hC, hG, hget2, hbl, hget] at e; replace e : some _ = _ := e; subst e; try dsimp only [zAm, List.drop, List.take]; refine Wo.call ?_)
   | (refine Wo.rest ?_; generalize e : zAe _ _ _ _ _ = r; simp (disch := omega) [zAg, zA8, hg, hC, hG, hget2, hbl, hget] at e; replace e : some _ = _ := e; subst e; try dsimp only [zAm, List.drop, List.take])
   | (refine Wo.next ?_; generalize e : zAe _ _ _ _ _ = r; simp (disch := omega) [zAg, zA8, hg, hC, hG, hget2, hbl, hget] at e; replace e : some _ = _ := e; subst e; try dsimp only [zAm, List.drop, List.take]; refine Wo.call ?_))
  show W tree.getF setLoop (dropped true _ _) Q
  generalize e : dropped _ _ _ = r
  simp (disch := omega) [hg, hC] at e
  subst e
  try dsimp only
  refine ih (i + 1) hi2 (fun c hc => hr c (List.mem_cons_of_mem _ hc)) (setCells bs c.toNat [.bool true]) (by rw [setCells_len _ _ hcl]; exact hbl) _ _ _ _ _ (by exact hG _) (hu.set.le (by (try dsimp only); omega)) (fun n' c0 c2 c3 c4 hn => ?_)
  have := hq n' c0 c2 c3 c4 (by dsimp only at hn; omega)
  rw [zAj]
  exact this
def marks0 : List CVal := List.replicate 256 (.bool false)
theorem marks_len : ∀ (r : List UInt8) (bs : List CVal), bs.length = 256 → (marks bs r).length = 256
 | [], _, h => h
 | c :: r, bs, h => marks_len r _ (by rw [setCells_len _ _ (by have := c.toNat_lt; omega)]; exact h)
theorem marks_strip : ∀ (r : List UInt8) (bs : List CVal), bs.map CVal.strip = bs → (marks bs r).map CVal.strip = marks bs r
 | [], _, h => h
 | c :: r, bs, h => marks_strip r _ (by simp only [setCells, List.map_append, List.map_take, List.map_drop, h]; rfl)
set_option maxHeartbeats 1000000 in
theorem makeSet_spec (s : List UInt8) (hs : s.length < 1073741824) (hr : ∀ c ∈ s, c.toNat < 128) (h : CHeap) (hu : Under h.ents h.next) (K : CVal → CHeap → Prop)
    (hk : ∀ n', h.next ≤ n' → K (.tup [.agg (marks marks0 s), .bool true]) { h with next := n' }) : Wc tree.getF 63 [.str s] h K := by
 have hD := zAr hu
 have hml := marks_len s marks0 rfl
 have hst := marks_strip s marks0 rfl
 have htk : List.take 256 (marks marks0 s) = marks marks0 s := by rw [← hml, List.take_length]
 refine Wc.mk' (fn := c63) (by kernel_rfl) rfl ?_
 refine W.seq ?_
 refine W.reg ?_
 generalize e : stepR _ _ _ = r
 simp (disch := omega) [zAg, zA8] at e
 subst e
 try dsimp only
 rw [show ([.bool false, .bool false, .bool false, .bool false, .bool false, .bool false, .bool false, .bool false, .bool false, .bool false, .bool false, .bool false, .bool false, .bool false, .bool false, .bool false, .bool false, .bool false, .bool false, .bool false, .bool false, .bool false, .bool false, .bool false, .bool false, .bool false, .bool false, .bool false, .bool false, .bool false, .bool false, .bool false, .bool false, .bool false, .bool false, .bool false, .bool false, .bool false, .bool false, .bool false, .bool false, .bool false, .bool false, .bool false, .bool false, .bool false, .bool false, .bool false, .bool false, .bool false, .bool false, .bool false, .bool false, .bool false, .bool false, .bool false, .bool false, .bool false, .bool false, .bool false, .bool false, .bool false, .bool false, .bool false, .bool false, .bool false, .bool false, .bool false, .bool false, .bool false, .bool false, .bool false, .bool false, .bool false, .bool false, .bool false, .bool false, .bool false, .bool false, .bool false, .bool false, .bool false, .bool false, .bool false, .bool false, .bool false, .bool false, .bool false, .bool false, .bool false, .bool false, .bool false, .bool false, .bool false, .bool false, .bool false, .bool false, .bool false, .bool false, .bool false, .bool false, .bool false, .bool false, .bool false, .bool false, .bool false, .bool false, .bool false, .bool false, .bool false, .bool false, .bool false, .bool false, .bool false, .bool false, .bool false, .bool false, .bool false, .bool false, .bool false, .bool false, .bool false, .bool false, .bool false, .bool false, .bool false, .bool false, .bool false, .bool false, .bool false, .bool false, .bool false, .bool false, .bool false, .bool false, .bool false, .bool false, .bool false, .bool false, .bool false, .bool false, .bool false, .bool false, .bool false, .bool false, .bool false, .bool false, .bool false, .bool false, .bool false, .bool false, .bool false, .bool false, .bool false, .bool false, .bool false, .bool false, .bool false, .bool false, .bool false, .bool false, .bool false, .bool false, .bool false, .bool false, .bool false, .bool false, .bool false, .bool false, .bool false, .bool false, .bool false, .bool false, .bool false, .bool false, .bool false, .bool false, .bool false, .bool false, .bool false, .bool false, .bool false, .bool false, .bool false, .bool false, .bool false, .bool false, .bool false, .bool false, .bool false, .bool false, .bool false, .bool false, .bool false, .bool false, .bool false, .bool false, .bool false, .bool false, .bool false, .bool false, .bool false, .bool false, .bool false, .bool false, .bool false, .bool false, .bool false, .bool false, .bool false, .bool false, .bool false, .bool false, .bool false, .bool false, .bool false, .bool false, .bool false, .bool false, .bool false, .bool false, .bool false, .bool false, .bool false, .bool false, .bool false, .bool false, .bool false, .bool false, .bool false, .bool false, .bool false, .bool false, .bool false, .bool false, .bool false, .bool false, .bool false, .bool false, .bool false, .bool false, .bool false, .bool false, .bool false, .bool false, .bool false, .bool false, .bool false, .bool false, .bool false, .bool false, .bool false, .bool false, .bool false, .bool false, .bool false] : List CVal) = marks0 from rfl]
 repeat (first
  | refine W.seq ?_
  | refine W.block ?_
  | (refine W.reg ?_; generalize e : stepR _ _ _ = r; simp (disch := omega) [zAg, zA8, hD, hml, htk, hst, c63] at e; replace e : some _ = _ := e; subst e; try dsimp only [zAm, List.drop, List.take])
  | refine W.cond_true rfl ?_
  | refine W.cond_false rfl ?_
  | refine W.skip ?_
  | refine W.exit ?_
  | (refine W.region (Wo.next ?_); generalize e : zAe _ _ _ _ _ = r; simp (disch := omega) [zAg, zA8, hD, hml, htk, hst, c63] at e; replace e : some _ = _ := e; subst e; try dsimp only [zAm, List.drop, List.take]; refine Wo.call ?_)
  | (refine W.regionC (Wo.next ?_); generalize e : zAe _ _ _ _ _ = r; simp (disch := omega) [zAg, zA8, hD, hml, htk, hst, c63] at e; replace e : some _ = _ := e; subst e; try dsimp only [zAm, List.drop, List.take]; refine Wo.call ?_)
  | (refine Wo.rest ?_; generalize e : zAe _ _ _ _ _ = r; simp (disch := omega) [zAg, zA8, hD, hml, htk, hst, c63] at e; replace e : some _ = _ := e; subst e; try dsimp only [zAm, List.drop, List.take])
  | (refine Wo.next ?_; generalize e : zAe _ _ _ _ _ = r; simp (disch := omega) [zAg, zA8, hD, hml, htk, hst, c63] at e; replace e : some _ = _ := e; subst e; try dsimp only [zAm, List.drop, List.take]; refine Wo.call ?_))
 refine set_loop s h.next _ hs _ s 0 rfl hr marks0 rfl _ _ _ _ _ (by simp [zA2]) (by repeat (first | exact hu.le (by (try dsimp only); omega) | exact hu.set.le (by (try dsimp only); omega) | refine Under.cons (by (try dsimp only); omega) ?_ | exact Under.nil)) fun n1 c0 c2 c3 c4 hn1 => ?_
 try dsimp only at hn1
 repeat (first
  | refine W.seq ?_
  | refine W.block ?_
  | (refine W.reg ?_; generalize e : stepR _ _ _ = r; simp (disch := omega) [zAg, zA8, hD, hml, htk, hst] at e; replace e : some _ = _ := e; subst e; try dsimp only [zAm, List.drop, List.take])
  | refine W.cond_true rfl ?_
  | refine W.cond_false rfl ?_
  | refine W.skip ?_
  | refine W.exit ?_
  | (refine W.region (Wo.next ?_); generalize e : zAe _ _ _ _ _ = r; simp (disch := omega) [zAg, zA8, hD, hml, htk, hst] at e; replace e : some _ = _ := e; subst e; try dsimp only [zAm, List.drop, List.take]; refine Wo.call ?_)
  | (refine W.regionC (Wo.next ?_); generalize e : zAe _ _ _ _ _ = r; simp (disch := omega) [zAg, zA8, hD, hml, htk, hst] at e; replace e : some _ = _ := e; subst e; try dsimp only [zAm, List.drop, List.take]; refine Wo.call ?_)
  | (refine Wo.rest ?_; generalize e : zAe _ _ _ _ _ = r; simp (disch := omega) [zAg, zA8, hD, hml, htk, hst] at e; replace e : some _ = _ := e; subst e; try dsimp only [zAm, List.drop, List.take])
  | (refine Wo.next ?_; generalize e : zAe _ _ _ _ _ = r; simp (disch := omega) [zAg, zA8, hD, hml, htk, hst] at e; replace e : some _ = _ := e; subst e; try dsimp only [zAm, List.drop, List.take]; refine Wo.call ?_))
 refine W.ret ?_
 try simp only [zAl, zA3]
 refine endW.intro rfl ?_
 generalize e : zAo _ _ _ = r
 simp (disch := omega) [c63, hD, hml, htk, hst] at e
 subst e
 try dsimp only
 refine hk _ ?_; omega
theorem trimLeft_spec (cs ds rest : List UInt8) (hc1 : 2 ≤ cs.length) (hcs : cs.length < 1073741824) (hr : ∀ c ∈ cs, c.toNat < 128) (hds : ∀ c ∈ ds, inSet (marks marks0 cs) c true) (hrs : ∀ c r, rest = c :: r → inSet (marks marks0 cs) c false) (hlen : ds.length + rest.length < 1073741824) (h : CHeap) (hu : Under h.ents h.next) (K : CVal → CHeap → Prop)
    (hk : ∀ n', h.next ≤ n' → K (.str rest) { h with next := n' }) : Wc tree.getF 46 [.str (ds ++ rest), .str cs] h K := by
 have hD := zAr hu
 have hml := marks_len cs marks0 rfl
 have hN : ∀ q, h.next ≤ q → zA2 h.ents q = none := fun q hq => getEnt_under hu hq
 have hcn : (cs == []) = false := by cases cs with | nil => simp at hc1 | cons a l => rfl
 have hcn2 : ¬ cs = [] := by intro e; rw [e] at hc1; simp at hc1
 by_cases he : ds ++ rest = []
 · have he2 : rest = [] := (List.append_eq_nil_iff.1 he).2
   rw [he2] at hk
   rw [he]
   refine Wc.mk' (fn := c46) (by kernel_rfl) rfl ?_
   repeat (first
    | refine W.seq ?_
    | refine W.block ?_
    | (refine W.reg ?_; generalize e : stepR _ _ _ = r; simp (disch := omega) [zAg, zA8, c46, hD, hml, hcn, hcn2, hN] at e; replace e : some _ = _ := e; subst e; try dsimp only [zAm, List.drop, List.take])
    | refine W.cond_true rfl ?_
    | refine W.cond_false rfl ?_
    | refine W.skip ?_
    | refine W.exit ?_
    | (refine W.region (Wo.next ?_); generalize e : zAe _ _ _ _ _ = r; simp (disch := omega) [zAg, zA8, c46, hD, hml, hcn, hcn2, hN] at e; replace e : some _ = _ := e; subst e; try dsimp only [zAm, List.drop, List.take]; refine Wo.call ?_)
    | (refine W.regionC (Wo.next ?_); generalize e : zAe _ _ _ _ _ = r; simp (disch := omega) [zAg, zA8, c46, hD, hml, hcn, hcn2, hN] at e; replace e : some _ = _ := e; subst e; try dsimp only [zAm, List.drop, List.take]; refine Wo.call ?_)
    | (refine Wo.rest ?_; generalize e : zAe _ _ _ _ _ = r; simp (disch := omega) [zAg, zA8, c46, hD, hml, hcn, hcn2, hN] at e; replace e : some _ = _ := e; subst e; try dsimp only [zAm, List.drop, List.take])
    | (refine Wo.next ?_; generalize e : zAe _ _ _ _ _ = r; simp (disch := omega) [zAg, zA8, c46, hD, hml, hcn, hcn2, hN] at e; replace e : some _ = _ := e; subst e; try dsimp only [zAm, List.drop, List.take]; refine Wo.call ?_))
   refine W.ret ?_
   try simp only [zAl, zA3]
   refine endW.intro rfl ?_
   generalize e : zAo _ _ _ = r
   simp (disch := omega) [c46, hD, hml, hcn, hcn2, hN] at e
   subst e
   try dsimp only
   refine hk _ ?_; omega
 · have heb : (ds ++ rest == []) = false := by cases hx : ds ++ rest with | nil => exact absurd hx he | cons a l => rfl
   refine Wc.mk' (fn := c46) (by kernel_rfl) rfl ?_
   repeat (first
    | refine W.seq ?_
    | refine W.block ?_
    | (refine W.reg ?_; generalize e : stepR _ _ _ = r; simp (disch := omega) [zAg, zA8, c46, he, heb, hD, hml, hcn, hcn2, hN] at e; replace e : some _ = _ := e; subst e; try dsimp only [zAm, List.drop, List.take])
    | refine W.cond_true rfl ?_
    | refine W.cond_false rfl ?_
    | refine W.skip ?_
    | refine W.exit ?_
    | (refine W.region (Wo.next ?_); generalize e : zAe _ _ _ _ _ = r; simp (disch := omega) [zAg, zA8, c46, he, heb, hD, hml, hcn, hcn2, hN] at e; replace e : some _ = _ := e; subst e; try dsimp only [zAm, List.drop, List.take]; refine Wo.call ?_)
    | (refine W.regionC (Wo.next ?_); generalize e : zAe _ _ _ _ _ = r; simp (disch := omega) [zAg, zA8, c46, he, heb, hD, hml, hcn, hcn2, hN] at e; replace e : some _ = _ := e; subst e; try dsimp only [zAm, List.drop, List.take]; refine Wo.call ?_)
    | (refine Wo.rest ?_; generalize e : zAe _ _ _ _ _ = r; simp (disch := omega) [zAg, zA8, c46, he, heb, hD, hml, hcn, hcn2, hN] at e; replace e : some _ = _ := e; subst e; try dsimp only [zAm, List.drop, List.take])
    | (refine Wo.next ?_; generalize e : zAe _ _ _ _ _ = r; simp (disch := omega) [zAg, zA8, c46, he, heb, hD, hml, hcn, hcn2, hN] at e; replace e : some _ = _ := e; subst e; try dsimp only [zAm, List.drop, List.take]; refine Wo.call ?_)
    | (refine makeSet_spec cs hcs hr _ (by repeat (first | exact hu.le (by (try dsimp only); omega) | exact hu.set.le (by (try dsimp only); omega) | refine Under.cons (by (try dsimp only); omega) ?_ | exact Under.nil)) _ fun n1 hn1 => ⟨rfl, ?_⟩; try dsimp only at hn1)
    | (refine trimA_spec _ _ (marks marks0 cs) hml ds rest hds hrs _ (by simp [zA2]) (by repeat (first | exact hu.le (by (try dsimp only); omega) | exact hu.set.le (by (try dsimp only); omega) | refine Under.cons (by (try dsimp only); omega) ?_ | exact Under.nil)) hlen _ fun n2 hn2 => ⟨rfl, ?_⟩; try dsimp only at hn2))
   refine W.ret ?_
   try simp only [zAl, zA3]
   refine endW.intro rfl ?_
   generalize e : zAo _ _ _ = r
   simp (disch := omega) [c46, hD, hml, hcn, hcn2, hN] at e
   subst e
   try dsimp only
   refine hk _ ?_; omega
end Go.Proofs.YtjecpdnjpggcoaaGreatDoor.IrM
namespace Go.Proofs.YtjecpdnjpggcoaaGreatDoor.IrM
open Go Go.CI
set_option maxRecDepth 100000
set_option linter.unusedVariables false
set_option linter.unusedSimpArgs false
attribute [local irreducible] W Wo Wc
attribute [local simp] stepR zAe zBg evalE evalP evalL zAy nth setNth COp.cls COp.isStore CVal.isUndef CVal.whole CVal.cells CHeap.put CHeap.get CHeap.set wantedC zA2 zA0 partOf zB9 evalBin evalInt evalStr zB8 initVar descOf List.take List.drop CVal.lenOf CVal.isStr CVal.bare CVal.strip CVal.flat zAo zBm zB6 finishC cut fillCells setCells szOf szOf_desc elems bytesOf evalAppend fillElems mkElem List.replicate sy_nbeq sy_neqF sy_leT sy_leF zAj dropped sy_wrap64 zAx zAc zBb zAm zAu sy_ibeqF sy_ieqF sy_ileT sy_ileF sy_iltT sy_iltF sy_ltT sy_ltF
theorem front_spec (cs ds rest : List UInt8) (hc1 : 2 ≤ cs.length) (hcs : cs.length < 1073741824) (hr : ∀ c ∈ cs, c.toNat < 128) (hds : ∀ c ∈ ds, inSet (marks marks0 cs) c true) (hrs : ∀ c r, rest = c :: r → inSet (marks marks0 cs) c false) (hlen : ds.length + rest.length < 1073741824) (h : CHeap) (hu : Under h.ents h.next) (K : CVal → CHeap → Prop)
    (hk : ∀ n', h.next ≤ n' → K (.int .i64 ds.length) { h with next := n' }) : Wc tree.getF 31 [.str (ds ++ rest), .str cs] h K := by
 have hD := zAr hu
 refine Wc.mk' (fn := c31) (by kernel_rfl) rfl ?_
 repeat (first
  | refine W.seq ?_
  | refine W.block ?_
  | (refine W.reg ?_; generalize e : stepR _ _ _ = r; simp (disch := omega) [zAg, zA8, c31, hD] at e; replace e : some _ = _ := e; subst e; try dsimp only [zAm, zAu, List.drop, List.take])
  | refine W.cond_true rfl ?_
  | refine W.cond_false rfl ?_
  | refine W.skip ?_
  | refine W.exit ?_
  | (refine W.region (Wo.next ?_); generalize e : zAe _ _ _ _ _ = r; simp (disch := omega) [zAg, zA8, c31, hD] at e; replace e : some _ = _ := e; subst e; try dsimp only [zAm, zAu, List.drop, List.take]; refine Wo.call ?_)
  | (refine W.regionC (Wo.next ?_); generalize e : zAe _ _ _ _ _ = r; simp (disch := omega) [zAg, zA8, c31, hD] at e; replace e : some _ = _ := e; subst e; try dsimp only [zAm, zAu, List.drop, List.take]; refine Wo.call ?_)
  | (refine Wo.rest ?_; generalize e : zAe _ _ _ _ _ = r; simp (disch := omega) [zAg, zA8, c31, hD] at e; replace e : some _ = _ := e; subst e; try dsimp only [zAm, zAu, List.drop, List.take])
  | (refine Wo.next ?_; generalize e : zAe _ _ _ _ _ = r; simp (disch := omega) [zAg, zA8, c31, hD] at e; replace e : some _ = _ := e; subst e; try dsimp only [zAm, zAu, List.drop, List.take]; refine Wo.call ?_)
  | (refine W.region (Wo.nextG ?_); generalize e : zAe _ _ _ _ _ = r; simp (disch := omega) [zAg, zA8, c31, hD] at e; replace e : some _ = _ := e; subst e; try dsimp only [zAm, zAu, List.drop, List.take]; refine Wo.callG rfl ?_)
  | (refine W.regionC (Wo.nextG ?_); generalize e : zAe _ _ _ _ _ = r; simp (disch := omega) [zAg, zA8, c31, hD] at e; replace e : some _ = _ := e; subst e; try dsimp only [zAm, zAu, List.drop, List.take]; refine Wo.callG rfl ?_)
  | (refine Wo.nextG ?_; generalize e : zAe _ _ _ _ _ = r; simp (disch := omega) [zAg, zA8, c31, hD] at e; replace e : some _ = _ := e; subst e; try dsimp only [zAm, zAu, List.drop, List.take]; refine Wo.callG rfl ?_)
  | (refine trimLeft_spec cs ds rest hc1 hcs hr hds hrs hlen _ (by repeat (first | exact hu.le (by (try dsimp only); omega) | exact hu.set.le (by (try dsimp only); omega) | refine Under.cons (by (try dsimp only); omega) ?_ | exact Under.nil)) _ fun n1 hn1 => ⟨rfl, ?_⟩; try dsimp only at hn1))
 refine W.ret ?_
 try simp only [zAl, zA3]
 refine endW.intro rfl ?_
 generalize e : zAo _ _ _ = r
 simp (disch := omega) [c31, hD] at e
 subst e
 try dsimp only
 refine hk _ ?_; omega
theorem prefix0_spec (s p : List UInt8) (v : Bool) (hv : (decide (p.length ≤ s.length) && (s.take p.length == p)) = v) (h : CHeap) (hu : Under h.ents h.next) (K : CVal → CHeap → Prop) (hk : ∀ n', h.next ≤ n' → K (.bool v) { h with next := n' }) : Wc tree.getF 37 [.str s, .str p] h K := by
 have hD := zAr hu
 by_cases hl : p.length ≤ s.length
 · have hv2 : (List.take p.length s == p) = v := by simpa [hl] using hv
   have hl2 : (p.length : Int) ≤ s.length := by omega
   refine Wc.mk' (fn := c37) (by kernel_rfl) rfl ?_
   repeat (first
    | refine W.seq ?_
    | refine W.block ?_
    | (refine W.reg ?_; generalize e : stepR _ _ _ = r; simp (disch := omega) [zAg, zA8, c37, hD, hl, hl2, hv2] at e; replace e : some _ = _ := e; subst e; try dsimp only [zAm, zAu, List.drop, List.take])
    | refine W.cond_true rfl ?_
    | refine W.cond_false rfl ?_
    | refine W.skip ?_
    | refine W.exit ?_
    | (refine W.region (Wo.next ?_); generalize e : zAe _ _ _ _ _ = r; simp (disch := omega) [zAg, zA8, c37, hD, hl, hl2, hv2] at e; replace e : some _ = _ := e; subst e; try dsimp only [zAm, zAu, List.drop, List.take]; refine Wo.call ?_)
    | (refine W.regionC (Wo.next ?_); generalize e : zAe _ _ _ _ _ = r; simp (disch := omega) [zAg, zA8, c37, hD, hl, hl2, hv2] at e; replace e : some _ = _ := e; subst e; try dsimp only [zAm, zAu, List.drop, List.take]; refine Wo.call ?_)
    | (refine Wo.rest ?_; generalize e : zAe _ _ _ _ _ = r; simp (disch := omega) [zAg, zA8, c37, hD, hl, hl2, hv2] at e; replace e : some _ = _ := e; subst e; try dsimp only [zAm, zAu, List.drop, List.take])
    | (refine Wo.next ?_; generalize e : zAe _ _ _ _ _ = r; simp (disch := omega) [zAg, zA8, c37, hD, hl, hl2, hv2] at e; replace e : some _ = _ := e; subst e; try dsimp only [zAm, zAu, List.drop, List.take]; refine Wo.call ?_))
   refine W.ret ?_
   try simp only [zAl, zA3]
   refine endW.intro rfl ?_
   generalize e : zAo _ _ _ = r
   simp (disch := omega) [c37, hD] at e
   subst e
   try dsimp only
   refine hk _ ?_; omega
 · have hv2 : v = false := by simpa [hl] using hv.symm
   have hl2 : ¬ ((p.length : Int) ≤ s.length) := by omega
   subst hv2
   refine Wc.mk' (fn := c37) (by kernel_rfl) rfl ?_
   repeat (first
    | refine W.seq ?_
    | refine W.block ?_
    | (refine W.reg ?_; generalize e : stepR _ _ _ = r; simp (disch := omega) [zAg, zA8, c37, hD, hl, hl2] at e; replace e : some _ = _ := e; subst e; try dsimp only [zAm, zAu, List.drop, List.take])
    | refine W.cond_true rfl ?_
    | refine W.cond_false rfl ?_
    | refine W.skip ?_
    | refine W.exit ?_
    | (refine W.region (Wo.next ?_); generalize e : zAe _ _ _ _ _ = r; simp (disch := omega) [zAg, zA8, c37, hD, hl, hl2] at e; replace e : some _ = _ := e; subst e; try dsimp only [zAm, zAu, List.drop, List.take]; refine Wo.call ?_)
    | (refine W.regionC (Wo.next ?_); generalize e : zAe _ _ _ _ _ = r; simp (disch := omega) [zAg, zA8, c37, hD, hl, hl2] at e; replace e : some _ = _ := e; subst e; try dsimp only [zAm, zAu, List.drop, List.take]; refine Wo.call ?_)
    | (refine Wo.rest ?_; generalize e : zAe _ _ _ _ _ = r; simp (disch := omega) [zAg, zA8, c37, hD, hl, hl2] at e; replace e : some _ = _ := e; subst e; try dsimp only [zAm, zAu, List.drop, List.take])
    | (refine Wo.next ?_; generalize e : zAe _ _ _ _ _ = r; simp (disch := omega) [zAg, zA8, c37, hD, hl, hl2] at e; replace e : some _ = _ := e; subst e; try dsimp only [zAm, zAu, List.drop, List.take]; refine Wo.call ?_))
   refine W.ret ?_
   try simp only [zAl, zA3]
   refine endW.intro rfl ?_
   generalize e : zAo _ _ _ = r
   simp (disch := omega) [c37, hD] at e
   subst e
   try dsimp only
   refine hk _ ?_; omega
theorem prefix_spec (s p : List UInt8) (v : Bool) (hv : (decide (p.length ≤ s.length) && (s.take p.length == p)) = v) (h : CHeap) (hu : Under h.ents h.next) (K : CVal → CHeap → Prop) (hk : ∀ n', h.next ≤ n' → K (.bool v) { h with next := n' }) : Wc tree.getF 25 [.str s, .str p] h K := by
 have hD := zAr hu
 refine Wc.mk' (fn := c25) (by kernel_rfl) rfl ?_
 repeat (first
  | refine W.seq ?_
  | refine W.block ?_
  | (refine W.reg ?_; generalize e : stepR _ _ _ = r; simp (disch := omega) [zAg, zA8, c25, hD] at e; replace e : some _ = _ := e; subst e; try dsimp only [zAm, zAu, List.drop, List.take])
  | refine W.cond_true rfl ?_
  | refine W.cond_false rfl ?_
  | refine W.skip ?_
  | refine W.exit ?_
  | (refine W.region (Wo.next ?_); generalize e : zAe _ _ _ _ _ = r; simp (disch := omega) [zAg, zA8, c25, hD] at e; replace e : some _ = _ := e; subst e; try dsimp only [zAm, zAu, List.drop, List.take]; refine Wo.call ?_)
  | (refine W.regionC (Wo.next ?_); generalize e : zAe _ _ _ _ _ = r; simp (disch := omega) [zAg, zA8, c25, hD] at e; replace e : some _ = _ := e; subst e; try dsimp only [zAm, zAu, List.drop, List.take]; refine Wo.call ?_)
  | (refine Wo.rest ?_; generalize e : zAe _ _ _ _ _ = r; simp (disch := omega) [zAg, zA8, c25, hD] at e; replace e : some _ = _ := e; subst e; try dsimp only [zAm, zAu, List.drop, List.take])
  | (refine Wo.next ?_; generalize e : zAe _ _ _ _ _ = r; simp (disch := omega) [zAg, zA8, c25, hD] at e; replace e : some _ = _ := e; subst e; try dsimp only [zAm, zAu, List.drop, List.take]; refine Wo.call ?_)
  | (refine W.region (Wo.nextG ?_); generalize e : zAe _ _ _ _ _ = r; simp (disch := omega) [zAg, zA8, c25, hD] at e; replace e : some _ = _ := e; subst e; try dsimp only [zAm, zAu, List.drop, List.take]; refine Wo.callG rfl ?_)
  | (refine W.regionC (Wo.nextG ?_); generalize e : zAe _ _ _ _ _ = r; simp (disch := omega) [zAg, zA8, c25, hD] at e; replace e : some _ = _ := e; subst e; try dsimp only [zAm, zAu, List.drop, List.take]; refine Wo.callG rfl ?_)
  | (refine Wo.nextG ?_; generalize e : zAe _ _ _ _ _ = r; simp (disch := omega) [zAg, zA8, c25, hD] at e; replace e : some _ = _ := e; subst e; try dsimp only [zAm, zAu, List.drop, List.take]; refine Wo.callG rfl ?_)
  | (refine prefix0_spec s p v hv _ (by repeat (first | exact hu.le (by (try dsimp only); omega) | exact hu.set.le (by (try dsimp only); omega) | refine Under.cons (by (try dsimp only); omega) ?_ | exact Under.nil)) _ fun n1 hn1 => ⟨rfl, ?_⟩; try dsimp only at hn1))
 refine W.ret ?_
 try simp only [zAl, zA3]
 refine endW.intro rfl ?_
 generalize e : zAo _ _ _ = r
 simp (disch := omega) [c25, hD] at e
 subst e
 try dsimp only
 refine hk _ ?_; omega
theorem index_spec (s p : List UInt8) (hs : s.length < 4294967281) (h : CHeap) (hu : Under h.ents h.next) (K : CVal → CHeap → Prop) (hk : ∀ n', h.next ≤ n' → K (.int .i64 (idxSub p s 0)) { h with next := n' }) : Wc tree.getF 30 [.str s, .str p] h K := by
 have hD := zAr hu
 have hp : ∀ h : CHeap, pIndex [.str s, .str p] h = some (.int .i64 (idxSub p s 0), h) := fun h => by simp [pIndex, hs]
 refine Wc.mk' (fn := c30) (by kernel_rfl) rfl ?_
 repeat (first
  | refine W.seq ?_
  | refine W.block ?_
  | (refine W.reg ?_; generalize e : stepR _ _ _ = r; simp (disch := omega) [zAg, zA8, c30, hD] at e; replace e : some _ = _ := e; subst e; try dsimp only [zAm, zAu, List.drop, List.take])
  | refine W.cond_true rfl ?_
  | refine W.cond_false rfl ?_
  | refine W.skip ?_
  | refine W.exit ?_
  | (refine W.region (Wo.next ?_); generalize e : zAe _ _ _ _ _ = r; simp (disch := omega) [zAg, zA8, c30, hD] at e; replace e : some _ = _ := e; subst e; try dsimp only [zAm, zAu, List.drop, List.take]; refine Wo.call ?_)
  | (refine W.regionC (Wo.next ?_); generalize e : zAe _ _ _ _ _ = r; simp (disch := omega) [zAg, zA8, c30, hD] at e; replace e : some _ = _ := e; subst e; try dsimp only [zAm, zAu, List.drop, List.take]; refine Wo.call ?_)
  | (refine Wo.rest ?_; generalize e : zAe _ _ _ _ _ = r; simp (disch := omega) [zAg, zA8, c30, hD] at e; replace e : some _ = _ := e; subst e; try dsimp only [zAm, zAu, List.drop, List.take])
  | (refine Wo.next ?_; generalize e : zAe _ _ _ _ _ = r; simp (disch := omega) [zAg, zA8, c30, hD] at e; replace e : some _ = _ := e; subst e; try dsimp only [zAm, zAu, List.drop, List.take]; refine Wo.call ?_))
 refine Wc.prim (p := pIndex) (by kernel_rfl) (hp _) ⟨rfl, ?_⟩
 repeat (first
  | refine W.seq ?_
  | refine W.block ?_
  | (refine W.reg ?_; generalize e : stepR _ _ _ = r; simp (disch := omega) [zAg, zA8, hD] at e; replace e : some _ = _ := e; subst e; try dsimp only [zAm, zAu, List.drop, List.take])
  | refine W.cond_true rfl ?_
  | refine W.cond_false rfl ?_
  | refine W.skip ?_
  | refine W.exit ?_
  | (refine W.region (Wo.next ?_); generalize e : zAe _ _ _ _ _ = r; simp (disch := omega) [zAg, zA8, hD] at e; replace e : some _ = _ := e; subst e; try dsimp only [zAm, zAu, List.drop, List.take]; refine Wo.call ?_)
  | (refine W.regionC (Wo.next ?_); generalize e : zAe _ _ _ _ _ = r; simp (disch := omega) [zAg, zA8, hD] at e; replace e : some _ = _ := e; subst e; try dsimp only [zAm, zAu, List.drop, List.take]; refine Wo.call ?_)
  | (refine Wo.rest ?_; generalize e : zAe _ _ _ _ _ = r; simp (disch := omega) [zAg, zA8, hD] at e; replace e : some _ = _ := e; subst e; try dsimp only [zAm, zAu, List.drop, List.take])
  | (refine Wo.next ?_; generalize e : zAe _ _ _ _ _ = r; simp (disch := omega) [zAg, zA8, hD] at e; replace e : some _ = _ := e; subst e; try dsimp only [zAm, zAu, List.drop, List.take]; refine Wo.call ?_))
 refine W.ret ?_
 try simp only [zAl, zA3]
 refine endW.intro rfl ?_
 generalize e : zAo _ _ _ = r
 simp (disch := omega) [c30, hD] at e
 subst e
 try dsimp only
 refine hk _ ?_; omega
theorem contains0_spec (s p : List UInt8) (v : Bool) (hs : s.length < 4294967281) (hv : decide (0 ≤ idxSub p s 0) = v) (h : CHeap) (hu : Under h.ents h.next) (K : CVal → CHeap → Prop) (hk : ∀ n', h.next ≤ n' → K (.bool v) { h with next := n' }) : Wc tree.getF 15 [.str s, .str p] h K := by
 have hD := zAr hu
 refine Wc.mk' (fn := c15) (by kernel_rfl) rfl ?_
 repeat (first
  | refine W.seq ?_
  | refine W.block ?_
  | (refine W.reg ?_; generalize e : stepR _ _ _ = r; simp (disch := omega) [zAg, zA8, c15, hD, hv] at e; replace e : some _ = _ := e; subst e; try dsimp only [zAm, zAu, List.drop, List.take])
  | refine W.cond_true rfl ?_
  | refine W.cond_false rfl ?_
  | refine W.skip ?_
  | refine W.exit ?_
  | (refine W.region (Wo.next ?_); generalize e : zAe _ _ _ _ _ = r; simp (disch := omega) [zAg, zA8, c15, hD, hv] at e; replace e : some _ = _ := e; subst e; try dsimp only [zAm, zAu, List.drop, List.take]; refine Wo.call ?_)
  | (refine W.regionC (Wo.next ?_); generalize e : zAe _ _ _ _ _ = r; simp (disch := omega) [zAg, zA8, c15, hD, hv] at e; replace e : some _ = _ := e; subst e; try dsimp only [zAm, zAu, List.drop, List.take]; refine Wo.call ?_)
  | (refine Wo.rest ?_; generalize e : zAe _ _ _ _ _ = r; simp (disch := omega) [zAg, zA8, c15, hD, hv] at e; replace e : some _ = _ := e; subst e; try dsimp only [zAm, zAu, List.drop, List.take])
  | (refine Wo.next ?_; generalize e : zAe _ _ _ _ _ = r; simp (disch := omega) [zAg, zA8, c15, hD, hv] at e; replace e : some _ = _ := e; subst e; try dsimp only [zAm, zAu, List.drop, List.take]; refine Wo.call ?_)
  | (refine W.region (Wo.nextG ?_); generalize e : zAe _ _ _ _ _ = r; simp (disch := omega) [zAg, zA8, c15, hD, hv] at e; replace e : some _ = _ := e; subst e; try dsimp only [zAm, zAu, List.drop, List.take]; refine Wo.callG rfl ?_)
  | (refine W.regionC (Wo.nextG ?_); generalize e : zAe _ _ _ _ _ = r; simp (disch := omega) [zAg, zA8, c15, hD, hv] at e; replace e : some _ = _ := e; subst e; try dsimp only [zAm, zAu, List.drop, List.take]; refine Wo.callG rfl ?_)
  | (refine Wo.nextG ?_; generalize e : zAe _ _ _ _ _ = r; simp (disch := omega) [zAg, zA8, c15, hD, hv] at e; replace e : some _ = _ := e; subst e; try dsimp only [zAm, zAu, List.drop, List.take]; refine Wo.callG rfl ?_)
  | (refine index_spec s p hs _ (by repeat (first | exact hu.le (by (try dsimp only); omega) | exact hu.set.le (by (try dsimp only); omega) | refine Under.cons (by (try dsimp only); omega) ?_ | exact Under.nil)) _ fun n1 hn1 => ⟨rfl, ?_⟩; try dsimp only at hn1))
 refine W.ret ?_
 try simp only [zAl, zA3]
 refine endW.intro rfl ?_
 generalize e : zAo _ _ _ = r
 simp (disch := omega) [c15, hD] at e
 subst e
 try dsimp only
 refine hk _ ?_; omega
abbrev lettersB : List UInt8 := [65, 66, 67, 68, 69, 70, 71, 72, 73, 74, 75, 76, 77, 78, 79, 80, 81, 82, 83, 84, 85, 86, 87, 88, 89, 90, 97, 98, 99, 100, 101, 102, 103, 104, 105, 106, 107, 108, 109, 110, 111, 112, 113, 114, 115, 116, 117, 118, 119, 120, 121, 122, 95]
theorem word_no (c : UInt8) (r : List UInt8) (hc : decide (0 ≤ idxSub [c] lettersB 0) = false) (h : CHeap) (hu : Under h.ents h.next) (K : CVal → CHeap → Prop) (hk : ∀ n', h.next ≤ n' → K (.int .i64 0) { h with next := n' }) : Wc tree.getF 48 [.str (c :: r)] h K := by
 have hD := zAr hu
 refine Wc.mk' (fn := c48) (by kernel_rfl) rfl ?_
 repeat (first
  | refine W.seq ?_
  | refine W.block ?_
  | (refine W.reg ?_; generalize e : stepR _ _ _ = r; simp (disch := omega) [zAg, zA8, c48, hD] at e; replace e : some _ = _ := e; subst e; try dsimp only [zAm, zAu, List.drop, List.take])
  | refine W.cond_true rfl ?_
  | refine W.cond_false rfl ?_
  | refine W.skip ?_
  | refine W.exit ?_
  | (refine W.region (Wo.next ?_); generalize e : zAe _ _ _ _ _ = r; simp (disch := omega) [zAg, zA8, c48, hD] at e; replace e : some _ = _ := e; subst e; try dsimp only [zAm, zAu, List.drop, List.take]; refine Wo.call ?_)
  | (refine W.regionC (Wo.next ?_); generalize e : zAe _ _ _ _ _ = r; simp (disch := omega) [zAg, zA8, c48, hD] at e; replace e : some _ = _ := e; subst e; try dsimp only [zAm, zAu, List.drop, List.take]; refine Wo.call ?_)
  | (refine Wo.rest ?_; generalize e : zAe _ _ _ _ _ = r; simp (disch := omega) [zAg, zA8, c48, hD] at e; replace e : some _ = _ := e; subst e; try dsimp only [zAm, zAu, List.drop, List.take])
  | (refine Wo.next ?_; generalize e : zAe _ _ _ _ _ = r; simp (disch := omega) [zAg, zA8, c48, hD] at e; replace e : some _ = _ := e; subst e; try dsimp only [zAm, zAu, List.drop, List.take]; refine Wo.call ?_)
  | (refine W.region (Wo.nextG ?_); generalize e : zAe _ _ _ _ _ = r; simp (disch := omega) [zAg, zA8, c48, hD] at e; replace e : some _ = _ := e; subst e; try dsimp only [zAm, zAu, List.drop, List.take]; refine Wo.callG rfl ?_)
  | (refine W.regionC (Wo.nextG ?_); generalize e : zAe _ _ _ _ _ = r; simp (disch := omega) [zAg, zA8, c48, hD] at e; replace e : some _ = _ := e; subst e; try dsimp only [zAm, zAu, List.drop, List.take]; refine Wo.callG rfl ?_)
  | (refine Wo.nextG ?_; generalize e : zAe _ _ _ _ _ = r; simp (disch := omega) [zAg, zA8, c48, hD] at e; replace e : some _ = _ := e; subst e; try dsimp only [zAm, zAu, List.drop, List.take]; refine Wo.callG rfl ?_)
  | (refine contains0_spec lettersB [c] false (by decide) hc _ (by repeat (first | exact hu.le (by (try dsimp only); omega) | exact hu.set.le (by (try dsimp only); omega) | refine Under.cons (by (try dsimp only); omega) ?_ | exact Under.nil)) _ fun n1 hn1 => ⟨rfl, ?_⟩; try dsimp only at hn1))
 refine W.ret ?_
 try simp only [zAl, zA3]
 refine endW.intro rfl ?_
 generalize e : zAo _ _ _ = r
 simp (disch := omega) [c48, hD] at e
 subst e
 try dsimp only
 refine hk _ ?_; omega
theorem name_no (c : UInt8) (r : List UInt8) (hl : r.length < 1073741824) (hc : decide (0 ≤ idxSub [c] lettersB 0) = false) (hc2 : c ≠ 46) (h : CHeap) (hu : Under h.ents h.next) (K : CVal → CHeap → Prop) (hk : ∀ n', h.next ≤ n' → K (.int .i64 0) { h with next := n' }) : Wc tree.getF 34 [.str (c :: r)] h K := by
 have hD := zAr hu
 have hp : (decide (([46] : List UInt8).length ≤ (c :: r).length) && ((c :: r).take ([46] : List UInt8).length == [46])) = false := by simp [hc2]
 refine Wc.mk' (fn := c34) (by kernel_rfl) rfl ?_
 repeat (first
  | refine W.seq ?_
  | refine W.block ?_
  | (refine W.reg ?_; generalize e : stepR _ _ _ = r; simp (disch := omega) [zAg, zA8, c34, hD] at e; replace e : some _ = _ := e; subst e; try dsimp only [zAm, zAu, List.drop, List.take])
  | refine W.cond_true rfl ?_
  | refine W.cond_false rfl ?_
  | refine W.skip ?_
  | refine W.exit ?_
  | (refine W.region (Wo.next ?_); generalize e : zAe _ _ _ _ _ = r; simp (disch := omega) [zAg, zA8, c34, hD] at e; replace e : some _ = _ := e; subst e; try dsimp only [zAm, zAu, List.drop, List.take]; refine Wo.call ?_)
  | (refine W.regionC (Wo.next ?_); generalize e : zAe _ _ _ _ _ = r; simp (disch := omega) [zAg, zA8, c34, hD] at e; replace e : some _ = _ := e; subst e; try dsimp only [zAm, zAu, List.drop, List.take]; refine Wo.call ?_)
  | (refine Wo.rest ?_; generalize e : zAe _ _ _ _ _ = r; simp (disch := omega) [zAg, zA8, c34, hD] at e; replace e : some _ = _ := e; subst e; try dsimp only [zAm, zAu, List.drop, List.take])
  | (refine Wo.next ?_; generalize e : zAe _ _ _ _ _ = r; simp (disch := omega) [zAg, zA8, c34, hD] at e; replace e : some _ = _ := e; subst e; try dsimp only [zAm, zAu, List.drop, List.take]; refine Wo.call ?_)
  | (refine W.region (Wo.nextG ?_); generalize e : zAe _ _ _ _ _ = r; simp (disch := omega) [zAg, zA8, c34, hD] at e; replace e : some _ = _ := e; subst e; try dsimp only [zAm, zAu, List.drop, List.take]; refine Wo.callG rfl ?_)
  | (refine W.regionC (Wo.nextG ?_); generalize e : zAe _ _ _ _ _ = r; simp (disch := omega) [zAg, zA8, c34, hD] at e; replace e : some _ = _ := e; subst e; try dsimp only [zAm, zAu, List.drop, List.take]; refine Wo.callG rfl ?_)
  | (refine Wo.nextG ?_; generalize e : zAe _ _ _ _ _ = r; simp (disch := omega) [zAg, zA8, c34, hD] at e; replace e : some _ = _ := e; subst e; try dsimp only [zAm, zAu, List.drop, List.take]; refine Wo.callG rfl ?_)
  | (refine prefix_spec (c :: r) [46] false hp _ (by repeat (first | exact hu.le (by (try dsimp only); omega) | exact hu.set.le (by (try dsimp only); omega) | refine Under.cons (by (try dsimp only); omega) ?_ | exact Under.nil)) _ fun n1 hn1 => ⟨rfl, ?_⟩; try dsimp only at hn1)
  | (refine word_no c r hc _ (by repeat (first | exact hu.le (by (try dsimp only); omega) | exact hu.set.le (by (try dsimp only); omega) | refine Under.cons (by (try dsimp only); omega) ?_ | exact Under.nil)) _ fun n2 hn2 => ⟨rfl, ?_⟩; try dsimp only at hn2))
 refine W.ret ?_
 try simp only [zAl, zA3]
 refine endW.intro rfl ?_
 generalize e : zAo _ _ _ = r
 simp (disch := omega) [c34, hD] at e
 subst e
 try dsimp only
 refine hk _ ?_; omega
end Go.Proofs.YtjecpdnjpggcoaaGreatDoor.IrM
namespace Go.Proofs.YtjecpdnjpggcoaaGreatDoor.IrM
open Go Go.CI Go.LexF
set_option maxRecDepth 100000
set_option linter.unusedVariables false
set_option linter.unusedSimpArgs false
theorem fx4 {h : CHeap} (hf : Fit h) : Under h.ents h.next ∧ zAb h.tys h.next ∧ (∀ m, h.next ≤ m → zAx h.ents m = h.ents) ∧ (∀ m, h.next ≤ m → zAc h.ents m = h.ents) ∧ (∀ q, h.next ≤ q → zA2 h.ents q = none) ∧ (∀ q, h.next ≤ q → lookupN h.tys q = none) := by
 obtain ⟨hu, hut⟩ := hf
 exact ⟨hu, hut, fun m hm => zAr (hu.le hm), fun m hm => zAh (hu.le hm), fun q hq => getEnt_under hu hq, fun q hq => lookupN_under hut hq⟩
theorem fx5 {h : CHeap} {p : Nat} {o : CObj} (hf : Fit h) (hg : zA2 h.ents p = some o) : (∀ x, zA2 (zA0 h.ents p x) p = some x) ∧ (∀ x m, h.next ≤ m → zAx (zA0 h.ents p x) m = zA0 h.ents p x) ∧ (∀ x m, h.next ≤ m → zAc (zA0 h.ents p x) m = zA0 h.ents p x) ∧ (∀ x q, h.next ≤ q → zA2 (zA0 h.ents p x) q = none) :=
 have hu := hf.1
 ⟨fun x => zA7 hg, fun x m hm => zAr (hu.set.le hm), fun x m hm => zAh (hu.set.le hm), fun x q hq => getEnt_under hu.set hq⟩
theorem un_ {l : List (Nat × CObj)} {n : Nat} (h : Under l n := by repeat (first | exact hu.le (by (try dsimp only); omega) | exact hu.set.le (by (try dsimp only); omega) | exact hu.set.set.le (by (try dsimp only); omega) | refine Under.cons (by (try dsimp only); omega) ?_ | exact Under.nil)) : Under l n := h
theorem ut_ {l : List (Nat × Nat)} {n : Nat} (h : zAb l n := by repeat (first | exact hut.le (by (try dsimp only); omega) | refine zAb.cons (by (try dsimp only); omega) ?_ | exact zAb.nil | assumption | exact zAb.le (by assumption) (by (try dsimp only); omega))) : zAb l n := h
theorem fit_ {h : CHeap} (hf : Fit h := by (refine ⟨?_, ?_⟩; (focus ((repeat (first | exact hu.le (by (try dsimp only); omega) | exact hu.set.le (by (try dsimp only); omega) | exact hu.set.set.le (by (try dsimp only); omega) | refine Under.cons (by (try dsimp only); omega) ?_ | exact Under.nil)); done)); (focus ((repeat (first | exact hut.le (by (try dsimp only); omega) | refine zAb.cons (by (try dsimp only); omega) ?_ | exact zAb.nil | assumption | exact zAb.le (by assumption) (by (try dsimp only); omega))); done)))) : Fit h := hf
theorem ge_ {l : List (Nat × CObj)} {p : Nat} {o : CObj} (h : zA2 l p = some o := by first | exact hg | exact hG _ | exact hY.1 _ | ((try dsimp only); exact hY.1 _) | ((try dsimp only); exact hg) | ((try dsimp only); exact hG _) | (simp (disch := omega) [zA2, zA0, sy_nbeq, sy_neqF, zAj, hg, hG]) | (simp (disch := omega) [zA2, zA0, sy_nbeq, sy_neqF, zAj, hg, hY])) : zA2 l p = some o := h
abbrev ct_ := @W.cond_true
abbrev cf_ := @W.cond_false
abbrev sk_ := @W.skip
abbrev ex_ := @W.exit
abbrev bl_ := @W.block
abbrev sq_ := @W.seq
abbrev rg_ := @W.regG
abbrev go_ := @WoR.go
end Go.Proofs.YtjecpdnjpggcoaaGreatDoor.IrM
namespace Go.Proofs.YtjecpdnjpggcoaaGreatDoor.IrM
open Go Go.CI
open Go.LexF hiding spacesB lettersB
set_option maxRecDepth 100000
set_option linter.unusedVariables false
set_option linter.unusedSimpArgs false
attribute [local irreducible] W Wo Wc WoR
attribute [local simp] goR regOut checkOne swapOne sameAt nthOp CVal.beq beqs CVal.block storesTo zAa zAe zBg evalE evalP evalL zAy nth setNth COp.cls COp.isStore CVal.isUndef CVal.whole CVal.cells CHeap.put CHeap.get CHeap.set wantedC zA2 zA0 partOf zB9 evalBin evalInt evalStr zB8 initVar descOf List.take List.drop CVal.lenOf CVal.isStr CVal.bare CVal.strip CVal.flat zAo zBm zB6 finishC cut fillCells setCells szOf szOf_desc elems bytesOf evalAppend fillElems mkElem setElem List.replicate sy_nbeq sy_neqF sy_leT sy_leF zAj dropped sy_wrap64 zAx zAc zBb sy_ibeqF sy_ieqF sy_ileT sy_ileF sy_iltT sy_iltF sy_ltT sy_ltF zAg zA8 eqVal extL extE keyIs findKV nthKV setKV CHeap.ty lookupN CHeap.note CHeap.tyOk dropAll freezeVal freezeAll freezeFlat cellsEq cellEq zAk zAq pMakeNoZero zBi pClone pIndex hasPair rowOf byteVals idxFrom hasFront idxSub
theorem wUC1 {P : Prop} (h : P := by refine Wc.mkG 48 c48 (by kernel_rfl) rfl ?_; generalize e : zAa _ _ _ = r; simp (disch := omega) [hX, hc, c48] at e; subst e; repeat (first | refine sq_ ?_ | refine bl_ ?_ | ((first | refine rg_ ?_ | refine go_ ?_); generalize e : goR _ _ _ _ _ _ _ _ = r; simp (disch := omega) [hX, hc, c48] at e; replace e : some _ = _ := e; subst e; (try dsimp only [goW])) | refine ct_ rfl ?_ | refine cf_ rfl ?_ | refine sk_ ?_ | refine ex_ ?_ | (refine W.loop ?_; try (generalize e : dropped _ _ _ = r; simp (disch := omega) [hX, hc, c48] at e; subst e; try dsimp only)) | (refine contains_F Go.LexF.lettersB c ?_ _ ?_ _ fun n1 tyn1 hn1 hun1 => ⟨rfl, ?_⟩; (focus ((decide); done)); exact fit_; (try dsimp only at hn1); rw [hc]) | (refine (front_names (c :: r) (by simp; omega)) _ ?_ _ fun n2 tyn2 hn2 hun2 => ⟨rfl, ?_⟩; exact fit_; (try dsimp only at hn2)) | ((first | (refine W.ret ?_; (try simp only [zAl, zA3, zAf]); refine endW.of (.inl rfl) rfl ?_) | refine endW.of (.inr rfl) rfl ?_); generalize e : zAo _ _ _ = r; simp (disch := omega) [hX, hc, c48] at e; subst e; (try dsimp only [goW]); (refine hk _ _ ?_ ?_; omega; exact ut_)))) : P := h
theorem pu_of {f : Nat} {args : List CVal} {v : CVal} (H : ∀ (h : CHeap), Under h.ents h.next → ∀ (K : CVal → CHeap → Prop), (∀ n', h.next ≤ n' → K v { h with next := n' }) → Wc tree.getF f args h K) : Pu tree.getF f args v :=
 fun h hf K hk => H h hf.1 K fun n' hn => hk n' h.tys hn (hf.2.le hn)
def isB (v : Bool) : CVal → Bool
 | .bool b => b == v
 | _ => false
theorem isB_eq {v : Bool} {x : CVal} (h : isB v x = true) : x = .bool v := by
 cases x <;> simp [isB] at h; subst h; rfl
def setOk (cs : List UInt8) : Bool := (List.range 256).all fun k => isB (cs.contains (UInt8.ofNat k)) (nth (marks marks0 cs) k)
theorem setOk_in {cs : List UInt8} (h : setOk cs = true) (c : UInt8) : inSet (marks marks0 cs) c (cs.contains c) := by
 have h1 := List.all_eq_true.1 h c.toNat (List.mem_range.2 c.toNat_lt)
 have h2 := isB_eq h1
 rw [show UInt8.ofNat c.toNat = c by simp] at h2
 exact h2
theorem front_F (cs : List UInt8) (hok : setOk cs = true) (hc1 : 2 ≤ cs.length) (hcs : cs.length < 1000) (hr : ∀ c ∈ cs, c.toNat < 128) (s : List UInt8) (hl : s.length < 100000) : Pu tree.getF 31 [.str s, .str cs] (.int .i64 ((fr cs s).length : Int)) := by
 refine pu_of ?_
 have e := fr_bk cs s
 have hfl := fr_len cs s
 intro h hu K hk
 have := front_spec cs (fr cs s) (bk cs s) hc1 (by omega) hr (fun c hc => by have := setOk_in hok c; rwa [fr_mem hc] at this) (fun c r hc => by have := setOk_in hok c; rwa [bk_head hc] at this) (by omega) h hu K hk
 rwa [e] at this
theorem idx_one (c : UInt8) : ∀ (s : List UInt8) (i : Nat), decide (0 ≤ idxSub [c] s i) = s.contains c
 | [], i => by simp [idxSub]
 | a :: x, i => by
  have ih := idx_one c x (i + 1)
  unfold idxSub
  by_cases h : a = c
  · subst h; simp [hasFront]
  · have h2 : ¬ c = a := fun e => h e.symm
    have hb : (a == c) = false := by simp [h]
    simp only [hasFront, hb, Bool.and_true, Bool.false_eq_true, if_false, cond_false]
    rw [ih]
    simp [h2]
theorem contains_F (cs : List UInt8) (c : UInt8) (hl : cs.length < 100000) : Pu tree.getF 15 [.str cs, .str [c]] (.bool (cs.contains c)) :=
 pu_of fun h hu K hk => contains0_spec cs [c] (cs.contains c) (by omega) (idx_one c cs 0) h hu K hk
theorem zBf (s p : List UInt8) (v : Bool) (hv : (decide (p.length ≤ s.length) && (s.take p.length == p)) = v) : Pu tree.getF 25 [.str s, .str p] (.bool v) :=
 pu_of fun h hu K hk => prefix_spec s p v hv h hu K hk
abbrev lettersD : List UInt8 := Go.LexF.lettersB
theorem ok_letters : setOk namesB = true := by kernel_rfl
theorem ok_spaces : setOk Go.LexF.spacesB = true := by kernel_rfl
theorem ok_10 : setOk D10 = true := by kernel_rfl
theorem ok_8 : setOk D8 = true := by kernel_rfl
theorem ok_16 : setOk hexesB = true := by kernel_rfl
theorem front_names (s : List UInt8) (hl : s.length < 100000) : Pu tree.getF 31 [.str s, .str [65, 66, 67, 68, 69, 70, 71, 72, 73, 74, 75, 76, 77, 78, 79, 80, 81, 82, 83, 84, 85, 86, 87, 88, 89, 90, 97, 98, 99, 100, 101, 102, 103, 104, 105, 106, 107, 108, 109, 110, 111, 112, 113, 114, 115, 116, 117, 118, 119, 120, 121, 122, 95, 48, 49, 50, 51, 52, 53, 54, 55, 56, 57]] (.int .i64 ((fr namesB s).length : Int)) := front_F namesB ok_letters (by decide) (by decide) (by decide) s hl
theorem front_spaces (s : List UInt8) (hl : s.length < 100000) : Pu tree.getF 31 [.str s, .str [9, 10, 11, 12, 13, 32]] (.int .i64 ((fr Go.LexF.spacesB s).length : Int)) := front_F Go.LexF.spacesB ok_spaces (by decide) (by decide) (by decide) s hl
theorem front_10 (s : List UInt8) (hl : s.length < 100000) : Pu tree.getF 31 [.str s, .str D10] (.int .i64 ((fr D10 s).length : Int)) := front_F D10 ok_10 (by decide) (by decide) (by decide) s hl
theorem front_8 (s : List UInt8) (hl : s.length < 100000) : Pu tree.getF 31 [.str s, .str D8] (.int .i64 ((fr D8 s).length : Int)) := front_F D8 ok_8 (by decide) (by decide) (by decide) s hl
theorem front_16 (s : List UInt8) (hl : s.length < 100000) : Pu tree.getF 31 [.str s, .str hexesB] (.int .i64 ((fr hexesB s).length : Int)) := front_F hexesB ok_16 (by decide) (by decide) (by decide) s hl
theorem word_nil  : Pu tree.getF 48 [.str []] (.int .i64 0) := by
 intro h hf K hk
 obtain ⟨hu, hut, hX⟩ := fx4 hf
 refine Wc.mkG 48 c48 (by kernel_rfl) rfl ?_
 generalize e : zAa _ _ _ = r
 simp (disch := omega) [hX, c48] at e
 subst e
 repeat (first | refine sq_ ?_ | refine bl_ ?_ | ((first | refine rg_ ?_ | refine go_ ?_); generalize e : goR _ _ _ _ _ _ _ _ = r; simp (disch := omega) [hX, c48] at e; replace e : some _ = _ := e; subst e; (try dsimp only [goW])) | refine ct_ rfl ?_ | refine cf_ rfl ?_ | refine sk_ ?_ | refine ex_ ?_ | (refine W.loop ?_; try (generalize e : dropped _ _ _ = r; simp (disch := omega) [hX, c48] at e; subst e; try dsimp only)) | ((first | (refine W.ret ?_; (try simp only [zAl, zA3, zAf]); refine endW.of (.inl rfl) rfl ?_) | refine endW.of (.inr rfl) rfl ?_); generalize e : zAo _ _ _ = r; simp (disch := omega) [hX, c48] at e; subst e; (try dsimp only [goW]); (refine hk _ _ ?_ ?_; omega; exact ut_)))
theorem word_true (c : UInt8) (r : List UInt8) (hl : r.length < 90000) (hc : Go.LexF.lettersB.contains c = true) : Pu tree.getF 48 [.str (c :: r)] (.int .i64 ((fr namesB (c :: r)).length : Int)) := by
 intro h hf K hk
 obtain ⟨hu, hut, hX⟩ := fx4 hf
 exact wUC1
theorem word_false (c : UInt8) (r : List UInt8) (hl : r.length < 90000) (hc : Go.LexF.lettersB.contains c = false) : Pu tree.getF 48 [.str (c :: r)] (.int .i64 0) := by
 intro h hf K hk
 obtain ⟨hu, hut, hX⟩ := fx4 hf
 exact wUC1
theorem word_F (s : List UInt8) (hl : s.length < 90000) : Pu tree.getF 48 [.str s] (.int .i64 (wordF s : Int)) := by
 cases s with
 | nil => exact word_nil
 | cons c r =>
  cases hc : Go.LexF.lettersB.contains c with
  | true => have := word_true c r (by simp at hl; omega) hc; simpa only [wordF, hc, if_true] using this
  | false => have := word_false c r (by simp at hl; omega) hc; simp only [wordF, hc, Bool.false_eq_true, if_false]; exact this
theorem wUD1 {P : Prop} (h : P := by repeat (first | refine sq_ ?_ | refine bl_ ?_ | ((first | refine rg_ ?_ | refine go_ ?_); generalize e : goR _ _ _ _ _ _ _ _ = r; simp (disch := omega) [hX, htk, c34] at e; replace e : some _ = _ := e; subst e; (try dsimp only [goW])) | refine ct_ rfl ?_ | refine cf_ rfl ?_ | refine sk_ ?_ | refine ex_ ?_ | ((first | (refine W.ret ?_; (try simp only [zAl, zA3, zAf]); refine endW.of (.inl rfl) rfl ?_) | refine endW.of (.inr rfl) rfl ?_); generalize e : zAo _ _ _ = r; simp (disch := omega) [hX, htk, c34] at e; subst e; (try dsimp only [goW]); (refine hk _ _ ?_ ?_; omega; exact ut_)))) : P := h
abbrev nameLoop : CCode := (.loop true (.seq (.seq (.region [.v 0, .v 2, .g (.slc 0 (.loc 1) (some (.loc 0)) none), .g (.call false 25 [(.loc 0), (.const (.str [46]))])] [(5, 3)] [] []) (.cond (.var 5) .skip (.exit 0))) (.block 1 (.seq (.region [.v 0, .v 2, .g (.bin .add (.loc 0) (.const (.int .i64 1))), .g (.slc 0 (.loc 2) (some (.loc 0)) none), .g (.call false 48 [(.loc 0)]), .m (.loc 0)] [(6, 5)] [] []) (.seq (.seq (.region [.v 6, .g (.bin .eql (.loc 0) (.const (.int .i64 0)))] [(7, 1)] [] []) (.cond (.var 7) (.exit 0) .skip)) (.region [.v 2, .v 6, .g (.bin .add (.const (.int .i64 1)) (.loc 0)), .g (.bin .add (.loc 2) (.loc 0)), .m (.loc 0)] [(2, 4)] [] []))))))
theorem name_loop (s : List UInt8) (hs : s.length < 80000) (v1 v3 v4 v8 : CVal) (Q : CExit → CSt → Prop) : ∀ (m n : Nat), s.length - n ≤ m → n ≤ s.length → ∀ (h : CHeap) (v5 v6 v7 : CVal), Fit h →
    (∀ n' ty v5 v6 v7, h.next ≤ n' → zAb ty n' → Q (.exit 0) ⟨[.str s, v1, .int .i64 ((n + tailF (s.drop n) : Nat) : Int), v3, v4, v5, v6, v7, v8], ⟨h.ents, n', ty⟩, []⟩) →
    W tree.getF nameLoop ⟨[.str s, v1, .int .i64 (n : Int), v3, v4, v5, v6, v7, v8], h, []⟩ Q := by
 intro m
 induction m with
 | zero =>
  intro n hm hn h v5 v6 v7 hf hk
  have hnil : s.drop n = [] := List.drop_eq_nil_of_le (by omega)
  rw [hnil, tailF] at hk
  have htk : s.take s.length = s := List.take_length
  obtain ⟨hu, hut, hX⟩ := fx4 hf
  refine W.loop ?_
  repeat (first | refine sq_ ?_ | refine bl_ ?_ | ((first | refine rg_ ?_ | refine go_ ?_); generalize e : goR _ _ _ _ _ _ _ _ = r; simp (disch := omega) [hX, htk, hnil] at e; replace e : some _ = _ := e; subst e; (try dsimp only [goW])) | refine ct_ rfl ?_ | refine cf_ rfl ?_ | refine sk_ ?_ | refine ex_ ?_ | (refine (zBf ([]) [46] false (by simp)) _ ?_ _ fun n1 tyn1 hn1 hun1 => ⟨rfl, ?_⟩; exact fit_; (try dsimp only at hn1)))
  refine hk _ _ _ _ _ ?_ ?_
  · omega
  · exact zAb.le (by assumption) (by omega)
 | succ m ih =>
  intro n hm hn h v5 v6 v7 hf hk
  have htk : s.take s.length = s := List.take_length
  have htn : ((n : Int) + 1).toNat = n + 1 := by omega
  have hf0 := hf
  obtain ⟨hu, hut, hX⟩ := fx4 hf
  cases hd : s.drop n with
  | nil =>
   rw [hd, tailF] at hk
   refine W.loop ?_
   repeat (first | refine sq_ ?_ | refine bl_ ?_ | ((first | refine rg_ ?_ | refine go_ ?_); generalize e : goR _ _ _ _ _ _ _ _ = r; simp (disch := omega) [hX, htk, htn, hd] at e; replace e : some _ = _ := e; subst e; (try dsimp only [goW])) | refine ct_ rfl ?_ | refine cf_ rfl ?_ | refine sk_ ?_ | refine ex_ ?_ | (refine (zBf ([]) [46] false (by simp)) _ ?_ _ fun n1 tyn1 hn1 hun1 => ⟨rfl, ?_⟩; exact fit_; (try dsimp only at hn1)))
   refine hk _ _ _ _ _ ?_ ?_
   · omega
   · exact zAb.le (by assumption) (by omega)
  | cons c t =>
   obtain ⟨hlt, hget, hd1⟩ := get_of_dropG hd
   have htl : t.length = s.length - (n + 1) := by rw [← hd1, List.length_drop]
   rw [hd] at hk
   by_cases hc : c = 46
   · subst hc
     have hw := wordF_le t
     by_cases hz : wordF t = 0
     · rw [tailF, if_pos rfl, if_pos hz] at hk
       have W0 := word_F t (by omega)
       rw [hz] at W0
       refine W.loop ?_
       repeat (first | refine sq_ ?_ | refine bl_ ?_ | ((first | refine rg_ ?_ | refine go_ ?_); generalize e : goR _ _ _ _ _ _ _ _ = r; simp (disch := omega) [hX, htk, htn, hd, hd1] at e; replace e : some _ = _ := e; subst e; (try dsimp only [goW])) | refine ct_ rfl ?_ | refine cf_ rfl ?_ | refine sk_ ?_ | refine ex_ ?_ | (refine (zBf (46 :: t) [46] true (by simp)) _ ?_ _ fun n1 tyn1 hn1 hun1 => ⟨rfl, ?_⟩; exact fit_; (try dsimp only at hn1)) | (refine W0 _ ?_ _ fun n2 tyn2 hn2 hun2 => ⟨rfl, ?_⟩; exact fit_; (try dsimp only at hn2)))
       refine hk _ _ _ _ _ ?_ ?_
       · omega
       · exact zAb.le (by assumption) (by omega)
     · rw [tailF, if_pos rfl, if_neg hz] at hk
       obtain ⟨k, hkk⟩ : ∃ k, wordF t = k := ⟨_, rfl⟩
       have W0 := word_F t (by omega)
       rw [hkk] at W0 hz hk hw
       have hkn : ¬ ((k : Int) = 0) := by omega
       refine W.loop ?_
       repeat (first | refine sq_ ?_ | refine bl_ ?_ | ((first | refine rg_ ?_ | refine go_ ?_); generalize e : goR _ _ _ _ _ _ _ _ = r; simp (disch := omega) [hX, htk, htn, hd, hd1, hkn] at e; replace e : some _ = _ := e; subst e; (try dsimp only [goW])) | refine ct_ rfl ?_ | refine cf_ rfl ?_ | refine sk_ ?_ | refine ex_ ?_ | (refine (zBf (46 :: t) [46] true (by simp)) _ ?_ _ fun n1 tyn1 hn1 hun1 => ⟨rfl, ?_⟩; exact fit_; (try dsimp only at hn1)) | (refine W0 _ ?_ _ fun n2 tyn2 hn2 hun2 => ⟨rfl, ?_⟩; exact fit_; (try dsimp only at hn2)))
       show W tree.getF nameLoop (dropped true _ _) Q
       generalize e : dropped _ _ _ = r
       simp (disch := omega) [hX, htk, htn] at e
       subst e
       have hdk : t.drop k = s.drop (n + (1 + k)) := by rw [← hd1, List.drop_drop]; congr 1; omega
       rw [hdk] at hk
       refine ih (n + (1 + k)) (by omega) (by omega) _ _ _ _ ?_ ?_
       · exact ⟨hu.le (by (try dsimp only); omega), zAb.le (by assumption) (by (try dsimp only); omega)⟩
       · intro n' ty v5 v6 v7 h1 h2
         have := hk n' ty v5 v6 v7 (by (try dsimp only at h1); omega) h2
         rw [show n + (1 + k) + tailF (s.drop (n + (1 + k))) = n + (1 + k + tailF (s.drop (n + (1 + k)))) by omega]
         exact this
   · have hcb : (c == 46) = false := by simp [hc]
     rw [tailF, if_neg hc] at hk
     refine W.loop ?_
     repeat (first | refine sq_ ?_ | refine bl_ ?_ | ((first | refine rg_ ?_ | refine go_ ?_); generalize e : goR _ _ _ _ _ _ _ _ = r; simp (disch := omega) [hX, htk, htn, hd] at e; replace e : some _ = _ := e; subst e; (try dsimp only [goW])) | refine ct_ rfl ?_ | refine cf_ rfl ?_ | refine sk_ ?_ | refine ex_ ?_ | (refine (zBf (c :: t) [46] false (by simp [hc])) _ ?_ _ fun n1 tyn1 hn1 hun1 => ⟨rfl, ?_⟩; exact fit_; (try dsimp only at hn1)))
     refine hk _ _ _ _ _ ?_ ?_
     · omega
     · exact zAb.le (by assumption) (by omega)
theorem name_nil  : Pu tree.getF 34 [.str []] (.int .i64 0) := by
 intro h hf K hk
 obtain ⟨hu, hut, hX⟩ := fx4 hf
 refine Wc.mkG 34 c34 (by kernel_rfl) rfl ?_
 generalize e : zAa _ _ _ = r
 simp (disch := omega) [hX, c34] at e
 subst e
 repeat (first | refine sq_ ?_ | refine bl_ ?_ | ((first | refine rg_ ?_ | refine go_ ?_); generalize e : goR _ _ _ _ _ _ _ _ = r; simp (disch := omega) [hX, c34] at e; replace e : some _ = _ := e; subst e; (try dsimp only [goW])) | refine ct_ rfl ?_ | refine cf_ rfl ?_ | refine sk_ ?_ | refine ex_ ?_ | (refine W.loop ?_; try (generalize e : dropped _ _ _ = r; simp (disch := omega) [hX, c34] at e; subst e; try dsimp only)) | (refine (zBf ([]) [46] false (by simp)) _ ?_ _ fun n1 tyn1 hn1 hun1 => ⟨rfl, ?_⟩; exact fit_; (try dsimp only at hn1)) | (refine word_nil _ ?_ _ fun n2 tyn2 hn2 hun2 => ⟨rfl, ?_⟩; exact fit_; (try dsimp only at hn2)) | ((first | (refine W.ret ?_; (try simp only [zAl, zA3, zAf]); refine endW.of (.inl rfl) rfl ?_) | refine endW.of (.inr rfl) rfl ?_); generalize e : zAo _ _ _ = r; simp (disch := omega) [hX, c34] at e; subst e; (try dsimp only [goW]); (refine hk _ _ ?_ ?_; omega; exact ut_)))
theorem name_dot (t : List UInt8) (hl : t.length < 70000) : Pu tree.getF 34 [.str (46 :: t)] (.int .i64 (tailF (46 :: t) : Int)) := by
 intro h hf K hk
 obtain ⟨hu, hut, hX⟩ := fx4 hf
 have htk : (46 :: t).take (t.length + 1) = 46 :: t := List.take_of_length_le (by simp)
 have hw := wordF_le t
 have W0 := word_F t (by omega)
 by_cases hz : wordF t = 0
 · rw [tailF, if_pos rfl, if_pos hz] at hk
   rw [hz] at W0
   refine Wc.mkG 34 c34 (by kernel_rfl) rfl ?_
   generalize e : zAa _ _ _ = r
   simp (disch := omega) [hX, htk, c34] at e
   subst e
   repeat (first | refine sq_ ?_ | refine bl_ ?_ | ((first | refine rg_ ?_ | refine go_ ?_); generalize e : goR _ _ _ _ _ _ _ _ = r; simp (disch := omega) [hX, htk, c34] at e; replace e : some _ = _ := e; subst e; (try dsimp only [goW])) | refine ct_ rfl ?_ | refine cf_ rfl ?_ | refine sk_ ?_ | refine ex_ ?_ | (refine (zBf (46 :: t) [46] true (by simp)) _ ?_ _ fun n1 tyn1 hn1 hun1 => ⟨rfl, ?_⟩; exact fit_; (try dsimp only at hn1)) | (refine W0 _ ?_ _ fun n2 tyn2 hn2 hun2 => ⟨rfl, ?_⟩; exact fit_; (try dsimp only at hn2)) | ((first | (refine W.ret ?_; (try simp only [zAl, zA3, zAf]); refine endW.of (.inl rfl) rfl ?_) | refine endW.of (.inr rfl) rfl ?_); generalize e : zAo _ _ _ = r; simp (disch := omega) [hX, htk, c34] at e; subst e; (try dsimp only [goW]); (refine hk _ _ ?_ ?_; omega; exact ut_)))
 · rw [tailF, if_pos rfl, if_neg hz] at hk
   obtain ⟨k, hkk⟩ : ∃ k, wordF t = k := ⟨_, rfl⟩
   rw [hkk] at W0 hz hk hw
   have hkn : ¬ ((k : Int) = 0) := by omega
   push_cast at hk
   refine Wc.mkG 34 c34 (by kernel_rfl) rfl ?_
   generalize e : zAa _ _ _ = r
   simp (disch := omega) [hX, htk, c34] at e
   subst e
   repeat (first | refine sq_ ?_ | refine bl_ ?_ | ((first | refine rg_ ?_ | refine go_ ?_); generalize e : goR _ _ _ _ _ _ _ _ = r; simp (disch := omega) [hX, htk, hkn, c34] at e; replace e : some _ = _ := e; subst e; (try dsimp only [goW])) | refine ct_ rfl ?_ | refine cf_ rfl ?_ | refine sk_ ?_ | refine ex_ ?_ | (refine (zBf (46 :: t) [46] true (by simp)) _ ?_ _ fun n1 tyn1 hn1 hun1 => ⟨rfl, ?_⟩; exact fit_; (try dsimp only at hn1)) | (refine W0 _ ?_ _ fun n2 tyn2 hn2 hun2 => ⟨rfl, ?_⟩; exact fit_; (try dsimp only at hn2)))
   refine name_loop (46 :: t) (by simp; omega) _ _ _ _ _ (46 :: t).length (1 + k) (by simp) (by simp; omega) _ _ _ _ ?_ ?_
   · exact ⟨hu.le (by (try dsimp only); omega), zAb.le (by assumption) (by (try dsimp only); omega)⟩
   · intro n' ty v5 v6 v7 h1 h2
     try dsimp only at h1
     rw [show (46 :: t).drop (1 + k) = t.drop k by rw [Nat.add_comm]; rfl]
     exact wUD1
theorem name_plain (c : UInt8) (t : List UInt8) (hc : c ≠ 46) (hl : t.length < 70000) : Pu tree.getF 34 [.str (c :: t)] (.int .i64 (nameF (c :: t) : Int)) := by
 intro h hf K hk
 obtain ⟨hu, hut, hX⟩ := fx4 hf
 have htk : (c :: t).take (t.length + 1) = c :: t := List.take_of_length_le (by simp)
 have hw := wordF_le (c :: t)
 have W0 := word_F (c :: t) (by simp; omega)
 by_cases hz : wordF (c :: t) = 0
 · rw [nameF, if_neg hc, if_pos hz] at hk
   rw [hz] at W0
   refine Wc.mkG 34 c34 (by kernel_rfl) rfl ?_
   generalize e : zAa _ _ _ = r
   simp (disch := omega) [hX, htk, c34] at e
   subst e
   repeat (first | refine sq_ ?_ | refine bl_ ?_ | ((first | refine rg_ ?_ | refine go_ ?_); generalize e : goR _ _ _ _ _ _ _ _ = r; simp (disch := omega) [hX, htk, c34] at e; replace e : some _ = _ := e; subst e; (try dsimp only [goW])) | refine ct_ rfl ?_ | refine cf_ rfl ?_ | refine sk_ ?_ | refine ex_ ?_ | (refine (zBf (c :: t) [46] false (by simp [hc])) _ ?_ _ fun n1 tyn1 hn1 hun1 => ⟨rfl, ?_⟩; exact fit_; (try dsimp only at hn1)) | (refine W0 _ ?_ _ fun n2 tyn2 hn2 hun2 => ⟨rfl, ?_⟩; exact fit_; (try dsimp only at hn2)) | ((first | (refine W.ret ?_; (try simp only [zAl, zA3, zAf]); refine endW.of (.inl rfl) rfl ?_) | refine endW.of (.inr rfl) rfl ?_); generalize e : zAo _ _ _ = r; simp (disch := omega) [hX, htk, c34] at e; subst e; (try dsimp only [goW]); (refine hk _ _ ?_ ?_; omega; exact ut_)))
 · rw [nameF, if_neg hc, if_neg hz] at hk
   obtain ⟨k, hkk⟩ : ∃ k, wordF (c :: t) = k := ⟨_, rfl⟩
   rw [hkk] at W0 hz hk hw
   have hkn : ¬ ((k : Int) = 0) := by omega
   have hw2 : k ≤ t.length + 1 := by simpa using hw
   push_cast at hk
   refine Wc.mkG 34 c34 (by kernel_rfl) rfl ?_
   generalize e : zAa _ _ _ = r
   simp (disch := omega) [hX, htk, c34] at e
   subst e
   repeat (first | refine sq_ ?_ | refine bl_ ?_ | ((first | refine rg_ ?_ | refine go_ ?_); generalize e : goR _ _ _ _ _ _ _ _ = r; simp (disch := omega) [hX, htk, hkn, c34] at e; replace e : some _ = _ := e; subst e; (try dsimp only [goW])) | refine ct_ rfl ?_ | refine cf_ rfl ?_ | refine sk_ ?_ | refine ex_ ?_ | (refine (zBf (c :: t) [46] false (by simp [hc])) _ ?_ _ fun n1 tyn1 hn1 hun1 => ⟨rfl, ?_⟩; exact fit_; (try dsimp only at hn1)) | (refine W0 _ ?_ _ fun n2 tyn2 hn2 hun2 => ⟨rfl, ?_⟩; exact fit_; (try dsimp only at hn2)))
   refine name_loop (c :: t) (by simp; omega) _ _ _ _ _ (c :: t).length k (by simp) hw _ _ _ _ ?_ ?_
   · exact ⟨hu.le (by (try dsimp only); omega), zAb.le (by assumption) (by (try dsimp only); omega)⟩
   · intro n' ty v5 v6 v7 h1 h2
     try dsimp only at h1
     exact wUD1
theorem name_F (s : List UInt8) (hl : s.length < 70000) : Pu tree.getF 34 [.str s] (.int .i64 (nameF s : Int)) := by
 cases s with
 | nil => exact name_nil
 | cons c t =>
  by_cases hc : c = 46
  · subst hc; have := name_dot t (by simp at hl; omega); rw [nameF, if_pos rfl]; exact this
  · exact name_plain c t hc (by simp at hl; omega)
abbrev rdr (s : List UInt8) (a : Int) (l : CVal) (e to : Int) : CObj := .cells [.str s, .int .i64 a, l, .int .i64 e, .int .i64 to]
theorem idx_line : ∀ (s : List UInt8) (i : Nat), (zB5 s = [] ∧ idxFrom 10 s i = -1) ∨ (idxFrom 10 s i = ((i + (s.length - (zB5 s).length) : Nat) : Int) ∧ (zB5 s).length < s.length + 1 ∧ zB5 s ≠ [])
 | [], i => by simp [zB5, idxFrom]
 | c :: r, i => by
  have h1 := dropLine_le r
  unfold zB5 idxFrom
  by_cases hc : c = 10
  · subst hc; simp
  · have hb : (c == 10) = false := by simp [hc]
    rw [if_neg hc]
    simp only [hb, Bool.false_eq_true, if_false]
    rcases idx_line r (i + 1) with ⟨h2, h3⟩ | ⟨h2, h3, h4⟩
    · left; exact ⟨h2, by first | exact h3 | simpa [hc] using h3⟩
    · right
      refine ⟨?_, by simp; omega, h4⟩
      have : idxFrom 10 r (i + 1) = ((i + ((c :: r).length - (zB5 r).length) : Nat) : Int) := by rw [h2]; simp; omega
      first | exact this | simpa [hc] using this
theorem drop_line : ∀ (s : List UInt8), s.drop (s.length - (zB5 s).length) = zB5 s
 | [] => rfl
 | c :: r => by
  have h1 := dropLine_le r
  unfold zB5
  by_cases hc : c = 10
  · rw [if_pos hc]; simp
  · rw [if_neg hc, show (c :: r).length - (zB5 r).length = (r.length - (zB5 r).length) + 1 by simp; omega]
    simp only [List.drop_succ_cons]
    exact drop_line r
theorem idx_cmt : ∀ (s : List UInt8) (i : Nat), match dropCmt s with | none => idxSub [42, 47] s i = -1 | some u => idxSub [42, 47] s i = ((i + (s.length - u.length - 2) : Nat) : Int) ∧ s.drop (s.length - u.length) = u
 | [], i => by simp [dropCmt, idxSub]
 | [c], i => by
  by_cases hc : c = 42
  · subst hc; simp [dropCmt, idxSub, hasFront]
  · have hb : (c == 42) = false := by simp [hc]
    simp [dropCmt, idxSub, hasFront, hc]
 | c :: d :: r, i => by
  have ih := idx_cmt (d :: r) (i + 1)
  by_cases hc : c = 42
  · subst hc
    by_cases hd : d = 47
    · subst hd
      have : dropCmt (42 :: 47 :: r) = some r := by unfold dropCmt; simp
      rw [this]
      refine ⟨?_, ?_⟩
      · have e : idxSub [42, 47] (42 :: 47 :: r) i = (i : Int) := by unfold idxSub; simp [hasFront]
        rw [e]; simp; omega
      · rw [show (42 :: 47 :: r).length - r.length = 2 by simp; omega]; rfl
    · have e1 : dropCmt (42 :: d :: r) = dropCmt (d :: r) := by
       conv => lhs; unfold dropCmt
       simp [hd]
      have hb : (d == 47) = false := by simp [hd]
      have e2 : idxSub [42, 47] (42 :: d :: r) i = idxSub [42, 47] (d :: r) (i + 1) := by
          conv => lhs; unfold idxSub
          simp [hasFront, hd, hb]
      rw [e1, e2]
      cases hu : dropCmt (d :: r) with
      | none => rw [hu] at ih; exact ih
      | some u =>
       rw [hu] at ih
       have := dropCmt_lt hu
       refine ⟨?_, ?_⟩
       · rw [ih.1]; simp at this ⊢; omega
       · rw [show (42 :: d :: r).length - u.length = ((d :: r).length - u.length) + 1 by simp at this ⊢; omega, List.drop_succ_cons]; exact ih.2
  · have e1 : dropCmt (c :: d :: r) = dropCmt (d :: r) := by
     conv => lhs; unfold dropCmt
     simp [hc]
    have hb : (c == 42) = false := by simp [hc]
    have e2 : idxSub [42, 47] (c :: d :: r) i = idxSub [42, 47] (d :: r) (i + 1) := by
        conv => lhs; unfold idxSub
        simp [hasFront, hc, hb]
    rw [e1, e2]
    cases hu : dropCmt (d :: r) with
    | none => rw [hu] at ih; exact ih
    | some u =>
     rw [hu] at ih
     have := dropCmt_lt hu
     refine ⟨?_, ?_⟩
     · rw [ih.1]; simp at this ⊢; omega
     · rw [show (c :: d :: r).length - u.length = ((d :: r).length - u.length) + 1 by simp at this ⊢; omega, List.drop_succ_cons]; exact ih.2
theorem skipF_nil : skipF [] = ([], true) := by rw [skipF.eq_def]
theorem skipF_eq (c : UInt8) (r : List UInt8) : skipF (c :: r) = if Go.LexF.spacesB.contains c then skipF r else if c = 47 then (match r with
    | [] => (c :: r, true)
    | d :: r' => if d = 47 then skipF (zB5 r') else if d = 42 then (match dropCmt r' with
     | none => (c :: r, false)
     | some u => skipF u) else (c :: r, true)) else (c :: r, true) := by
 rw [skipF.eq_def]
 dsimp only
 split
 · rfl
 · split
   · cases r with
     | nil => rfl
     | cons d r' =>
      dsimp only
      split
      · rfl
      · split
        · split
          · rename_i h; rw [h]
          · rename_i h; rw [h]
        · rfl
   · rfl
theorem skipF_sp : ∀ (r : List UInt8), skipF r = skipF (bk Go.LexF.spacesB r)
 | [] => rfl
 | c :: r => by
  by_cases h : Go.LexF.spacesB.contains c = true
  · have e : bk Go.LexF.spacesB (c :: r) = bk Go.LexF.spacesB r := by unfold bk; rw [List.dropWhile_cons, if_pos h]
    rw [e, ← skipF_sp r, skipF_eq, if_pos h]
  · have e : bk Go.LexF.spacesB (c :: r) = c :: r := by unfold bk; rw [List.dropWhile_cons, if_neg h]
    rw [e]
theorem skipF_le : ∀ (m : Nat) (s : List UInt8), s.length ≤ m → (skipF s).1.length ≤ s.length
 | _, [], _ => by rw [skipF_nil]; exact Nat.le_refl _
 | 0, c :: r, h => by simp at h
 | m + 1, c :: r, h => by
  rw [skipF_eq]
  simp only [List.length_cons] at h
  split
  · have := skipF_le m r (by omega); simp; omega
  · split
    · cases r with
      | nil => simp
      | cons d r' =>
       simp only [List.length_cons] at h
       dsimp only
       split
       · have h1 := dropLine_le r'; have := skipF_le m (zB5 r') (by omega); simp; omega
       · split
         · split
           · simp
           · rename_i u hd; have h1 := dropCmt_lt hd; have := skipF_le m u (by omega); simp; omega
         · simp
    · simp
theorem indexb_F (s : List UInt8) (hl : s.length < 100000) : Pu tree.getF 32 [.str s, .int .u8 10] (.int .i64 (idxFrom 10 s 0)) := by
 intro h hf K hk
 obtain ⟨hu, hut, hX⟩ := fx4 hf
 refine Wc.mkG 32 c32 (by kernel_rfl) rfl ?_
 generalize e : zAa _ _ _ = r
 simp (disch := omega) [hX, c32] at e
 subst e
 repeat (first | refine sq_ ?_ | refine bl_ ?_ | ((first | refine rg_ ?_ | refine go_ ?_); generalize e : goR _ _ _ _ _ _ _ _ = r; simp (disch := omega) [hX, c47, c32] at e; replace e : some _ = _ := e; subst e; (try dsimp only [goW])) | refine ct_ rfl ?_ | refine cf_ rfl ?_ | refine sk_ ?_ | refine ex_ ?_ | (refine W.loop ?_; try (generalize e : dropped _ _ _ = r; simp (disch := omega) [hX, c47, c32] at e; subst e; try dsimp only)) | (refine Wc.mkG 47 c47 (by kernel_rfl) rfl ?_; generalize e : zAa _ _ _ = r; simp (disch := omega) [hX, c47, c32] at e; subst e) | (refine Wc.primM (f := 66) (p := zBi) (by kernel_rfl) ?_; generalize e : zBi _ _ = r; simp (disch := omega) [hX, c47, c32] at e; subst e; (try dsimp only); refine ⟨rfl, ?_⟩) | ((first | (refine W.ret ?_; (try simp only [zAl, zA3, zAf]); refine endW.of (.inl rfl) rfl ?_) | refine endW.of (.inr rfl) rfl ?_); generalize e : zAo _ _ _ = r; simp (disch := omega) [hX, c47, c32] at e; subst e; (try dsimp only [goW]); (first | refine ⟨rfl, ?_⟩ | (refine hk _ _ ?_ ?_; omega; exact ut_))))
theorem index_F (s p : List UInt8) (hl : s.length < 100000) : Pu tree.getF 30 [.str s, .str p] (.int .i64 (idxSub p s 0)) :=
 pu_of fun h hu K hk => index_spec s p (by omega) h hu K hk
abbrev skipLoop : CCode := (.loop true (.seq (.seq (.region [.v 0, .n 0, .f 3 0, .l 0, .g (.bin .eql (.loc 0) (.const (.int .i64 0)))] [(1, 4)] [] []) (.cond (.var 1) .skip (.exit 0))) (.block 1 (.seq (.region [.v 0, .n 0, .f 1 0, .l 0, .v 0, .n 0, .f 0 0, .l 0, .v 0, .n 0, .f 1 0, .l 0, .g (.slc 0 (.loc 4) (some (.loc 0)) none), .g (.call false 31 [(.loc 0), (.const (.str [9, 10, 11, 12, 13, 32]))]), .g (.bin .add (.loc 10) (.loc 0)), .n 14, .f 1 0, .g (.store 1 (.loc 0) (.loc 2))] [] [(3, 0, 1)] []) (.seq (.region [.v 0, .n 0, .f 0 0, .l 0, .v 0, .n 0, .f 1 0, .l 0, .g (.slc 0 (.loc 4) (some (.loc 0)) none), .m (.loc 0)] [(2, 9)] [] []) (.block 2 (.seq (.region [.v 2, .g (.call false 25 [(.loc 0), (.const (.str [47, 47]))]), .m (.loc 0)] [(3, 2)] [] []) (.cond (.var 3) (.seq (.region [.v 2, .g (.call false 32 [(.loc 0), (.const (.int .u8 10))]), .m (.loc 0)] [(4, 2)] [] []) (.seq (.seq (.region [.v 4, .g (.bin .lss (.loc 0) (.const (.int .i64 0)))] [(5, 1)] [] []) (.cond (.var 5) (.region [.v 2, .g (.len true (.loc 0)), .m (.loc 0)] [(4, 2)] [] []) .skip)) (.region [.v 0, .n 0, .f 1 0, .l 0, .v 4, .g (.bin .add (.loc 1) (.loc 0)), .n 5, .f 1 0, .g (.store 1 (.loc 0) (.loc 2))] [] [] []))) (.seq (.region [.v 2, .g (.call false 25 [(.loc 0), (.const (.str [47, 42]))]), .m (.loc 0)] [(6, 2)] [] []) (.cond (.var 6) (.seq (.region [.v 2, .g (.slc 0 (.loc 0) (some (.const (.int .i64 2))) none), .g (.call false 30 [(.loc 0), (.const (.str [42, 47]))]), .m (.loc 0)] [(7, 3)] [] []) (.seq (.region [.v 0, .v 7, .g (.bin .lss (.loc 0) (.const (.int .i64 0))), .v 0, .n 0, .f 1 0, .l 0, .g (.call false 33 [(.loc 6), (.loc 4), (.const (.int .i64 2)), (.loc 0)])] [] [] []) (.region [.v 0, .n 0, .f 1 0, .l 0, .v 7, .g (.bin .add (.loc 0) (.const (.int .i64 4))), .g (.bin .add (.loc 2) (.loc 0)), .n 6, .f 1 0, .g (.store 1 (.loc 0) (.loc 2))] [] [] []))) .ret))))))))))
theorem skip_loop (s : List UInt8) (hs : s.length < 60000) (p d : Nat) (L : CVal) (hL : L.whole = true) (hLc : L.cells.length = 1) (to : Int) (Q : CExit → CSt → Prop) : ∀ (m : Nat) (r : List UInt8) (a : Nat), r.length ≤ m → s.drop a = r → a + r.length = s.length → ∀ (h : CHeap) (v1 v2 v3 v4 v5 v6 v7 : CVal), zA2 h.ents p = some (rdr s a L 0 to) → Fit h → p < h.next →
    (∀ n' ty v1 v2 v3 v4 v5 v6 v7, h.next ≤ n' → zAb ty n' → (skipF r).2 = true → Q .ret ⟨[.ptr p d 0, v1, v2, v3, v4, v5, v6, v7], ⟨zA0 h.ents p (rdr s ((s.length - (skipF r).1.length : Nat) : Int) L 0 to), n', ty⟩, []⟩) →
    (∀ n' ty v1 v2 v3 v4 v5 v6 v7, h.next ≤ n' → zAb ty n' → (skipF r).2 = false → Q (.exit 0) ⟨[.ptr p d 0, v1, v2, v3, v4, v5, v6, v7], ⟨zA0 h.ents p (rdr s (((s.length - (skipF r).1.length : Nat) : Int) + 3) L 2 ((s.length - (skipF r).1.length : Nat) : Int)), n', ty⟩, []⟩) →
    W tree.getF skipLoop ⟨[.ptr p d 0, v1, v2, v3, v4, v5, v6, v7], h, []⟩ Q := by
 intro m
 induction m with
 | zero =>
  intro r a hm hda hlen h v1 v2 v3 v4 v5 v6 v7 hg hf hp hk1 hk2
  obtain rfl : r = [] := List.length_eq_zero_iff.1 (by omega)
  rw [skipF_nil] at hk1
  have hpos : s.length - ([] : List UInt8).length = a := by simp at hlen ⊢; omega
  dsimp only at hk1
  rw [hpos] at hk1
  have htk : s.take s.length = s := List.take_length
  have hto : (a : Int).toNat = a := by omega
  have F0 := front_spaces [] (by simp)
  rw [show (fr Go.LexF.spacesB []).length = 0 by rfl] at F0
  obtain ⟨hu, hut, hX⟩ := fx4 hf; have ⟨hD, hC, hN, hT⟩ := hX
  have hY := fx5 hf hg; have ⟨hG, hD2, hC2, hN2⟩ := hY
  refine W.loop ?_
  repeat (first | refine sq_ ?_ | refine bl_ ?_ | ((first | refine rg_ ?_ | refine go_ ?_); generalize e : goR _ _ _ _ _ _ _ _ = r; simp (disch := omega) [hX, hg, hY, htk, hda, hto, hL, hLc, c33] at e; replace e : some _ = _ := e; subst e; (try dsimp only [goW])) | refine ct_ rfl ?_ | refine cf_ rfl ?_ | refine sk_ ?_ | refine ex_ ?_ | (refine F0 _ ?_ _ fun n1 tyn1 hn1 hun1 => ⟨rfl, ?_⟩; exact fit_; (try dsimp only at hn1)) | (refine zBf [] [47, 47] false ?_ _ ?_ _ fun n2 tyn2 hn2 hun2 => ⟨rfl, ?_⟩; (focus ((simp); done)); exact fit_; (try dsimp only at hn2)) | (refine zBf [] [47, 42] false ?_ _ ?_ _ fun n3 tyn3 hn3 hun3 => ⟨rfl, ?_⟩; (focus ((simp); done)); exact fit_; (try dsimp only at hn3)) | (refine W.ret ?_; (try simp only [zAl, zA3, zAf]); refine hk1 _ _ _ _ _ _ _ _ _ ?_ ?_ ?_; omega; exact ut_; rfl) | (refine Wc.mkG 33 c33 (by kernel_rfl) rfl ?_; generalize e : zAa _ _ _ = r; simp (disch := omega) [hX, hg, hY, htk, hda, hto, hL, hLc, c33] at e; subst e) | ((first | (refine W.ret ?_; (try simp only [zAl, zA3, zAf]); refine endW.of (.inl rfl) rfl ?_) | refine endW.of (.inr rfl) rfl ?_); generalize e : zAo _ _ _ = r; simp (disch := omega) [hX, hg, hY, htk, hda, hto, hL, hLc, c33] at e; subst e; (try dsimp only [goW]); refine ⟨rfl, ?_⟩))
 | succ m ih =>
  intro r a hm hda hlen h v1 v2 v3 v4 v5 v6 v7 hg hf hp hk1 hk2
  have htk : s.take s.length = s := List.take_length
  have hle := fr_len Go.LexF.spacesB r
  have hdr := drop_fr Go.LexF.spacesB r
  obtain ⟨k, hk0⟩ : ∃ k, (fr Go.LexF.spacesB r).length = k := ⟨_, rfl⟩
  obtain ⟨q, hq⟩ : ∃ q, bk Go.LexF.spacesB r = q := ⟨_, rfl⟩
  have F0 := front_spaces r (by omega)
  rw [hk0] at F0 hle hdr
  rw [hq] at hle hdr
  rw [skipF_sp, hq] at hk1 hk2
  have hdk : s.drop (a + k) = q := by rw [← hdr, ← hda, List.drop_drop]
  have hto : ((a : Int) + (k : Int)).toNat = a + k := by omega
  have hpos : s.length - q.length = a + k := by omega
  have htq : q.take q.length = q := List.take_length
  obtain ⟨hu, hut, hX⟩ := fx4 hf; have ⟨hD, hC, hN, hT⟩ := hX
  have hY := fx5 hf hg; have ⟨hG, hD2, hC2, hN2⟩ := hY
  by_cases hS : (decide (2 ≤ q.length) && (q.take 2 == [47, 47])) = true
  · obtain ⟨t, hqq⟩ : ∃ t, q = 47 :: 47 :: t := by
     simp only [Bool.and_eq_true, decide_eq_true_eq, beq_iff_eq] at hS
     exact ⟨q.drop 2, by have := List.take_append_drop 2 q; rw [hS.2] at this; exact this.symm⟩
    have hsk : skipF q = skipF (zB5 q) := by
     rw [hqq]
     have e1 : zB5 (47 :: 47 :: t) = zB5 t := rfl
     rw [e1]
     conv => lhs; rw [skipF_eq]
     rw [if_neg (by decide), if_pos rfl]
     rfl
    rw [hsk] at hk1 hk2
    have hdl := drop_line q
    have hdle := dropLine_le q
    have I0 := indexb_F q (by omega)
    obtain ⟨n, hn⟩ : ∃ n, q.length - (zB5 q).length = n := ⟨_, rfl⟩
    have hdn : s.drop (a + (k + n)) = zB5 q := by
     rw [hn] at hdl
     rw [← hdl, ← hdk, List.drop_drop]; congr 1; omega
    have hcont : ∀ (h' : CHeap) (w1 w2 w3 w4 w5 w6 w7 : CVal), h'.ents = zA0 h.ents p (rdr s ((a : Int) + ((k : Int) + (n : Int))) L 0 to) → h.next ≤ h'.next → zAb h'.tys h'.next → W tree.getF skipLoop ⟨[.ptr p d 0, w1, w2, w3, w4, w5, w6, w7], h', []⟩ Q := by
     intro h' w1 w2 w3 w4 w5 w6 w7 e1 e2 e3
     have e4 : ((a : Int) + ((k : Int) + (n : Int))) = ((a + (k + n) : Nat) : Int) := by omega
     rw [e4] at e1
     have hlt2 : (zB5 q).length < r.length := by
      have h1 := dropLine_le t
      have h2 : zB5 q = zB5 t := by rw [hqq]; rfl
      have h3 : q.length = t.length + 2 := by rw [hqq]; rfl
      rw [h2]; omega
     refine ih (zB5 q) (a + (k + n)) (by omega) hdn (by omega) h' _ _ _ _ _ _ _ (by rw [e1]; exact hG _) ⟨by rw [e1]; exact hu.set.le e2, e3⟩ (by omega) ?_ ?_
     · intro n' ty u1 u2 u3 u4 u5 u6 u7 g1 g2 g3
       rw [e1, zAj]
       exact hk1 n' ty u1 u2 u3 u4 u5 u6 u7 (by omega) g2 g3
     · intro n' ty u1 u2 u3 u4 u5 u6 u7 g1 g2 g3
       rw [e1, zAj]
       exact hk2 n' ty u1 u2 u3 u4 u5 u6 u7 (by omega) g2 g3
    rcases idx_line q 0 with ⟨h1, h2⟩ | ⟨h1, h2, h3⟩
    · rw [h2] at I0
      have hnq : q.length = n := by rw [← hn, h1]; simp
      refine W.loop ?_
      repeat (first | refine sq_ ?_ | refine bl_ ?_ | ((first | refine rg_ ?_ | refine go_ ?_); generalize e : goR _ _ _ _ _ _ _ _ = r; simp (disch := omega) [hX, hg, hY, htk, hda, hto, hL, hLc, hdk, htq, hnq, c33] at e; replace e : some _ = _ := e; subst e; (try dsimp only [goW])) | refine ct_ rfl ?_ | refine cf_ rfl ?_ | refine sk_ ?_ | refine ex_ ?_ | (refine F0 _ ?_ _ fun n1 tyn1 hn1 hun1 => ⟨rfl, ?_⟩; exact fit_; (try dsimp only at hn1)) | (refine zBf q [47, 47] true ?_ _ ?_ _ fun n2 tyn2 hn2 hun2 => ⟨rfl, ?_⟩; (focus ((exact hS); done)); exact fit_; (try dsimp only at hn2)) | (refine I0 _ ?_ _ fun n3 tyn3 hn3 hun3 => ⟨rfl, ?_⟩; exact fit_; (try dsimp only at hn3)) | (refine Wc.mkG 33 c33 (by kernel_rfl) rfl ?_; generalize e : zAa _ _ _ = r; simp (disch := omega) [hX, hg, hY, htk, hda, hto, hL, hLc, hdk, htq, hnq, c33] at e; subst e) | ((first | (refine W.ret ?_; (try simp only [zAl, zA3, zAf]); refine endW.of (.inl rfl) rfl ?_) | refine endW.of (.inr rfl) rfl ?_); generalize e : zAo _ _ _ = r; simp (disch := omega) [hX, hg, hY, htk, hda, hto, hL, hLc, hdk, htq, hnq, c33] at e; subst e; (try dsimp only [goW]); refine ⟨rfl, ?_⟩))
      show W tree.getF skipLoop (dropped true _ _) Q
      generalize e : dropped _ _ _ = r
      simp (disch := omega) [hX, hg, hY, htk, hda, hto, hL, hLc, hdk, htq] at e
      subst e
      refine hcont _ _ _ _ _ _ _ _ ?_ ?_ ?_
      · (try dsimp only); simp [Int.add_assoc]
      · (try dsimp only); omega
      · exact zAb.le (by assumption) (by (try dsimp only); omega)
    · rw [h1, show 0 + (q.length - (zB5 q).length) = n by omega] at I0
      refine W.loop ?_
      repeat (first | refine sq_ ?_ | refine bl_ ?_ | ((first | refine rg_ ?_ | refine go_ ?_); generalize e : goR _ _ _ _ _ _ _ _ = r; simp (disch := omega) [hX, hg, hY, htk, hda, hto, hL, hLc, hdk, htq, c33] at e; replace e : some _ = _ := e; subst e; (try dsimp only [goW])) | refine ct_ rfl ?_ | refine cf_ rfl ?_ | refine sk_ ?_ | refine ex_ ?_ | (refine F0 _ ?_ _ fun n1 tyn1 hn1 hun1 => ⟨rfl, ?_⟩; exact fit_; (try dsimp only at hn1)) | (refine zBf q [47, 47] true ?_ _ ?_ _ fun n2 tyn2 hn2 hun2 => ⟨rfl, ?_⟩; (focus ((exact hS); done)); exact fit_; (try dsimp only at hn2)) | (refine I0 _ ?_ _ fun n3 tyn3 hn3 hun3 => ⟨rfl, ?_⟩; exact fit_; (try dsimp only at hn3)) | (refine Wc.mkG 33 c33 (by kernel_rfl) rfl ?_; generalize e : zAa _ _ _ = r; simp (disch := omega) [hX, hg, hY, htk, hda, hto, hL, hLc, hdk, htq, c33] at e; subst e) | ((first | (refine W.ret ?_; (try simp only [zAl, zA3, zAf]); refine endW.of (.inl rfl) rfl ?_) | refine endW.of (.inr rfl) rfl ?_); generalize e : zAo _ _ _ = r; simp (disch := omega) [hX, hg, hY, htk, hda, hto, hL, hLc, hdk, htq, c33] at e; subst e; (try dsimp only [goW]); refine ⟨rfl, ?_⟩))
      show W tree.getF skipLoop (dropped true _ _) Q
      generalize e : dropped _ _ _ = r
      simp (disch := omega) [hX, hg, hY, htk, hda, hto, hL, hLc, hdk, htq] at e
      subst e
      refine hcont _ _ _ _ _ _ _ _ ?_ ?_ ?_
      · (try dsimp only); simp [Int.add_assoc]
      · (try dsimp only); omega
      · exact zAb.le (by assumption) (by (try dsimp only); omega)
  · have hS1 : (decide (2 ≤ q.length) && (q.take 2 == [47, 47])) = false := by simpa using hS
    by_cases hC : (decide (2 ≤ q.length) && (q.take 2 == [47, 42])) = true
    · obtain ⟨t, hqq⟩ : ∃ t, q = 47 :: 42 :: t := by
       simp only [Bool.and_eq_true, decide_eq_true_eq, beq_iff_eq] at hC
       exact ⟨q.drop 2, by have := List.take_append_drop 2 q; rw [hC.2] at this; exact this.symm⟩
      have hq2 : q.drop 2 = t := by rw [hqq]; rfl
      have hlq : q.length = t.length + 2 := by rw [hqq]; rfl
      have hsk : skipF q = match dropCmt t with | none => (q, false) | some u => skipF u := by
       rw [hqq, skipF_eq, if_neg (by decide), if_pos rfl]; rfl
      rw [hsk] at hk1 hk2
      have I0 := index_F t [42, 47] (by omega)
      have hI := idx_cmt t 0
      cases hd : dropCmt t with
      | none =>
       rw [hd] at hI hk2
       dsimp only at hI hk2
       rw [hI] at I0
       rw [hpos] at hk2
       push_cast at hk2
       refine W.loop ?_
       repeat (first | refine sq_ ?_ | refine bl_ ?_ | ((first | refine rg_ ?_ | refine go_ ?_); generalize e : goR _ _ _ _ _ _ _ _ = r; simp (disch := omega) [hX, hg, hY, htk, hda, hto, hL, hLc, hdk, htq, hq2, c33] at e; replace e : some _ = _ := e; subst e; (try dsimp only [goW])) | refine ct_ rfl ?_ | refine cf_ rfl ?_ | refine sk_ ?_ | refine ex_ ?_ | (refine W.loop ?_; try (generalize e : dropped _ _ _ = r; simp (disch := omega) [hX, hg, hY, htk, hda, hto, hL, hLc, hdk, htq, hq2, c33] at e; subst e; try dsimp only)) | (refine F0 _ ?_ _ fun n1 tyn1 hn1 hun1 => ⟨rfl, ?_⟩; exact fit_; (try dsimp only at hn1)) | (refine zBf q [47, 47] false ?_ _ ?_ _ fun n2 tyn2 hn2 hun2 => ⟨rfl, ?_⟩; (focus ((exact hS1); done)); exact fit_; (try dsimp only at hn2)) | (refine zBf q [47, 42] true ?_ _ ?_ _ fun n3 tyn3 hn3 hun3 => ⟨rfl, ?_⟩; (focus ((exact hC); done)); exact fit_; (try dsimp only at hn3)) | (refine I0 _ ?_ _ fun n4 tyn4 hn4 hun4 => ⟨rfl, ?_⟩; exact fit_; (try dsimp only at hn4)) | (refine hk2 _ _ _ _ _ _ _ _ _ ?_ ?_ ?_; omega; exact ut_; rfl) | (refine Wc.mkG 33 c33 (by kernel_rfl) rfl ?_; generalize e : zAa _ _ _ = r; simp (disch := omega) [hX, hg, hY, htk, hda, hto, hL, hLc, hdk, htq, hq2, c33] at e; subst e) | ((first | (refine W.ret ?_; (try simp only [zAl, zA3, zAf]); refine endW.of (.inl rfl) rfl ?_) | refine endW.of (.inr rfl) rfl ?_); generalize e : zAo _ _ _ = r; simp (disch := omega) [hX, hg, hY, htk, hda, hto, hL, hLc, hdk, htq, hq2, c33] at e; subst e; (try dsimp only [goW]); refine ⟨rfl, ?_⟩))
      | some u =>
       rw [hd] at hI hk1 hk2
       dsimp only at hI hk1 hk2
       have hul := dropCmt_lt hd
       obtain ⟨n, hn⟩ : ∃ n, 0 + (t.length - u.length - 2) = n := ⟨_, rfl⟩
       rw [hI.1, hn] at I0
       have hnn : ¬ (n : Int) < 0 := by omega
       have hdn : s.drop (a + (k + (n + 4))) = u := by
        have h1 := hI.2
        have h2 : s.drop (a + (k + 2)) = t := by rw [← hq2, ← hdk, List.drop_drop]; congr 1
        rw [← h1, ← h2, List.drop_drop]; congr 1
        rw [List.length_drop]; omega
       have hcont : ∀ (h' : CHeap) (w1 w2 w3 w4 w5 w6 w7 : CVal), h'.ents = zA0 h.ents p (rdr s ((a : Int) + ((k : Int) + ((n : Int) + 4))) L 0 to) → h.next ≤ h'.next → zAb h'.tys h'.next → W tree.getF skipLoop ⟨[.ptr p d 0, w1, w2, w3, w4, w5, w6, w7], h', []⟩ Q := by
        intro h' w1 w2 w3 w4 w5 w6 w7 e1 e2 e3
        have e4 : ((a : Int) + ((k : Int) + ((n : Int) + 4))) = ((a + (k + (n + 4)) : Nat) : Int) := by omega
        rw [e4] at e1
        refine ih u (a + (k + (n + 4))) (by omega) hdn (by omega) h' _ _ _ _ _ _ _ (by rw [e1]; exact hG _) ⟨by rw [e1]; exact hu.set.le e2, e3⟩ (by omega) ?_ ?_
        · intro n' ty u1 u2 u3 u4 u5 u6 u7 g1 g2 g3
          rw [e1, zAj]
          exact hk1 n' ty u1 u2 u3 u4 u5 u6 u7 (by omega) g2 g3
        · intro n' ty u1 u2 u3 u4 u5 u6 u7 g1 g2 g3
          rw [e1, zAj]
          exact hk2 n' ty u1 u2 u3 u4 u5 u6 u7 (by omega) g2 g3
       refine W.loop ?_
       repeat (first | refine sq_ ?_ | refine bl_ ?_ | ((first | refine rg_ ?_ | refine go_ ?_); generalize e : goR _ _ _ _ _ _ _ _ = r; simp (disch := omega) [hX, hg, hY, htk, hda, hto, hL, hLc, hdk, htq, hq2, hnn, c33] at e; replace e : some _ = _ := e; subst e; (try dsimp only [goW])) | refine ct_ rfl ?_ | refine cf_ rfl ?_ | refine sk_ ?_ | refine ex_ ?_ | (refine F0 _ ?_ _ fun n1 tyn1 hn1 hun1 => ⟨rfl, ?_⟩; exact fit_; (try dsimp only at hn1)) | (refine zBf q [47, 47] false ?_ _ ?_ _ fun n2 tyn2 hn2 hun2 => ⟨rfl, ?_⟩; (focus ((exact hS1); done)); exact fit_; (try dsimp only at hn2)) | (refine zBf q [47, 42] true ?_ _ ?_ _ fun n3 tyn3 hn3 hun3 => ⟨rfl, ?_⟩; (focus ((exact hC); done)); exact fit_; (try dsimp only at hn3)) | (refine I0 _ ?_ _ fun n4 tyn4 hn4 hun4 => ⟨rfl, ?_⟩; exact fit_; (try dsimp only at hn4)) | (refine Wc.mkG 33 c33 (by kernel_rfl) rfl ?_; generalize e : zAa _ _ _ = r; simp (disch := omega) [hX, hg, hY, htk, hda, hto, hL, hLc, hdk, htq, hq2, hnn, c33] at e; subst e) | ((first | (refine W.ret ?_; (try simp only [zAl, zA3, zAf]); refine endW.of (.inl rfl) rfl ?_) | refine endW.of (.inr rfl) rfl ?_); generalize e : zAo _ _ _ = r; simp (disch := omega) [hX, hg, hY, htk, hda, hto, hL, hLc, hdk, htq, hq2, hnn, c33] at e; subst e; (try dsimp only [goW]); refine ⟨rfl, ?_⟩))
       show W tree.getF skipLoop (dropped true _ _) Q
       generalize e : dropped _ _ _ = r
       simp (disch := omega) [hX, hg, hY, htk, hda, hto, hL, hLc, hdk, htq] at e
       subst e
       refine hcont _ _ _ _ _ _ _ _ ?_ ?_ ?_
       · (try dsimp only); simp [Int.add_assoc]
       · (try dsimp only); omega
       · exact zAb.le (by assumption) (by (try dsimp only); omega)
    · have hC1 : (decide (2 ≤ q.length) && (q.take 2 == [47, 42])) = false := by simpa using hC
      have hsk : skipF q = (q, true) := by
       cases hqc : q with
       | nil => exact skipF_nil
       | cons c t =>
        rw [skipF_eq, if_neg (by have := bk_head (hq.trans hqc); rw [this]; decide)]
        split
        · rename_i hc
          cases t with
          | nil => rfl
          | cons d t' =>
           dsimp only
           rw [hqc, hc] at hS hC
           rw [if_neg (fun e => hS (by rw [e]; simp)), if_neg (fun e => hC (by rw [e]; simp))]
        · rfl
      rw [hsk] at hk1
      dsimp only at hk1
      rw [hpos] at hk1
      push_cast at hk1
      refine W.loop ?_
      repeat (first | refine sq_ ?_ | refine bl_ ?_ | ((first | refine rg_ ?_ | refine go_ ?_); generalize e : goR _ _ _ _ _ _ _ _ = r; simp (disch := omega) [hX, hg, hY, htk, hda, hto, hL, hLc, hdk, htq, c33] at e; replace e : some _ = _ := e; subst e; (try dsimp only [goW])) | refine ct_ rfl ?_ | refine cf_ rfl ?_ | refine sk_ ?_ | refine ex_ ?_ | (refine F0 _ ?_ _ fun n1 tyn1 hn1 hun1 => ⟨rfl, ?_⟩; exact fit_; (try dsimp only at hn1)) | (refine zBf q [47, 47] false ?_ _ ?_ _ fun n2 tyn2 hn2 hun2 => ⟨rfl, ?_⟩; (focus ((exact hS1); done)); exact fit_; (try dsimp only at hn2)) | (refine zBf q [47, 42] false ?_ _ ?_ _ fun n3 tyn3 hn3 hun3 => ⟨rfl, ?_⟩; (focus ((exact hC1); done)); exact fit_; (try dsimp only at hn3)) | (refine W.ret ?_; (try simp only [zAl, zA3, zAf]); refine hk1 _ _ _ _ _ _ _ _ _ ?_ ?_ ?_; omega; exact ut_; rfl) | (refine Wc.mkG 33 c33 (by kernel_rfl) rfl ?_; generalize e : zAa _ _ _ = r; simp (disch := omega) [hX, hg, hY, htk, hda, hto, hL, hLc, hdk, htq, c33] at e; subst e) | ((first | (refine W.ret ?_; (try simp only [zAl, zA3, zAf]); refine endW.of (.inl rfl) rfl ?_) | refine endW.of (.inr rfl) rfl ?_); generalize e : zAo _ _ _ = r; simp (disch := omega) [hX, hg, hY, htk, hda, hto, hL, hLc, hdk, htq, c33] at e; subst e; (try dsimp only [goW]); refine ⟨rfl, ?_⟩))
end Go.Proofs.YtjecpdnjpggcoaaGreatDoor.IrM
