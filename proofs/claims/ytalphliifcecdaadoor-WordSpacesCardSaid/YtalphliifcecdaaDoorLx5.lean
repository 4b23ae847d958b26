/- What the functions of the law 'WordSpaces' do: part 5 of 6. -/
import Derived.Test.YtalphliifcecdaaDoorLx4
namespace Go.Proofs.YtalphliifcecdaaDoor.IrS
open Go Go.CI
open Go.LexF hiding spacesB lettersB
set_option maxRecDepth 100000
set_option linter.unusedVariables false
set_option linter.unusedSimpArgs false
/-- A byte at which words break off. -/
def brk (c : UInt8) : Bool := !(namesB ++ [46]).contains c
def Brk (R : List UInt8) : Prop := ∀ c r, R = c :: r → brk c = true
structure TokOk (x : List UInt8) (k : Nat) (tx : List UInt8) (n : Nat) (fr : Bool) : Prop where
  ne : x ≠ []
  w : ∀ R, fr = true ∨ Brk R → wordW validF (x ++ R) = .tok k tx n x.length
  s : ∀ R, skipF (x ++ R) = (x ++ R, true)
  kk : k ≤ 4
def GapOk (g : List UInt8) : Prop := ∀ T, skipF (g ++ T) = skipF T
/-- A word and what stands behind it. -/
structure Cel where
  x : List UInt8
  k : Nat
  tx : List UInt8
  n : Nat
  g : List UInt8
  fr : Bool
def rnd : List Cel → List UInt8
  | [] => []
  | p :: r => p.x ++ (p.g ++ rnd r)
def WF : List Cel → Prop
  | [] => True
  | p :: r => TokOk p.x p.k p.tx p.n p.fr ∧ GapOk p.g ∧ (p.fr = true ∨ Brk (p.g ++ rnd r)) ∧ WF r
def toks : Nat → List Cel → List Tok
  | _, [] => []
  | a, p :: r => (p.k, p.tx, p.n, a) :: toks (a + (p.x.length + p.g.length)) r
theorem skip_rnd : ∀ ps, WF ps → skipF (rnd ps) = (rnd ps, true)
  | [], _ => skipF_nil
  | p :: r, h => h.1.s _
theorem lex_cells : ∀ (ps : List Cel), WF ps → ∀ (total a m : Nat), total = a + (rnd ps).length → (rnd ps).length < m → lexW total m (rnd ps) = .ok (toks a ps)
  | [], _, total, a, m, _, _ => by cases m <;> rfl
  | p :: r, h, total, a, m, ht, hm => by
    obtain ⟨h1, h2, h3, h4⟩ := h
    cases m with
    | zero => omega
    | succ m =>
      have hs := skip_rnd r h4
      have hw := h1.w _ h3
      have hne := h1.ne
      have hlen : (rnd (p :: r)).length = p.x.length + (p.g.length + (rnd r).length) := by simp [rnd]
      have ih := lex_cells r h4 total (a + (p.x.length + p.g.length)) m (by omega) (by
        have : 1 ≤ p.x.length := by cases hx : p.x with
          | nil => exact absurd hx hne
          | cons c u => simp
        omega)
      have hg := h2 (rnd r)
      have hd : (p.x ++ (p.g ++ rnd r)).drop p.x.length = p.g ++ rnd r := List.drop_left
      show lexW total (m + 1) (p.x ++ (p.g ++ rnd r)) = _
      have htl : total - (p.x ++ (p.g ++ rnd r)).length = a := by
        have : (p.x ++ (p.g ++ rnd r)).length = (rnd (p :: r)).length := rfl
        omega
      cases hx : p.x ++ (p.g ++ rnd r) with
      | nil => exact absurd (List.append_eq_nil_iff.1 hx).1 hne
      | cons c u =>
        rw [hx] at hw hd htl
        simp only [lexW, hw]
        rw [hd, hg, hs]
        dsimp only
        rw [ih, htl]
        rfl
theorem lexF_cells (ps : List Cel) (h : WF ps) (hl : (rnd ps).length ≤ 3000) : lexF (rnd ps) = .ok (toks 0 ps ++ [(5, [], 0, (rnd ps).length)]) := by
  unfold lexF
  rw [if_neg (by omega), skip_rnd ps h]
  dsimp only
  rw [lex_cells ps h _ 0 _ (by omega) (by omega)]
theorem toks_len : ∀ (ps : List Cel) (a : Nat), (toks a ps).length = ps.length
  | [], _ => rfl
  | p :: r, a => by simp only [toks, List.length_cons, toks_len r]
/-- Spaces more behind each word. -/
def addS (sp : Nat → List UInt8) : Nat → List Cel → List Cel
  | _, [] => []
  | i, p :: r => { p with g := p.g ++ sp i } :: addS sp (i + 1) r
theorem Brk.of_head {a : UInt8} {r s : List UInt8} (h : Brk (a :: r)) : Brk (a :: s) := by
  intro c r' e
  cases e
  exact h a r rfl
theorem Brk.nil : Brk [] := fun c r e => by cases e
theorem gap_app {g s : List UInt8} (h1 : GapOk g) (h2 : GapOk s) : GapOk (g ++ s) := fun T => by rw [List.append_assoc, h1, h2]
theorem addS_head (sp : Nat → List UInt8) : ∀ (i : Nat) (ps : List Cel), WF ps → Brk (rnd ps) → Brk (rnd (addS sp i ps))
  | _, [], _, _ => Brk.nil
  | i, p :: r, hw, h => by
    have hne := hw.1.ne
    cases hx : p.x with
    | nil => exact absurd hx hne
    | cons c u =>
      have e1 : rnd (p :: r) = c :: (u ++ (p.g ++ rnd r)) := by simp [rnd, hx]
      have e2 : rnd (addS sp i (p :: r)) = c :: (u ++ ((p.g ++ sp i) ++ rnd (addS sp (i + 1) r))) := by simp [rnd, addS, hx]
      rw [e1] at h; rw [e2]; exact h.of_head
theorem addS_WF (sp : Nat → List UInt8) (hsp : ∀ i, GapOk (sp i) ∧ Brk (sp i)) : ∀ (i : Nat) (ps : List Cel), WF ps → WF (addS sp i ps)
  | _, [], _ => trivial
  | i, p :: r, h => by
    obtain ⟨h1, h2, h3, h4⟩ := h
    refine ⟨h1, gap_app h2 (hsp i).1, ?_, addS_WF sp hsp (i + 1) r h4⟩
    rcases h3 with h3 | h3
    · exact .inl h3
    refine .inr ?_
    show Brk ((p.g ++ sp i) ++ rnd (addS sp (i + 1) r))
    cases hg : p.g with
    | cons c u => rw [hg] at h3; exact Brk.of_head (a := c) h3
    | nil =>
      rw [hg] at h3
      have hb := (hsp i).2
      cases hs : sp i with
      | cons c u => rw [hs] at hb; exact Brk.of_head (a := c) hb
      | nil => exact addS_head sp (i + 1) r h4 h3
theorem addS_len (sp : Nat → List UInt8) : ∀ (i : Nat) (ps : List Cel), (addS sp i ps).length = ps.length
  | _, [] => rfl
  | i, p :: r => by simp only [addS, List.length_cons, addS_len sp (i + 1) r]
theorem toks_get : ∀ (ps : List Cel) (a i : Nat) (p : Cel), ps[i]? = some p → (toks a ps)[i]? = some (p.k, p.tx, p.n, a + (rnd (ps.take i)).length)
  | [], _, _, _, h => by simp at h
  | q :: r, a, 0, p, h => by simp at h; subst h; simp [toks, rnd]
  | q :: r, a, i + 1, p, h => by
    simp at h
    have := toks_get r (a + (q.x.length + q.g.length)) i p h
    simp only [toks, List.getElem?_cons_succ, this, List.take_succ_cons, rnd, List.length_append]
    congr 4
    omega
theorem addS_get (sp : Nat → List UInt8) : ∀ (ps : List Cel) (b i : Nat) (p : Cel), ps[i]? = some p → (addS sp b ps)[i]? = some { p with g := p.g ++ sp (b + i) }
  | [], _, _, _, h => by simp at h
  | q :: r, b, 0, p, h => by simp at h; subst h; simp [addS]
  | q :: r, b, i + 1, p, h => by
    simp at h
    have := addS_get sp r (b + 1) i p h
    simp only [addS, List.getElem?_cons_succ, this]
    rw [show b + 1 + i = b + (i + 1) by omega]
theorem rnd_app : ∀ (a b : List Cel), rnd (a ++ b) = rnd a ++ rnd b
  | [], _ => rfl
  | p :: r, b => by simp only [List.cons_append, rnd, rnd_app r b, List.append_assoc]
theorem rnd_take (ps : List Cel) (i : Nat) (p : Cel) (h : ps[i]? = some p) : rnd (ps.take (i + 1)) = rnd (ps.take i) ++ (p.x ++ p.g) := by
  rw [List.take_add_one, h]
  rw [rnd_app]
  simp [rnd]
/-- A word's bytes and its gap, cut out of the text. -/
theorem rnd_cut (ps : List Cel) (i : Nat) (p : Cel) (h : ps[i]? = some p) : ((rnd ps).take (rnd (ps.take (i + 1))).length).drop (rnd (ps.take i)).length = p.x ++ p.g := by
  have h1 : rnd ps = rnd (ps.take (i + 1)) ++ rnd (ps.drop (i + 1)) := by rw [← rnd_app, List.take_append_drop]
  rw [h1, List.take_left, rnd_take ps i p h, List.drop_left]
theorem addS_take (sp : Nat → List UInt8) : ∀ (ps : List Cel) (b i : Nat), addS sp b (ps.take i) = (addS sp b ps).take i
  | [], _, _ => by simp [addS]
  | q :: r, b, 0 => by simp [addS]
  | q :: r, b, i + 1 => by simp only [List.take_succ_cons, addS, addS_take sp r (b + 1) i]
theorem all256s {p : UInt8 → Bool} (h : (List.range 256).all (fun k => p (UInt8.ofNat k)) = true) (c : UInt8) : p c = true := by
  have h1 := List.all_eq_true.1 h c.toNat (List.mem_range.2 c.toNat_lt)
  rwa [show UInt8.ofNat c.toNat = c by simp] at h1
/-- Letters, digits, _ ; a letter or _ first. -/
def nameB : List UInt8 → Bool
  | [] => false
  | c :: r => Go.LexF.lettersB.contains c && r.all (fun d => namesB.contains d)
/-- One to three digits, not 0 first. -/
def numB : List UInt8 → Bool
  | [] => false
  | c :: r => (D10.contains c && c != 48) && r.all (fun d => D10.contains d)
theorem fr_all (cs : List UInt8) : ∀ (x R : List UInt8), (∀ d ∈ x, cs.contains d = true) → (∀ c r, R = c :: r → cs.contains c = false) → fr cs (x ++ R) = x
  | [], R, _, h => by
    cases R with
    | nil => rfl
    | cons c r =>
      have := h c r rfl
      show fr cs (c :: r) = []
      unfold fr
      rw [List.takeWhile_cons, this]; rfl
  | d :: x, R, h, h2 => by
    have h1 := h d (by simp)
    have ih := fr_all cs x R (fun e he => h e (by simp [he])) h2
    show fr cs (d :: (x ++ R)) = d :: x
    unfold fr at ih ⊢
    rw [List.takeWhile_cons, h1, if_pos rfl, ih]
theorem brk_props {c : UInt8} (h : brk c = true) : namesB.contains c = false ∧ c ≠ 46 ∧ D10.contains c = false ∧ D8.contains c = false ∧ hexesB.contains c = false ∧ c ≠ 120 ∧ c ≠ 88 ∧ (namesB ++ [46]).contains c = false := by
  have := all256s (p := fun c => !(brk c) || (!(namesB.contains c) && c != 46 && !(D10.contains c) && !(D8.contains c) && !(hexesB.contains c) && c != 120 && c != 88 && !((namesB ++ [46]).contains c))) (by decide +kernel) c
  rw [h] at this
  simp only [Bool.not_true, Bool.false_or, Bool.and_eq_true, Bool.not_eq_true', bne_iff_ne, ne_eq] at this
  obtain ⟨⟨⟨⟨⟨⟨⟨h1, h2⟩, h3⟩, h4⟩, h5⟩, h6⟩, h7⟩, h8⟩ := this
  exact ⟨h1, h2, h3, h4, h5, h6, h7, h8⟩
theorem skip_no {c : UInt8} (h1 : Go.LexF.spacesB.contains c = false) (h2 : c ≠ 47) (r : List UInt8) : skipF (c :: r) = (c :: r, true) := by
  rw [skipF_eq, h1, if_neg h2]; rfl
theorem let_props {c : UInt8} (h : Go.LexF.lettersB.contains c = true) : Go.LexF.spacesB.contains c = false ∧ c ≠ 47 ∧ c ≠ 46 ∧ namesB.contains c = true := by
  have := all256s (p := fun c => !(Go.LexF.lettersB.contains c) || (!(Go.LexF.spacesB.contains c) && c != 47 && c != 46 && namesB.contains c)) (by decide +kernel) c
  rw [h] at this
  simp only [Bool.not_true, Bool.false_or, Bool.and_eq_true, Bool.not_eq_true', bne_iff_ne, ne_eq] at this
  obtain ⟨⟨⟨h1, h2⟩, h3⟩, h4⟩ := this
  exact ⟨h1, h2, h3, h4⟩
theorem tailF_brk {R : List UInt8} (h : Brk R) : tailF R = 0 := by
  cases R with
  | nil => rw [tailF]
  | cons c r => rw [tailF, if_neg (brk_props (h c r rfl)).2.1]
theorem name_ok {x : List UInt8} (h : nameB x = true) : TokOk x 1 x 0 false := by
  cases x with
  | nil => cases h
  | cons c r =>
    simp only [nameB, Bool.and_eq_true] at h
    obtain ⟨h1, h2⟩ := h
    obtain ⟨p1, p2, p3, p4⟩ := let_props h1
    have hall : ∀ d ∈ c :: r, namesB.contains d = true := by
      intro d hd
      rcases List.mem_cons.1 hd with rfl | hd
      · exact p4
      · exact List.all_eq_true.1 h2 d hd
    refine ⟨by simp, fun R hR => ?_, fun R => skip_no p1 p2 _, by omega⟩
    replace hR := hR.resolve_left (by simp)
    have hf := fr_all namesB (c :: r) R hall (fun c r e => (brk_props (hR c r e)).1)
    have hw : wordF (c :: (r ++ R)) = (c :: r).length := by
      simp only [wordF, h1, if_true]
      exact congrArg List.length hf
    have hn : nameF (c :: (r ++ R)) = (c :: r).length := by
      simp only [nameF]
      rw [if_neg p3, hw, if_neg (by simp)]
      have : (c :: (r ++ R)).drop (c :: r).length = R := List.drop_left (l₁ := c :: r)
      rw [this, tailF_brk hR]
      rfl
    show wordW validF (c :: (r ++ R)) = _
    simp only [wordW]
    rw [hn, if_pos (by simp)]
    have : (c :: (r ++ R)).take (c :: r).length = c :: r := List.take_left (l₁ := c :: r)
    rw [this]
theorem dig_props {c : UInt8} (h : D10.contains c = true) : Go.LexF.spacesB.contains c = false ∧ c ≠ 47 ∧ c ≠ 46 ∧ Go.LexF.lettersB.contains c = false ∧ digF c ≤ 9 := by
  have := all256s (p := fun c => !(D10.contains c) || (!(Go.LexF.spacesB.contains c) && c != 47 && c != 46 && !(Go.LexF.lettersB.contains c) && decide (digF c ≤ 9))) (by decide +kernel) c
  rw [h] at this
  simp only [Bool.not_true, Bool.false_or, Bool.and_eq_true, Bool.not_eq_true', bne_iff_ne, ne_eq, decide_eq_true_eq] at this
  obtain ⟨⟨⟨⟨h1, h2⟩, h3⟩, h4⟩, h5⟩ := this
  exact ⟨h1, h2, h3, h4, h5⟩
theorem nameF_no {c : UInt8} {r : List UInt8} (h1 : c ≠ 46) (h2 : Go.LexF.lettersB.contains c = false) : nameF (c :: r) = 0 := by
  have hw : wordF (c :: r) = 0 := by simp only [wordF]; rw [h2]; rfl
  simp only [nameF]
  rw [if_neg h1, hw, if_pos rfl]
theorem valF_small : ∀ (x : List UInt8) (n : Nat), (∀ d ∈ x, D10.contains d = true) → valF 10 n x < (n + 1) * 10 ^ x.length
  | [], n, _ => by simp [valF]
  | d :: x, n, h => by
    have h1 := valF_small x (n * 10 + digF d) (fun e he => h e (by simp [he]))
    have h2 := (dig_props (h d (by simp))).2.2.2.2
    simp only [valF, List.length_cons]
    refine Nat.lt_of_lt_of_le h1 ?_
    rw [Nat.pow_succ, Nat.mul_comm (10 ^ x.length) 10, ← Nat.mul_assoc]
    exact Nat.mul_le_mul_right _ (by omega)
theorem num_ok {x : List UInt8} (h : numB x = true) (hl : x.length ≤ 3) : TokOk x 2 [] (valF 10 0 x) false := by
  cases x with
  | nil => cases h
  | cons c r =>
    simp only [numB, Bool.and_eq_true, bne_iff_ne, ne_eq] at h
    obtain ⟨⟨h1, h0⟩, h2⟩ := h
    obtain ⟨p1, p2, p3, p4, p5⟩ := dig_props h1
    have hall : ∀ d ∈ c :: r, D10.contains d = true := by
      intro d hd
      rcases List.mem_cons.1 hd with rfl | hd
      · exact h1
      · exact List.all_eq_true.1 h2 d hd
    refine ⟨by simp, fun R hR => ?_, fun R => skip_no p1 p2 _, by omega⟩
    replace hR := hR.resolve_left (by simp)
    have hf := fr_all D10 (c :: r) R hall (fun c r e => (brk_props (hR c r e)).2.2.1)
    have hnf : numF (c :: (r ++ R)) = (10, 0, c :: r) := by
      unfold numF
      rw [if_neg, if_neg]
      · exact congrArg (fun z => (10, 0, z)) hf
      · simpa using h0
      · rintro ⟨h | h, _⟩
        · simp at h; exact h0 h.1
        · simp at h; exact h0 h.1
    have hv := valF_small (c :: r) 0 hall
    have hv2 : valF 10 0 (c :: r) < 18446744073709551616 := by
      refine Nat.lt_of_lt_of_le hv ?_
      have : 10 ^ (c :: r).length ≤ 10 ^ 3 := Nat.pow_le_pow_right (by omega) hl
      omega
    have hd : (c :: (r ++ R)).drop (0 + (c :: r).length) = R := by rw [Nat.zero_add]; exact List.drop_left (l₁ := c :: r)
    show wordW validF (c :: (r ++ R)) = _
    simp only [wordW]
    rw [nameF_no p3 p4, if_neg (by omega), if_pos h1]
    unfold numW
    rw [hnf]
    dsimp only
    rw [if_neg (by omega), hd]
    cases R with
    | nil => simp
    | cons e u => dsimp only; rw [(brk_props (hR e u rfl)).2.2.2.2.2.2.2]; simp
theorem zero_ok : TokOk [48] 2 [] 0 false := by
  refine ⟨by simp, fun R hR => ?_, fun R => skip_no (by decide) (by decide) _, by omega⟩
  replace hR := hR.resolve_left (by simp)
  show wordW validF (48 :: R) = _
  have hnf : numF (48 :: R) = (8, 0, [48]) := by
    unfold numF
    rw [if_neg, if_pos (show (48 :: R).head? = some 48 from rfl)]
    · refine congrArg (fun z => (8, 0, z)) ?_
      exact fr_all D8 [48] R (by decide) (fun c r e => (brk_props (hR c r e)).2.2.2.1)
    · rintro ⟨h | h, _⟩
      · cases R with
        | nil => simp at h
        | cons e u => simp at h; exact (brk_props (hR e u rfl)).2.2.2.2.2.1 h
      · cases R with
        | nil => simp at h
        | cons e u => simp at h; exact (brk_props (hR e u rfl)).2.2.2.2.2.2.1 h
  simp only [wordW]
  rw [nameF_no (by decide) (by decide), if_neg (by omega), if_pos (by decide)]
  unfold numW
  rw [hnf]
  dsimp only
  rw [if_neg (by decide)]
  cases R with
  | nil => rfl
  | cons e u =>
    have hb := (brk_props (hR e u rfl)).2.2.2.2.2.2.2
    simp only [List.length_cons, List.length_nil, Nat.zero_add, List.drop_succ_cons, List.drop_zero, hb, Bool.false_eq_true, if_false]
    rfl
theorem sign_ok {c : UInt8} (h : signsB.contains c = true) : TokOk [c] 4 [c] 0 true := by
  have := all256s (p := fun c => !(signsB.contains c) || (!(Go.LexF.spacesB.contains c) && c != 47 && c != 46 && !(Go.LexF.lettersB.contains c) && !(D10.contains c) && c != 34 && c != 39)) (by decide +kernel) c
  rw [h] at this
  simp only [Bool.not_true, Bool.false_or, Bool.and_eq_true, Bool.not_eq_true', bne_iff_ne, ne_eq] at this
  obtain ⟨⟨⟨⟨⟨⟨h1, h2⟩, h3⟩, h4⟩, h5⟩, h6⟩, h7⟩ := this
  refine ⟨by simp, fun R hR => ?_, fun R => skip_no h1 h2 _, by omega⟩
  show wordW validF (c :: R) = _
  simp only [wordW]
  rw [nameF_no h3 h4, if_neg (by omega), h5, if_neg (by decide), if_neg (by rintro (e | e); exact h6 e; exact h7 e), if_pos h]
  rfl
theorem valid_ascii {c : UInt8} {r : List UInt8} (h : c.toNat < 128) : validF (c :: r) = validF r := by
  have e : ptF (c :: r) = 1 := by simp only [ptF]; rw [if_pos h]
  conv => lhs; rw [validF]
  rw [dif_neg (by rw [e]; decide), e]
  rfl
theorem proto_ok : TokOk [34, 112, 114, 111, 116, 111, 51, 34] 3 [112, 114, 111, 116, 111, 51] 0 true := by
  refine ⟨by simp, fun R hR => ?_, fun R => skip_no (by decide) (by decide) _, by omega⟩
  show wordW validF (34 :: 112 :: 114 :: 111 :: 116 :: 111 :: 51 :: 34 :: R) = _
  have ht : textF 34 (112 :: 114 :: 111 :: 116 :: 111 :: 51 :: 34 :: R) [] 0 = some ([112, 114, 111, 116, 111, 51], 7) := by
    have hl : textF 34 (34 :: R) [112, 114, 111, 116, 111, 51] 6 = some ([112, 114, 111, 116, 111, 51], 7) := by unfold textF; rw [if_pos rfl]
    simp [textF, hl]
  simp only [wordW]
  rw [nameF_no (by decide) (by decide), if_neg (by omega), if_neg (by decide), if_pos (by decide), ht]
  dsimp only
  have hv : validF [112, 114, 111, 116, 111, 51] = true := by
    rw [valid_ascii (by decide), valid_ascii (by decide), valid_ascii (by decide), valid_ascii (by decide), valid_ascii (by decide), valid_ascii (by decide), validF]
    rfl
  rw [hv]; rfl
theorem gap_nil : GapOk [] := fun T => rfl
theorem gap_sp {c : UInt8} (h : Go.LexF.spacesB.contains c = true) {g : List UInt8} (hg : GapOk g) : GapOk (c :: g) := fun T => by
  show skipF (c :: (g ++ T)) = _
  rw [skipF_eq, h, if_pos rfl, hg]
theorem gap_cmt {b g : List UInt8} (hb : ∀ T, dropCmt (b ++ T) = some T) (hg : GapOk g) : GapOk (47 :: 42 :: (b ++ g)) := fun T => by
  show skipF (47 :: 42 :: ((b ++ g) ++ T)) = _
  rw [skipF_eq, List.append_assoc]
  rw [if_neg (by decide), if_pos rfl]
  dsimp only
  rw [if_neg (by decide), if_pos rfl, hb]
  exact hg T
theorem gap_line {b g : List UInt8} (hb : ∀ T, dropLine (b ++ T) = T) (hg : GapOk g) : GapOk (47 :: 47 :: (b ++ g)) := fun T => by
  show skipF (47 :: 47 :: ((b ++ g) ++ T)) = _
  rw [skipF_eq, List.append_assoc]
  rw [if_neg (by decide), if_pos rfl]
  dsimp only
  rw [if_pos rfl, hb]
  exact hg T
/-- What the law sets between words. -/
def betw : List (List UInt8) := [[32], [10], [9, 13], [47, 42, 32, 97, 59, 32, 42, 47], [47, 47, 32, 98, 10], [47, 42, 42, 47, 32], [32, 47, 42, 32, 42, 32, 47, 32, 42, 47]]
theorem gap_line10 {b g : List UInt8} (hb : ∀ T, dropLine (b ++ (10 :: T)) = 10 :: T) (hg : GapOk g) : GapOk (47 :: 47 :: (b ++ (10 :: g))) := fun T => by
  show skipF (47 :: 47 :: ((b ++ (10 :: g)) ++ T)) = _
  rw [skipF_eq, List.append_assoc]
  rw [if_neg (by decide), if_pos rfl]
  dsimp only
  rw [if_pos rfl]
  show skipF (dropLine (b ++ (10 :: (g ++ T)))) = _
  rw [hb]
  exact gap_sp (c := 10) (by decide) hg T
theorem betw_ok : ∀ b ∈ betw, GapOk b ∧ Brk b := by
  intro b hb
  have br : ∀ {c : UInt8} {r : List UInt8}, brk c = true → Brk (c :: r) := fun h c' r' e => by cases e; exact h
  simp only [betw, List.mem_cons, List.not_mem_nil, or_false] at hb
  rcases hb with rfl | rfl | rfl | rfl | rfl | rfl | rfl
  · exact ⟨gap_sp (by decide) gap_nil, br (by decide)⟩
  · exact ⟨gap_sp (by decide) gap_nil, br (by decide)⟩
  · exact ⟨gap_sp (by decide) (gap_sp (by decide) gap_nil), br (by decide)⟩
  · exact ⟨gap_cmt (b := [32, 97, 59, 32, 42, 47]) (g := []) (fun T => by simp [dropCmt]) gap_nil, br (by decide)⟩
  · exact ⟨gap_line10 (b := [32, 98]) (g := []) (fun T => by simp [dropLine]) gap_nil, br (by decide)⟩
  · exact ⟨gap_cmt (b := [42, 47]) (g := [32]) (fun T => by simp [dropCmt]) (gap_sp (by decide) gap_nil), br (by decide)⟩
  · exact ⟨gap_sp (by decide) (gap_cmt (b := [32, 42, 32, 47, 32, 42, 47]) (g := []) (fun T => by simp [dropCmt]) gap_nil), br (by decide)⟩
/-- What stands behind a word breaks it off: its gap, or the next word. -/
def Sep (p : Cel) (r : List Cel) : Prop := p.fr = true ∨ (∃ b g', p.g = b :: g' ∧ brk b = true) ∨ (p.g = [] ∧ ∃ q r', r = q :: r' ∧ ∃ b x', q.x = b :: x' ∧ brk b = true)
def WFB : List Cel → Prop
  | [] => True
  | p :: r => TokOk p.x p.k p.tx p.n p.fr ∧ GapOk p.g ∧ Sep p r ∧ WFB r
theorem brk_cons {b : UInt8} {r : List UInt8} (h : brk b = true) : Brk (b :: r) := fun c r' e => by cases e; exact h
theorem WFB.wf : ∀ {ps : List Cel}, WFB ps → WF ps
  | [], _ => trivial
  | p :: r, h => by
    obtain ⟨h1, h2, h3, h4⟩ := h
    refine ⟨h1, h2, ?_, h4.wf⟩
    rcases h3 with h3 | ⟨b, g, e, hb⟩ | ⟨e, q, r', rfl, b, x', e2, hb⟩
    · exact .inl h3
    · rw [e]; exact .inr (brk_cons hb)
    · rw [e]
      refine .inr ?_
      show Brk (rnd (q :: r'))
      simp only [rnd, e2]
      exact brk_cons hb
theorem Sep.app {p : Cel} {r : List Cel} (h : Sep p r) (s : List Cel) : Sep p (r ++ s) := by
  rcases h with h | h | ⟨e, q, r', rfl, hq⟩
  · exact .inl h
  · exact .inr (.inl h)
  · exact .inr (.inr ⟨e, q, r' ++ s, rfl, hq⟩)
theorem WFB.app : ∀ {a b : List Cel}, WFB a → WFB b → WFB (a ++ b)
  | [], _, _, h => h
  | p :: r, b, h, hb => ⟨h.1, h.2.1, h.2.2.1.app b, h.2.2.2.app hb⟩
/-- A text of whole words, with what breaks them off. -/
def Blk (t : List UInt8) : Prop := ∃ ps, WFB ps ∧ rnd ps = t
theorem Blk.nil : Blk [] := ⟨[], trivial, rfl⟩
theorem Blk.app {a b : List UInt8} (ha : Blk a) (hb : Blk b) : Blk (a ++ b) := by
  obtain ⟨p, h1, rfl⟩ := ha
  obtain ⟨q, h2, rfl⟩ := hb
  exact ⟨p ++ q, h1.app h2, rnd_app p q⟩
/-- Words of a list, each with a gap or a sign behind it. -/
inductive Bits : List UInt8 → Bool → Prop   -- the flag: it begins with what breaks words off
  | nil : Bits [] false
  | gap {x tx r : List UInt8} {k n : Nat} {f b fr : Bool} {c : UInt8} : TokOk x k tx n fr → Go.LexF.spacesB.contains c = true → brk c = true → Bits r f → b = (match x with | [] => false | d :: _ => brk d) → Bits (x ++ c :: r) b
  | dir {x tx r : List UInt8} {k n : Nat} {b f fr : Bool} : TokOk x k tx n fr → Bits r f → (fr || f) = true → b = (match x with | [] => false | d :: _ => brk d) → Bits (x ++ r) b
theorem Bits.cels {t : List UInt8} {b : Bool} (h : Bits t b) : ∃ ps, WFB ps ∧ rnd ps = t ∧ (b = true → ∃ q r', ps = q :: r' ∧ ∃ c x', q.x = c :: x' ∧ brk c = true) := by
  induction h with
  | nil => exact ⟨[], trivial, rfl, fun h => by cases h⟩
  | @gap x tx r k n f b fr c h1 h2 h3 _ hb ih =>
    obtain ⟨ps, w, e, _⟩ := ih
    refine ⟨⟨x, k, tx, n, [c], fr⟩ :: ps, ⟨h1, gap_sp h2 gap_nil, .inr (.inl ⟨c, [], rfl, h3⟩), w⟩, by simp [rnd, e], fun hbt => ⟨_, _, rfl, ?_⟩⟩
    rw [hbt] at hb
    cases x with
    | nil => cases hb
    | cons d y => exact ⟨d, y, rfl, hb.symm⟩
  | @dir x tx r k n b f fr h1 _ ho hb ih =>
    obtain ⟨ps, w, e, hq⟩ := ih
    refine ⟨⟨x, k, tx, n, [], fr⟩ :: ps, ⟨h1, gap_nil, ?_, w⟩, by simp [rnd, e], fun hbt => ⟨_, _, rfl, ?_⟩⟩
    · cases hfr : fr with
      | true => exact .inl rfl
      | false =>
        rw [hfr] at ho
        obtain ⟨q, r', hz, hz2⟩ := hq (by simpa using ho)
        exact .inr (.inr ⟨rfl, q, r', hz, hz2⟩)
    · rw [hbt] at hb
      cases x with
      | nil => cases hb
      | cons d y => exact ⟨d, y, rfl, hb.symm⟩
theorem Bits.blk {t : List UInt8} {b : Bool} (h : Bits t b) : Blk t := by
  obtain ⟨ps, w, e, _⟩ := h.cels
  exact ⟨ps, w, e⟩
theorem dig_name {S : List UInt8} (h : numB S = true) : ∀ d ∈ S, namesB.contains d = true := by
  cases S with
  | nil => cases h
  | cons c r =>
    simp only [numB, Bool.and_eq_true] at h
    have f : ∀ d, D10.contains d = true → namesB.contains d = true := by
      intro d hd
      have := all256s (p := fun c => !(D10.contains c) || namesB.contains c) (by decide +kernel) d
      rw [hd] at this; simpa using this
    intro d hd
    rcases List.mem_cons.1 hd with rfl | hd
    · exact f _ h.1.1
    · exact f _ (List.all_eq_true.1 h.2 d hd)
theorem fname {c : UInt8} {S : List UInt8} (hc : Go.LexF.lettersB.contains c = true) (h : numB S = true) : nameB (c :: S) = true := by
  simp only [nameB, hc, Bool.true_and]
  exact List.all_eq_true.2 (dig_name h)

theorem blk_opt {t S : List UInt8} (ht : nameB t = true) (hS : numB S = true) (hSl : S.length ≤ 3) : Blk ([111, 112, 116, 105, 111, 110, 97, 108] ++ 32 :: (t ++ 32 :: ((102 :: S) ++ 32 :: ([61] ++ 32 :: (S ++ ([59] ++ 10 :: [])))))) := Bits.blk (b := _) (.gap (c := 32) (name_ok (by decide)) (by decide) (by decide) (.gap (c := 32) (name_ok ht) (by decide) (by decide) (.gap (c := 32) (name_ok (fname (by decide) hS)) (by decide) (by decide) (.gap (c := 32) (sign_ok (by decide)) (by decide) (by decide) (.dir (num_ok hS hSl) (.gap (c := 10) (sign_ok (by decide)) (by decide) (by decide) Bits.nil rfl) rfl rfl) rfl) rfl) rfl) rfl)

theorem blk_one {t S : List UInt8} (ht : nameB t = true) (hS : numB S = true) (hSl : S.length ≤ 3) : Blk (t ++ 32 :: ((102 :: S) ++ 32 :: ([61] ++ 32 :: (S ++ ([59] ++ 10 :: []))))) := Bits.blk (b := _) (.gap (c := 32) (name_ok ht) (by decide) (by decide) (.gap (c := 32) (name_ok (fname (by decide) hS)) (by decide) (by decide) (.gap (c := 32) (sign_ok (by decide)) (by decide) (by decide) (.dir (num_ok hS hSl) (.gap (c := 10) (sign_ok (by decide)) (by decide) (by decide) Bits.nil rfl) rfl rfl) rfl) rfl) rfl)

theorem blk_rep {t S : List UInt8} (ht : nameB t = true) (hS : numB S = true) (hSl : S.length ≤ 3) : Blk ([114, 101, 112, 101, 97, 116, 101, 100] ++ 32 :: (t ++ 32 :: ((102 :: S) ++ 32 :: ([61] ++ 32 :: (S ++ ([59] ++ 10 :: [])))))) := Bits.blk (b := _) (.gap (c := 32) (name_ok (by decide)) (by decide) (by decide) (.gap (c := 32) (name_ok ht) (by decide) (by decide) (.gap (c := 32) (name_ok (fname (by decide) hS)) (by decide) (by decide) (.gap (c := 32) (sign_ok (by decide)) (by decide) (by decide) (.dir (num_ok hS hSl) (.gap (c := 10) (sign_ok (by decide)) (by decide) (by decide) Bits.nil rfl) rfl rfl) rfl) rfl) rfl) rfl)

theorem blk_repf {t S : List UInt8} (ht : nameB t = true) (hS : numB S = true) (hSl : S.length ≤ 3) : Blk ([114, 101, 112, 101, 97, 116, 101, 100] ++ 32 :: (t ++ 32 :: ((102 :: S) ++ 32 :: ([61] ++ 32 :: (S ++ 32 :: ([91] ++ ([112, 97, 99, 107, 101, 100] ++ 32 :: ([61] ++ 32 :: ([102, 97, 108, 115, 101] ++ ([93] ++ ([59] ++ 10 :: []))))))))))) := Bits.blk (b := _) (.gap (c := 32) (name_ok (by decide)) (by decide) (by decide) (.gap (c := 32) (name_ok ht) (by decide) (by decide) (.gap (c := 32) (name_ok (fname (by decide) hS)) (by decide) (by decide) (.gap (c := 32) (sign_ok (by decide)) (by decide) (by decide) (.gap (c := 32) (num_ok hS hSl) (by decide) (by decide) (.dir (sign_ok (by decide)) (.gap (c := 32) (name_ok (by decide)) (by decide) (by decide) (.gap (c := 32) (sign_ok (by decide)) (by decide) (by decide) (.dir (name_ok (by decide)) (.dir (sign_ok (by decide)) (.gap (c := 10) (sign_ok (by decide)) (by decide) (by decide) Bits.nil rfl) rfl rfl) rfl rfl) rfl) rfl) rfl rfl) rfl) rfl) rfl) rfl) rfl)

theorem blk_rept {t S : List UInt8} (ht : nameB t = true) (hS : numB S = true) (hSl : S.length ≤ 3) : Blk ([114, 101, 112, 101, 97, 116, 101, 100] ++ 32 :: (t ++ 32 :: ((102 :: S) ++ 32 :: ([61] ++ 32 :: (S ++ 32 :: ([91] ++ ([112, 97, 99, 107, 101, 100] ++ 32 :: ([61] ++ 32 :: ([116, 114, 117, 101] ++ ([93] ++ ([59] ++ 10 :: []))))))))))) := Bits.blk (b := _) (.gap (c := 32) (name_ok (by decide)) (by decide) (by decide) (.gap (c := 32) (name_ok ht) (by decide) (by decide) (.gap (c := 32) (name_ok (fname (by decide) hS)) (by decide) (by decide) (.gap (c := 32) (sign_ok (by decide)) (by decide) (by decide) (.gap (c := 32) (num_ok hS hSl) (by decide) (by decide) (.dir (sign_ok (by decide)) (.gap (c := 32) (name_ok (by decide)) (by decide) (by decide) (.gap (c := 32) (sign_ok (by decide)) (by decide) (by decide) (.dir (name_ok (by decide)) (.dir (sign_ok (by decide)) (.gap (c := 10) (sign_ok (by decide)) (by decide) (by decide) Bits.nil rfl) rfl rfl) rfl rfl) rfl) rfl) rfl rfl) rfl) rfl) rfl) rfl) rfl)

theorem blk_map {t S : List UInt8} {key : List UInt8} (hkey : nameB key = true) (ht : nameB t = true) (hS : numB S = true) (hSl : S.length ≤ 3) : Blk ([109, 97, 112] ++ ([60] ++ (key ++ ([44] ++ 32 :: (t ++ ([62] ++ 32 :: ((102 :: S) ++ 32 :: ([61] ++ 32 :: (S ++ ([59] ++ 10 :: [])))))))))) := Bits.blk (b := _) (.dir (name_ok (by decide)) (.dir (sign_ok (by decide)) (.dir (name_ok hkey) (.gap (c := 32) (sign_ok (by decide)) (by decide) (by decide) (.dir (name_ok ht) (.gap (c := 32) (sign_ok (by decide)) (by decide) (by decide) (.gap (c := 32) (name_ok (fname (by decide) hS)) (by decide) (by decide) (.gap (c := 32) (sign_ok (by decide)) (by decide) (by decide) (.dir (num_ok hS hSl) (.gap (c := 10) (sign_ok (by decide)) (by decide) (by decide) Bits.nil rfl) rfl rfl) rfl) rfl) rfl) rfl rfl) rfl) rfl rfl) rfl rfl) rfl rfl)

theorem blk_oo {t S : List UInt8} (ht : nameB t = true) (hS : numB S = true) (hSl : S.length ≤ 3) : Blk (t ++ 32 :: ((111 :: S) ++ 32 :: ([61] ++ 32 :: (S ++ ([59] ++ 10 :: []))))) := Bits.blk (b := _) (.gap (c := 32) (name_ok ht) (by decide) (by decide) (.gap (c := 32) (name_ok (fname (by decide) hS)) (by decide) (by decide) (.gap (c := 32) (sign_ok (by decide)) (by decide) (by decide) (.dir (num_ok hS hSl) (.gap (c := 10) (sign_ok (by decide)) (by decide) (by decide) Bits.nil rfl) rfl rfl) rfl) rfl) rfl)

theorem blk_oo2 {t S S' : List UInt8} (ht : nameB t = true) (hS : numB S = true) (hS' : numB S' = true) (hSl : S'.length ≤ 3) : Blk (t ++ 32 :: ((111 :: S) ++ 32 :: ([61] ++ 32 :: (S' ++ ([59] ++ 10 :: []))))) :=
  Bits.blk (b := _) (.gap (c := 32) (name_ok ht) (by decide) (by decide) (.gap (c := 32) (name_ok (fname (by decide) hS)) (by decide) (by decide) (.gap (c := 32) (sign_ok (by decide)) (by decide) (by decide) (.dir (num_ok hS' hSl) (.gap (c := 10) (sign_ok (by decide)) (by decide) (by decide) .nil rfl) rfl rfl) rfl) rfl) rfl)

theorem blk_head : Blk ([115, 121, 110, 116, 97, 120] ++ 32 :: ([61] ++ 32 :: ([34, 112, 114, 111, 116, 111, 51, 34] ++ ([59] ++ 10 :: ([112, 97, 99, 107, 97, 103, 101] ++ 32 :: ([97] ++ ([59] ++ 10 :: ([101, 110, 117, 109] ++ 32 :: ([69] ++ 32 :: ([123] ++ 32 :: ([65] ++ 32 :: ([61] ++ 32 :: ([48] ++ ([59] ++ 32 :: ([66] ++ 32 :: ([61] ++ 32 :: ([49] ++ ([59] ++ 32 :: ([67] ++ 32 :: ([61] ++ 32 :: ([45] ++ ([49] ++ ([59] ++ 32 :: ([125] ++ 10 :: ([109, 101, 115, 115, 97, 103, 101] ++ 32 :: ([73] ++ 32 :: ([123] ++ 10 :: []))))))))))))))))))))))))))) := Bits.blk (b := _) (.gap (c := 32) (name_ok (by decide)) (by decide) (by decide) (.gap (c := 32) (sign_ok (by decide)) (by decide) (by decide) (.dir proto_ok (.gap (c := 10) (sign_ok (by decide)) (by decide) (by decide) (.gap (c := 32) (name_ok (by decide)) (by decide) (by decide) (.dir (name_ok (by decide)) (.gap (c := 10) (sign_ok (by decide)) (by decide) (by decide) (.gap (c := 32) (name_ok (by decide)) (by decide) (by decide) (.gap (c := 32) (name_ok (by decide)) (by decide) (by decide) (.gap (c := 32) (sign_ok (by decide)) (by decide) (by decide) (.gap (c := 32) (name_ok (by decide)) (by decide) (by decide) (.gap (c := 32) (sign_ok (by decide)) (by decide) (by decide) (.dir zero_ok (.gap (c := 32) (sign_ok (by decide)) (by decide) (by decide) (.gap (c := 32) (name_ok (by decide)) (by decide) (by decide) (.gap (c := 32) (sign_ok (by decide)) (by decide) (by decide) (.dir (num_ok (x := [49]) (by decide) (by decide)) (.gap (c := 32) (sign_ok (by decide)) (by decide) (by decide) (.gap (c := 32) (name_ok (by decide)) (by decide) (by decide) (.gap (c := 32) (sign_ok (by decide)) (by decide) (by decide) (.dir (sign_ok (by decide)) (.dir (num_ok (x := [49]) (by decide) (by decide)) (.gap (c := 32) (sign_ok (by decide)) (by decide) (by decide) (.gap (c := 10) (sign_ok (by decide)) (by decide) (by decide) (.gap (c := 32) (name_ok (by decide)) (by decide) (by decide) (.gap (c := 32) (name_ok (by decide)) (by decide) (by decide) (.gap (c := 10) (sign_ok (by decide)) (by decide) (by decide) Bits.nil rfl) rfl) rfl) rfl) rfl) rfl rfl) rfl rfl) rfl) rfl) rfl) rfl rfl) rfl) rfl) rfl) rfl rfl) rfl) rfl) rfl) rfl) rfl) rfl) rfl rfl) rfl) rfl) rfl rfl) rfl) rfl)

theorem blk_mid : Blk ([125] ++ 10 :: ([109, 101, 115, 115, 97, 103, 101] ++ 32 :: ([77] ++ 32 :: ([123] ++ 10 :: [])))) := Bits.blk (b := _) (.gap (c := 10) (sign_ok (by decide)) (by decide) (by decide) (.gap (c := 32) (name_ok (by decide)) (by decide) (by decide) (.gap (c := 32) (name_ok (by decide)) (by decide) (by decide) (.gap (c := 10) (sign_ok (by decide)) (by decide) (by decide) Bits.nil rfl) rfl) rfl) rfl)

theorem blk_end : Blk ([125] ++ 10 :: []) := Bits.blk (b := _) (.gap (c := 10) (sign_ok (by decide)) (by decide) (by decide) Bits.nil rfl)

theorem blk_oneof : Blk ([111, 110, 101, 111, 102] ++ 32 :: ([99] ++ 32 :: ([123] ++ 10 :: []))) := Bits.blk (b := _) (.gap (c := 32) (name_ok (by decide)) (by decide) (by decide) (.gap (c := 32) (name_ok (by decide)) (by decide) (by decide) (.gap (c := 10) (sign_ok (by decide)) (by decide) (by decide) Bits.nil rfl) rfl) rfl)

end Go.Proofs.YtalphliifcecdaaDoor.IrS
namespace Go.Proofs.YtalphliifcecdaaDoor.IrS
open Go Go.CI
open Go.LexF hiding spacesB lettersB
set_option maxRecDepth 100000
set_option linter.unusedVariables false
set_option linter.unusedSimpArgs false
attribute [local irreducible] W Wo Wc WoR
attribute [local simp] goR regOut checkOne swapOne sameAt nthOp CVal.beq beqs CVal.block storesTo entryC evalOps evalOper evalE evalP evalL evalOpnd nth setNth COp.cls COp.isStore CVal.isUndef CVal.whole CVal.cells CHeap.put CHeap.get CHeap.set wantedC getEnt setEnt partOf writeBack evalBin evalInt evalStr blockMost initVar descOf List.take List.drop CVal.lenOf CVal.isStr CVal.bare CVal.strip CVal.flat endsC resultsC oneOrTuple finishC cut fillCells setCells szOf szOf_desc elems bytesOf evalAppend fillElems mkElem setElem List.replicate sy_nbeq sy_neqF sy_leT sy_leF sy_setEnt_setEnt dropped sy_wrap64 dropEnts dropCells sizeMost sy_ibeqF sy_ieqF sy_ileT sy_ileF sy_iltT sy_iltF sy_ltT sy_ltF evalSlc optBound eqVal extL extE keyIs findKV nthKV setKV CHeap.ty lookupN CHeap.note CHeap.tyOk dropAll freezeVal freezeAll freezeFlat cellsEq cellEq pCopyCheck pBString pMakeNoZero pIndexByte pClone pIndex hasPair rowOf byteVals idxFrom hasFront idxSub
theorem wSD1 {P : Prop} (h : P := by refine Wc.mkG 11 c11 (by kernel_rfl) rfl ?_; generalize e : entryC _ _ _ = r; simp (disch := omega) [hX, hg, hY, c11] at e; subst e; repeat (first | refine sq_ ?_ | refine bl_ ?_ | ((first | refine rg_ ?_ | refine go_ ?_); generalize e : goR _ _ _ _ _ _ _ _ = r; simp (disch := omega) [hX, hg, hY, List.length_map, c11] at e; replace e : some _ = _ := e; subst e; (try dsimp only [goW])) | refine ct_ rfl ?_ | refine cf_ rfl ?_ | refine sk_ ?_ | refine ex_ ?_ | ((first | (refine W.ret ?_; (try simp only [outOf, thenW_ret, roundW]); refine endW.of (.inl rfl) rfl ?_) | refine endW.of (.inr rfl) rfl ?_); generalize e : endsC _ _ _ = r; simp (disch := omega) [hX, hg, hY, List.length_map, c11] at e; subst e; (try dsimp only [goW]); (refine hk _ _ ?_ ?_; omega; exact ut_)))) : P := h

/-- A list of bytes, nil or not. -/
def Nums (L : CVal) (len : Nat) : Prop := L = .nils ∧ len = 0 ∨ ∃ xs : List Int, L = .imm .none 1 (xs.map (CVal.int .u8)) ∧ xs.length = len ∧ ∀ x ∈ xs, 0 ≤ x ∧ x < 256
abbrev pk (L : CVal) (n : Int) : CObj := .cells [L, .int .i64 n]

theorem num_nil (n m : Int) (hm : 1 ≤ m) (hm2 : m ≤ 200) (hn0 : 0 ≤ n)  (h : CHeap) (p d : Nat) (hf : Fit h) (hg : getEnt h.ents p = some (pk (.nils) n)) (hp : p < h.next) (K : CVal → CHeap → Prop) (hk : ∀ n2 ty, h.next ≤ n2 → UnderT ty n2 → K (.int .i64 0) ⟨h.ents, n2, ty⟩) : Wc tree.getF 11 [.ptr p d 0, .int .i64 m] h K := by
  obtain ⟨hu, hut, hX⟩ := fx4 hf
  have hY := fx5 hf hg
  exact wSD1

theorem num_end (n m : Int) (hm : 1 ≤ m) (hm2 : m ≤ 200)  (xs : List Int) (hxl : xs.length ≤ 1000) (hn : (xs.length : Int) ≤ n) (h : CHeap) (p d : Nat) (hf : Fit h) (hg : getEnt h.ents p = some (pk (.imm .none 1 (xs.map (CVal.int .u8))) n)) (hp : p < h.next) (K : CVal → CHeap → Prop) (hk : ∀ n2 ty, h.next ≤ n2 → UnderT ty n2 → K (.int .i64 0) ⟨h.ents, n2, ty⟩) : Wc tree.getF 11 [.ptr p d 0, .int .i64 m] h K := by
  obtain ⟨hu, hut, hX⟩ := fx4 hf
  have hY := fx5 hf hg
  exact wSD1

theorem num_more (n m : Int) (hm : 1 ≤ m) (hm2 : m ≤ 200)  (xs : List Int) (hxl : xs.length ≤ 1000) (j : Nat) (hj : n = (j : Int)) (x : Int) (hx : xs[j]? = some x) (hx0 : 0 ≤ x ∧ x < 256) (v : Int) (hv : x.tmod m = v) (h : CHeap) (p d : Nat) (hf : Fit h) (hg : getEnt h.ents p = some (pk (.imm .none 1 (xs.map (CVal.int .u8))) n)) (hp : p < h.next) (K : CVal → CHeap → Prop) (hk : ∀ n2 ty, h.next ≤ n2 → UnderT ty n2 → K (.int .i64 v) ⟨setEnt h.ents p (pk (.imm .none 1 (xs.map (CVal.int .u8))) (n + 1)), n2, ty⟩) : Wc tree.getF 11 [.ptr p d 0, .int .i64 m] h K := by
  obtain ⟨hu, hut, hX⟩ := fx4 hf
  have hY := fx5 hf hg
  obtain ⟨hjl, hjx⟩ := List.getElem?_eq_some_iff.1 hx
  have hn := nth_mapG (CVal.int .u8) xs j _ hx
  have hm0 : ¬ m = 0 := by omega
  have hjn : n.toNat = j := by omega
  have hj1 : (n + 1 - 1).toNat = j := by omega
  have hjj : ((j : Nat) : Int).toNat = j := by omega
  have hnw : n + 1 - 1 = n := by omega
  refine Wc.mkG 11 c11 (by kernel_rfl) rfl ?_
  generalize e : entryC _ _ _ = r
  simp (disch := omega) [hX, hg, hY, c11] at e
  subst e
  repeat (first | refine sq_ ?_ | refine bl_ ?_ | ((first | refine rg_ ?_ | refine go_ ?_); generalize e : goR _ _ _ _ _ _ _ _ = r; simp (disch := omega) [hX, hg, hY, List.length_map, hn, hv, hm0, hjn, hj1, hjj, hnw, c11] at e; replace e : some _ = _ := e; subst e; (try dsimp only [goW])) | refine ct_ rfl ?_ | refine cf_ rfl ?_ | refine sk_ ?_ | refine ex_ ?_ | ((first | (refine W.ret ?_; (try simp only [outOf, thenW_ret, roundW]); refine endW.of (.inl rfl) rfl ?_) | refine endW.of (.inr rfl) rfl ?_); generalize e : endsC _ _ _ = r; simp (disch := omega) [hX, hg, hY, List.length_map, hn, hv, hm0, hjn, hj1, hjj, hnw, c11] at e; subst e; (try dsimp only [goW]); (refine hk _ _ ?_ ?_; omega; exact ut_)))

theorem num_L (L : CVal) (len : Nat) (hL : Nums L len) (hlen : len ≤ 1000) (n m : Int) (hn0 : 0 ≤ n) (hm : 1 ≤ m) (hm2 : m ≤ 200) (h : CHeap) (p d : Nat) (hf : Fit h) (hg : getEnt h.ents p = some (pk L n)) (hp : p < h.next) (K : CVal → CHeap → Prop)
    (hk : ∀ n2 ty v n', h.next ≤ n2 → UnderT ty n2 → 0 ≤ v → v < m → 0 ≤ n' → K (.int .i64 v) ⟨setEnt h.ents p (pk L n'), n2, ty⟩) : Wc tree.getF 11 [.ptr p d 0, .int .i64 m] h K := by
  have same : ∀ n2 ty, h.next ≤ n2 → UnderT ty n2 → K (.int .i64 0) ⟨h.ents, n2, ty⟩ := by
    intro n2 ty h1 h2
    have := hk n2 ty 0 n h1 h2 (by omega) (by omega) hn0
    rwa [setEnt_same hg] at this
  rcases hL with ⟨rfl, rfl⟩ | ⟨xs, rfl, rfl, hxs⟩
  · exact num_nil n m hm hm2 hn0 h p d hf hg hp K same
  · by_cases hn : (xs.length : Int) ≤ n
    · exact num_end n m hm hm2 xs (by omega) hn h p d hf hg hp K same
    · obtain ⟨j, hj⟩ : ∃ j : Nat, n = (j : Int) := ⟨n.toNat, by omega⟩
      have hjl : j < xs.length := by omega
      have hx : xs[j]? = some xs[j] := List.getElem?_eq_getElem hjl
      have hx0 := hxs _ (List.getElem_mem hjl)
      refine num_more n m hm hm2 xs (by omega) j hj _ hx hx0 _ rfl h p d hf hg hp K ?_
      intro n2 ty h1 h2
      exact hk n2 ty _ _ h1 h2 (Int.tmod_nonneg _ hx0.1) (Int.tmod_lt_of_pos _ (by omega)) (by omega)
theorem dig_ok (r : Int) (h0 : 0 ≤ r) (h1 : r < 10) : D10.contains (UInt8.ofNat (48 + r).toNat) = true ∧ (¬ r = 0 → (UInt8.ofNat (48 + r).toNat != 48) = true) := by
  rcases (show r = 0 ∨ r = 1 ∨ r = 2 ∨ r = 3 ∨ r = 4 ∨ r = 5 ∨ r = 6 ∨ r = 7 ∨ r = 8 ∨ r = 9 by omega) with rfl | rfl | rfl | rfl | rfl | rfl | rfl | rfl | rfl | rfl
  all_goals exact ⟨by decide +kernel, fun h => by first | exact absurd rfl h | decide +kernel⟩
theorem numB_of (r : Int) (h0 : 0 ≤ r) (h1 : r < 10) (hne : ¬ r = 0) (l : List UInt8) (hl : ∀ d ∈ l, D10.contains d = true) : numB (UInt8.ofNat (48 + r).toNat :: l) = true := by
  have := dig_ok r h0 h1
  simp only [numB, this.1, this.2 hne, Bool.true_and]
  exact List.all_eq_true.2 hl

theorem plain_1 (n : Int) (q1 r1 : Int) (hq1 : (n).tdiv 10 = q1) (hr1 : (n).tmod 10 = r1) (hb1 : 0 ≤ r1 ∧ r1 < 10) (hc1 : 0 ≤ q1 ∧ q1 < 1000) (hz : q1 = 0) : Pu tree.getF 25 [.int .u64 n] (.str [UInt8.ofNat (48 + r1).toNat]) := by
  intro h hf K hk
  obtain ⟨hu, hut, hX⟩ := fx4 hf

  refine Wc.mkG 25 c25 (by kernel_rfl) rfl ?_
  generalize e : entryC _ _ _ = r
  simp (disch := omega) [hX, sy_wrapu64, sy_wrapu8, hq1, hr1, hz, c25] at e
  subst e
  repeat (first | refine sq_ ?_ | refine bl_ ?_ | ((first | refine rg_ ?_ | refine go_ ?_); generalize e : goR _ _ _ _ _ _ _ _ = r; simp (disch := omega) [hX, sy_wrapu64, sy_wrapu8, hq1, hr1, hz, c25] at e; replace e : some _ = _ := e; subst e; (try dsimp only [goW])) | refine ct_ rfl ?_ | refine cf_ rfl ?_ | refine sk_ ?_ | refine ex_ ?_ | (refine W.loop ?_; try (generalize e : dropped _ _ _ = r; simp (disch := omega) [hX, sy_wrapu64, sy_wrapu8, hq1, hr1, hz, c25] at e; subst e; try dsimp only)) | ((first | (refine W.ret ?_; (try simp only [outOf, thenW_ret, roundW]); refine endW.of (.inl rfl) rfl ?_) | refine endW.of (.inr rfl) rfl ?_); generalize e : endsC _ _ _ = r; simp (disch := omega) [hX, sy_wrapu64, sy_wrapu8, hq1, hr1, hz, c25] at e; subst e; (try dsimp only [goW]); (refine hk _ _ ?_ ?_; omega; exact ut_)))

theorem plain_2 (n : Int) (q1 r1 : Int) (hq1 : (n).tdiv 10 = q1) (hr1 : (n).tmod 10 = r1) (hb1 : 0 ≤ r1 ∧ r1 < 10) (hc1 : 0 ≤ q1 ∧ q1 < 1000) (hy1 : ¬ q1 = 0) (q2 r2 : Int) (hq2 : (q1).tdiv 10 = q2) (hr2 : (q1).tmod 10 = r2) (hb2 : 0 ≤ r2 ∧ r2 < 10) (hc2 : 0 ≤ q2 ∧ q2 < 1000) (hz : q2 = 0) : Pu tree.getF 25 [.int .u64 n] (.str [UInt8.ofNat (48 + r2).toNat, UInt8.ofNat (48 + r1).toNat]) := by
  intro h hf K hk
  obtain ⟨hu, hut, hX⟩ := fx4 hf

  refine Wc.mkG 25 c25 (by kernel_rfl) rfl ?_
  generalize e : entryC _ _ _ = r
  simp (disch := omega) [hX, sy_wrapu64, sy_wrapu8, hq1, hr1, hq2, hr2, hz, c25] at e
  subst e
  repeat (first | refine sq_ ?_ | refine bl_ ?_ | ((first | refine rg_ ?_ | refine go_ ?_); generalize e : goR _ _ _ _ _ _ _ _ = r; simp (disch := omega) [hX, sy_wrapu64, sy_wrapu8, hq1, hr1, hq2, hr2, hz, c25] at e; replace e : some _ = _ := e; subst e; (try dsimp only [goW])) | refine ct_ rfl ?_ | refine cf_ rfl ?_ | refine sk_ ?_ | refine ex_ ?_ | (refine W.loop ?_; try (generalize e : dropped _ _ _ = r; simp (disch := omega) [hX, sy_wrapu64, sy_wrapu8, hq1, hr1, hq2, hr2, hz, c25] at e; subst e; try dsimp only)) | ((first | (refine W.ret ?_; (try simp only [outOf, thenW_ret, roundW]); refine endW.of (.inl rfl) rfl ?_) | refine endW.of (.inr rfl) rfl ?_); generalize e : endsC _ _ _ = r; simp (disch := omega) [hX, sy_wrapu64, sy_wrapu8, hq1, hr1, hq2, hr2, hz, c25] at e; subst e; (try dsimp only [goW]); (refine hk _ _ ?_ ?_; omega; exact ut_)))

theorem plain_3 (n : Int) (q1 r1 : Int) (hq1 : (n).tdiv 10 = q1) (hr1 : (n).tmod 10 = r1) (hb1 : 0 ≤ r1 ∧ r1 < 10) (hc1 : 0 ≤ q1 ∧ q1 < 1000) (hy1 : ¬ q1 = 0) (q2 r2 : Int) (hq2 : (q1).tdiv 10 = q2) (hr2 : (q1).tmod 10 = r2) (hb2 : 0 ≤ r2 ∧ r2 < 10) (hc2 : 0 ≤ q2 ∧ q2 < 1000) (hy2 : ¬ q2 = 0) (q3 r3 : Int) (hq3 : (q2).tdiv 10 = q3) (hr3 : (q2).tmod 10 = r3) (hb3 : 0 ≤ r3 ∧ r3 < 10) (hc3 : 0 ≤ q3 ∧ q3 < 1000) (hz : q3 = 0) : Pu tree.getF 25 [.int .u64 n] (.str [UInt8.ofNat (48 + r3).toNat, UInt8.ofNat (48 + r2).toNat, UInt8.ofNat (48 + r1).toNat]) := by
  intro h hf K hk
  obtain ⟨hu, hut, hX⟩ := fx4 hf

  refine Wc.mkG 25 c25 (by kernel_rfl) rfl ?_
  generalize e : entryC _ _ _ = r
  simp (disch := omega) [hX, sy_wrapu64, sy_wrapu8, hq1, hr1, hq2, hr2, hq3, hr3, hz, c25] at e
  subst e
  repeat (first | refine sq_ ?_ | refine bl_ ?_ | ((first | refine rg_ ?_ | refine go_ ?_); generalize e : goR _ _ _ _ _ _ _ _ = r; simp (disch := omega) [hX, sy_wrapu64, sy_wrapu8, hq1, hr1, hq2, hr2, hq3, hr3, hz, c25] at e; replace e : some _ = _ := e; subst e; (try dsimp only [goW])) | refine ct_ rfl ?_ | refine cf_ rfl ?_ | refine sk_ ?_ | refine ex_ ?_ | (refine W.loop ?_; try (generalize e : dropped _ _ _ = r; simp (disch := omega) [hX, sy_wrapu64, sy_wrapu8, hq1, hr1, hq2, hr2, hq3, hr3, hz, c25] at e; subst e; try dsimp only)) | ((first | (refine W.ret ?_; (try simp only [outOf, thenW_ret, roundW]); refine endW.of (.inl rfl) rfl ?_) | refine endW.of (.inr rfl) rfl ?_); generalize e : endsC _ _ _ = r; simp (disch := omega) [hX, sy_wrapu64, sy_wrapu8, hq1, hr1, hq2, hr2, hq3, hr3, hz, c25] at e; subst e; (try dsimp only [goW]); (refine hk _ _ ?_ ?_; omega; exact ut_)))

/-- Of small numbers: three digits at most. -/
theorem plain_L (n : Int) (h0 : 1 ≤ n) (h1 : n < 1000) : ∃ S : List UInt8, numB S = true ∧ S.length ≤ 3 ∧ Pu tree.getF 25 [.int .u64 n] (.str S) := by
  have f : ∀ x : Int, 0 ≤ x → x < 1000 → (0 ≤ x.tmod 10 ∧ x.tmod 10 < 10) ∧ (0 ≤ x.tdiv 10 ∧ x.tdiv 10 < 1000) ∧ 10 * x.tdiv 10 + x.tmod 10 = x := by
    intro x g0 g1
    have h1 := Int.tmod_nonneg 10 g0
    have h2 := Int.tmod_lt_of_pos x (show (0 : Int) < 10 by omega)
    have h3 := Int.mul_tdiv_add_tmod x 10
    have h4 := Int.tdiv_nonneg g0 (show (0 : Int) ≤ 10 by omega)
    omega
  have f1 := f n (by omega) h1
  by_cases z1 : n.tdiv 10 = 0
  · exact ⟨_, numB_of _ f1.1.1 f1.1.2 (by omega) [] (by simp), by simp, plain_1 n _ _ rfl rfl f1.1 f1.2.1 z1⟩
  have f2 := f (n.tdiv 10) (by omega) (by omega)
  have d1 := (dig_ok _ f1.1.1 f1.1.2).1
  by_cases z2 : (n.tdiv 10).tdiv 10 = 0
  · exact ⟨_, numB_of _ f2.1.1 f2.1.2 (by omega) [_] (by intro d hd; simp at hd; rw [hd]; exact d1), by simp, plain_2 n _ _ rfl rfl f1.1 f1.2.1 z1 _ _ rfl rfl f2.1 f2.2.1 z2⟩
  have f3 := f ((n.tdiv 10).tdiv 10) (by omega) (by omega)
  have d2 := (dig_ok _ f2.1.1 f2.1.2).1
  by_cases z3 : ((n.tdiv 10).tdiv 10).tdiv 10 = 0
  · exact ⟨_, numB_of _ f3.1.1 f3.1.2 (by omega) [_, _] (by intro d hd; simp at hd; rcases hd with hd | hd <;> rw [hd]; exact d2; exact d1), by simp, plain_3 n _ _ rfl rfl f1.1 f1.2.1 z1 _ _ rfl rfl f2.1 f2.2.1 z2 _ _ rfl rfl f3.1 f3.2.1 z3⟩
  exfalso
  omega

theorem tens_P (n : Int) (h0 : 1 ≤ n) (h1 : n < 1000) (S : List UInt8) (PL : Pu tree.getF 25 [.int .u64 n] (.str S)) : Pu tree.getF 14 [.int .i64 n] (.str S) := by
  intro h hf K hk
  obtain ⟨hu, hut, hX⟩ := fx4 hf

  refine Wc.mkG 14 c14 (by kernel_rfl) rfl ?_
  generalize e : entryC _ _ _ = r
  simp (disch := omega) [hX, sy_wrapu64, c14] at e
  subst e
  repeat (first | refine sq_ ?_ | refine bl_ ?_ | ((first | refine rg_ ?_ | refine go_ ?_); generalize e : goR _ _ _ _ _ _ _ _ = r; simp (disch := omega) [hX, sy_wrapu64, c14] at e; replace e : some _ = _ := e; subst e; (try dsimp only [goW])) | refine ct_ rfl ?_ | refine cf_ rfl ?_ | refine sk_ ?_ | refine ex_ ?_ | (refine W.loop ?_; try (generalize e : dropped _ _ _ = r; simp (disch := omega) [hX, sy_wrapu64, c14] at e; subst e; try dsimp only)) | (refine PL _ ?_ _ fun n1 tyn1 hn1 hun1 => ⟨rfl, ?_⟩; exact fit_; (try dsimp only at hn1)) | ((first | (refine W.ret ?_; (try simp only [outOf, thenW_ret, roundW]); refine endW.of (.inl rfl) rfl ?_) | refine endW.of (.inr rfl) rfl ?_); generalize e : endsC _ _ _ = r; simp (disch := omega) [hX, sy_wrapu64, c14] at e; subst e; (try dsimp only [goW]); (refine hk _ _ ?_ ?_; omega; exact ut_)))

theorem tens_L (n : Int) (h0 : 1 ≤ n) (h1 : n < 1000) : ∃ S : List UInt8, numB S = true ∧ S.length ≤ 3 ∧ Pu tree.getF 14 [.int .i64 n] (.str S) := by
  obtain ⟨S, h2, h3, P⟩ := plain_L n h0 h1
  exact ⟨S, h2, h3, tens_P n h0 h1 S P⟩

theorem word_P (L : CVal) (len : Nat) (hL : Nums L len) (hlen : len ≤ 1000) (n : Int) (hn0 : 0 ≤ n) (h : CHeap) (p d : Nat) (hf : Fit h) (hg : getEnt h.ents p = some (pk L n)) (hp : p < h.next) (K : CVal → CHeap → Prop)
    (hk : ∀ n2 ty t j, h.next ≤ n2 → UnderT ty n2 → nameB t = true → t.length ≤ 8 → 0 ≤ j → K (.str t) ⟨setEnt h.ents p (pk L j), n2, ty⟩) : Wc tree.getF 12 [.ptr p d 0] h K := by
  obtain ⟨hu, hut, hX⟩ := fx4 hf
  have hY := fx5 hf hg
  refine Wc.mkG 12 c12 (by kernel_rfl) rfl ?_
  generalize e : entryC _ _ _ = r
  simp (disch := omega) [hX, hg, hY, c12] at e
  subst e
  repeat' (first
    | refine sq_ ?_
    | refine bl_ ?_
    | ((first | refine rg_ ?_ | refine go_ ?_); generalize e : goR _ _ _ _ _ _ _ _ = r; simp (disch := omega) [hX, hg, hY, c12] at e; replace e : some _ = _ := e; subst e; (try dsimp only [goW]))
    | refine ct_ rfl ?_
    | refine cf_ rfl ?_
    | refine sk_ ?_
    | refine ex_ ?_
    | (refine num_L L len hL hlen _ 18 hn0 (by omega) (by omega) _ p d ?_ ?_ ?_ _ fun n1 ty1 v1 j1 hn1 hun1 hv1 hw1 hj1 => ⟨rfl, ?_⟩; exact fit_; exact ge_; (try dsimp only); omega; (try dsimp only at hn1); (rcases (show v1 = 0 ∨ v1 = 1 ∨ v1 = 2 ∨ v1 = 3 ∨ v1 = 4 ∨ v1 = 5 ∨ v1 = 6 ∨ v1 = 7 ∨ v1 = 8 ∨ v1 = 9 ∨ v1 = 10 ∨ v1 = 11 ∨ v1 = 12 ∨ v1 = 13 ∨ v1 = 14 ∨ v1 = 15 ∨ v1 = 16 ∨ v1 = 17 by omega) with rfl | rfl | rfl | rfl | rfl | rfl | rfl | rfl | rfl | rfl | rfl | rfl | rfl | rfl | rfl | rfl | rfl | rfl))
    | ((first | (refine W.ret ?_; (try simp only [outOf, thenW_ret, roundW]); refine endW.of (.inl rfl) rfl ?_) | refine endW.of (.inr rfl) rfl ?_); generalize e : endsC _ _ _ = r; simp (disch := omega) [hX, hg, hY, c12] at e; subst e; (try dsimp only [goW]); (refine hk _ _ _ j1 ?_ ?_ ?_ ?_ ?_; omega; exact ut_; (focus (rfl; done)); (focus (simp; done)); assumption)))

end Go.Proofs.YtalphliifcecdaaDoor.IrS
namespace Go.Proofs.YtalphliifcecdaaDoor.IrS
open Go Go.CI
open Go.LexF hiding spacesB lettersB
set_option maxRecDepth 100000
set_option maxHeartbeats 4000000
set_option linter.unusedVariables false
set_option linter.unusedSimpArgs false
attribute [local irreducible] W Wo Wc WoR
attribute [local simp] goR regOut checkOne swapOne sameAt nthOp CVal.beq beqs CVal.block storesTo entryC evalOps evalOper evalE evalP evalL evalOpnd nth setNth COp.cls COp.isStore CVal.isUndef CVal.whole CVal.cells CHeap.put CHeap.get CHeap.set wantedC getEnt setEnt partOf writeBack evalBin evalInt evalStr blockMost initVar descOf List.take List.drop CVal.lenOf CVal.isStr CVal.bare CVal.strip CVal.flat endsC resultsC oneOrTuple finishC cut fillCells setCells szOf szOf_desc elems bytesOf evalAppend fillElems mkElem setElem List.replicate sy_nbeq sy_neqF sy_leT sy_leF sy_setEnt_setEnt dropped sy_wrap64 dropEnts dropCells sizeMost sy_ibeqF sy_ieqF sy_ileT sy_ileF sy_iltT sy_iltF sy_ltT sy_ltF evalSlc optBound eqVal extL extE keyIs findKV nthKV setKV CHeap.ty lookupN CHeap.note CHeap.tyOk dropAll freezeVal freezeAll freezeFlat cellsEq cellEq pCopyCheck pBString pMakeNoZero pIndexByte pClone pIndex hasPair rowOf byteVals idxFrom hasFront idxSub
theorem cls (t : List UInt8) : ∃ c1 c2 c3 c4, (t == [115, 116, 114, 105, 110, 103]) = c1 ∧ (t == [98, 121, 116, 101, 115]) = c2 ∧ (t == [73]) = c3 ∧ (t == [77]) = c4 ∧
    ((c1, c2, c3, c4) = (true, false, false, false) ∨ (c1, c2, c3, c4) = (false, true, false, false) ∨ (c1, c2, c3, c4) = (false, false, true, false) ∨ (c1, c2, c3, c4) = (false, false, false, true) ∨ (c1, c2, c3, c4) = (false, false, false, false)) := by
  refine ⟨_, _, _, _, rfl, rfl, rfl, rfl, ?_⟩
  by_cases h1 : t = [115, 116, 114, 105, 110, 103]
  · subst h1; exact .inl rfl
  by_cases h2 : t = [98, 121, 116, 101, 115]
  · subst h2; exact .inr (.inl rfl)
  by_cases h3 : t = [73]
  · subst h3; exact .inr (.inr (.inl rfl))
  by_cases h4 : t = [77]
  · subst h4; exact .inr (.inr (.inr (.inl rfl)))
  have e1 : (t == [115, 116, 114, 105, 110, 103]) = false := by simpa using h1
  have e2 : (t == [98, 121, 116, 101, 115]) = false := by simpa using h2
  have e3 : (t == [73]) = false := by simpa using h3
  have e4 : (t == [77]) = false := by simpa using h4
  rw [e1, e2, e3, e4]
  exact .inr (.inr (.inr (.inr rfl)))

theorem field_P (L : CVal) (len : Nat) (hL : Nums L len) (hlen : len ≤ 1000) (n : Int) (hn0 : 0 ≤ n) (h : CHeap) (p d : Nat) (hf : Fit h) (hg : getEnt h.ents p = some (pk L n)) (hp : p < h.next) (K : CVal → CHeap → Prop) (num : Int) (hm0 : 1 ≤ num) (hm1 : num < 1000)
    (hk : ∀ n2 ty t j, h.next ≤ n2 → UnderT ty n2 → Blk t → t.length ≤ 100 → 0 ≤ j → K (.str t) ⟨setEnt h.ents p (pk L j), n2, ty⟩) : Wc tree.getF 15 [.ptr p d 0, .int .i64 num, .bool false] h K := by
  obtain ⟨hu, hut, hX⟩ := fx4 hf
  have hY := fx5 hf hg
  obtain ⟨S, hS1, hS2, TN⟩ := tens_L num hm0 hm1
  refine Wc.mkG 15 c15 (by kernel_rfl) rfl ?_
  generalize e : entryC _ _ _ = r
  simp (disch := omega) [hX, hg, hY, c15] at e
  subst e
  repeat (first | refine sq_ ?_ | refine bl_ ?_ | ((first | refine rg_ ?_ | refine go_ ?_); generalize e : goR _ _ _ _ _ _ _ _ = r; simp (disch := omega) [hX, hg, hY] at e; replace e : some _ = _ := e; subst e; (try dsimp only [goW])) | refine ct_ rfl ?_ | refine cf_ rfl ?_ | refine sk_ ?_ | refine ex_ ?_ | (refine word_P L len hL hlen n hn0 _ p d ?_ ?_ ?_ _ fun n1 ty1 t1 j1 hn1 hun1 ha1 hb1 hj1 => ⟨rfl, ?_⟩; exact fit_; exact ge_; (try dsimp only); omega; (try dsimp only at hn1)))
  (obtain ⟨c1, c2, c3, c4, b1, b2, b3, b4, hcc⟩ := cls t1; rcases hcc with hcc | hcc | hcc | hcc | hcc <;> cases hcc)
  all_goals
    repeat' (first
      | refine sq_ ?_
      | refine bl_ ?_
      | ((first | refine rg_ ?_ | refine go_ ?_); generalize e : goR _ _ _ _ _ _ _ _ = r; simp (disch := omega) [hX, hg, hY, b1, b2, b3, b4, c15] at e; replace e : some _ = _ := e; subst e; (try dsimp only [goW]))
      | refine ct_ rfl ?_
      | refine cf_ rfl ?_
      | refine sk_ ?_
      | refine ex_ ?_
      | (refine TN _ ?_ _ fun n2 tyn2 hn2 hun2 => ⟨rfl, ?_⟩; exact fit_; (try dsimp only at hn2))
      | (refine num_L L len hL hlen j1 8 hj1 (by omega) (by omega) _ p d ?_ ?_ ?_ _ fun n8 ty8 v8 j8 hn8 hun8 hv8 hw8 hj8 => ⟨rfl, ?_⟩; exact fit_; exact ge_; (try dsimp only); omega; (try dsimp only at hn8); (rcases (show v8 = 0 ∨ v8 = 1 ∨ v8 = 2 ∨ v8 = 3 ∨ 4 ≤ v8 by omega) with rfl | rfl | rfl | rfl | hge))
      | (refine num_L L len hL hlen j8 4 hj8 (by omega) (by omega) _ p d ?_ ?_ ?_ _ fun n4 ty4 v4 j4 hn4 hun4 hv4 hw4 hj4 => ⟨rfl, ?_⟩; exact fit_; exact ge_; (try dsimp only); omega; (try dsimp only at hn4); (rcases (show v4 = 0 ∨ v4 = 1 ∨ v4 = 2 ∨ v4 = 3 by omega) with rfl | rfl | rfl | rfl))
      | (refine num_L L len hL hlen j8 6 hj8 (by omega) (by omega) _ p d ?_ ?_ ?_ _ fun n6 ty6 v6 j6 hn6 hun6 hv6 hw6 hj6 => ⟨rfl, ?_⟩; exact fit_; exact ge_; (try dsimp only); omega; (try dsimp only at hn6); (rcases (show v6 = 0 ∨ v6 = 1 ∨ v6 = 2 ∨ v6 = 3 ∨ v6 = 4 ∨ v6 = 5 by omega) with rfl | rfl | rfl | rfl | rfl | rfl))
      | ((first | (refine W.ret ?_; (try simp only [outOf, thenW_ret, roundW]); refine endW.of (.inl rfl) rfl ?_) | refine endW.of (.inr rfl) rfl ?_); generalize e : endsC _ _ _ = r; simp (disch := omega) [hX, hg, hY, b1, b2, b3, b4, c15] at e; subst e; (try dsimp only [goW]); (refine hk _ _ _ _ ?_ ?_ ?_ ?_ ?_; omega; exact ut_; (focus ((first | (simpa using blk_one ha1 hS1 hS2) | (simpa using blk_opt ha1 hS1 hS2) | (simpa using blk_rep ha1 hS1 hS2) | (simpa using blk_repf ha1 hS1 hS2) | (simpa using blk_rept ha1 hS1 hS2) | (simpa using blk_map (key := [115, 116, 114, 105, 110, 103]) (by decide) ha1 hS1 hS2) | (simpa using blk_map (key := [105, 110, 116, 51, 50]) (by decide) ha1 hS1 hS2) | (simpa using blk_map (key := [98, 111, 111, 108]) (by decide) ha1 hS1 hS2) | (simpa using blk_map (key := [117, 105, 110, 116, 54, 52]) (by decide) ha1 hS1 hS2) | (simpa using blk_map (key := [115, 105, 110, 116, 51, 50]) (by decide) ha1 hS1 hS2) | (simpa using blk_map (key := [102, 105, 120, 101, 100, 51, 50]) (by decide) ha1 hS1 hS2)); done)); (focus (((try simp) <;> omega); done)); assumption)))
theorem tens_K (n : Int) (h0 : 1 ≤ n) (h1 : n < 1000) (h : CHeap) (hf : Fit h) (K : CVal → CHeap → Prop) (hk : ∀ n2 ty S, h.next ≤ n2 → UnderT ty n2 → numB S = true → S.length ≤ 3 → K (.str S) ⟨h.ents, n2, ty⟩) : Wc tree.getF 14 [.int .i64 n] h K := by
  obtain ⟨S, hS1, hS2, TN⟩ := tens_L n h0 h1
  exact TN h hf K fun n2 ty g1 g2 => hk n2 ty S g1 g2 hS1 hS2
abbrev bodyLoop : CCode := (.loop true (.seq (.seq (.region [.v 2, .v 3, .g (.bin .lss (.loc 1) (.loc 0))] [(4, 2)] [] []) (.cond (.var 4) .skip (.exit 0))) (.seq (.block 1 (.seq (.region [.v 2, .g (.bin .add (.loc 0) (.const (.int .i64 1))), .v 0, .g (.call false 11 [(.loc 0), (.const (.int .i64 2))]), .g (.bin .mul (.const (.int .i64 14)) (.loc 0)), .v 2, .g (.bin .mul (.loc 1) (.loc 0)), .g (.bin .add (.loc 5) (.loc 0)), .m (.loc 0)] [(10, 8)] [] []) (.seq (.region [.v 0, .g (.call false 11 [(.loc 0), (.const (.int .i64 4))]), .g (.bin .eql (.loc 0) (.const (.int .i64 0)))] [(5, 2)] [] []) (.cond (.var 5) (.seq (.region [.v 0, .g (.call false 12 [(.loc 0)]), .m (.loc 0)] [(9, 2)] [] []) (.seq (.seq (.region [.v 6] [(7, 0)] [] []) (.cond (.var 7) (.region [.v 0, .g (.call false 13 [(.loc 0)]), .m (.loc 0)] [(9, 2)] [] []) .skip)) (.region [.v 8, .v 9, .g (.bin .add (.loc 1) (.loc 0)), .g (.bin .add (.loc 0) (.const (.str [32, 111]))), .v 10, .g (.bin .add (.loc 0) (.const (.int .i64 100))), .g (.call false 14 [(.loc 0)]), .g (.bin .add (.loc 3) (.loc 0)), .g (.bin .add (.loc 0) (.const (.str [32, 61, 32]))), .v 10, .g (.bin .add (.loc 0) (.const (.int .i64 100))), .g (.call false 14 [(.loc 0)]), .g (.bin .add (.loc 3) (.loc 0)), .g (.bin .add (.loc 0) (.const (.str [59, 10]))), .m (.loc 0)] [(8, 14)] [] []))) (.region [.v 11, .v 0, .v 10, .v 6, .g (.call false 15 [(.loc 2), (.loc 1), (.loc 0)]), .g (.bin .add (.loc 4) (.loc 0)), .m (.loc 0)] [(11, 6)] [] []))))) (.region [.v 2, .g (.bin .add (.loc 0) (.const (.int .i64 1))), .m (.loc 0)] [(2, 2)] [] []))))

theorem body_loop (L : CVal) (len : Nat) (hL : Nums L len) (hlen : len ≤ 1000) (p d : Nat) (nn top : Int) (hnn : nn ≤ top) (htop : 0 ≤ top ∧ top ≤ 10) (v1 v13 : CVal) (Q : CExit → CSt → Prop) : ∀ (m : Nat) (i n : Int) (s one : List UInt8), nn - i ≤ m → 0 ≤ i → i ≤ top → (s.length : Int) ≤ 110 * i → (one.length : Int) ≤ 110 * i → Blk s → Blk one → 0 ≤ n → ∀ (h : CHeap) (v4 v5 v7 v9 v10 v12 : CVal), getEnt h.ents p = some (pk L n) → Fit h → p < h.next →
    (∀ n' ty j s' one' w2 w4 w5 w7 w9 w10 w12, h.next ≤ n' → UnderT ty n' → 0 ≤ j → (s'.length : Int) ≤ 110 * top → (one'.length : Int) ≤ 110 * top → Blk s' → Blk one' → Q (.exit 0) ⟨[.ptr p d 0, v1, w2, .int .i64 nn, w4, w5, .bool false, w7, .str one', w9, w10, .str s', w12, v13], ⟨setEnt h.ents p (pk L j), n', ty⟩, []⟩) →
    W tree.getF bodyLoop ⟨[.ptr p d 0, v1, .int .i64 i, .int .i64 nn, v4, v5, .bool false, v7, .str one, v9, v10, .str s, v12, v13], h, []⟩ Q := by
  intro m
  induction m with
  | zero =>
    intro i n s one hm hi0 hi1 hs ho hbs hbo hn0 h v4 v5 v7 v9 v10 v12 hg hf hp hk
    have hk' := fun n' ty w2 w4 w5 w7 w9 w10 w12 g1 g2 => hk n' ty n s one w2 w4 w5 w7 w9 w10 w12 g1 g2 hn0 (by omega) (by omega) hbs hbo
    simp only [setEnt_same hg] at hk'
    have hno : ¬ i < nn := by omega
    obtain ⟨hu, hut, hX⟩ := fx4 hf
    have hY := fx5 hf hg
    refine W.loop ?_
    repeat (first | refine sq_ ?_ | refine bl_ ?_ | ((first | refine rg_ ?_ | refine go_ ?_); generalize e : goR _ _ _ _ _ _ _ _ = r; simp (disch := omega) [hX, hg, hY] at e; replace e : some _ = _ := e; subst e; (try dsimp only [goW])) | refine ct_ rfl ?_ | refine cf_ rfl ?_ | refine sk_ ?_ | refine ex_ ?_)
    all_goals ((try simp only [outOf, thenW_ret, roundW]); refine hk' _ _ _ _ _ _ _ _ _ ?_ ?_; (focus (omega; done)); exact ut_)
  | succ m ih =>
    intro i n s one hm hi0 hi1 hs ho hbs hbo hn0 h v4 v5 v7 v9 v10 v12 hg hf hp hk
    by_cases hlt : i < nn
    · have hnext : ∀ (s2 one2 : List UInt8) (j : Int) (h' : CHeap) (v4 v5 v7 v9 v10 v12 : CVal), (s2.length : Int) ≤ 110 * (i + 1) → (one2.length : Int) ≤ 110 * (i + 1) → Blk s2 → Blk one2 → 0 ≤ j → h'.ents = setEnt h.ents p (pk L j) → h.next ≤ h'.next → UnderT h'.tys h'.next →
          W tree.getF bodyLoop ⟨[.ptr p d 0, v1, .int .i64 (i + 1), .int .i64 nn, v4, v5, .bool false, v7, .str one2, v9, v10, .str s2, v12, v13], h', []⟩ Q := by
        intro s2 one2 j h' v4 v5 v7 v9 v10 v12 e1 e2 b1 b2 e3 e4 e5 e6
        refine ih (i + 1) j s2 one2 (by omega) (by omega) (by omega) e1 e2 b1 b2 e3 h' _ _ _ _ _ _ (by rw [e4]; exact sy_getEnt_setEnt hg) ⟨by rw [e4]; exact hf.1.set.le e5, e6⟩ (by omega) ?_
        intro n' ty j s' one' w2 w4 w5 w7 w9 w10 w12 g1 g2
        rw [e4, sy_setEnt_setEnt]
        exact hk n' ty j s' one' w2 w4 w5 w7 w9 w10 w12 (by omega) g2
      obtain ⟨hu, hut, hX⟩ := fx4 hf
      have hY := fx5 hf hg
      refine W.loop ?_
      repeat' (first
        | refine sq_ ?_
        | refine bl_ ?_
        | ((first | refine rg_ ?_ | refine go_ ?_); generalize e : goR _ _ _ _ _ _ _ _ = r; simp (disch := omega) [hX, hg, hY] at e; replace e : some _ = _ := e; subst e; (try dsimp only [goW]))
        | refine ct_ rfl ?_
        | refine cf_ rfl ?_
        | refine sk_ ?_
        | refine ex_ ?_
        | (refine num_L L len hL hlen n 2 hn0 (by omega) (by omega) _ p d ?_ ?_ ?_ _ fun n2 ty2 v2 j2 hn2 hun2 hv2 hw2 hj2 => ⟨rfl, ?_⟩; exact fit_; exact ge_; (try dsimp only); omega; (try dsimp only at hn2); (rcases (show v2 = 0 ∨ v2 = 1 by omega) with rfl | rfl))
        | (refine num_L L len hL hlen j2 4 hj2 (by omega) (by omega) _ p d ?_ ?_ ?_ _ fun n4 ty4 v4' j4 hn4 hun4 hv4 hw4 hj4 => ⟨rfl, ?_⟩; exact fit_; exact ge_; (try dsimp only); omega; (try dsimp only at hn4); (rcases (show v4' = 0 ∨ 1 ≤ v4' by omega) with rfl | hge))
        | (refine word_P L len hL hlen j4 hj4 _ p d ?_ ?_ ?_ _ fun n1 ty1 t1 j1 hn1 hun1 ha1 hb1 hj1 => ⟨rfl, ?_⟩; exact fit_; exact ge_; (try dsimp only); omega; (try dsimp only at hn1))
        | (refine tens_K _ ?_ ?_ _ ?_ _ fun n5 ty5 S5 hn5 hun5 ha5 hb5 => ⟨rfl, ?_⟩; omega; omega; exact fit_; (try dsimp only at hn5))
        | (refine field_P L len hL hlen j4 hj4 _ p d ?_ ?_ ?_ _ _ ?_ ?_ fun n6 ty6 t6 j6 hn6 hun6 ha6 hb6 hj6 => ⟨rfl, ?_⟩; exact fit_; exact ge_; (try dsimp only); omega; omega; omega; (try dsimp only at hn6)))
      all_goals
        show W tree.getF bodyLoop (dropped true _ _) Q
        generalize e : dropped _ _ _ = r0
        simp (disch := omega) [hX, hg, hY] at e
        subst e
        try dsimp only
        refine hnext _ _ _ _ _ _ _ _ _ _ ?_ ?_ ?_ ?_ ?_ rfl ?_ ?_
        · ((try simp) <;> omega)
        · ((try simp) <;> omega)
        · first | assumption | exact Blk.app hbs ha6 | (simpa using Blk.app hbs ha6)
        · first | assumption | ((try simp only [List.append_assoc, List.cons_append, List.nil_append]); exact Blk.app hbo (blk_oo2 ha1 (by assumption) (by assumption) (by assumption)))
        · assumption
        · (try dsimp only); omega
        · exact ut_
    · have hk' := fun n' ty w2 w4 w5 w7 w9 w10 w12 g1 g2 => hk n' ty n s one w2 w4 w5 w7 w9 w10 w12 g1 g2 hn0 (by omega) (by omega) hbs hbo
      simp only [setEnt_same hg] at hk'
      obtain ⟨hu, hut, hX⟩ := fx4 hf
      have hY := fx5 hf hg
      refine W.loop ?_
      repeat (first | refine sq_ ?_ | refine bl_ ?_ | ((first | refine rg_ ?_ | refine go_ ?_); generalize e : goR _ _ _ _ _ _ _ _ = r; simp (disch := omega) [hX, hg, hY] at e; replace e : some _ = _ := e; subst e; (try dsimp only [goW])) | refine ct_ rfl ?_ | refine cf_ rfl ?_ | refine sk_ ?_ | refine ex_ ?_)
      all_goals ((try simp only [outOf, thenW_ret, roundW]); refine hk' _ _ _ _ _ _ _ _ _ ?_ ?_; (focus (omega; done)); exact ut_)

end Go.Proofs.YtalphliifcecdaaDoor.IrS
namespace Go.Proofs.YtalphliifcecdaaDoor.IrS
open Go Go.CI
open Go.LexF hiding spacesB lettersB
set_option maxRecDepth 100000
set_option linter.unusedVariables false
set_option linter.unusedSimpArgs false
attribute [local irreducible] W Wo Wc WoR
attribute [local simp] goR regOut checkOne swapOne sameAt nthOp CVal.beq beqs CVal.block storesTo entryC evalOps evalOper evalE evalP evalL evalOpnd nth setNth COp.cls COp.isStore CVal.isUndef CVal.whole CVal.cells CHeap.put CHeap.get CHeap.set wantedC getEnt setEnt partOf writeBack evalBin evalInt evalStr blockMost initVar descOf List.take List.drop CVal.lenOf CVal.isStr CVal.bare CVal.strip CVal.flat endsC resultsC oneOrTuple finishC cut fillCells setCells szOf szOf_desc elems bytesOf evalAppend fillElems mkElem setElem List.replicate sy_nbeq sy_neqF sy_leT sy_leF sy_setEnt_setEnt dropped sy_wrap64 dropEnts dropCells sizeMost sy_ibeqF sy_ieqF sy_ileT sy_ileF sy_iltT sy_iltF sy_ltT sy_ltF evalSlc optBound eqVal extL extE keyIs findKV nthKV setKV CHeap.ty lookupN CHeap.note CHeap.tyOk dropAll freezeVal freezeAll freezeFlat cellsEq cellEq pCopyCheck pBString pMakeNoZero pIndexByte pClone pIndex hasPair rowOf byteVals idxFrom hasFront idxSub
theorem wSH1 {P : Prop} (h : P := by repeat (first | refine sq_ ?_ | refine bl_ ?_ | ((first | refine rg_ ?_ | refine go_ ?_); generalize e : goR _ _ _ _ _ _ _ _ = r; simp (disch := omega) [hX, hg, hY, c8] at e; replace e : some _ = _ := e; subst e; (try dsimp only [goW])) | refine ct_ rfl ?_ | refine cf_ rfl ?_ | refine sk_ ?_ | refine ex_ ?_ | ((first | (refine W.ret ?_; (try simp only [outOf, thenW_ret, roundW]); refine endW.of (.inl rfl) rfl ?_) | refine endW.of (.inr rfl) rfl ?_); generalize e : endsC _ _ _ = r; simp (disch := omega) [hX, hg, hY, c8] at e; subst e; (try dsimp only [goW]); (refine hk _ _ _ j ?_ ?_ ?_ ?_ ?_; omega; exact ut_; (focus ((first | assumption | (simpa using ((g6.app blk_oneof).app g7).app blk_end)); done)); (focus (((try simp) <;> omega); done)); assumption)))) : P := h

theorem body_P (L : CVal) (len : Nat) (hL : Nums L len) (hlen : len ≤ 1000) (n : Int) (hn0 : 0 ≤ n) (h : CHeap) (p d : Nat) (hf : Fit h) (hg : getEnt h.ents p = some (pk L n)) (hp : p < h.next) (K : CVal → CHeap → Prop) (most : Int) (hm0 : 0 ≤ most) (hm1 : most ≤ 9)
    (hk : ∀ n2 ty t j, h.next ≤ n2 → UnderT ty n2 → Blk t → (t.length : Int) ≤ 220 * most + 12 → 0 ≤ j → K (.str t) ⟨setEnt h.ents p (pk L j), n2, ty⟩) : Wc tree.getF 8 [.ptr p d 0, .int .i64 most, .bool false] h K := by
  obtain ⟨hu, hut, hX⟩ := fx4 hf
  have hY := fx5 hf hg; have ⟨hG, hD2, hC2, hN2⟩ := hY
  refine Wc.mkG 8 c8 (by kernel_rfl) rfl ?_
  generalize e : entryC _ _ _ = r
  simp (disch := omega) [hX, hg, hY, c8] at e
  subst e
  repeat (first | refine sq_ ?_ | refine bl_ ?_ | ((first | refine rg_ ?_ | refine go_ ?_); generalize e : goR _ _ _ _ _ _ _ _ = r; simp (disch := omega) [hX, hg, hY] at e; replace e : some _ = _ := e; subst e; (try dsimp only [goW])) | refine ct_ rfl ?_ | refine cf_ rfl ?_ | refine sk_ ?_ | refine ex_ ?_ | (refine num_L L len hL hlen n (most + 1) hn0 (by omega) (by omega) _ p d ?_ ?_ ?_ _ fun n1 ty1 v1 j1 hn1 hun1 hv1 hw1 hj1 => ⟨rfl, ?_⟩; exact fit_; exact ge_; (try dsimp only); omega; (try dsimp only at hn1)))
  refine body_loop L len hL hlen p d v1 most (by omega) ⟨hm0, by omega⟩ _ _ _ 10 0 j1 [] [] (by omega) (by omega) (by omega) (by simp) (by simp) Blk.nil Blk.nil hj1 _ _ _ _ _ _ _ ?_ ?_ ?_ ?_
  · (first | exact hg | exact hG _ | ((try dsimp only); exact hg) | ((try dsimp only); exact hG _) | (simp (disch := omega) [getEnt, setEnt, sy_nbeq, sy_neqF, sy_setEnt_setEnt, hg, hG]))
  · exact fit_
  · (try dsimp only); omega
  · intro n' ty j s' one' w2 w4 w5 w7 w9 w10 w12 g1 g2 g3 g4 g5 g6 g7
    try dsimp only at g1
    cases one' with
    | nil =>
      exact wSH1
    | cons c0 r0 =>
      simp only [List.length_cons] at g5
      exact wSH1

theorem text_P (L : CVal) (len : Nat) (hL : Nums L len) (hlen : len ≤ 1000) (n : Int) (hn0 : 0 ≤ n) (h : CHeap) (p d : Nat) (hf : Fit h) (hg : getEnt h.ents p = some (pk L n)) (hp : p < h.next) (K : CVal → CHeap → Prop)
    (hk : ∀ n2 ty t j, h.next ≤ n2 → UnderT ty n2 → Blk t → t.length ≤ 3000 → 0 ≤ j → K (.str t) ⟨setEnt h.ents p (pk L j), n2, ty⟩) : Wc tree.getF 6 [.ptr p d 0, .bool false] h K := by
  obtain ⟨hu, hut, hX⟩ := fx4 hf
  have hY := fx5 hf hg
  refine Wc.mkG 6 c6 (by kernel_rfl) rfl ?_
  generalize e : entryC _ _ _ = r
  simp (disch := omega) [hX, hg, hY, c6] at e
  subst e
  repeat (first | refine sq_ ?_ | refine bl_ ?_ | ((first | refine rg_ ?_ | refine go_ ?_); generalize e : goR _ _ _ _ _ _ _ _ = r; simp (disch := omega) [hX, hg, hY, c6] at e; replace e : some _ = _ := e; subst e; (try dsimp only [goW])) | refine ct_ rfl ?_ | refine cf_ rfl ?_ | refine sk_ ?_ | refine ex_ ?_ | (refine body_P L len hL hlen n hn0 _ p d ?_ ?_ ?_ _ 4 (by omega) (by omega) fun n1 ty1 t1 j1 hn1 hun1 hB1 hb1 hj1 => ⟨rfl, ?_⟩; exact fit_; exact ge_; (try dsimp only); omega; (try dsimp only at hn1)) | (refine body_P L len hL hlen j1 hj1 _ p d ?_ ?_ ?_ _ 7 (by omega) (by omega) fun n2 ty2 t2 j2 hn2 hun2 hB2 hb2 hj2 => ⟨rfl, ?_⟩; exact fit_; exact ge_; (try dsimp only); omega; (try dsimp only at hn2)) | ((first | (refine W.ret ?_; (try simp only [outOf, thenW_ret, roundW]); refine endW.of (.inl rfl) rfl ?_) | refine endW.of (.inr rfl) rfl ?_); generalize e : endsC _ _ _ = r; simp (disch := omega) [hX, hg, hY, c6] at e; subst e; (try dsimp only [goW]); (refine hk _ _ _ j2 ?_ ?_ ?_ ?_ ?_; omega; exact ut_; (focus ((simpa using (((blk_head.app hB1).app blk_mid).app hB2).app blk_end); done)); (focus (((try simp) <;> omega); done)); assumption)))

end Go.Proofs.YtalphliifcecdaaDoor.IrS
namespace Go.Proofs.YtalphliifcecdaaDoor.IrS
open Go Go.CI
open Go.LexF hiding spacesB lettersB
set_option maxRecDepth 100000
set_option maxHeartbeats 4000000
set_option linter.unusedVariables false
set_option linter.unusedSimpArgs false
attribute [local irreducible] W Wo Wc WoR
attribute [local simp] goR regOut checkOne swapOne sameAt nthOp CVal.beq beqs CVal.block storesTo entryC evalOps evalOper evalE evalP evalL evalOpnd nth setNth COp.cls COp.isStore CVal.isUndef CVal.whole CVal.cells CHeap.put CHeap.get CHeap.set wantedC getEnt setEnt partOf writeBack evalBin evalInt evalStr blockMost initVar descOf List.take List.drop CVal.lenOf CVal.isStr CVal.bare CVal.strip CVal.flat endsC resultsC oneOrTuple finishC cut fillCells setCells szOf szOf_desc elems bytesOf evalAppend fillElems mkElem setElem List.replicate sy_nbeq sy_neqF sy_leT sy_leF sy_setEnt_setEnt dropped sy_wrap64 dropEnts dropCells sizeMost sy_ibeqF sy_ieqF sy_ileT sy_ileF sy_iltT sy_iltF sy_ltT sy_ltF evalSlc optBound eqVal extL extE keyIs findKV nthKV setKV CHeap.ty lookupN CHeap.note CHeap.tyOk dropAll freezeVal freezeAll freezeFlat cellsEq cellEq pCopyCheck pBString pMakeNoZero pIndexByte pClone pIndex hasPair rowOf byteVals idxFrom hasFront idxSub
theorem sy_ibneT {a b : Int} (h : a ≠ b) : (a != b) = true := by simp [h]
theorem sy_ibneF {a b : Int} (h : a = b) : (a != b) = false := by simp [h]
theorem sy_ibeqT {a b : Int} (h : a = b) : (a == b) = true := by simp [h]
/-- What stands between the words of the second text. -/
def spOf (how : List Int) (i : Nat) : List UInt8 := if how = [] then [] else betw.getD ((how.getD (i % how.length) 0).tmod 7).toNat []
theorem spOf_ok (how : List Int) (i : Nat) : GapOk (spOf how i) ∧ Brk (spOf how i) ∧ (spOf how i).length ≤ 10 := by
  unfold spOf
  split
  · exact ⟨gap_nil, Brk.nil, by simp⟩
  · generalize ((how.getD (i % how.length) 0).tmod 7).toNat = m
    rcases Nat.lt_or_ge m 7 with h | h
    · have hm : betw.getD m [] ∈ betw := by
        rw [List.getD_eq_getElem?_getD, List.getElem?_eq_getElem (by simpa [betw] using h)]
        exact List.getElem_mem _
      have h2 := betw_ok _ hm
      refine ⟨h2.1, h2.2, ?_⟩
      have : ∀ b ∈ betw, b.length ≤ 10 := by decide
      exact this _ hm
    · rw [List.getD_eq_getElem?_getD, List.getElem?_eq_none (by simpa [betw] using h)]
      exact ⟨gap_nil, Brk.nil, by simp⟩
theorem addS_bound (sp : Nat → List UInt8) (hsp : ∀ i, (sp i).length ≤ 10) : ∀ (ps : List Cel) (b : Nat), (rnd (addS sp b ps)).length ≤ (rnd ps).length + 10 * ps.length
  | [], _ => by simp [addS, rnd]
  | p :: r, b => by
    have := addS_bound sp hsp r (b + 1)
    have h2 := hsp b
    simp only [addS, rnd, List.length_append, List.length_cons]
    omega
theorem cells_le : ∀ (ps : List Cel), WF ps → ps.length ≤ (rnd ps).length
  | [], _ => Nat.zero_le _
  | p :: r, h => by
    have := cells_le r h.2.2.2
    have hne : 1 ≤ p.x.length := by
      cases hx : p.x with
      | nil => exact absurd hx h.1.ne
      | cons c u => simp
    simp only [rnd, List.length_append, List.length_cons]
    omega
theorem rnd_take_le (ps : List Cel) (i : Nat) : (rnd (ps.take i)).length ≤ (rnd ps).length := by
  have h1 : rnd ps = rnd (ps.take i) ++ rnd (ps.drop i) := by rw [← rnd_app, List.take_append_drop]
  rw [h1, List.length_append]; omega
abbrev endT (ps : List Cel) : List Tok := toks 0 ps ++ [(5, [], 0, (rnd ps).length)]
theorem endT_len (ps : List Cel) : (endT ps).length = ps.length + 1 := by simp [toks_len]
theorem endT_get (ps : List Cel) (i : Nat) (hi : i ≤ ps.length) : ∃ k tx n, (endT ps)[i]? = some (k, tx, n, (rnd (ps.take i)).length) ∧ ((k, tx, n) = match ps[i]? with | some p => (p.k, p.tx, p.n) | none => (5, [], 0)) := by
  rcases Nat.lt_or_ge i ps.length with h | h
  · obtain ⟨p, hp⟩ : ∃ p, ps[i]? = some p := ⟨ps[i], List.getElem?_eq_getElem h⟩
    have := toks_get ps 0 i p hp
    refine ⟨p.k, p.tx, p.n, ?_, by rw [hp]⟩
    unfold endT
    rw [List.getElem?_append_left (by rw [toks_len]; exact h), this, Nat.zero_add]
  · obtain rfl : i = ps.length := by omega
    refine ⟨5, [], 0, ?_, by rw [List.getElem?_eq_none (Nat.le_refl _)]⟩
    unfold endT
    rw [List.getElem?_append_right (by rw [toks_len]; exact Nat.le_refl _), toks_len, Nat.sub_self, List.take_of_length_le (Nat.le_refl _)]
    rfl
theorem endT_same (sp : Nat → List UInt8) (ps : List Cel) (i : Nat) (hi : i ≤ ps.length) : ∃ (k : Nat) (tx : List UInt8) (n a a' : Nat), (endT ps)[i]? = some (k, tx, n, a) ∧ (endT (addS sp 0 ps))[i]? = some (k, tx, n, a') := by
  obtain ⟨k, tx, n, h1, h2⟩ := endT_get ps i hi
  obtain ⟨k', tx', n', h3, h4⟩ := endT_get (addS sp 0 ps) i (by rw [addS_len]; exact hi)
  have : (k', tx', n') = (k, tx, n) := by
    rw [h2, h4]
    cases hp : ps[i]? with
    | none => rw [List.getElem?_eq_none (by rw [addS_len]; exact List.getElem?_eq_none_iff.1 hp)]
    | some p => rw [addS_get sp ps 0 i p hp]
  cases this
  exact ⟨k, tx, n, _, _, h1, h3⟩
theorem addS_step (sp : Nat → List UInt8) (ps : List Cel) (i : Nat) (p : Cel) (h : ps[i]? = some p) : rnd ((addS sp 0 ps).take (i + 1)) = rnd ((addS sp 0 ps).take i) ++ (p.x ++ (p.g ++ sp i)) := by
  have := addS_get sp ps 0 i p h
  rw [Nat.zero_add] at this
  exact rnd_take _ i _ this
theorem addS_take_bound (sp : Nat → List UInt8) (hsp : ∀ i, (sp i).length ≤ 10) (ps : List Cel) (hps : (rnd ps).length ≤ 3000) (hw : WF ps) (i : Nat) : (rnd ((addS sp 0 ps).take i)).length ≤ 40000 := by
  have h1 := rnd_take_le (addS sp 0 ps) i
  have h2 := addS_bound sp hsp ps 0
  have h3 := cells_le ps hw
  omega
abbrev slLoop : CCode := (.loop true (.seq (.seq (.region [.v 8, .g (.bin .add (.loc 0) (.const (.int .i64 1))), .v 6, .g (.len false (.loc 0)), .g (.bin .lss (.loc 2) (.loc 0))] [(9, 4)] [] []) (.cond (.var 9) .skip (.exit 0))) (.seq (.block 1 (.seq (.seq (.region [.v 6, .v 8, .g (.idxAddr 4 (.loc 1) (.loc 0)), .f 3 0, .l 0, .g (.bin .lss (.loc 0) (.const (.int .i64 0))), .m (.loc 0), ⟨.mv (.var 6), (some (0, false))⟩, ⟨.mv (.var 8), (some (1, false))⟩, ⟨.idxAddr 4 (.loc 1) (.loc 0), (some (2, false))⟩, ⟨.fieldAddr 3 (.loc 0), (some (3, false))⟩, ⟨.load none (.loc 0), (some (4, false))⟩, ⟨.mv (.var 6), (some (5, false))⟩, ⟨.mv (.var 8), (some (6, false))⟩, ⟨.bin .add (.loc 0) (.const (.int .i64 1)), (some (7, false))⟩, ⟨.idxAddr 4 (.loc 2) (.loc 0), (some (8, false))⟩, ⟨.fieldAddr 3 (.loc 0), (some (9, false))⟩, ⟨.load none (.loc 0), (some (10, false))⟩, ⟨.bin .gtr (.loc 6) (.loc 0), (some (11, false))⟩, .g (.pick (.loc 12) (.const (.bool true)) (.loc 0)), .m (.loc 0), ⟨.mv (.var 6), (some (0, false))⟩, ⟨.mv (.var 8), (some (1, false))⟩, ⟨.bin .add (.loc 0) (.const (.int .i64 1)), (some (2, false))⟩, ⟨.idxAddr 4 (.loc 2) (.loc 0), (some (3, false))⟩, ⟨.fieldAddr 3 (.loc 0), (some (4, false))⟩, ⟨.load none (.loc 0), (some (5, false))⟩, ⟨.mv (.var 4), (some (6, false))⟩, ⟨.len true (.loc 0), (some (7, false))⟩, ⟨.bin .gtr (.loc 2) (.loc 0), (some (8, false))⟩, .g (.pick (.loc 9) (.const (.bool true)) (.loc 0))] [(10, 30)] [] []) (.cond (.var 10) (.seq (.region [.m (.const (.bool false))] [(21, 0)] [] []) .ret) .skip)) (.seq (.region [.v 11, .v 4, .v 6, .v 8, .g (.idxAddr 4 (.loc 1) (.loc 0)), .f 3 0, .l 0, .v 6, .v 8, .g (.bin .add (.loc 0) (.const (.int .i64 1))), .g (.idxAddr 4 (.loc 2) (.loc 0)), .f 3 0, .l 0, .g (.slc 0 (.loc 11) (some (.loc 6)) (some (.loc 0))), .g (.bin .add (.loc 13) (.loc 0)), .m (.loc 0)] [(11, 15)] [] []) (.seq (.region [.v 2, .g (.len false (.loc 0)), .g (.bin .gtr (.loc 0) (.const (.int .i64 0)))] [(12, 2)] [] []) (.cond (.var 12) (.region [.v 11, .v 13, .v 2, .v 8, .v 2, .g (.len false (.loc 0)), .g (.bin .rem (.loc 2) (.loc 0)), .g (.idxAddr 1 (.loc 4) (.loc 0)), .l 0, .g (.bin .rem (.loc 0) (.const (.int .u8 7))), .g (.idxAddr 1 (.loc 8) (.loc 0)), .l 0, .g (.bin .add (.loc 11) (.loc 0)), .m (.loc 0)] [(11, 13)] [] []) .skip))))) (.region [.v 8, .g (.bin .add (.loc 0) (.const (.int .i64 1))), .m (.loc 0)] [(8, 2)] [] []))))
abbrev clLoop : CCode := (.loop true (.seq (.seq (.region [.v 18, .v 6, .g (.len false (.loc 0)), .g (.bin .lss (.loc 2) (.loc 0))] [(19, 3)] [] []) (.cond (.var 19) .skip (.exit 2))) (.seq (.block 3 (.seq (.region [.v 16, .v 18, .g (.idxAddr 4 (.loc 1) (.loc 0)), .f 0 0, .l 0, .v 6, .v 18, .g (.idxAddr 4 (.loc 1) (.loc 0)), .f 0 0, .l 0, .g (.bin .neq (.loc 5) (.loc 0)), .m (.loc 0), ⟨.mv (.var 16), (some (0, false))⟩, ⟨.mv (.var 18), (some (1, false))⟩, ⟨.idxAddr 4 (.loc 1) (.loc 0), (some (2, false))⟩, ⟨.fieldAddr 1 (.loc 0), (some (3, false))⟩, ⟨.load none (.loc 0), (some (4, false))⟩, ⟨.mv (.var 6), (some (5, false))⟩, ⟨.mv (.var 18), (some (6, false))⟩, ⟨.idxAddr 4 (.loc 1) (.loc 0), (some (7, false))⟩, ⟨.fieldAddr 1 (.loc 0), (some (8, false))⟩, ⟨.load none (.loc 0), (some (9, false))⟩, ⟨.bin .neq (.loc 5) (.loc 0), (some (10, false))⟩, .g (.pick (.loc 11) (.const (.bool true)) (.loc 0)), .m (.loc 0), ⟨.mv (.var 16), (some (0, false))⟩, ⟨.mv (.var 18), (some (1, false))⟩, ⟨.idxAddr 4 (.loc 1) (.loc 0), (some (2, false))⟩, ⟨.fieldAddr 2 (.loc 0), (some (3, false))⟩, ⟨.load none (.loc 0), (some (4, false))⟩, ⟨.mv (.var 6), (some (5, false))⟩, ⟨.mv (.var 18), (some (6, false))⟩, ⟨.idxAddr 4 (.loc 1) (.loc 0), (some (7, false))⟩, ⟨.fieldAddr 2 (.loc 0), (some (8, false))⟩, ⟨.load none (.loc 0), (some (9, false))⟩, ⟨.bin .neq (.loc 5) (.loc 0), (some (10, false))⟩, .g (.pick (.loc 11) (.const (.bool true)) (.loc 0))] [(20, 36)] [] []) (.cond (.var 20) (.seq (.region [.m (.const (.bool false))] [(21, 0)] [] []) .ret) .skip))) (.region [.v 18, .g (.bin .add (.loc 0) (.const (.int .i64 1))), .m (.loc 0)] [(18, 2)] [] []))))

theorem sl_loop_n (ps : List Cel) (hw : WF ps) (hps : (rnd ps).length ≤ 3000) (l : List Tok) (hll : l.length = ps.length + 1) (hlg : ∀ i, i ≤ ps.length → ∃ k tx n, l[i]? = some (k, tx, n, (rnd (ps.take i)).length))  (v0 v1 v3 v5 v7 v14 v15 v16 v17 v18 v19 v20 v21 : CVal) (Q : CExit → CSt → Prop) : ∀ (m i : Nat), ps.length - i ≤ m → i ≤ ps.length → ∀ (h : CHeap) (v9 v10 v12 : CVal), Fit h →
    (∀ n' ty w8 w9 w10 w12, h.next ≤ n' → UnderT ty n' → Q (.exit 0) ⟨[v0, v1, .nils, v3, .str (rnd ps), v5, .imm .none 4 (l.map tokV), v7, w8, w9, w10, .str (rnd (addS (spOf []) 0 ps)), w12, .imm .full 1 [.str [32], .str [10], .str [9, 13], .str [47, 42, 32, 97, 59, 32, 42, 47], .str [47, 47, 32, 98, 10], .str [47, 42, 42, 47, 32], .str [32, 47, 42, 32, 42, 32, 47, 32, 42, 47]], v14, v15, v16, v17, v18, v19, v20, v21], ⟨h.ents, n', ty⟩, []⟩) →
    W tree.getF slLoop ⟨[v0, v1, .nils, v3, .str (rnd ps), v5, .imm .none 4 (l.map tokV), v7, .int .i64 (i : Int), v9, v10, .str (rnd ((addS (spOf []) 0 ps).take i)), v12, .imm .full 1 [.str [32], .str [10], .str [9, 13], .str [47, 42, 32, 97, 59, 32, 42, 47], .str [47, 47, 32, 98, 10], .str [47, 42, 42, 47, 32], .str [32, 47, 42, 32, 42, 32, 47, 32, 42, 47]], v14, v15, v16, v17, v18, v19, v20, v21], h, []⟩ Q := by
  intro m
  have hcl := cells_le ps hw
  induction m with
  | zero =>
    intro i hm hi h v9 v10 v12 hf hk
    have hno : ¬ (i : Int) + 1 < (l.length : Int) := by omega
    rw [List.take_of_length_le (by rw [addS_len]; omega)]
    obtain ⟨hu, hut, hX⟩ := fx4 hf
    refine W.loop ?_
    repeat (first | refine sq_ ?_ | refine bl_ ?_ | ((first | refine rg_ ?_ | refine go_ ?_); generalize e : goR _ _ _ _ _ _ _ _ = r; simp (disch := omega) [hX, List.length_map, sy_ibneT, sy_ibneF, sy_ibeqT] at e; replace e : some _ = _ := e; subst e; (try dsimp only [goW])) | refine ct_ rfl ?_ | refine cf_ rfl ?_ | refine sk_ ?_ | refine ex_ ?_)
    all_goals ((try simp only [outOf, thenW_ret, roundW]); refine hk _ _ _ _ _ _ ?_ ?_; (focus (omega; done)); exact ut_)
  | succ m ih =>
    intro i hm hi h v9 v10 v12 hf hk
    by_cases hlt : i < ps.length
    · obtain ⟨p, hp⟩ : ∃ p, ps[i]? = some p := ⟨ps[i], List.getElem?_eq_getElem hlt⟩
      obtain ⟨k0, t0, n0, hl0⟩ := hlg i (by omega)
      obtain ⟨k1, t1, n1, hl1⟩ := hlg (i + 1) (by omega)
      have hcut := rnd_cut ps i p hp
      have hstep := addS_step (spOf []) ps i p hp
      have hab := addS_take_bound (spOf []) (fun i => (spOf_ok _ i).2.2) ps hps hw i
      have hle1 := rnd_take_le ps (i + 1)
      have hrt := congrArg List.length (rnd_take ps i p hp)
      rw [List.length_append, List.length_append] at hrt
      obtain ⟨acc, hacc⟩ : ∃ acc, rnd ((addS (spOf []) 0 ps).take i) = acc := ⟨_, rfl⟩
      obtain ⟨A0, hA0⟩ : ∃ A0, (rnd (ps.take i)).length = A0 := ⟨_, rfl⟩
      obtain ⟨A1, hA1⟩ : ∃ A1, (rnd (ps.take (i + 1))).length = A1 := ⟨_, rfl⟩
      rw [hacc] at hstep hab
      rw [hacc]
      rw [hA0] at hl0 hcut hrt
      rw [hA1] at hl1 hcut hrt hle1
      have hn0 := nth_mapG tokV l i _ hl0
      have hn1 := nth_mapG tokV l (i + 1) _ hl1
      dsimp only [tokV] at hn0 hn1
      have hto : ((i : Int) + 1).toNat = i + 1 := by omega
      have hlt1 : (i : Int) + 1 < (l.length : Int) := by omega
      have hil : i < l.length := by omega
      have hil1 : i + 1 < l.length := by omega
      have hsp : spOf [] i = [] := rfl
      have hih : ∀ (h' : CHeap) (v9 v10 v12 : CVal), h'.ents = h.ents → h.next ≤ h'.next → UnderT h'.tys h'.next → W tree.getF slLoop ⟨[v0, v1, .nils, v3, .str (rnd ps), v5, .imm .none 4 (l.map tokV), v7, .int .i64 ((i : Int) + 1), v9, v10, .str (acc ++ (p.x ++ p.g)), v12, .imm .full 1 [.str [32], .str [10], .str [9, 13], .str [47, 42, 32, 97, 59, 32, 42, 47], .str [47, 47, 32, 98, 10], .str [47, 42, 42, 47, 32], .str [32, 47, 42, 32, 42, 32, 47, 32, 42, 47]], v14, v15, v16, v17, v18, v19, v20, v21], h', []⟩ Q := by
        intro h' v9 v10 v12 e1 e2 e3
        have := ih (i + 1) (by omega) (by omega) h' v9 v10 v12 ⟨by rw [e1]; exact hf.1.le e2, e3⟩ (fun n' ty w8 w9 w10 w12 g1 g2 => by rw [e1]; exact hk n' ty w8 w9 w10 w12 (by omega) g2)
        rw [hstep, hsp, List.append_nil] at this
        have e4 : ((i + 1 : Nat) : Int) = (i : Int) + 1 := by omega
        rw [e4] at this
        exact this
      obtain ⟨hu, hut, hX⟩ := fx4 hf
      refine W.loop ?_
      repeat (first | refine sq_ ?_ | refine bl_ ?_ | ((first | refine rg_ ?_ | refine go_ ?_); generalize e : goR _ _ _ _ _ _ _ _ = r; simp (disch := omega) [hX, List.length_map, sy_ibneT, sy_ibneF, sy_ibeqT, hn0, hn1, hto, hcut] at e; replace e : some _ = _ := e; subst e; (try dsimp only [goW])) | refine ct_ rfl ?_ | refine cf_ rfl ?_ | refine sk_ ?_ | refine ex_ ?_)
      show W tree.getF slLoop (dropped true _ _) Q
      generalize e : dropped _ _ _ = r0
      simp (disch := omega) [hX] at e
      subst e
      try dsimp only
      refine hih _ _ _ _ rfl ?_ ?_
      · (try dsimp only); omega
      · exact ut_
    · have hno : ¬ (i : Int) + 1 < (l.length : Int) := by omega
      rw [List.take_of_length_le (by rw [addS_len]; omega)]
      obtain ⟨hu, hut, hX⟩ := fx4 hf
      refine W.loop ?_
      repeat (first | refine sq_ ?_ | refine bl_ ?_ | ((first | refine rg_ ?_ | refine go_ ?_); generalize e : goR _ _ _ _ _ _ _ _ = r; simp (disch := omega) [hX, List.length_map, sy_ibneT, sy_ibneF, sy_ibeqT] at e; replace e : some _ = _ := e; subst e; (try dsimp only [goW])) | refine ct_ rfl ?_ | refine cf_ rfl ?_ | refine sk_ ?_ | refine ex_ ?_)
      all_goals ((try simp only [outOf, thenW_ret, roundW]); refine hk _ _ _ _ _ _ ?_ ?_; (focus (omega; done)); exact ut_)

theorem sl_loop_e (ps : List Cel) (hw : WF ps) (hps : (rnd ps).length ≤ 3000) (l : List Tok) (hll : l.length = ps.length + 1) (hlg : ∀ i, i ≤ ps.length → ∃ k tx n, l[i]? = some (k, tx, n, (rnd (ps.take i)).length))  (v0 v1 v3 v5 v7 v14 v15 v16 v17 v18 v19 v20 v21 : CVal) (Q : CExit → CSt → Prop) : ∀ (m i : Nat), ps.length - i ≤ m → i ≤ ps.length → ∀ (h : CHeap) (v9 v10 v12 : CVal), Fit h →
    (∀ n' ty w8 w9 w10 w12, h.next ≤ n' → UnderT ty n' → Q (.exit 0) ⟨[v0, v1, .imm .none 1 [], v3, .str (rnd ps), v5, .imm .none 4 (l.map tokV), v7, w8, w9, w10, .str (rnd (addS (spOf []) 0 ps)), w12, .imm .full 1 [.str [32], .str [10], .str [9, 13], .str [47, 42, 32, 97, 59, 32, 42, 47], .str [47, 47, 32, 98, 10], .str [47, 42, 42, 47, 32], .str [32, 47, 42, 32, 42, 32, 47, 32, 42, 47]], v14, v15, v16, v17, v18, v19, v20, v21], ⟨h.ents, n', ty⟩, []⟩) →
    W tree.getF slLoop ⟨[v0, v1, .imm .none 1 [], v3, .str (rnd ps), v5, .imm .none 4 (l.map tokV), v7, .int .i64 (i : Int), v9, v10, .str (rnd ((addS (spOf []) 0 ps).take i)), v12, .imm .full 1 [.str [32], .str [10], .str [9, 13], .str [47, 42, 32, 97, 59, 32, 42, 47], .str [47, 47, 32, 98, 10], .str [47, 42, 42, 47, 32], .str [32, 47, 42, 32, 42, 32, 47, 32, 42, 47]], v14, v15, v16, v17, v18, v19, v20, v21], h, []⟩ Q := by
  intro m
  have hcl := cells_le ps hw
  induction m with
  | zero =>
    intro i hm hi h v9 v10 v12 hf hk
    have hno : ¬ (i : Int) + 1 < (l.length : Int) := by omega
    rw [List.take_of_length_le (by rw [addS_len]; omega)]
    obtain ⟨hu, hut, hX⟩ := fx4 hf
    refine W.loop ?_
    repeat (first | refine sq_ ?_ | refine bl_ ?_ | ((first | refine rg_ ?_ | refine go_ ?_); generalize e : goR _ _ _ _ _ _ _ _ = r; simp (disch := omega) [hX, List.length_map, sy_ibneT, sy_ibneF, sy_ibeqT] at e; replace e : some _ = _ := e; subst e; (try dsimp only [goW])) | refine ct_ rfl ?_ | refine cf_ rfl ?_ | refine sk_ ?_ | refine ex_ ?_)
    all_goals ((try simp only [outOf, thenW_ret, roundW]); refine hk _ _ _ _ _ _ ?_ ?_; (focus (omega; done)); exact ut_)
  | succ m ih =>
    intro i hm hi h v9 v10 v12 hf hk
    by_cases hlt : i < ps.length
    · obtain ⟨p, hp⟩ : ∃ p, ps[i]? = some p := ⟨ps[i], List.getElem?_eq_getElem hlt⟩
      obtain ⟨k0, t0, n0, hl0⟩ := hlg i (by omega)
      obtain ⟨k1, t1, n1, hl1⟩ := hlg (i + 1) (by omega)
      have hcut := rnd_cut ps i p hp
      have hstep := addS_step (spOf []) ps i p hp
      have hab := addS_take_bound (spOf []) (fun i => (spOf_ok _ i).2.2) ps hps hw i
      have hle1 := rnd_take_le ps (i + 1)
      have hrt := congrArg List.length (rnd_take ps i p hp)
      rw [List.length_append, List.length_append] at hrt
      obtain ⟨acc, hacc⟩ : ∃ acc, rnd ((addS (spOf []) 0 ps).take i) = acc := ⟨_, rfl⟩
      obtain ⟨A0, hA0⟩ : ∃ A0, (rnd (ps.take i)).length = A0 := ⟨_, rfl⟩
      obtain ⟨A1, hA1⟩ : ∃ A1, (rnd (ps.take (i + 1))).length = A1 := ⟨_, rfl⟩
      rw [hacc] at hstep hab
      rw [hacc]
      rw [hA0] at hl0 hcut hrt
      rw [hA1] at hl1 hcut hrt hle1
      have hn0 := nth_mapG tokV l i _ hl0
      have hn1 := nth_mapG tokV l (i + 1) _ hl1
      dsimp only [tokV] at hn0 hn1
      have hto : ((i : Int) + 1).toNat = i + 1 := by omega
      have hlt1 : (i : Int) + 1 < (l.length : Int) := by omega
      have hil : i < l.length := by omega
      have hil1 : i + 1 < l.length := by omega
      have hsp : spOf [] i = [] := rfl
      have hih : ∀ (h' : CHeap) (v9 v10 v12 : CVal), h'.ents = h.ents → h.next ≤ h'.next → UnderT h'.tys h'.next → W tree.getF slLoop ⟨[v0, v1, .imm .none 1 [], v3, .str (rnd ps), v5, .imm .none 4 (l.map tokV), v7, .int .i64 ((i : Int) + 1), v9, v10, .str (acc ++ (p.x ++ p.g)), v12, .imm .full 1 [.str [32], .str [10], .str [9, 13], .str [47, 42, 32, 97, 59, 32, 42, 47], .str [47, 47, 32, 98, 10], .str [47, 42, 42, 47, 32], .str [32, 47, 42, 32, 42, 32, 47, 32, 42, 47]], v14, v15, v16, v17, v18, v19, v20, v21], h', []⟩ Q := by
        intro h' v9 v10 v12 e1 e2 e3
        have := ih (i + 1) (by omega) (by omega) h' v9 v10 v12 ⟨by rw [e1]; exact hf.1.le e2, e3⟩ (fun n' ty w8 w9 w10 w12 g1 g2 => by rw [e1]; exact hk n' ty w8 w9 w10 w12 (by omega) g2)
        rw [hstep, hsp, List.append_nil] at this
        have e4 : ((i + 1 : Nat) : Int) = (i : Int) + 1 := by omega
        rw [e4] at this
        exact this
      obtain ⟨hu, hut, hX⟩ := fx4 hf
      refine W.loop ?_
      repeat (first | refine sq_ ?_ | refine bl_ ?_ | ((first | refine rg_ ?_ | refine go_ ?_); generalize e : goR _ _ _ _ _ _ _ _ = r; simp (disch := omega) [hX, List.length_map, sy_ibneT, sy_ibneF, sy_ibeqT, hn0, hn1, hto, hcut] at e; replace e : some _ = _ := e; subst e; (try dsimp only [goW])) | refine ct_ rfl ?_ | refine cf_ rfl ?_ | refine sk_ ?_ | refine ex_ ?_)
      show W tree.getF slLoop (dropped true _ _) Q
      generalize e : dropped _ _ _ = r0
      simp (disch := omega) [hX] at e
      subst e
      try dsimp only
      refine hih _ _ _ _ rfl ?_ ?_
      · (try dsimp only); omega
      · exact ut_
    · have hno : ¬ (i : Int) + 1 < (l.length : Int) := by omega
      rw [List.take_of_length_le (by rw [addS_len]; omega)]
      obtain ⟨hu, hut, hX⟩ := fx4 hf
      refine W.loop ?_
      repeat (first | refine sq_ ?_ | refine bl_ ?_ | ((first | refine rg_ ?_ | refine go_ ?_); generalize e : goR _ _ _ _ _ _ _ _ = r; simp (disch := omega) [hX, List.length_map, sy_ibneT, sy_ibneF, sy_ibeqT] at e; replace e : some _ = _ := e; subst e; (try dsimp only [goW])) | refine ct_ rfl ?_ | refine cf_ rfl ?_ | refine sk_ ?_ | refine ex_ ?_)
      all_goals ((try simp only [outOf, thenW_ret, roundW]); refine hk _ _ _ _ _ _ ?_ ?_; (focus (omega; done)); exact ut_)

theorem sl_loop_h (ps : List Cel) (hw : WF ps) (hps : (rnd ps).length ≤ 3000) (l : List Tok) (hll : l.length = ps.length + 1) (hlg : ∀ i, i ≤ ps.length → ∃ k tx n, l[i]? = some (k, tx, n, (rnd (ps.take i)).length)) (how : List Int) (hh : ∀ x ∈ how, 0 ≤ x ∧ x < 256) (hhl : how.length ≤ 30) (hne : how ≠ []) (v0 v1 v3 v5 v7 v14 v15 v16 v17 v18 v19 v20 v21 : CVal) (Q : CExit → CSt → Prop) : ∀ (m i : Nat), ps.length - i ≤ m → i ≤ ps.length → ∀ (h : CHeap) (v9 v10 v12 : CVal), Fit h →
    (∀ n' ty w8 w9 w10 w12, h.next ≤ n' → UnderT ty n' → Q (.exit 0) ⟨[v0, v1, .imm .none 1 (how.map (CVal.int .u8)), v3, .str (rnd ps), v5, .imm .none 4 (l.map tokV), v7, w8, w9, w10, .str (rnd (addS (spOf how) 0 ps)), w12, .imm .full 1 [.str [32], .str [10], .str [9, 13], .str [47, 42, 32, 97, 59, 32, 42, 47], .str [47, 47, 32, 98, 10], .str [47, 42, 42, 47, 32], .str [32, 47, 42, 32, 42, 32, 47, 32, 42, 47]], v14, v15, v16, v17, v18, v19, v20, v21], ⟨h.ents, n', ty⟩, []⟩) →
    W tree.getF slLoop ⟨[v0, v1, .imm .none 1 (how.map (CVal.int .u8)), v3, .str (rnd ps), v5, .imm .none 4 (l.map tokV), v7, .int .i64 (i : Int), v9, v10, .str (rnd ((addS (spOf how) 0 ps).take i)), v12, .imm .full 1 [.str [32], .str [10], .str [9, 13], .str [47, 42, 32, 97, 59, 32, 42, 47], .str [47, 47, 32, 98, 10], .str [47, 42, 42, 47, 32], .str [32, 47, 42, 32, 42, 32, 47, 32, 42, 47]], v14, v15, v16, v17, v18, v19, v20, v21], h, []⟩ Q := by
  intro m
  have hcl := cells_le ps hw
  induction m with
  | zero =>
    intro i hm hi h v9 v10 v12 hf hk
    have hno : ¬ (i : Int) + 1 < (l.length : Int) := by omega
    rw [List.take_of_length_le (by rw [addS_len]; omega)]
    obtain ⟨hu, hut, hX⟩ := fx4 hf
    refine W.loop ?_
    repeat (first | refine sq_ ?_ | refine bl_ ?_ | ((first | refine rg_ ?_ | refine go_ ?_); generalize e : goR _ _ _ _ _ _ _ _ = r; simp (disch := omega) [hX, List.length_map, sy_ibneT, sy_ibneF, sy_ibeqT] at e; replace e : some _ = _ := e; subst e; (try dsimp only [goW])) | refine ct_ rfl ?_ | refine cf_ rfl ?_ | refine sk_ ?_ | refine ex_ ?_)
    all_goals ((try simp only [outOf, thenW_ret, roundW]); refine hk _ _ _ _ _ _ ?_ ?_; (focus (omega; done)); exact ut_)
  | succ m ih =>
    intro i hm hi h v9 v10 v12 hf hk
    by_cases hlt : i < ps.length
    · obtain ⟨p, hp⟩ : ∃ p, ps[i]? = some p := ⟨ps[i], List.getElem?_eq_getElem hlt⟩
      obtain ⟨k0, t0, n0, hl0⟩ := hlg i (by omega)
      obtain ⟨k1, t1, n1, hl1⟩ := hlg (i + 1) (by omega)
      have hcut := rnd_cut ps i p hp
      have hstep := addS_step (spOf how) ps i p hp
      have hab := addS_take_bound (spOf how) (fun i => (spOf_ok _ i).2.2) ps hps hw i
      have hle1 := rnd_take_le ps (i + 1)
      have hrt := congrArg List.length (rnd_take ps i p hp)
      rw [List.length_append, List.length_append] at hrt
      obtain ⟨acc, hacc⟩ : ∃ acc, rnd ((addS (spOf how) 0 ps).take i) = acc := ⟨_, rfl⟩
      obtain ⟨A0, hA0⟩ : ∃ A0, (rnd (ps.take i)).length = A0 := ⟨_, rfl⟩
      obtain ⟨A1, hA1⟩ : ∃ A1, (rnd (ps.take (i + 1))).length = A1 := ⟨_, rfl⟩
      rw [hacc] at hstep hab
      rw [hacc]
      rw [hA0] at hl0 hcut hrt
      rw [hA1] at hl1 hcut hrt hle1
      have hn0 := nth_mapG tokV l i _ hl0
      have hn1 := nth_mapG tokV l (i + 1) _ hl1
      dsimp only [tokV] at hn0 hn1
      have hto : ((i : Int) + 1).toNat = i + 1 := by omega
      have hlt1 : (i : Int) + 1 < (l.length : Int) := by omega
      have hil : i < l.length := by omega
      have hil1 : i + 1 < l.length := by omega
      have hhl0 : 0 < how.length := by cases how with | nil => exact absurd rfl hne | cons a r => simp
      obtain ⟨j, hj⟩ : ∃ j, i % how.length = j := ⟨_, rfl⟩
      have hjl : j < how.length := by rw [← hj]; exact Nat.mod_lt _ hhl0
      have hrm : (i : Int).tmod (how.length : Int) = (j : Int) := by rw [← hj]; rfl
      have hx : how[j]? = some how[j] := List.getElem?_eq_getElem hjl
      have hx0 := hh _ (List.getElem_mem hjl)
      have hnh := nth_mapG (CVal.int .u8) how j _ hx
      have hjt : ((j : Nat) : Int).toNat = j := by omega
      have hm0 := Int.tmod_nonneg 7 hx0.1
      have hm1 := Int.tmod_lt_of_pos how[j] (show (0 : Int) < 7 by omega)
      have hsp : spOf how i = betw.getD (how[j].tmod 7).toNat [] := by
        have hgd : how.getD j 0 = how[j] := by rw [List.getD_eq_getElem?_getD, hx]; rfl
        unfold spOf
        rw [if_neg hne, hj, hgd]
      have hlz : ¬ (how.length : Int) = 0 := by omega
      obtain ⟨mm, hm7⟩ : ∃ mm, how[j].tmod 7 = mm := ⟨_, rfl⟩
      generalize how[j] = xx at *
      rw [hm7] at hsp hm0 hm1
      rcases (show mm = 0 ∨ mm = 1 ∨ mm = 2 ∨ mm = 3 ∨ mm = 4 ∨ mm = 5 ∨ mm = 6 by omega) with rfl | rfl | rfl | rfl | rfl | rfl | rfl
      · replace hsp : spOf how i = [32] := hsp
        have hih : ∀ (h' : CHeap) (v9 v10 v12 : CVal), h'.ents = h.ents → h.next ≤ h'.next → UnderT h'.tys h'.next → W tree.getF slLoop ⟨[v0, v1, .imm .none 1 (how.map (CVal.int .u8)), v3, .str (rnd ps), v5, .imm .none 4 (l.map tokV), v7, .int .i64 ((i : Int) + 1), v9, v10, .str (acc ++ (p.x ++ (p.g ++ [32]))), v12, .imm .full 1 [.str [32], .str [10], .str [9, 13], .str [47, 42, 32, 97, 59, 32, 42, 47], .str [47, 47, 32, 98, 10], .str [47, 42, 42, 47, 32], .str [32, 47, 42, 32, 42, 32, 47, 32, 42, 47]], v14, v15, v16, v17, v18, v19, v20, v21], h', []⟩ Q := by
          intro h' v9 v10 v12 e1 e2 e3
          have := ih (i + 1) (by omega) (by omega) h' v9 v10 v12 ⟨by rw [e1]; exact hf.1.le e2, e3⟩ (fun n' ty w8 w9 w10 w12 g1 g2 => by rw [e1]; exact hk n' ty w8 w9 w10 w12 (by omega) g2)
          rw [hstep, hsp] at this
          have e4 : ((i + 1 : Nat) : Int) = (i : Int) + 1 := by omega
          rw [e4] at this
          exact this
        obtain ⟨hu, hut, hX⟩ := fx4 hf
        refine W.loop ?_
        repeat (first | refine sq_ ?_ | refine bl_ ?_ | ((first | refine rg_ ?_ | refine go_ ?_); generalize e : goR _ _ _ _ _ _ _ _ = r; simp (disch := omega) [hX, List.length_map, sy_ibneT, sy_ibneF, sy_ibeqT, hn0, hn1, hto, hcut, hrm, hnh, hm7, hjt] at e; replace e : some _ = _ := e; subst e; (try dsimp only [goW])) | refine ct_ rfl ?_ | refine cf_ rfl ?_ | refine sk_ ?_ | refine ex_ ?_)
        show W tree.getF slLoop (dropped true _ _) Q
        generalize e : dropped _ _ _ = r0
        simp (disch := omega) [hX] at e
        subst e
        try dsimp only
        refine hih _ _ _ _ rfl ?_ ?_
        · (try dsimp only); omega
        · exact ut_
      · replace hsp : spOf how i = [10] := hsp
        have hih : ∀ (h' : CHeap) (v9 v10 v12 : CVal), h'.ents = h.ents → h.next ≤ h'.next → UnderT h'.tys h'.next → W tree.getF slLoop ⟨[v0, v1, .imm .none 1 (how.map (CVal.int .u8)), v3, .str (rnd ps), v5, .imm .none 4 (l.map tokV), v7, .int .i64 ((i : Int) + 1), v9, v10, .str (acc ++ (p.x ++ (p.g ++ [10]))), v12, .imm .full 1 [.str [32], .str [10], .str [9, 13], .str [47, 42, 32, 97, 59, 32, 42, 47], .str [47, 47, 32, 98, 10], .str [47, 42, 42, 47, 32], .str [32, 47, 42, 32, 42, 32, 47, 32, 42, 47]], v14, v15, v16, v17, v18, v19, v20, v21], h', []⟩ Q := by
          intro h' v9 v10 v12 e1 e2 e3
          have := ih (i + 1) (by omega) (by omega) h' v9 v10 v12 ⟨by rw [e1]; exact hf.1.le e2, e3⟩ (fun n' ty w8 w9 w10 w12 g1 g2 => by rw [e1]; exact hk n' ty w8 w9 w10 w12 (by omega) g2)
          rw [hstep, hsp] at this
          have e4 : ((i + 1 : Nat) : Int) = (i : Int) + 1 := by omega
          rw [e4] at this
          exact this
        obtain ⟨hu, hut, hX⟩ := fx4 hf
        refine W.loop ?_
        repeat (first | refine sq_ ?_ | refine bl_ ?_ | ((first | refine rg_ ?_ | refine go_ ?_); generalize e : goR _ _ _ _ _ _ _ _ = r; simp (disch := omega) [hX, List.length_map, sy_ibneT, sy_ibneF, sy_ibeqT, hn0, hn1, hto, hcut, hrm, hnh, hm7, hjt] at e; replace e : some _ = _ := e; subst e; (try dsimp only [goW])) | refine ct_ rfl ?_ | refine cf_ rfl ?_ | refine sk_ ?_ | refine ex_ ?_)
        show W tree.getF slLoop (dropped true _ _) Q
        generalize e : dropped _ _ _ = r0
        simp (disch := omega) [hX] at e
        subst e
        try dsimp only
        refine hih _ _ _ _ rfl ?_ ?_
        · (try dsimp only); omega
        · exact ut_
      · replace hsp : spOf how i = [9, 13] := hsp
        have hih : ∀ (h' : CHeap) (v9 v10 v12 : CVal), h'.ents = h.ents → h.next ≤ h'.next → UnderT h'.tys h'.next → W tree.getF slLoop ⟨[v0, v1, .imm .none 1 (how.map (CVal.int .u8)), v3, .str (rnd ps), v5, .imm .none 4 (l.map tokV), v7, .int .i64 ((i : Int) + 1), v9, v10, .str (acc ++ (p.x ++ (p.g ++ [9, 13]))), v12, .imm .full 1 [.str [32], .str [10], .str [9, 13], .str [47, 42, 32, 97, 59, 32, 42, 47], .str [47, 47, 32, 98, 10], .str [47, 42, 42, 47, 32], .str [32, 47, 42, 32, 42, 32, 47, 32, 42, 47]], v14, v15, v16, v17, v18, v19, v20, v21], h', []⟩ Q := by
          intro h' v9 v10 v12 e1 e2 e3
          have := ih (i + 1) (by omega) (by omega) h' v9 v10 v12 ⟨by rw [e1]; exact hf.1.le e2, e3⟩ (fun n' ty w8 w9 w10 w12 g1 g2 => by rw [e1]; exact hk n' ty w8 w9 w10 w12 (by omega) g2)
          rw [hstep, hsp] at this
          have e4 : ((i + 1 : Nat) : Int) = (i : Int) + 1 := by omega
          rw [e4] at this
          exact this
        obtain ⟨hu, hut, hX⟩ := fx4 hf
        refine W.loop ?_
        repeat (first | refine sq_ ?_ | refine bl_ ?_ | ((first | refine rg_ ?_ | refine go_ ?_); generalize e : goR _ _ _ _ _ _ _ _ = r; simp (disch := omega) [hX, List.length_map, sy_ibneT, sy_ibneF, sy_ibeqT, hn0, hn1, hto, hcut, hrm, hnh, hm7, hjt] at e; replace e : some _ = _ := e; subst e; (try dsimp only [goW])) | refine ct_ rfl ?_ | refine cf_ rfl ?_ | refine sk_ ?_ | refine ex_ ?_)
        show W tree.getF slLoop (dropped true _ _) Q
        generalize e : dropped _ _ _ = r0
        simp (disch := omega) [hX] at e
        subst e
        try dsimp only
        refine hih _ _ _ _ rfl ?_ ?_
        · (try dsimp only); omega
        · exact ut_
      · replace hsp : spOf how i = [47, 42, 32, 97, 59, 32, 42, 47] := hsp
        have hih : ∀ (h' : CHeap) (v9 v10 v12 : CVal), h'.ents = h.ents → h.next ≤ h'.next → UnderT h'.tys h'.next → W tree.getF slLoop ⟨[v0, v1, .imm .none 1 (how.map (CVal.int .u8)), v3, .str (rnd ps), v5, .imm .none 4 (l.map tokV), v7, .int .i64 ((i : Int) + 1), v9, v10, .str (acc ++ (p.x ++ (p.g ++ [47, 42, 32, 97, 59, 32, 42, 47]))), v12, .imm .full 1 [.str [32], .str [10], .str [9, 13], .str [47, 42, 32, 97, 59, 32, 42, 47], .str [47, 47, 32, 98, 10], .str [47, 42, 42, 47, 32], .str [32, 47, 42, 32, 42, 32, 47, 32, 42, 47]], v14, v15, v16, v17, v18, v19, v20, v21], h', []⟩ Q := by
          intro h' v9 v10 v12 e1 e2 e3
          have := ih (i + 1) (by omega) (by omega) h' v9 v10 v12 ⟨by rw [e1]; exact hf.1.le e2, e3⟩ (fun n' ty w8 w9 w10 w12 g1 g2 => by rw [e1]; exact hk n' ty w8 w9 w10 w12 (by omega) g2)
          rw [hstep, hsp] at this
          have e4 : ((i + 1 : Nat) : Int) = (i : Int) + 1 := by omega
          rw [e4] at this
          exact this
        obtain ⟨hu, hut, hX⟩ := fx4 hf
        refine W.loop ?_
        repeat (first | refine sq_ ?_ | refine bl_ ?_ | ((first | refine rg_ ?_ | refine go_ ?_); generalize e : goR _ _ _ _ _ _ _ _ = r; simp (disch := omega) [hX, List.length_map, sy_ibneT, sy_ibneF, sy_ibeqT, hn0, hn1, hto, hcut, hrm, hnh, hm7, hjt] at e; replace e : some _ = _ := e; subst e; (try dsimp only [goW])) | refine ct_ rfl ?_ | refine cf_ rfl ?_ | refine sk_ ?_ | refine ex_ ?_)
        show W tree.getF slLoop (dropped true _ _) Q
        generalize e : dropped _ _ _ = r0
        simp (disch := omega) [hX] at e
        subst e
        try dsimp only
        refine hih _ _ _ _ rfl ?_ ?_
        · (try dsimp only); omega
        · exact ut_
      · replace hsp : spOf how i = [47, 47, 32, 98, 10] := hsp
        have hih : ∀ (h' : CHeap) (v9 v10 v12 : CVal), h'.ents = h.ents → h.next ≤ h'.next → UnderT h'.tys h'.next → W tree.getF slLoop ⟨[v0, v1, .imm .none 1 (how.map (CVal.int .u8)), v3, .str (rnd ps), v5, .imm .none 4 (l.map tokV), v7, .int .i64 ((i : Int) + 1), v9, v10, .str (acc ++ (p.x ++ (p.g ++ [47, 47, 32, 98, 10]))), v12, .imm .full 1 [.str [32], .str [10], .str [9, 13], .str [47, 42, 32, 97, 59, 32, 42, 47], .str [47, 47, 32, 98, 10], .str [47, 42, 42, 47, 32], .str [32, 47, 42, 32, 42, 32, 47, 32, 42, 47]], v14, v15, v16, v17, v18, v19, v20, v21], h', []⟩ Q := by
          intro h' v9 v10 v12 e1 e2 e3
          have := ih (i + 1) (by omega) (by omega) h' v9 v10 v12 ⟨by rw [e1]; exact hf.1.le e2, e3⟩ (fun n' ty w8 w9 w10 w12 g1 g2 => by rw [e1]; exact hk n' ty w8 w9 w10 w12 (by omega) g2)
          rw [hstep, hsp] at this
          have e4 : ((i + 1 : Nat) : Int) = (i : Int) + 1 := by omega
          rw [e4] at this
          exact this
        obtain ⟨hu, hut, hX⟩ := fx4 hf
        refine W.loop ?_
        repeat (first | refine sq_ ?_ | refine bl_ ?_ | ((first | refine rg_ ?_ | refine go_ ?_); generalize e : goR _ _ _ _ _ _ _ _ = r; simp (disch := omega) [hX, List.length_map, sy_ibneT, sy_ibneF, sy_ibeqT, hn0, hn1, hto, hcut, hrm, hnh, hm7, hjt] at e; replace e : some _ = _ := e; subst e; (try dsimp only [goW])) | refine ct_ rfl ?_ | refine cf_ rfl ?_ | refine sk_ ?_ | refine ex_ ?_)
        show W tree.getF slLoop (dropped true _ _) Q
        generalize e : dropped _ _ _ = r0
        simp (disch := omega) [hX] at e
        subst e
        try dsimp only
        refine hih _ _ _ _ rfl ?_ ?_
        · (try dsimp only); omega
        · exact ut_
      · replace hsp : spOf how i = [47, 42, 42, 47, 32] := hsp
        have hih : ∀ (h' : CHeap) (v9 v10 v12 : CVal), h'.ents = h.ents → h.next ≤ h'.next → UnderT h'.tys h'.next → W tree.getF slLoop ⟨[v0, v1, .imm .none 1 (how.map (CVal.int .u8)), v3, .str (rnd ps), v5, .imm .none 4 (l.map tokV), v7, .int .i64 ((i : Int) + 1), v9, v10, .str (acc ++ (p.x ++ (p.g ++ [47, 42, 42, 47, 32]))), v12, .imm .full 1 [.str [32], .str [10], .str [9, 13], .str [47, 42, 32, 97, 59, 32, 42, 47], .str [47, 47, 32, 98, 10], .str [47, 42, 42, 47, 32], .str [32, 47, 42, 32, 42, 32, 47, 32, 42, 47]], v14, v15, v16, v17, v18, v19, v20, v21], h', []⟩ Q := by
          intro h' v9 v10 v12 e1 e2 e3
          have := ih (i + 1) (by omega) (by omega) h' v9 v10 v12 ⟨by rw [e1]; exact hf.1.le e2, e3⟩ (fun n' ty w8 w9 w10 w12 g1 g2 => by rw [e1]; exact hk n' ty w8 w9 w10 w12 (by omega) g2)
          rw [hstep, hsp] at this
          have e4 : ((i + 1 : Nat) : Int) = (i : Int) + 1 := by omega
          rw [e4] at this
          exact this
        obtain ⟨hu, hut, hX⟩ := fx4 hf
        refine W.loop ?_
        repeat (first | refine sq_ ?_ | refine bl_ ?_ | ((first | refine rg_ ?_ | refine go_ ?_); generalize e : goR _ _ _ _ _ _ _ _ = r; simp (disch := omega) [hX, List.length_map, sy_ibneT, sy_ibneF, sy_ibeqT, hn0, hn1, hto, hcut, hrm, hnh, hm7, hjt] at e; replace e : some _ = _ := e; subst e; (try dsimp only [goW])) | refine ct_ rfl ?_ | refine cf_ rfl ?_ | refine sk_ ?_ | refine ex_ ?_)
        show W tree.getF slLoop (dropped true _ _) Q
        generalize e : dropped _ _ _ = r0
        simp (disch := omega) [hX] at e
        subst e
        try dsimp only
        refine hih _ _ _ _ rfl ?_ ?_
        · (try dsimp only); omega
        · exact ut_
      · replace hsp : spOf how i = [32, 47, 42, 32, 42, 32, 47, 32, 42, 47] := hsp
        have hih : ∀ (h' : CHeap) (v9 v10 v12 : CVal), h'.ents = h.ents → h.next ≤ h'.next → UnderT h'.tys h'.next → W tree.getF slLoop ⟨[v0, v1, .imm .none 1 (how.map (CVal.int .u8)), v3, .str (rnd ps), v5, .imm .none 4 (l.map tokV), v7, .int .i64 ((i : Int) + 1), v9, v10, .str (acc ++ (p.x ++ (p.g ++ [32, 47, 42, 32, 42, 32, 47, 32, 42, 47]))), v12, .imm .full 1 [.str [32], .str [10], .str [9, 13], .str [47, 42, 32, 97, 59, 32, 42, 47], .str [47, 47, 32, 98, 10], .str [47, 42, 42, 47, 32], .str [32, 47, 42, 32, 42, 32, 47, 32, 42, 47]], v14, v15, v16, v17, v18, v19, v20, v21], h', []⟩ Q := by
          intro h' v9 v10 v12 e1 e2 e3
          have := ih (i + 1) (by omega) (by omega) h' v9 v10 v12 ⟨by rw [e1]; exact hf.1.le e2, e3⟩ (fun n' ty w8 w9 w10 w12 g1 g2 => by rw [e1]; exact hk n' ty w8 w9 w10 w12 (by omega) g2)
          rw [hstep, hsp] at this
          have e4 : ((i + 1 : Nat) : Int) = (i : Int) + 1 := by omega
          rw [e4] at this
          exact this
        obtain ⟨hu, hut, hX⟩ := fx4 hf
        refine W.loop ?_
        repeat (first | refine sq_ ?_ | refine bl_ ?_ | ((first | refine rg_ ?_ | refine go_ ?_); generalize e : goR _ _ _ _ _ _ _ _ = r; simp (disch := omega) [hX, List.length_map, sy_ibneT, sy_ibneF, sy_ibeqT, hn0, hn1, hto, hcut, hrm, hnh, hm7, hjt] at e; replace e : some _ = _ := e; subst e; (try dsimp only [goW])) | refine ct_ rfl ?_ | refine cf_ rfl ?_ | refine sk_ ?_ | refine ex_ ?_)
        show W tree.getF slLoop (dropped true _ _) Q
        generalize e : dropped _ _ _ = r0
        simp (disch := omega) [hX] at e
        subst e
        try dsimp only
        refine hih _ _ _ _ rfl ?_ ?_
        · (try dsimp only); omega
        · exact ut_
    · have hno : ¬ (i : Int) + 1 < (l.length : Int) := by omega
      rw [List.take_of_length_le (by rw [addS_len]; omega)]
      obtain ⟨hu, hut, hX⟩ := fx4 hf
      refine W.loop ?_
      repeat (first | refine sq_ ?_ | refine bl_ ?_ | ((first | refine rg_ ?_ | refine go_ ?_); generalize e : goR _ _ _ _ _ _ _ _ = r; simp (disch := omega) [hX, List.length_map, sy_ibneT, sy_ibneF, sy_ibeqT] at e; replace e : some _ = _ := e; subst e; (try dsimp only [goW])) | refine ct_ rfl ?_ | refine cf_ rfl ?_ | refine sk_ ?_ | refine ex_ ?_)
      all_goals ((try simp only [outOf, thenW_ret, roundW]); refine hk _ _ _ _ _ _ ?_ ?_; (focus (omega; done)); exact ut_)

theorem cl_loop (l l2 : List Tok) (N : Nat) (hN : N ≤ 50000) (hl : l.length = N + 1) (hl2 : l2.length = N + 1) (hs : ∀ i, i ≤ N → ∃ (k : Nat) (tx : List UInt8) (n a a' : Nat), l[i]? = some (k, tx, n, a) ∧ l2[i]? = some (k, tx, n, a')) (v0 v1 v2 v3 v4 v5 v7 v8 v9 v10 v11 v12 v13 v14 v15 v17 v21 : CVal) (Q : CExit → CSt → Prop) : ∀ (m i : Nat), N + 1 - i ≤ m → i ≤ N + 1 → ∀ (h : CHeap) (v19 v20 : CVal), Fit h →
    (∀ n' ty w18 w19 w20, h.next ≤ n' → UnderT ty n' → Q (.exit 2) ⟨[v0, v1, v2, v3, v4, v5, .imm .none 4 (l.map tokV), v7, v8, v9, v10, v11, v12, v13, v14, v15, .imm .none 4 (l2.map tokV), v17, w18, w19, w20, v21], ⟨h.ents, n', ty⟩, []⟩) →
    W tree.getF clLoop ⟨[v0, v1, v2, v3, v4, v5, .imm .none 4 (l.map tokV), v7, v8, v9, v10, v11, v12, v13, v14, v15, .imm .none 4 (l2.map tokV), v17, .int .i64 (i : Int), v19, v20, v21], h, []⟩ Q := by
  intro m
  induction m with
  | zero =>
    intro i hm hi h v19 v20 hf hk
    have hno : ¬ (i : Int) < (l.length : Int) := by omega
    obtain ⟨hu, hut, hX⟩ := fx4 hf; have ⟨hD, hC, hN, hT⟩ := hX
    refine W.loop ?_
    repeat (first | refine sq_ ?_ | refine bl_ ?_ | ((first | refine rg_ ?_ | refine go_ ?_); generalize e : goR _ _ _ _ _ _ _ _ = r; simp (disch := omega) [hX, List.length_map, sy_ibneT, sy_ibneF, sy_ibeqT] at e; replace e : some _ = _ := e; subst e; (try dsimp only [goW])) | refine ct_ rfl ?_ | refine cf_ rfl ?_ | refine sk_ ?_ | refine ex_ ?_)
    all_goals ((try simp only [outOf, thenW_ret, roundW]); refine hk _ _ _ _ _ ?_ ?_; (focus (omega; done)); exact ut_)
  | succ m ih =>
    intro i hm hi h v19 v20 hf hk
    by_cases hlt : i < N + 1
    · obtain ⟨k, tx, n, a, a', h1, h2⟩ := hs i (by omega)
      have hn1 := nth_mapG tokV l i _ h1
      have hn2 := nth_mapG tokV l2 i _ h2
      dsimp only [tokV] at hn1 hn2
      have hlt1 : (i : Int) < (l.length : Int) := by omega
      have hih : ∀ (h' : CHeap) (v19 v20 : CVal), h'.ents = h.ents → h.next ≤ h'.next → UnderT h'.tys h'.next → W tree.getF clLoop ⟨[v0, v1, v2, v3, v4, v5, .imm .none 4 (l.map tokV), v7, v8, v9, v10, v11, v12, v13, v14, v15, .imm .none 4 (l2.map tokV), v17, .int .i64 ((i : Int) + 1), v19, v20, v21], h', []⟩ Q := by
        intro h' v19 v20 e1 e2 e3
        have := ih (i + 1) (by omega) (by omega) h' v19 v20 ⟨by rw [e1]; exact hf.1.le e2, e3⟩ (fun n' ty w18 w19 w20 g1 g2 => by rw [e1]; exact hk n' ty w18 w19 w20 (by omega) g2)
        have e4 : ((i + 1 : Nat) : Int) = (i : Int) + 1 := by omega
        rw [e4] at this
        exact this
      obtain ⟨hu, hut, hX⟩ := fx4 hf; have ⟨hD, hC, hN, hT⟩ := hX
      refine W.loop ?_
      repeat (first | refine sq_ ?_ | refine bl_ ?_ | ((first | refine rg_ ?_ | refine go_ ?_); generalize e : goR _ _ _ _ _ _ _ _ = r; simp (disch := omega) [hX, List.length_map, sy_ibneT, sy_ibneF, sy_ibeqT, hn1, hn2] at e; replace e : some _ = _ := e; subst e; (try dsimp only [goW])) | refine ct_ rfl ?_ | refine cf_ rfl ?_ | refine sk_ ?_ | refine ex_ ?_)
      show W tree.getF clLoop (dropped true _ _) Q
      generalize e : dropped _ _ _ = r0
      simp (disch := omega) [hX] at e
      subst e
      try dsimp only
      refine hih _ _ _ rfl ?_ ?_
      · (try dsimp only); omega
      · exact ut_
    · have hno : ¬ (i : Int) < (l.length : Int) := by omega
      obtain ⟨hu, hut, hX⟩ := fx4 hf; have ⟨hD, hC, hN, hT⟩ := hX
      refine W.loop ?_
      repeat (first | refine sq_ ?_ | refine bl_ ?_ | ((first | refine rg_ ?_ | refine go_ ?_); generalize e : goR _ _ _ _ _ _ _ _ = r; simp (disch := omega) [hX, List.length_map, sy_ibneT, sy_ibneF, sy_ibeqT] at e; replace e : some _ = _ := e; subst e; (try dsimp only [goW])) | refine ct_ rfl ?_ | refine cf_ rfl ?_ | refine sk_ ?_ | refine ex_ ?_)
      all_goals ((try simp only [outOf, thenW_ret, roundW]); refine hk _ _ _ _ _ ?_ ?_; (focus (omega; done)); exact ut_)

end Go.Proofs.YtalphliifcecdaaDoor.IrS
