/- What the functions of the law 'WordPlaces' do: part 1. -/
import Derived.Test.YthblmflngjofjaaDoorCi7
namespace Go.LexF
set_option linter.unusedVariables false
set_option linter.unusedSimpArgs false
abbrev Bytes := List UInt8
abbrev spacesB : Bytes := [9, 10, 11, 12, 13, 32]
abbrev lettersB : Bytes := [65, 66, 67, 68, 69, 70, 71, 72, 73, 74, 75, 76, 77, 78, 79, 80, 81, 82, 83, 84, 85, 86, 87, 88, 89, 90, 97, 98, 99, 100, 101, 102, 103, 104, 105, 106, 107, 108, 109, 110, 111, 112, 113, 114, 115, 116, 117, 118, 119, 120, 121, 122, 95]
abbrev D10 : Bytes := [48, 49, 50, 51, 52, 53, 54, 55, 56, 57]
abbrev D8 : Bytes := [48, 49, 50, 51, 52, 53, 54, 55]
abbrev hexesB : Bytes := [48, 49, 50, 51, 52, 53, 54, 55, 56, 57, 97, 98, 99, 100, 101, 102, 65, 66, 67, 68, 69, 70]
abbrev namesB : Bytes := lettersB ++ D10
abbrev signsB : Bytes := [123, 125, 40, 41, 91, 93, 61, 59, 44, 60, 62, 45]
/-- Those at the front that are of a set. -/
def fr (cs s : Bytes) : Bytes := s.takeWhile cs.contains
def bk (cs s : Bytes) : Bytes := s.dropWhile cs.contains
theorem fr_bk (cs s : Bytes) : fr cs s ++ bk cs s = s := List.takeWhile_append_dropWhile
theorem fr_mem {cs s : Bytes} {c : UInt8} (h : c ∈ fr cs s) : cs.contains c = true := by
  unfold fr at h
  induction s with
  | nil => cases h
  | cons a s ih =>
    rw [List.takeWhile_cons] at h
    split at h
    · rcases List.mem_cons.1 h with rfl | h
      · assumption
      · exact ih h
    · cases h
theorem bk_head {cs s r : Bytes} {c : UInt8} (h : bk cs s = c :: r) : cs.contains c = false := by
  unfold bk at h
  induction s with
  | nil => cases h
  | cons a s ih =>
    rw [List.dropWhile_cons] at h
    split at h
    · exact ih h
    · rename_i hc; cases h; simpa using hc
theorem fr_len (cs s : Bytes) : (fr cs s).length + (bk cs s).length = s.length := by
  rw [← List.length_append, fr_bk]
theorem drop_fr (cs s : Bytes) : s.drop (fr cs s).length = bk cs s := by
  have := congrArg (List.drop (fr cs s).length) (fr_bk cs s)
  rw [← this, List.drop_left]
theorem take_fr (cs s : Bytes) : s.take (fr cs s).length = fr cs s := by
  have := congrArg (List.take (fr cs s).length) (fr_bk cs s)
  rw [← this, List.take_left]
/-- Up to a line's end. -/
def dropLine : Bytes → Bytes
  | [] => []
  | c :: r => if c = 10 then c :: r else dropLine r
/-- Behind a remark's end. -/
def dropCmt : Bytes → Option Bytes
  | [] => none
  | c :: r => if c = 42 then (match r with
    | [] => none
    | d :: r' => if d = 47 then some r' else dropCmt (d :: r')) else dropCmt r
theorem dropLine_le : ∀ s : Bytes, (dropLine s).length ≤ s.length
  | [] => Nat.le_refl _
  | c :: r => by unfold dropLine; split <;> simp; have := dropLine_le r; omega
theorem dropCmt_lt : ∀ {s u : Bytes}, dropCmt s = some u → u.length + 2 ≤ s.length
  | [], _, h => by cases h
  | c :: r, u, h => by
    unfold dropCmt at h
    split at h
    · split at h
      · cases h
      · split at h
        · cases h; simp
        · have := dropCmt_lt h; simp at this ⊢; omega
    · have := dropCmt_lt h; simp at this ⊢; omega
/-- On to the next word: what is left, or what is left where a remark has no end. -/
def skipF (s : Bytes) : Bytes × Bool := match s with
  | [] => ([], true)
  | c :: r => if spacesB.contains c then skipF r else if c = 47 then (match hr : r with
    | [] => (c :: r, true)
    | d :: r' => if d = 47 then skipF (dropLine r') else if d = 42 then (match hd : dropCmt r' with
      | none => (c :: r, false)
      | some u => skipF u) else (c :: r, true)) else (c :: r, true)
  termination_by s.length
  decreasing_by
  · simp
  · have := dropLine_le r'; simp; omega
  · have := dropCmt_lt hd; simp; omega
def wordF : Bytes → Nat
  | [] => 0
  | c :: r => if lettersB.contains c then (fr namesB (c :: r)).length else 0
theorem wordF_le (s : Bytes) : wordF s ≤ s.length := by
  cases s with
  | nil => exact Nat.le_refl _
  | cons c r =>
    have := fr_len namesB (c :: r)
    have h0 := Nat.zero_le (c :: r).length
    simp only [wordF]
    split <;> omega
def tailF (s : Bytes) : Nat := match s with
  | [] => 0
  | c :: t => if c = 46 then (if wordF t = 0 then 0 else 1 + wordF t + tailF (t.drop (wordF t))) else 0
  termination_by s.length
  decreasing_by simp; omega
theorem tailF_le (s : Bytes) : tailF s ≤ s.length := by
  match s with
  | [] => rw [tailF]; exact Nat.le_refl _
  | c :: t =>
    rw [tailF]
    split
    · split
      · exact Nat.zero_le _
      · have h1 := tailF_le (t.drop (wordF t))
        have h2 := wordF_le t
        simp at h1 ⊢; omega
    · exact Nat.zero_le _
  termination_by s.length
  decreasing_by simp; omega
def nameF : Bytes → Nat
  | [] => 0
  | c :: t => if c = 46 then tailF (c :: t) else if wordF (c :: t) = 0 then 0 else wordF (c :: t) + tailF ((c :: t).drop (wordF (c :: t)))
theorem nameF_le (s : Bytes) : nameF s ≤ s.length := by
  cases s with
  | nil => exact Nat.le_refl _
  | cons c t =>
    have h1 := tailF_le ((c :: t).drop (wordF (c :: t)))
    have h2 := wordF_le (c :: t)
    have h3 := tailF_le (c :: t)
    have h0 := Nat.zero_le (c :: t).length
    rw [List.length_drop] at h1
    simp only [nameF]
    split
    · exact h3
    · split <;> omega
/-- A digit's worth. -/
def digF (c : UInt8) : Nat := if c.toNat ≤ 57 then c.toNat - 48 else if c.toNat ≤ 70 then c.toNat - 55 else c.toNat - 87
def valF (B : Nat) : Nat → Bytes → Nat
  | n, [] => n
  | n, c :: r => valF B (n * B + digF c) r
/-- A number: its base, what stands ahead of its digits, its digits. -/
def numF (s : Bytes) : Nat × Nat × Bytes :=
  if (s.take 2 = [48, 120] ∨ s.take 2 = [48, 88]) ∧ 0 < (fr hexesB (s.drop 2)).length then (16, 2, fr hexesB (s.drop 2))
  else if s.head? = some 48 then (8, 0, fr D8 s) else (10, 0, fr D10 s)
inductive Tk where
  | mk (kind : Nat) (text : Bytes) (n : Nat) (at' : Nat)
/-- A word read: an error, or a token's kind, text, number, and how many bytes. -/
inductive Wd where
  | err (e : Nat)
  | tok (kind : Nat) (text : Bytes) (n len : Nat)
def numW (s : Bytes) : Wd := match numF s with
  | (B, n, ds) => if 18446744073709551616 ≤ valF B 0 ds then .err 3 else match s.drop (n + ds.length) with
    | [] => .tok 2 [] (valF B 0 ds) (n + ds.length)
    | c :: _ => if (namesB ++ [46]).contains c then .err 2 else .tok 2 [] (valF B 0 ds) (n + ds.length)
def meantF (c : UInt8) : Option UInt8 := if c = 92 then some 92 else if c = 34 then some 34 else if c = 39 then some 39 else if c = 110 then some 10 else none
/-- A text up to its end: what it says, and how many bytes were read. -/
def textF (q : UInt8) : Bytes → Bytes → Nat → Option (Bytes × Nat)
  | [], _, _ => none
  | c :: t, acc, k => if c = q then some (acc, k + 1) else if c = 10 then none else if c = 92 then (match t with
    | [] => none
    | x :: u => match meantF x with
      | none => none
      | some m => textF q u (acc ++ [m]) (k + 2)) else textF q t (acc ++ [c]) (k + 1)
def wordW (valid : Bytes → Bool) (s : Bytes) : Wd := match s with
  | [] => .err 0
  | c :: r => if 0 < nameF (c :: r) then .tok 1 ((c :: r).take (nameF (c :: r))) 0 (nameF (c :: r)) else
    if D10.contains c then numW (c :: r) else
    if c = 34 ∨ c = 39 then (match textF c r [] 0 with
      | none => .err 2
      | some (t, k) => if valid t then .tok 3 t 0 (k + 1) else .err 2) else
    if signsB.contains c then .tok 4 [c] 0 1 else .err 2
end Go.LexF
