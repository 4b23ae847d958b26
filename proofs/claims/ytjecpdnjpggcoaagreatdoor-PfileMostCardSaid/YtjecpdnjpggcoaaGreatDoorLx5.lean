/- What the functions of the law 'PfileMost' do: part 5 of 8. -/
import Derived.Test.YtjecpdnjpggcoaaGreatDoorLx4
namespace Go.Proofs.YtjecpdnjpggcoaaGreatDoor.IrM
open Go Go.CI
open Go.LexF hiding spacesB lettersB
set_option maxRecDepth 100000
set_option linter.unusedVariables false
set_option linter.unusedSimpArgs false
def Sep (p : Cel) (r : List Cel) : Prop := p.fr = true ∨ (∃ b g', p.g = b :: g' ∧ brk b = true) ∨ (p.g = [] ∧ ∃ q r', r = q :: r' ∧ ∃ b x', q.x = b :: x' ∧ brk b = true)
def WFB : List Cel → Prop
 | [] => True
 | p :: r => TokOk p.x p.k p.tx p.n p.fr ∧ GapOk p.g ∧ Sep p r ∧ WFB r
theorem brk_cons {b : UInt8} {r : List UInt8} (h : brk b = true) : Brk (b :: r) := fun c r' e => by cases e; exact h
theorem WFB.wf : ∀ {ps : List Cel}, WFB ps → WF ps
 | [], _ => trivial
 | p :: r, h => by
  obtain ⟨h1, h2, h3, h4⟩ := h
  refine ⟨h1, h2, ?_, h4.wf⟩
  rcases h3 with h3 | ⟨b, g, e, hb⟩ | ⟨e, q, r', rfl, b, x', e2, hb⟩
  · exact .inl h3
  · rw [e]; exact .inr (brk_cons hb)
  · rw [e]
    refine .inr ?_
    show Brk (rnd (q :: r'))
    simp only [rnd, e2]
    exact brk_cons hb
theorem Sep.app {p : Cel} {r : List Cel} (h : Sep p r) (s : List Cel) : Sep p (r ++ s) := by
 rcases h with h | h | ⟨e, q, r', rfl, hq⟩
 · exact .inl h
 · exact .inr (.inl h)
 · exact .inr (.inr ⟨e, q, r' ++ s, rfl, hq⟩)
theorem WFB.app : ∀ {a b : List Cel}, WFB a → WFB b → WFB (a ++ b)
 | [], _, _, h => h
 | p :: r, b, h, hb => ⟨h.1, h.2.1, h.2.2.1.app b, h.2.2.2.app hb⟩
def Blk (t : List UInt8) : Prop := ∃ ps, WFB ps ∧ rnd ps = t
theorem Blk.nil : Blk [] := ⟨[], trivial, rfl⟩
theorem Blk.app {a b : List UInt8} (ha : Blk a) (hb : Blk b) : Blk (a ++ b) := by
 obtain ⟨p, h1, rfl⟩ := ha
 obtain ⟨q, h2, rfl⟩ := hb
 exact ⟨p ++ q, h1.app h2, rnd_app p q⟩
inductive Bits : List UInt8 → Bool → Prop   -- the flag: it begins with what breaks words off
 | nil : Bits [] false
 | gap {x tx r : List UInt8} {k n : Nat} {f b fr : Bool} {c : UInt8} : TokOk x k tx n fr → Go.LexF.spacesB.contains c = true → brk c = true → Bits r f → b = (match x with | [] => false | d :: _ => brk d) → Bits (x ++ c :: r) b
 | dir {x tx r : List UInt8} {k n : Nat} {b f fr : Bool} : TokOk x k tx n fr → Bits r f → (fr || f) = true → b = (match x with | [] => false | d :: _ => brk d) → Bits (x ++ r) b
theorem Bits.cels {t : List UInt8} {b : Bool} (h : Bits t b) : ∃ ps, WFB ps ∧ rnd ps = t ∧ (b = true → ∃ q r', ps = q :: r' ∧ ∃ c x', q.x = c :: x' ∧ brk c = true) := by
 induction h with
 | nil => exact ⟨[], trivial, rfl, fun h => by cases h⟩
 | @gap x tx r k n f b fr c h1 h2 h3 _ hb ih =>
  obtain ⟨ps, w, e, _⟩ := ih
  refine ⟨⟨x, k, tx, n, [c], fr⟩ :: ps, ⟨h1, gap_sp h2 gap_nil, .inr (.inl ⟨c, [], rfl, h3⟩), w⟩, by simp [rnd, e], fun hbt => ⟨_, _, rfl, ?_⟩⟩
  rw [hbt] at hb
  cases x with
  | nil => cases hb
  | cons d y => exact ⟨d, y, rfl, hb.symm⟩
 | @dir x tx r k n b f fr h1 _ ho hb ih =>
  obtain ⟨ps, w, e, hq⟩ := ih
  refine ⟨⟨x, k, tx, n, [], fr⟩ :: ps, ⟨h1, gap_nil, ?_, w⟩, by simp [rnd, e], fun hbt => ⟨_, _, rfl, ?_⟩⟩
  · cases hfr : fr with
    | true => exact .inl rfl
    | false =>
     rw [hfr] at ho
     obtain ⟨q, r', hz, hz2⟩ := hq (by simpa using ho)
     exact .inr (.inr ⟨rfl, q, r', hz, hz2⟩)
  · rw [hbt] at hb
    cases x with
    | nil => cases hb
    | cons d y => exact ⟨d, y, rfl, hb.symm⟩
theorem Bits.blk {t : List UInt8} {b : Bool} (h : Bits t b) : Blk t := by
 obtain ⟨ps, w, e, _⟩ := h.cels
 exact ⟨ps, w, e⟩
theorem dig_name {S : List UInt8} (h : numB S = true) : ∀ d ∈ S, namesB.contains d = true := by
 cases S with
 | nil => cases h
 | cons c r =>
  simp only [numB, Bool.and_eq_true] at h
  have f : ∀ d, D10.contains d = true → namesB.contains d = true := by
   intro d hd
   have := all256s (p := fun c => !(D10.contains c) || namesB.contains c) (by decide +kernel) d
   rw [hd] at this; simpa using this
  intro d hd
  rcases List.mem_cons.1 hd with rfl | hd
  · exact f _ h.1.1
  · exact f _ (List.all_eq_true.1 h.2 d hd)
theorem fname {c : UInt8} {S : List UInt8} (hc : Go.LexF.lettersB.contains c = true) (h : numB S = true) : nameB (c :: S) = true := by
 simp only [nameB, hc, Bool.true_and]
 exact List.all_eq_true.2 (dig_name h)
theorem blk_opt {t S : List UInt8} (ht : nameB t = true) (hS : numB S = true) (hSl : S.length ≤ 3) : Blk ([111, 112, 116, 105, 111, 110, 97, 108] ++ 32 :: (t ++ 32 :: ((102 :: S) ++ 32 :: ([61] ++ 32 :: (S ++ ([59] ++ 10 :: [])))))) := Bits.blk (b := _) (.gap (c := 32) (zAv (by decide)) (by decide) (by decide) (.gap (c := 32) (zAv ht) (by decide) (by decide) (.gap (c := 32) (zAv (fname (by decide) hS)) (by decide) (by decide) (.gap (c := 32) (zAt (by decide)) (by decide) (by decide) (.dir (num_ok hS hSl) (.gap (c := 10) (zAt (by decide)) (by decide) (by decide) Bits.nil rfl) rfl rfl) rfl) rfl) rfl) rfl)
theorem blk_one {t S : List UInt8} (ht : nameB t = true) (hS : numB S = true) (hSl : S.length ≤ 3) : Blk (t ++ 32 :: ((102 :: S) ++ 32 :: ([61] ++ 32 :: (S ++ ([59] ++ 10 :: []))))) := Bits.blk (b := _) (.gap (c := 32) (zAv ht) (by decide) (by decide) (.gap (c := 32) (zAv (fname (by decide) hS)) (by decide) (by decide) (.gap (c := 32) (zAt (by decide)) (by decide) (by decide) (.dir (num_ok hS hSl) (.gap (c := 10) (zAt (by decide)) (by decide) (by decide) Bits.nil rfl) rfl rfl) rfl) rfl) rfl)
theorem blk_rep {t S : List UInt8} (ht : nameB t = true) (hS : numB S = true) (hSl : S.length ≤ 3) : Blk ([114, 101, 112, 101, 97, 116, 101, 100] ++ 32 :: (t ++ 32 :: ((102 :: S) ++ 32 :: ([61] ++ 32 :: (S ++ ([59] ++ 10 :: [])))))) := Bits.blk (b := _) (.gap (c := 32) (zAv (by decide)) (by decide) (by decide) (.gap (c := 32) (zAv ht) (by decide) (by decide) (.gap (c := 32) (zAv (fname (by decide) hS)) (by decide) (by decide) (.gap (c := 32) (zAt (by decide)) (by decide) (by decide) (.dir (num_ok hS hSl) (.gap (c := 10) (zAt (by decide)) (by decide) (by decide) Bits.nil rfl) rfl rfl) rfl) rfl) rfl) rfl)
theorem blk_repf {t S : List UInt8} (ht : nameB t = true) (hS : numB S = true) (hSl : S.length ≤ 3) : Blk ([114, 101, 112, 101, 97, 116, 101, 100] ++ 32 :: (t ++ 32 :: ((102 :: S) ++ 32 :: ([61] ++ 32 :: (S ++ 32 :: ([91] ++ ([112, 97, 99, 107, 101, 100] ++ 32 :: ([61] ++ 32 :: ([102, 97, 108, 115, 101] ++ ([93] ++ ([59] ++ 10 :: []))))))))))) := Bits.blk (b := _) (.gap (c := 32) (zAv (by decide)) (by decide) (by decide) (.gap (c := 32) (zAv ht) (by decide) (by decide) (.gap (c := 32) (zAv (fname (by decide) hS)) (by decide) (by decide) (.gap (c := 32) (zAt (by decide)) (by decide) (by decide) (.gap (c := 32) (num_ok hS hSl) (by decide) (by decide) (.dir (zAt (by decide)) (.gap (c := 32) (zAv (by decide)) (by decide) (by decide) (.gap (c := 32) (zAt (by decide)) (by decide) (by decide) (.dir (zAv (by decide)) (.dir (zAt (by decide)) (.gap (c := 10) (zAt (by decide)) (by decide) (by decide) Bits.nil rfl) rfl rfl) rfl rfl) rfl) rfl) rfl rfl) rfl) rfl) rfl) rfl) rfl)
theorem blk_rept {t S : List UInt8} (ht : nameB t = true) (hS : numB S = true) (hSl : S.length ≤ 3) : Blk ([114, 101, 112, 101, 97, 116, 101, 100] ++ 32 :: (t ++ 32 :: ((102 :: S) ++ 32 :: ([61] ++ 32 :: (S ++ 32 :: ([91] ++ ([112, 97, 99, 107, 101, 100] ++ 32 :: ([61] ++ 32 :: ([116, 114, 117, 101] ++ ([93] ++ ([59] ++ 10 :: []))))))))))) := Bits.blk (b := _) (.gap (c := 32) (zAv (by decide)) (by decide) (by decide) (.gap (c := 32) (zAv ht) (by decide) (by decide) (.gap (c := 32) (zAv (fname (by decide) hS)) (by decide) (by decide) (.gap (c := 32) (zAt (by decide)) (by decide) (by decide) (.gap (c := 32) (num_ok hS hSl) (by decide) (by decide) (.dir (zAt (by decide)) (.gap (c := 32) (zAv (by decide)) (by decide) (by decide) (.gap (c := 32) (zAt (by decide)) (by decide) (by decide) (.dir (zAv (by decide)) (.dir (zAt (by decide)) (.gap (c := 10) (zAt (by decide)) (by decide) (by decide) Bits.nil rfl) rfl rfl) rfl rfl) rfl) rfl) rfl rfl) rfl) rfl) rfl) rfl) rfl)
theorem blk_map {t S : List UInt8} {key : List UInt8} (hkey : nameB key = true) (ht : nameB t = true) (hS : numB S = true) (hSl : S.length ≤ 3) : Blk ([109, 97, 112] ++ ([60] ++ (key ++ ([44] ++ 32 :: (t ++ ([62] ++ 32 :: ((102 :: S) ++ 32 :: ([61] ++ 32 :: (S ++ ([59] ++ 10 :: [])))))))))) := Bits.blk (b := _) (.dir (zAv (by decide)) (.dir (zAt (by decide)) (.dir (zAv hkey) (.gap (c := 32) (zAt (by decide)) (by decide) (by decide) (.dir (zAv ht) (.gap (c := 32) (zAt (by decide)) (by decide) (by decide) (.gap (c := 32) (zAv (fname (by decide) hS)) (by decide) (by decide) (.gap (c := 32) (zAt (by decide)) (by decide) (by decide) (.dir (num_ok hS hSl) (.gap (c := 10) (zAt (by decide)) (by decide) (by decide) Bits.nil rfl) rfl rfl) rfl) rfl) rfl) rfl rfl) rfl) rfl rfl) rfl rfl) rfl rfl)
theorem blk_oo {t S : List UInt8} (ht : nameB t = true) (hS : numB S = true) (hSl : S.length ≤ 3) : Blk (t ++ 32 :: ((111 :: S) ++ 32 :: ([61] ++ 32 :: (S ++ ([59] ++ 10 :: []))))) := Bits.blk (b := _) (.gap (c := 32) (zAv ht) (by decide) (by decide) (.gap (c := 32) (zAv (fname (by decide) hS)) (by decide) (by decide) (.gap (c := 32) (zAt (by decide)) (by decide) (by decide) (.dir (num_ok hS hSl) (.gap (c := 10) (zAt (by decide)) (by decide) (by decide) Bits.nil rfl) rfl rfl) rfl) rfl) rfl)
theorem blk_oo2 {t S S' : List UInt8} (ht : nameB t = true) (hS : numB S = true) (hS' : numB S' = true) (hSl : S'.length ≤ 3) : Blk (t ++ 32 :: ((111 :: S) ++ 32 :: ([61] ++ 32 :: (S' ++ ([59] ++ 10 :: []))))) :=
 Bits.blk (b := _) (.gap (c := 32) (zAv ht) (by decide) (by decide) (.gap (c := 32) (zAv (fname (by decide) hS)) (by decide) (by decide) (.gap (c := 32) (zAt (by decide)) (by decide) (by decide) (.dir (num_ok hS' hSl) (.gap (c := 10) (zAt (by decide)) (by decide) (by decide) .nil rfl) rfl rfl) rfl) rfl) rfl)
theorem blk_head : Blk ([115, 121, 110, 116, 97, 120] ++ 32 :: ([61] ++ 32 :: ([34, 112, 114, 111, 116, 111, 51, 34] ++ ([59] ++ 10 :: ([112, 97, 99, 107, 97, 103, 101] ++ 32 :: ([97] ++ ([59] ++ 10 :: ([101, 110, 117, 109] ++ 32 :: ([69] ++ 32 :: ([123] ++ 32 :: ([65] ++ 32 :: ([61] ++ 32 :: ([48] ++ ([59] ++ 32 :: ([66] ++ 32 :: ([61] ++ 32 :: ([49] ++ ([59] ++ 32 :: ([67] ++ 32 :: ([61] ++ 32 :: ([45] ++ ([49] ++ ([59] ++ 32 :: ([125] ++ 10 :: ([109, 101, 115, 115, 97, 103, 101] ++ 32 :: ([73] ++ 32 :: ([123] ++ 10 :: []))))))))))))))))))))))))))) := Bits.blk (b := _) (.gap (c := 32) (zAv (by decide)) (by decide) (by decide) (.gap (c := 32) (zAt (by decide)) (by decide) (by decide) (.dir proto_ok (.gap (c := 10) (zAt (by decide)) (by decide) (by decide) (.gap (c := 32) (zAv (by decide)) (by decide) (by decide) (.dir (zAv (by decide)) (.gap (c := 10) (zAt (by decide)) (by decide) (by decide) (.gap (c := 32) (zAv (by decide)) (by decide) (by decide) (.gap (c := 32) (zAv (by decide)) (by decide) (by decide) (.gap (c := 32) (zAt (by decide)) (by decide) (by decide) (.gap (c := 32) (zAv (by decide)) (by decide) (by decide) (.gap (c := 32) (zAt (by decide)) (by decide) (by decide) (.dir zero_ok (.gap (c := 32) (zAt (by decide)) (by decide) (by decide) (.gap (c := 32) (zAv (by decide)) (by decide) (by decide) (.gap (c := 32) (zAt (by decide)) (by decide) (by decide) (.dir (num_ok (x := [49]) (by decide) (by decide)) (.gap (c := 32) (zAt (by decide)) (by decide) (by decide) (.gap (c := 32) (zAv (by decide)) (by decide) (by decide) (.gap (c := 32) (zAt (by decide)) (by decide) (by decide) (.dir (zAt (by decide)) (.dir (num_ok (x := [49]) (by decide) (by decide)) (.gap (c := 32) (zAt (by decide)) (by decide) (by decide) (.gap (c := 10) (zAt (by decide)) (by decide) (by decide) (.gap (c := 32) (zAv (by decide)) (by decide) (by decide) (.gap (c := 32) (zAv (by decide)) (by decide) (by decide) (.gap (c := 10) (zAt (by decide)) (by decide) (by decide) Bits.nil rfl) rfl) rfl) rfl) rfl) rfl rfl) rfl rfl) rfl) rfl) rfl) rfl rfl) rfl) rfl) rfl) rfl rfl) rfl) rfl) rfl) rfl) rfl) rfl) rfl rfl) rfl) rfl) rfl rfl) rfl) rfl)
theorem blk_mid : Blk ([125] ++ 10 :: ([109, 101, 115, 115, 97, 103, 101] ++ 32 :: ([77] ++ 32 :: ([123] ++ 10 :: [])))) := Bits.blk (b := _) (.gap (c := 10) (zAt (by decide)) (by decide) (by decide) (.gap (c := 32) (zAv (by decide)) (by decide) (by decide) (.gap (c := 32) (zAv (by decide)) (by decide) (by decide) (.gap (c := 10) (zAt (by decide)) (by decide) (by decide) Bits.nil rfl) rfl) rfl) rfl)
theorem blk_end : Blk ([125] ++ 10 :: []) := Bits.blk (b := _) (.gap (c := 10) (zAt (by decide)) (by decide) (by decide) Bits.nil rfl)
theorem blk_oneof : Blk ([111, 110, 101, 111, 102] ++ 32 :: ([99] ++ 32 :: ([123] ++ 10 :: []))) := Bits.blk (b := _) (.gap (c := 32) (zAv (by decide)) (by decide) (by decide) (.gap (c := 32) (zAv (by decide)) (by decide) (by decide) (.gap (c := 10) (zAt (by decide)) (by decide) (by decide) Bits.nil rfl) rfl) rfl)
end Go.Proofs.YtjecpdnjpggcoaaGreatDoor.IrM
