/- What the functions of the law 'JsonAll' do: part 1 of 8. -/
import Derived.Test.YtdanefpnfnippaaGreatDoorIrJ
namespace Go.LexF
set_option linter.unusedVariables false
set_option linter.unusedSimpArgs false
abbrev Bytes := List UInt8
abbrev zC3 : Bytes := [9, 10, 11, 12, 13, 32]
abbrev zD5 : Bytes := [65, 66, 67, 68, 69, 70, 71, 72, 73, 74, 75, 76, 77, 78, 79, 80, 81, 82, 83, 84, 85, 86, 87, 88, 89, 90, 97, 98, 99, 100, 101, 102, 103, 104, 105, 106, 107, 108, 109, 110, 111, 112, 113, 114, 115, 116, 117, 118, 119, 120, 121, 122, 95]
def dropLine : Bytes → Bytes
 | [] => []
 | c :: r => if c = 10 then c :: r else dropLine r
def dropCmt : Bytes → Option Bytes
 | [] => none
 | c :: r => if c = 42 then (match r with
  | [] => none
  | d :: r' => if d = 47 then some r' else dropCmt (d :: r')) else dropCmt r
theorem dropLine_le : ∀ s : Bytes, (dropLine s).length ≤ s.length
 | [] => Nat.le_refl _
 | c :: r => by unfold dropLine; split <;> simp; have := dropLine_le r; omega
theorem dropCmt_lt : ∀ {s u : Bytes}, dropCmt s = some u → u.length + 2 ≤ s.length
 | [], _, h => by cases h
 | c :: r, u, h => by
  unfold dropCmt at h
  split at h
  · split at h
    · cases h
    · split at h
      · cases h; simp
      · have := dropCmt_lt h; simp at this ⊢; omega
  · have := dropCmt_lt h; simp at this ⊢; omega
def zA3 (s : Bytes) : Bytes × Bool := match s with
 | [] => ([], true)
 | c :: r => if zC3.contains c then zA3 r else if c = 47 then (match hr : r with
  | [] => (c :: r, true)
  | d :: r' => if d = 47 then zA3 (dropLine r') else if d = 42 then (match hd : dropCmt r' with
   | none => (c :: r, false)
   | some u => zA3 u) else (c :: r, true)) else (c :: r, true)
 termination_by s.length
 decreasing_by
 · simp
 · have := dropLine_le r'; simp; omega
 · have := dropCmt_lt hd; simp; omega
def digF (c : UInt8) : Nat := if c.toNat ≤ 57 then c.toNat - 48 else if c.toNat ≤ 70 then c.toNat - 55 else c.toNat - 87
def valF (B : Nat) : Nat → Bytes → Nat
 | n, [] => n
 | n, c :: r => valF B (n * B + digF c) r
end Go.LexF
namespace Go.Proofs.YtdanefpnfnippaaGreatDoor.IrJ
open Go Go.CI
set_option maxRecDepth 100000
set_option linter.unusedVariables false
set_option linter.unusedSimpArgs false
attribute [local irreducible] W Wo Wc WoR
attribute [simp] goR regOut zE7 swapOne sameAt nthOp CVal.beq beqs CVal.block storesTo zAa zAz zBc zBd evalP evalL zAn nth zC1 COp.cls COp.isStore CVal.isUndef CVal.whole CVal.cells CHeap.put CHeap.get CHeap.set zBt zA4 zA5 partOf zBh evalBin evalInt evalStr zBa initVar descOf List.take List.drop CVal.lenOf CVal.isStr CVal.bare CVal.strip CVal.flat zAc zBj zBg zDk cut zDc setCells szOf szOf_desc elems bytesOf zEm zCb zBb setElem List.replicate sy_nbeq sy_neqF sy_leT sy_leF zAm dropped sy_wrap64 zB7 zAe zB4 zD4 sy_ieqF sy_ileT sy_ileF sy_iltT sy_iltF sy_ltT sy_ltF evalSlc zCe eqVal extL extE keyIs findKV nthKV setKV CHeap.ty zBs CHeap.note CHeap.tyOk zDi freezeVal zEl zDu cellsEq cellEq zB9 zCn zE6 zD3 zE3 pIndex hasPair rowOf zB5 idxFrom hasFront idxSub
abbrev KT := CVal → CHeap → Prop
abbrev QT := CExit → CSt → Prop
abbrev B8 := List UInt8
abbrev NN := List (Nat × Nat)
abbrev EE := List (Nat × CObj)
theorem fx4 {h : CHeap} (hf : Fit h) : Under h.ents h.next ∧ zA9 h.tys h.next ∧ (∀ m, h.next ≤ m → zB7 h.ents m = h.ents) ∧ (∀ m, h.next ≤ m → zAe h.ents m = h.ents) ∧ (∀ q, h.next ≤ q → zA4 h.ents q = none) ∧ (∀ q, h.next ≤ q → zBs h.tys q = none) := by
 obtain ⟨hu, hut⟩ := hf
 exact ⟨hu, hut, fun m hm => zAl (hu.le hm), fun m hm => zBn (hu.le hm), fun q hq => zAx hu hq, fun q hq => zC4 hut hq⟩
theorem fx5 {h : CHeap} {p : Nat} {o : CObj} (hf : Fit h) (hg : zA4 h.ents p = some o) : (∀ x, zA4 (zA5 h.ents p x) p = some x) ∧ (∀ x m, h.next ≤ m → zB7 (zA5 h.ents p x) m = zA5 h.ents p x) ∧ (∀ x m, h.next ≤ m → zAe (zA5 h.ents p x) m = zA5 h.ents p x) ∧ (∀ x q, h.next ≤ q → zA4 (zA5 h.ents p x) q = none) :=
 have hu := hf.1
 ⟨fun x => zA6 hg, fun x m hm => zAl (hu.set.le hm), fun x m hm => zBn (hu.set.le hm), fun x q hq => zAx hu.set hq⟩
theorem un_ {l : List (Nat × CObj)} {n : Nat} (h : Under l n := by repeat (first | exact hu.le (by (try dsimp only); omega) | exact hu.set.le (by (try dsimp only); omega) | exact hu.set.set.le (by (try dsimp only); omega) | refine Under.cons (by (try dsimp only); omega) ?_ | exact Under.nil)) : Under l n := h
theorem ut_ {l : List (Nat × Nat)} {n : Nat} (h : zA9 l n := by repeat (first | exact hut.le (by (try dsimp only); omega) | refine zA9.cons (by (try dsimp only); omega) ?_ | exact zA9.nil | assumption | exact zA9.le (by assumption) (by (try dsimp only); omega))) : zA9 l n := h
theorem fit_ {h : CHeap} (hf : Fit h := by (refine ⟨?_, ?_⟩; (focus ((repeat (first | exact hu.le (by (try dsimp only); omega) | exact hu.set.le (by (try dsimp only); omega) | exact hu.set.set.le (by (try dsimp only); omega) | refine Under.cons (by (try dsimp only); omega) ?_ | exact Under.nil)); done)); (focus ((repeat (first | exact hut.le (by (try dsimp only); omega) | refine zA9.cons (by (try dsimp only); omega) ?_ | exact zA9.nil | assumption | exact zA9.le (by assumption) (by (try dsimp only); omega))); done)))) : Fit h := hf
abbrev ct_ := @W.cond_true
abbrev cf_ := @W.cond_false
abbrev sk_ := @W.skip
abbrev ex_ := @W.exit
abbrev bl_ := @W.block
abbrev sq_ := @W.seq
abbrev rg_ := @W.regG
abbrev go_ := @WoR.go
def stN (T : Nat → Option CFn) (c : CCode) (st : CSt) (Q : CExit → CSt → Prop) : Option Prop := match c with
 | .seq a b => some (W T a st (thenW T b Q))
 | .block id c => some (W T c st fun x st' => Q (zAb id x) st')
 | .cond c a b => match zAn st.tm [] c with
  | .bool true => some (W T a st Q)
  | .bool false => some (W T b st Q)
  | _ => none
 | .skip => some (Q .normal st)
 | .exit i => some (Q (.exit i) st)
 | _ => none
theorem st_ {T : Nat → Option CFn} {c : CCode} {st : CSt} {Q : CExit → CSt → Prop} {P : Prop} (h : stN T c st Q = some P) (hp : P) : W T c st Q := by
 unfold stN at h
 split at h
 · cases h; exact W.seq hp
 · cases h; exact W.block hp
 · split at h
   · rename_i e; cases h; exact W.cond_true e hp
   · rename_i e; cases h; exact W.cond_false e hp
   · cases h
 · cases h; exact W.skip hp
 · cases h; exact W.exit hp
 · cases h
abbrev gwP (T : Nat → Option CFn) (tm : List CVal) (ops0 : List COper) (wb : List (Nat × Nat)) (chk : List (Nat × Nat × Nat)) (sw : List (Nat × Nat)) (Q : CExit → CSt → Prop) : GoR → Prop
 | .done st => Q .normal st
 | .call id f args r s => Wc T f args s.h fun v h' => v.isUndef = false ∧ WoR T tm ops0 wb chk sw Q (id + 1) r { s with vals := v :: s.vals, h := h', hs := s.h :: s.hs }
theorem gw_ {T : Nat → Option CFn} {tm : List CVal} {ops0 : List COper} {wb : List (Nat × Nat)} {chk : List (Nat × Nat × Nat)} {sw : List (Nat × Nat)} {Q : CExit → CSt → Prop} {x : Option GoR} {r : GoR} (e : x = some r) (h : gwP T tm ops0 wb chk sw Q r) : goW T tm ops0 wb chk sw Q x := by
 rw [e]
 cases r <;> exact h
theorem zA7 {l : EE} {m n : Nat} {x : CObj} (h : n ≠ m) : zA4 (zA5 l m x) n = zA4 l n := by
 induction l with
 | nil => rfl
 | cons a r ih =>
  obtain ⟨i, o⟩ := a
  by_cases hi : i = m
  · subst hi
    have : (i == n) = false := by simp; omega
    simp [zA5, zA4, Ne.symm h]
  · by_cases hn : i = n
    · subst hn; simp [zA5, zA4, hi]
    · simp [zA5, zA4, hi, hn, ih]
theorem zBk : ∀ {l : EE} {m : Nat} {x : CObj}, zA4 l m = some x → zA5 l m x = l
 | [], _, _, h => by cases h
 | (i, o) :: r, m, x, h => by
  by_cases hi : i = m
  · subst hi; simp [zA4] at h; subst h; simp [zA5]
  · simp [zA4, hi] at h; simp [zA5, hi, zBk h]
def inSet (bs : List CVal) (c : UInt8) (v : Bool) : Prop := nth bs c.toNat = .bool v
theorem contains_spec (p d : Nat) (bs : List CVal) (c : UInt8) (v : Bool) (hv : inSet bs c v) (hl : bs.length = 256) (h : CHeap) (hg : zA4 h.ents p = some (.cells bs)) (hu : Under h.ents h.next) (K : KT) (hk : ∀ n', h.next ≤ n' → K (.bool v) { h with next := n' }) : Wc tree.getF 77 [.ptr p d 0, .int .u8 (c.toNat : Int)] h K := by
 have hD := zAl hu
 have hc : c.toNat < 256 := c.toNat_lt
 have hv2 : nth bs c.toNat = .bool v := hv
 refine Wc.mk' (fn := c77) (by kernel_rfl) rfl ?_
 repeat (first | refine st_ rfl ?_ | ((first | refine rg_ ?_ | refine go_ ?_); refine gw_ (by simp (disch := omega) [c77, hD, hg, hl, hv2]; rfl) ?_))
 refine W.ret ?_
 try simp only [zAb, zA0]
 refine endW.intro rfl ?_
 generalize e : zAc .. = r
 simp (disch := omega) [c77, hD, hg, hl, hv2] at e
 subst e
 try dsimp only
 refine hk _ ?_; omega
abbrev trimLoop : CCode := (.loop true (.seq (.seq (.region [.v 0, .g (.len true (.loc 0)), .x .gtr 0 (.k 0)] [(1, 2)] [] []) (.cond (.var 1) .skip (.exit 0))) (.block 1 (.seq (.seq (.region [.v 2, .v 0, .g (.idxStr (.loc 0) (.k 0)), .g (.call false 77 [(.loc 2), (.loc 0)]), .g (.not (.loc 0))] [(3, 4)] [] []) (.cond (.var 3) (.exit 0) .skip)) (.region [.v 0, .g (.slc 0 (.loc 0) (some (.k 1)) none), .m (.loc 0)] [(0, 2)] [] [])))))
theorem trim_loop (p d : Nat) (bs : List CVal) (hl : bs.length = 256) (rest : B8) (hr : ∀ c r, rest = c :: r → inSet bs c false) (Q : QT) :
    ∀ (ds : B8), (∀ c ∈ ds, inSet bs c true) → ∀ (h : CHeap) (b1 b3 b4 : CVal), zA4 h.ents p = some (.cells bs) → Under h.ents h.next → ds.length + rest.length < 1073741824 →
    (∀ n' c1 c3, h.next ≤ n' → Q (.exit 0) ⟨[.str rest, c1, .ptr p d 0, c3, b4], { h with next := n' }, []⟩) →
    W tree.getF trimLoop ⟨[.str (ds ++ rest), b1, .ptr p d 0, b3, b4], h, []⟩ Q := by
 intro ds
 induction ds with
 | nil =>
  intro _ h b1 b3 b4 hg hu hlen hq
  cases rest with
  | nil =>
   refine W.loop ?_
   repeat (first | refine st_ rfl ?_ | ((first | refine rg_ ?_ | refine go_ ?_); refine gw_ (by simp (disch := omega) [hg, List.nil_append, List.cons_append]; rfl) ?_))
   exact hq _ _ _ (by omega)
  | cons c r =>
   have hc := hr c r rfl
   refine W.loop ?_
   repeat (first | refine st_ rfl ?_ | ((first | refine rg_ ?_ | refine go_ ?_); refine gw_ (by simp (disch := omega) [hg, List.nil_append, List.cons_append]; rfl) ?_) | (refine contains_spec p d bs c false hc hl _ (by simp [hg]) un_ _ fun n1 hn1 => ⟨rfl, ?_⟩; try dsimp only at hn1))
   exact hq _ _ _ (by omega)
 | cons c ds ih =>
  intro hds h b1 b3 b4 hg hu hlen hq
  have hc := hds c (List.mem_cons_self ..)
  have hC : zAe h.ents h.next = h.ents := zBn hu
  have htk : List.take (ds.length + rest.length) (ds ++ rest) = ds ++ rest := by rw [← List.length_append, List.take_length]
  have hl3 : ds.length + 1 + rest.length < 1073741824 := by simpa using hlen
  refine W.loop ?_
  repeat (first | refine st_ rfl ?_ | ((first | refine rg_ ?_ | refine go_ ?_); refine gw_ (by simp (disch := omega) [hg, List.nil_append, List.cons_append, hC, htk]; rfl) ?_) | (refine contains_spec p d bs c true hc hl _ (by simp [hg]) un_ _ fun n1 hn1 => ⟨rfl, ?_⟩; try dsimp only at hn1))
  show W tree.getF trimLoop (dropped true _ _) Q
  generalize e : dropped .. = r
  simp (disch := omega) [hg, List.nil_append, List.cons_append, hC] at e
  subst e
  try dsimp only
  exact ih (fun c hc => hds c (List.mem_cons_of_mem _ hc)) _ _ _ _ (by exact hg) (hu.le (by (try dsimp only); omega)) (by simp at hlen; omega) (fun n' c1 c3 hn => hq n' c1 c3 (by dsimp only at hn; omega))
theorem trimA_spec (p d : Nat) (bs : List CVal) (hl : bs.length = 256) (ds rest : B8) (hds : ∀ c ∈ ds, inSet bs c true) (hr : ∀ c r, rest = c :: r → inSet bs c false) (h : CHeap) (hg : zA4 h.ents p = some (.cells bs)) (hu : Under h.ents h.next) (hlen : ds.length + rest.length < 1073741824) (K : KT)
    (hk : ∀ n', h.next ≤ n' → K (.str rest) { h with next := n' }) : Wc tree.getF 57 [.str (ds ++ rest), .ptr p d 0] h K := by
 have hD := zAl hu
 refine Wc.mk' (fn := c57) (by kernel_rfl) rfl ?_
 repeat (first | refine st_ rfl ?_ | ((first | refine rg_ ?_ | refine go_ ?_); refine gw_ (by simp (disch := omega) [c57, hg, hD]; rfl) ?_))
 refine trim_loop p d bs hl rest hr _ ds hds _ _ _ _ (by simp [hg]) un_ hlen fun n1 c1 c3 hn1 => ?_
 try dsimp only at hn1
 repeat (first | refine st_ rfl ?_ | ((first | refine rg_ ?_ | refine go_ ?_); refine gw_ (by simp (disch := omega) [hg, hD]; rfl) ?_))
 refine W.ret ?_
 try simp only [zAb, zA0]
 refine endW.intro rfl ?_
 generalize e : zAc .. = r
 simp (disch := omega) [c57, hg, hD] at e
 subst e
 try dsimp only
 refine hk _ ?_; omega
def marks : List CVal → B8 → List CVal
 | bs, [] => bs
 | bs, c :: r => marks (setCells bs c.toNat [.bool true]) r
theorem setCells_len (bs : List CVal) (c : Nat) (hc : c < bs.length) (x : CVal) : (setCells bs c [x]).length = bs.length := by
 simp [setCells]; omega
abbrev setLoop : CCode := (.loop true (.seq (.seq (.region [.v 0, .v 1, .g (.len true (.loc 0)), .h .lss 2 0] [(2, 3)] [] []) (.cond (.var 2) .skip (.exit 0))) (.seq (.block 1 (.seq (.region [.v 1, .v 0, .g (.idxStr (.loc 1) (.loc 0)), .m (.loc 0)] [(3, 3)] [] []) (.seq (.seq (.region [.v 3, .x .geq 0 (.u 128)] [(4, 1)] [] []) (.cond (.var 4) (.seq (.region [.g (.load (some 256) (.var 5)), .g (.store 256 (.var 5) (.loc 0)), .m (.b false)] [(6, 2)] [] []) .ret) .skip)) (.region [.v 3, .g (.arrAddr 256 1 (.var 5) (.loc 0)), .g (.store 1 (.loc 0) (.b true))] [] [] [])))) (.region [.v 0, .x .add 0 (.k 1), .m (.loc 0)] [(0, 2)] [] []))))
theorem set_loop (s : B8) (p d : Nat) (hs : s.length < 1073741824) (Q : QT) : ∀ (r : B8) (i : Nat), s.drop i = r → (∀ c ∈ r, c.toNat < 128) → ∀ (bs : List CVal), bs.length = 256 → ∀ (h : CHeap) (b2 b3 b4 b6 : CVal), zA4 h.ents p = some (.cells bs) → Under h.ents h.next →
    (∀ n' c0 c2 c3 c4, h.next ≤ n' → Q (.exit 0) ⟨[c0, .str s, c2, c3, c4, .ptr p d 0, b6], { h with ents := zA5 h.ents p (.cells (marks bs r)), next := n' }, []⟩) →
    W tree.getF setLoop ⟨[.int .i64 i, .str s, b2, b3, b4, .ptr p d 0, b6], h, []⟩ Q := by
 intro r
 induction r with
 | nil =>
  intro i hi _ bs hbl h b2 b3 b4 b6 hg hu hq
  have hle : s.length ≤ i := List.drop_eq_nil_iff.1 hi
  refine W.loop ?_
  repeat (first | refine st_ rfl ?_ | ((first | refine rg_ ?_ | refine go_ ?_); refine gw_ (by simp (disch := omega) [hg]; rfl) ?_))
  have := hq (h.next + 4) (.int .i64 i) (.bool false) b3 b4 (by omega)
  rw [show marks bs [] = bs from rfl, zBk hg] at this
  exact this
 | cons c r ih =>
  intro i hi hr bs hbl h b2 b3 b4 b6 hg hu hq
  have hc : c.toNat < 128 := hr c (List.mem_cons_self ..)
  have hlt : i < s.length := by
   rcases Nat.lt_or_ge i s.length with h1 | h1
   · exact h1
   · rw [List.drop_eq_nil_of_le h1] at hi; cases hi
  have hget : s[i] = c := by
   have h1 := List.drop_eq_getElem_cons hlt
   rw [hi] at h1
   exact (List.cons.inj h1).1.symm
  have hi2 : s.drop (i + 1) = r := by
   have h1 := List.drop_eq_getElem_cons hlt
   rw [hi] at h1
   exact (List.cons.inj h1).2.symm
  have hget2 : s[i]? = some c := by rw [List.getElem?_eq_getElem hlt, hget]
  have hC : ∀ x, zAe (zA5 h.ents p x) h.next = zA5 h.ents p x := fun x => zBn hu.set
  have hG : ∀ x, zA4 (zA5 h.ents p x) p = some x := fun x => zA6 hg
  have hcl : c.toNat < bs.length := by omega
  refine W.loop ?_
  repeat (first | refine st_ rfl ?_ | ((first | refine rg_ ?_ | refine go_ ?_); refine gw_ (by simp (disch := omega) [hg, hC, hG, hget2, hbl, hget]; rfl) ?_))
  show W tree.getF setLoop (dropped true _ _) Q
  generalize e : dropped .. = r
  simp (disch := omega) [hg, hC] at e
  subst e
  try dsimp only
  refine ih (i + 1) hi2 (fun c hc => hr c (List.mem_cons_of_mem _ hc)) (setCells bs c.toNat [.bool true]) (by rw [setCells_len _ _ hcl]; exact hbl) _ _ _ _ _ (by exact hG _) (hu.set.le (by (try dsimp only); omega)) (fun n' c0 c2 c3 c4 hn => ?_)
  have := hq n' c0 c2 c3 c4 (by dsimp only at hn; omega)
  rw [zAm]
  exact this
def zCv : List CVal := List.replicate 256 (.bool false)
theorem marks_len : ∀ (r : B8) (bs : List CVal), bs.length = 256 → (marks bs r).length = 256
 | [], _, h => h
 | c :: r, bs, h => marks_len r _ (by rw [setCells_len _ _ (by have := c.toNat_lt; omega)]; exact h)
theorem marks_strip : ∀ (r : B8) (bs : List CVal), bs.map CVal.strip = bs → (marks bs r).map CVal.strip = marks bs r
 | [], _, h => h
 | c :: r, bs, h => marks_strip r _ (by simp only [setCells, List.map_append, List.map_take, List.map_drop, h]; rfl)
set_option maxHeartbeats 1000000 in
theorem makeSet_spec (s : B8) (hs : s.length < 1073741824) (hr : ∀ c ∈ s, c.toNat < 128) (h : CHeap) (hu : Under h.ents h.next) (K : KT)
    (hk : ∀ n', h.next ≤ n' → K (.tup [.agg (marks zCv s), .bool true]) { h with next := n' }) : Wc tree.getF 56 [.str s] h K := by
 have hD := zAl hu
 have hml := marks_len s zCv rfl
 have hst := marks_strip s zCv rfl
 have htk : List.take 256 (marks zCv s) = marks zCv s := by rw [← hml, List.take_length]
 refine Wc.mk' (fn := c56) (by kernel_rfl) rfl ?_
 refine W.seq ?_
 refine W.reg ?_
 generalize e : stepR _ _ _ = r
 simp (disch := omega) at e
 subst e
 try dsimp only
 rw [show ([.bool false, .bool false, .bool false, .bool false, .bool false, .bool false, .bool false, .bool false, .bool false, .bool false, .bool false, .bool false, .bool false, .bool false, .bool false, .bool false, .bool false, .bool false, .bool false, .bool false, .bool false, .bool false, .bool false, .bool false, .bool false, .bool false, .bool false, .bool false, .bool false, .bool false, .bool false, .bool false, .bool false, .bool false, .bool false, .bool false, .bool false, .bool false, .bool false, .bool false, .bool false, .bool false, .bool false, .bool false, .bool false, .bool false, .bool false, .bool false, .bool false, .bool false, .bool false, .bool false, .bool false, .bool false, .bool false, .bool false, .bool false, .bool false, .bool false, .bool false, .bool false, .bool false, .bool false, .bool false, .bool false, .bool false, .bool false, .bool false, .bool false, .bool false, .bool false, .bool false, .bool false, .bool false, .bool false, .bool false, .bool false, .bool false, .bool false, .bool false, .bool false, .bool false, .bool false, .bool false, .bool false, .bool false, .bool false, .bool false, .bool false, .bool false, .bool false, .bool false, .bool false, .bool false, .bool false, .bool false, .bool false, .bool false, .bool false, .bool false, .bool false, .bool false, .bool false, .bool false, .bool false, .bool false, .bool false, .bool false, .bool false, .bool false, .bool false, .bool false, .bool false, .bool false, .bool false, .bool false, .bool false, .bool false, .bool false, .bool false, .bool false, .bool false, .bool false, .bool false, .bool false, .bool false, .bool false, .bool false, .bool false, .bool false, .bool false, .bool false, .bool false, .bool false, .bool false, .bool false, .bool false, .bool false, .bool false, .bool false, .bool false, .bool false, .bool false, .bool false, .bool false, .bool false, .bool false, .bool false, .bool false, .bool false, .bool false, .bool false, .bool false, .bool false, .bool false, .bool false, .bool false, .bool false, .bool false, .bool false, .bool false, .bool false, .bool false, .bool false, .bool false, .bool false, .bool false, .bool false, .bool false, .bool false, .bool false, .bool false, .bool false, .bool false, .bool false, .bool false, .bool false, .bool false, .bool false, .bool false, .bool false, .bool false, .bool false, .bool false, .bool false, .bool false, .bool false, .bool false, .bool false, .bool false, .bool false, .bool false, .bool false, .bool false, .bool false, .bool false, .bool false, .bool false, .bool false, .bool false, .bool false, .bool false, .bool false, .bool false, .bool false, .bool false, .bool false, .bool false, .bool false, .bool false, .bool false, .bool false, .bool false, .bool false, .bool false, .bool false, .bool false, .bool false, .bool false, .bool false, .bool false, .bool false, .bool false, .bool false, .bool false, .bool false, .bool false, .bool false, .bool false, .bool false, .bool false, .bool false, .bool false, .bool false, .bool false, .bool false, .bool false, .bool false, .bool false, .bool false, .bool false, .bool false, .bool false, .bool false, .bool false, .bool false, .bool false, .bool false, .bool false, .bool false, .bool false, .bool false, .bool false, .bool false, .bool false, .bool false] : List CVal) = zCv from rfl]
 repeat (first | refine st_ rfl ?_ | ((first | refine rg_ ?_ | refine go_ ?_); refine gw_ (by simp (disch := omega) [hD, hml, htk, hst, c56]; rfl) ?_))
 refine set_loop s h.next _ hs _ s 0 rfl hr zCv rfl _ _ _ _ _ (by simp [zA4]) un_ fun n1 c0 c2 c3 c4 hn1 => ?_
 try dsimp only at hn1
 repeat (first | refine st_ rfl ?_ | ((first | refine rg_ ?_ | refine go_ ?_); refine gw_ (by simp (disch := omega) [hD, hml, htk, hst]; rfl) ?_))
 refine W.ret ?_
 try simp only [zAb, zA0]
 refine endW.intro rfl ?_
 generalize e : zAc .. = r
 simp (disch := omega) [c56, hD, hml, htk, hst] at e
 subst e
 try dsimp only
 refine hk _ ?_; omega
theorem trimLeft_spec (cs ds rest : B8) (hc1 : 2 ≤ cs.length) (hcs : cs.length < 1073741824) (hr : ∀ c ∈ cs, c.toNat < 128) (hds : ∀ c ∈ ds, inSet (marks zCv cs) c true) (hrs : ∀ c r, rest = c :: r → inSet (marks zCv cs) c false) (hlen : ds.length + rest.length < 1073741824) (h : CHeap) (hu : Under h.ents h.next) (K : KT)
    (hk : ∀ n', h.next ≤ n' → K (.str rest) { h with next := n' }) : Wc tree.getF 32 [.str (ds ++ rest), .str cs] h K := by
 have hD := zAl hu
 have hml := marks_len cs zCv rfl
 have hN : ∀ q, h.next ≤ q → zA4 h.ents q = none := fun q hq => zAx hu hq
 have hcn : (cs == []) = false := by cases cs with | nil => simp at hc1 | cons a l => rfl
 have hcn2 : ¬ cs = [] := by intro e; rw [e] at hc1; simp at hc1
 by_cases he : ds ++ rest = []
 · have he2 : rest = [] := (List.append_eq_nil_iff.1 he).2
   rw [he2] at hk
   rw [he]
   refine Wc.mk' (fn := c32) (by kernel_rfl) rfl ?_
   repeat (first | refine st_ rfl ?_ | ((first | refine rg_ ?_ | refine go_ ?_); refine gw_ (by simp (disch := omega) [c32, hD, hml, hcn, hcn2, hN]; rfl) ?_))
   refine W.ret ?_
   try simp only [zAb, zA0]
   refine endW.intro rfl ?_
   generalize e : zAc .. = r
   simp (disch := omega) [c32, hD, hml, hcn, hcn2, hN] at e
   subst e
   try dsimp only
   refine hk _ ?_; omega
 · have heb : (ds ++ rest == []) = false := by cases hx : ds ++ rest with | nil => exact absurd hx he | cons a l => rfl
   refine Wc.mk' (fn := c32) (by kernel_rfl) rfl ?_
   repeat (first | refine st_ rfl ?_ | ((first | refine rg_ ?_ | refine go_ ?_); refine gw_ (by simp (disch := omega) [c32, he, heb, hD, hml, hcn, hcn2, hN]; rfl) ?_) | (refine makeSet_spec cs hcs hr _ un_ _ fun n1 hn1 => ⟨rfl, ?_⟩; try dsimp only at hn1) | (refine trimA_spec _ _ (marks zCv cs) hml ds rest hds hrs _ (by simp [zA4]) un_ hlen _ fun n2 hn2 => ⟨rfl, ?_⟩; try dsimp only at hn2))
   refine W.ret ?_
   try simp only [zAb, zA0]
   refine endW.intro rfl ?_
   generalize e : zAc .. = r
   simp (disch := omega) [c32, hD, hml, hcn, hcn2, hN] at e
   subst e
   try dsimp only
   refine hk _ ?_; omega
theorem zDb (s p : B8) (v : Bool) (hv : (decide (p.length ≤ s.length) && (s.take p.length == p)) = v) (h : CHeap) (hu : Under h.ents h.next) (K : KT) (hk : ∀ n', h.next ≤ n' → K (.bool v) { h with next := n' }) : Wc tree.getF 93 [.str s, .str p] h K := by
 have hD := zAl hu
 by_cases hl : p.length ≤ s.length
 · have hv2 : (List.take p.length s == p) = v := by simpa [hl] using hv
   have hl2 : (p.length : Int) ≤ s.length := by omega
   refine Wc.mk' (fn := c93) (by kernel_rfl) rfl ?_
   repeat (first | refine st_ rfl ?_ | ((first | refine rg_ ?_ | refine go_ ?_); refine gw_ (by simp (disch := omega) [c93, hD, hl, hl2, hv2]; rfl) ?_))
   refine W.ret ?_
   try simp only [zAb, zA0]
   refine endW.intro rfl ?_
   generalize e : zAc .. = r
   simp (disch := omega) [c93, hD] at e
   subst e
   try dsimp only
   refine hk _ ?_; omega
 · have hv2 : v = false := by simpa [hl] using hv.symm
   have hl2 : ¬ ((p.length : Int) ≤ s.length) := by omega
   subst hv2
   refine Wc.mk' (fn := c93) (by kernel_rfl) rfl ?_
   repeat (first | refine st_ rfl ?_ | ((first | refine rg_ ?_ | refine go_ ?_); refine gw_ (by simp (disch := omega) [c93, hD, hl, hl2]; rfl) ?_))
   refine W.ret ?_
   try simp only [zAb, zA0]
   refine endW.intro rfl ?_
   generalize e : zAc .. = r
   simp (disch := omega) [c93, hD] at e
   subst e
   try dsimp only
   refine hk _ ?_; omega
def isB (v : Bool) : CVal → Bool
 | .bool b => b == v
 | _ => false
theorem isB_eq {v : Bool} {x : CVal} (h : isB v x = true) : x = .bool v := by
 cases x <;> simp [isB] at h
 subst h; rfl
abbrev rdr (s : B8) (e : Int) : CObj := .cells [.str s, .int .i64 e]
abbrev zC3 : B8 := [9, 10, 13, 32]
theorem fails_no (p d : Nat) (e : Int) (h : CHeap) (hu : Under h.ents h.next) (K : KT) (hk : ∀ n', h.next ≤ n' → K (.tup []) { h with next := n' }) : Wc tree.getF 14 [.ptr p d 0, .bool false, .int .i64 e] h K := by
 have hD := zAl hu
 refine Wc.mk' (fn := c14) (by kernel_rfl) rfl ?_
 repeat (first | refine st_ rfl ?_ | ((first | refine rg_ ?_ | refine go_ ?_); refine gw_ (by simp (disch := omega) [c14, hD]; rfl) ?_))
 try refine ⟨by simp [zAb], rfl, ?_⟩
 generalize e : zAc .. = r
 simp (disch := omega) [c14, hD] at e
 subst e
 try dsimp only
 refine hk _ ?_; omega
theorem fails_yes (p d : Nat) (s : B8) (e : Int) (h : CHeap) (hg : zA4 h.ents p = some (rdr s 0)) (hu : Under h.ents h.next) (hp : p < h.next) (K : KT) (hk : ∀ n', h.next ≤ n' → K (.tup []) { h with ents := zA5 h.ents p (rdr s e), next := n' }) : Wc tree.getF 14 [.ptr p d 0, .bool true, .int .i64 e] h K := by
 have hD : ∀ x, zB7 (zA5 h.ents p x) h.next = zA5 h.ents p x := fun x => zAl hu.set
 refine Wc.mk' (fn := c14) (by kernel_rfl) rfl ?_
 repeat (first | refine st_ rfl ?_ | ((first | refine rg_ ?_ | refine go_ ?_); refine gw_ (by simp (disch := omega) [c14, hD, hg]; rfl) ?_))
 try refine ⟨by simp [zAb], rfl, ?_⟩
 generalize e : zAc .. = r
 simp (disch := omega) [c14, hD] at e
 subst e
 try dsimp only
 refine hk _ ?_; omega
theorem fails_again (p d : Nat) (s : B8) (e e2 : Int) (b : Bool) (he : e ≠ 0) (h : CHeap) (hg : zA4 h.ents p = some (rdr s e)) (hu : Under h.ents h.next) (hp : p < h.next) (K : KT) (hk : ∀ n', h.next ≤ n' → K (.tup []) { h with next := n' }) : Wc tree.getF 14 [.ptr p d 0, .bool b, .int .i64 e2] h K := by
 have hD := zAl hu
 cases b with
 | false => exact fails_no p d e2 h hu K hk
 | true =>
  refine Wc.mk' (fn := c14) (by kernel_rfl) rfl ?_
  repeat (first | refine st_ rfl ?_ | ((first | refine rg_ ?_ | refine go_ ?_); refine gw_ (by simp (disch := omega) [c14, hD, hg, he]; rfl) ?_))
  try refine ⟨by simp [zAb], rfl, ?_⟩
  generalize e : zAc .. = r
  simp (disch := omega) [c14, hD] at e
  subst e
  try dsimp only
  refine hk _ ?_; omega
theorem skip_spec (p d : Nat) (sp rest : B8) (e : Int) (hlen : sp.length + rest.length < 100000) (hsp : ∀ c ∈ sp, inSet (marks zCv zC3) c true) (hrs : ∀ c r, rest = c :: r → inSet (marks zCv zC3) c false)
    (h : CHeap) (hg : zA4 h.ents p = some (rdr (sp ++ rest) e)) (hu : Under h.ents h.next) (hp : p < h.next) (K : KT)
    (hk : ∀ n', h.next ≤ n' → K (.tup []) { h with ents := zA5 h.ents p (rdr rest e), next := n' }) : Wc tree.getF 13 [.ptr p d 0] h K := by
 have hD : ∀ x, zB7 (zA5 h.ents p x) h.next = zA5 h.ents p x := fun x => zAl hu.set
 refine Wc.mk' (fn := c13) (by kernel_rfl) rfl ?_
 repeat (first | refine st_ rfl ?_ | ((first | refine rg_ ?_ | refine go_ ?_); refine gw_ (by simp (disch := omega) [c13, hD, hg]; rfl) ?_) | (refine trimLeft_spec zC3 sp rest (by decide) (by decide) (by decide) hsp hrs (by omega) _ un_ _ fun n1 hn1 => ⟨rfl, ?_⟩; try dsimp only at hn1) | (refine ⟨by simp (disch := omega) [stepR, zAz, zBc, zBd, evalP, evalL, zAn, nth, zC1, COp.cls, COp.isStore, CVal.isUndef, CVal.whole, CVal.cells, CHeap.put, CHeap.get, CHeap.set, zBt, zA4, zA5, partOf, zBh, evalBin, evalInt, evalStr, zBa, initVar, descOf, List.take, List.drop, CVal.lenOf, CVal.isStr, CVal.bare, CVal.strip, CVal.flat, zAc, zBj, zBg, zDk, cut, zDc, setCells, szOf, szOf_desc, elems, bytesOf, zEm, zCb, zBb, List.replicate, sy_nbeq, sy_neqF, sy_leT, sy_leF, zAm, dropped, sy_wrap64, zB7, zAe, zB4, callAt, callAtG, zD4, sy_ieqF, sy_ileT, sy_ileF, sy_iltT, sy_iltF, sy_ltT, sy_ltF, evalSlc, zCe, eqVal, zE7, swapOne, sameAt, nthOp, CVal.beq, CVal.block, storesTo, hD, hg], ?_⟩))
 generalize e : zAc .. = r
 simp (disch := omega) [c13, hD, hg] at e
 subst e
 try dsimp only
 refine hk _ ?_; omega
theorem cut0_spec (s p : B8) (v : Bool) (hs : s.length < 100000) (hv : (decide (p.length ≤ s.length) && (s.take p.length == p)) = v) (h : CHeap) (hu : Under h.ents h.next) (K : KT) (hk : ∀ n', h.next ≤ n' → K (.tup [.str (if v then s.drop p.length else s), .bool v]) { h with next := n' }) : Wc tree.getF 73 [.str s, .str p] h K := by
 have hD := zAl hu
 have hpl : v = true → p.length ≤ s.length := fun e => by rw [e] at hv; simp at hv; exact hv.1
 have hta : List.take s.length s = s := List.take_length
 cases v with
 | true =>
  have hp2 := hpl rfl
  refine Wc.mk' (fn := c73) (by kernel_rfl) rfl ?_
  repeat (first | refine st_ rfl ?_ | ((first | refine rg_ ?_ | refine go_ ?_); refine gw_ (by simp (disch := omega) [c73, hD, hp2, hta]; rfl) ?_) | (refine zDb s p true hv _ un_ _ fun n1 hn1 => ⟨rfl, ?_⟩; try dsimp only at hn1))
  refine W.ret ?_
  try simp only [zAb, zA0]
  refine endW.intro rfl ?_
  generalize e : zAc .. = r
  simp (disch := omega) [c73, hD, hp2, hta] at e
  subst e
  try dsimp only
  refine hk _ ?_; omega
 | false =>
  refine Wc.mk' (fn := c73) (by kernel_rfl) rfl ?_
  repeat (first | refine st_ rfl ?_ | ((first | refine rg_ ?_ | refine go_ ?_); refine gw_ (by simp (disch := omega) [c73, hD, hta]; rfl) ?_) | (refine zDb s p false hv _ un_ _ fun n1 hn1 => ⟨rfl, ?_⟩; try dsimp only at hn1))
  refine W.ret ?_
  try simp only [zAb, zA0]
  refine endW.intro rfl ?_
  generalize e : zAc .. = r
  simp (disch := omega) [c73, hD, hta] at e
  subst e
  try dsimp only
  refine hk _ ?_; omega
theorem cut_spec (s p : B8) (v : Bool) (hs : s.length < 100000) (hv : (decide (p.length ≤ s.length) && (s.take p.length == p)) = v) (h : CHeap) (hu : Under h.ents h.next) (K : KT) (hk : ∀ n', h.next ≤ n' → K (.tup [.str (if v then s.drop p.length else s), .bool v]) { h with next := n' }) : Wc tree.getF 52 [.str s, .str p] h K := by
 have hD := zAl hu
 have hpl : v = true → p.length ≤ s.length := fun e => by rw [e] at hv; simp at hv; exact hv.1
 have hta : List.take s.length s = s := List.take_length
 cases v with
 | true =>
  have hp2 := hpl rfl
  refine Wc.mk' (fn := c52) (by kernel_rfl) rfl ?_
  repeat (first | refine st_ rfl ?_ | ((first | refine rg_ ?_ | refine go_ ?_); refine gw_ (by simp (disch := omega) [c52, hD, hp2, hta]; rfl) ?_) | (refine cut0_spec s p true hs hv _ un_ _ fun n1 hn1 => ⟨rfl, ?_⟩; try dsimp only at hn1))
  refine W.ret ?_
  try simp only [zAb, zA0]
  refine endW.intro rfl ?_
  generalize e : zAc .. = r
  simp (disch := omega) [c52, hD, hp2, hta] at e
  subst e
  try dsimp only
  refine hk _ ?_; omega
 | false =>
  refine Wc.mk' (fn := c52) (by kernel_rfl) rfl ?_
  repeat (first | refine st_ rfl ?_ | ((first | refine rg_ ?_ | refine go_ ?_); refine gw_ (by simp (disch := omega) [c52, hD, hta]; rfl) ?_) | (refine cut0_spec s p false hs hv _ un_ _ fun n1 hn1 => ⟨rfl, ?_⟩; try dsimp only at hn1))
  refine W.ret ?_
  try simp only [zAb, zA0]
  refine endW.intro rfl ?_
  generalize e : zAc .. = r
  simp (disch := omega) [c52, hD, hta] at e
  subst e
  try dsimp only
  refine hk _ ?_; omega
theorem trim0_spec (s p : B8) (v : Bool) (hs : s.length < 100000) (hv : (decide (p.length ≤ s.length) && (s.take p.length == p)) = v) (h : CHeap) (hu : Under h.ents h.next) (K : KT) (hk : ∀ n', h.next ≤ n' → K (.str (if v then s.drop p.length else s)) { h with next := n' }) : Wc tree.getF 74 [.str s, .str p] h K := by
 have hD := zAl hu
 have hpl : v = true → p.length ≤ s.length := fun e => by rw [e] at hv; simp at hv; exact hv.1
 have hta : List.take s.length s = s := List.take_length
 cases v with
 | true =>
  have hp2 := hpl rfl
  refine Wc.mk' (fn := c74) (by kernel_rfl) rfl ?_
  repeat (first | refine st_ rfl ?_ | ((first | refine rg_ ?_ | refine go_ ?_); refine gw_ (by simp (disch := omega) [c74, hD, hp2, hta]; rfl) ?_) | (refine zDb s p true hv _ un_ _ fun n1 hn1 => ⟨rfl, ?_⟩; try dsimp only at hn1))
  refine W.ret ?_
  try simp only [zAb, zA0]
  refine endW.intro rfl ?_
  generalize e : zAc .. = r
  simp (disch := omega) [c74, hD, hp2, hta] at e
  subst e
  try dsimp only
  refine hk _ ?_; omega
 | false =>
  refine Wc.mk' (fn := c74) (by kernel_rfl) rfl ?_
  repeat (first | refine st_ rfl ?_ | ((first | refine rg_ ?_ | refine go_ ?_); refine gw_ (by simp (disch := omega) [c74, hD, hta]; rfl) ?_) | (refine zDb s p false hv _ un_ _ fun n1 hn1 => ⟨rfl, ?_⟩; try dsimp only at hn1))
  refine W.ret ?_
  try simp only [zAb, zA0]
  refine endW.intro rfl ?_
  generalize e : zAc .. = r
  simp (disch := omega) [c74, hD, hta] at e
  subst e
  try dsimp only
  refine hk _ ?_; omega
theorem trim_spec (s p : B8) (v : Bool) (hs : s.length < 100000) (hv : (decide (p.length ≤ s.length) && (s.take p.length == p)) = v) (h : CHeap) (hu : Under h.ents h.next) (K : KT) (hk : ∀ n', h.next ≤ n' → K (.str (if v then s.drop p.length else s)) { h with next := n' }) : Wc tree.getF 53 [.str s, .str p] h K := by
 have hD := zAl hu
 have hpl : v = true → p.length ≤ s.length := fun e => by rw [e] at hv; simp at hv; exact hv.1
 have hta : List.take s.length s = s := List.take_length
 cases v with
 | true =>
  have hp2 := hpl rfl
  refine Wc.mk' (fn := c53) (by kernel_rfl) rfl ?_
  repeat (first | refine st_ rfl ?_ | ((first | refine rg_ ?_ | refine go_ ?_); refine gw_ (by simp (disch := omega) [c53, hD, hp2, hta]; rfl) ?_) | (refine trim0_spec s p true hs hv _ un_ _ fun n1 hn1 => ⟨rfl, ?_⟩; try dsimp only at hn1))
  refine W.ret ?_
  try simp only [zAb, zA0]
  refine endW.intro rfl ?_
  generalize e : zAc .. = r
  simp (disch := omega) [c53, hD, hp2, hta] at e
  subst e
  try dsimp only
  refine hk _ ?_; omega
 | false =>
  refine Wc.mk' (fn := c53) (by kernel_rfl) rfl ?_
  repeat (first | refine st_ rfl ?_ | ((first | refine rg_ ?_ | refine go_ ?_); refine gw_ (by simp (disch := omega) [c53, hD, hta]; rfl) ?_) | (refine trim0_spec s p false hs hv _ un_ _ fun n1 hn1 => ⟨rfl, ?_⟩; try dsimp only at hn1))
  refine W.ret ?_
  try simp only [zAb, zA0]
  refine endW.intro rfl ?_
  generalize e : zAc .. = r
  simp (disch := omega) [c53, hD, hta] at e
  subst e
  try dsimp only
  refine hk _ ?_; omega
theorem zAw {x : Int} (h : -9223372036854775808 ≤ x) (h2 : x < 9223372036854775808) : IntKind.i64.wrap x = x := by
 simp [IntKind.wrap, IntKind.bits, IntKind.signed]; omega
theorem wGB1 {P : Prop} (h : P := by refine Wc.mkG 90 c90 (by kernel_rfl) rfl ?_; generalize e : zAa .. = r; simp (disch := omega) [c90] at e; subst e; repeat (first | refine st_ rfl ?_ | ((first | refine rg_ ?_ | refine go_ ?_); refine gw_ (by simp (disch := omega) [hX, fl, ol, f6, a6, o6, f0, a0, o0, zA1, zA2, zAv, zB2, c106, c90]; rfl) ?_) | (refine W.loop ?_; try (generalize e : dropped .. = r; simp (disch := omega) [hX, fl, ol, f6, a6, o6, f0, a0, o0, zA1, zA2, zAv, zB2, c106, c90] at e; subst e; try dsimp only)) | (refine Wc.mkG 106 c106 (by kernel_rfl) rfl ?_; generalize e : zAa .. = r; simp (disch := omega) [hX, fl, ol, f6, a6, o6, f0, a0, o0, zA1, zA2, zAv, zB2, c106, c90] at e; subst e) | ((first | (refine W.ret ?_; (try simp only [zAb, zA0, zA8]); refine endW.of (.inl rfl) rfl ?_) | refine endW.of (.inr rfl) rfl ?_); generalize e : zAc .. = r; simp (disch := omega) [hX, fl, ol, f6, a6, o6, f0, a0, o0, zA1, zA2, zAv, zB2, c106, c90] at e; subst e; (first | refine ⟨rfl, ?_⟩ | ((try simp only [hres] at hk); refine hk _ ?_; omega))))) : P := h
theorem wGB2 {P : Prop} (h : P := by refine Wc.mkG 90 c90 (by kernel_rfl) rfl ?_; generalize e : zAa .. = r; simp (disch := omega) [c90] at e; subst e; repeat (first | refine st_ rfl ?_ | ((first | refine rg_ ?_ | refine go_ ?_); refine gw_ (by simp (disch := omega) [hX, c90]; rfl) ?_) | (refine W.loop ?_; try (generalize e : dropped .. = r; simp (disch := omega) [hX, c90] at e; subst e; try dsimp only)) | (refine put_3b 65533 (by decide) (by decide) _ ?_ _ fun n1 hn1 => ⟨rfl, ?_⟩; exact fit_; (try dsimp only at hn1)) | ((first | (refine W.ret ?_; (try simp only [zAb, zA0, zA8]); refine endW.of (.inl rfl) rfl ?_) | refine endW.of (.inr rfl) rfl ?_); generalize e : zAc .. = r; simp (disch := omega) [hX, c90] at e; subst e; (refine hk _ ?_; omega)))) : P := h
theorem wGB3 {P : Prop} (h : P := by refine Wc.mkG 69 c69 (by kernel_rfl) rfl ?_; generalize e : zAa .. = r; simp (disch := omega) [c69] at e; subst e; repeat (first | refine st_ rfl ?_ | ((first | refine rg_ ?_ | refine go_ ?_); refine gw_ (by simp (disch := omega) [hX, g5, am, i1_0, i1_1, ab1, o1, hcmp, zA1, zA2, zAv, zB2, c69]; rfl) ?_) | (refine W.loop ?_; try (generalize e : dropped .. = r; simp (disch := omega) [hX, g5, am, i1_0, i1_1, ab1, o1, hcmp, zA1, zA2, zAv, zB2, c69] at e; subst e; try dsimp only)) | (refine put_F x1 (by omega) _ ?_ _ fun n1 hn1 => ⟨rfl, ?_⟩; exact fit_; (try dsimp only at hn1)) | ((first | (refine W.ret ?_; (try simp only [zAb, zA0, zA8]); refine endW.of (.inl rfl) rfl ?_) | refine endW.of (.inr rfl) rfl ?_); generalize e : zAc .. = r; simp (disch := omega) [hX, g5, am, i1_0, i1_1, ab1, o1, hcmp, zA1, zA2, zAv, zB2, c69] at e; subst e; (refine hk _ ?_; omega)))) : P := h
theorem wGB4 {P : Prop} (h : P := by refine Wc.mkG 69 c69 (by kernel_rfl) rfl ?_; generalize e : zAa .. = r; simp (disch := omega) [c69] at e; subst e; repeat (first | refine st_ rfl ?_ | ((first | refine rg_ ?_ | refine go_ ?_); refine gw_ (by simp (disch := omega) [hX, g5, e5, g4, am, zA1, zA2, zAv, zB2, c69]; rfl) ?_) | (refine W.loop ?_; try (generalize e : dropped .. = r; simp (disch := omega) [hX, g5, e5, g4, am, zA1, zA2, zAv, zB2, c69] at e; subst e; try dsimp only)) | ((first | (refine W.ret ?_; (try simp only [zAb, zA0, zA8]); refine endW.of (.inl rfl) rfl ?_) | refine endW.of (.inr rfl) rfl ?_); generalize e : zAc .. = r; simp (disch := omega) [hX, g5, e5, g4, am, zA1, zA2, zAv, zB2, c69] at e; subst e; (refine hk _ ?_; omega)))) : P := h
theorem wGB5 {P : Prop} (h : P := by refine Wc.mkG 69 c69 (by kernel_rfl) rfl ?_; generalize e : zAa .. = r; simp (disch := omega) [c69] at e; subst e; repeat (first | refine st_ rfl ?_ | ((first | refine rg_ ?_ | refine go_ ?_); refine gw_ (by simp (disch := omega) [hX, g5, e5, g4, am, i1_0, i1_1, ab1, o1, i2_0, i2_1, i2_2, ab2, o2, hcmp, zA1, zA2, zAv, zB2, c69]; rfl) ?_) | (refine W.loop ?_; try (generalize e : dropped .. = r; simp (disch := omega) [hX, g5, e5, g4, am, i1_0, i1_1, ab1, o1, i2_0, i2_1, i2_2, ab2, o2, hcmp, zA1, zA2, zAv, zB2, c69] at e; subst e; try dsimp only)) | (refine put_F x2 (by omega) _ ?_ _ fun n1 hn1 => ⟨rfl, ?_⟩; exact fit_; (try dsimp only at hn1)) | ((first | (refine W.ret ?_; (try simp only [zAb, zA0, zA8]); refine endW.of (.inl rfl) rfl ?_) | refine endW.of (.inr rfl) rfl ?_); generalize e : zAc .. = r; simp (disch := omega) [hX, g5, e5, g4, am, i1_0, i1_1, ab1, o1, i2_0, i2_1, i2_2, ab2, o2, hcmp, zA1, zA2, zAv, zB2, c69] at e; subst e; (refine hk _ ?_; omega)))) : P := h
theorem wGB6 {P : Prop} (h : P := by refine Wc.mkG 69 c69 (by kernel_rfl) rfl ?_; generalize e : zAa .. = r; simp (disch := omega) [c69] at e; subst e; repeat (first | refine st_ rfl ?_ | ((first | refine rg_ ?_ | refine go_ ?_); refine gw_ (by simp (disch := omega) [hX, g5, e5, g4, e4, g3, am, zA1, zA2, zAv, zB2, c69]; rfl) ?_) | (refine W.loop ?_; try (generalize e : dropped .. = r; simp (disch := omega) [hX, g5, e5, g4, e4, g3, am, zA1, zA2, zAv, zB2, c69] at e; subst e; try dsimp only)) | ((first | (refine W.ret ?_; (try simp only [zAb, zA0, zA8]); refine endW.of (.inl rfl) rfl ?_) | refine endW.of (.inr rfl) rfl ?_); generalize e : zAc .. = r; simp (disch := omega) [hX, g5, e5, g4, e4, g3, am, zA1, zA2, zAv, zB2, c69] at e; subst e; (refine hk _ ?_; omega)))) : P := h
theorem wGB7 {P : Prop} (h : P := by refine Wc.mkG 69 c69 (by kernel_rfl) rfl ?_; generalize e : zAa .. = r; simp (disch := omega) [c69] at e; subst e; repeat (first | refine st_ rfl ?_ | ((first | refine rg_ ?_ | refine go_ ?_); refine gw_ (by simp (disch := omega) [hX, g5, e5, g4, e4, g3, am, i1_0, i1_1, ab1, o1, i2_0, i2_1, i2_2, ab2, o2, i3_0, i3_1, i3_2, i3_3, ab3, o3, hcmp, zA1, zA2, zAv, zB2, c69]; rfl) ?_) | (refine W.loop ?_; try (generalize e : dropped .. = r; simp (disch := omega) [hX, g5, e5, g4, e4, g3, am, i1_0, i1_1, ab1, o1, i2_0, i2_1, i2_2, ab2, o2, i3_0, i3_1, i3_2, i3_3, ab3, o3, hcmp, zA1, zA2, zAv, zB2, c69] at e; subst e; try dsimp only)) | (refine put_F x3 (by omega) _ ?_ _ fun n1 hn1 => ⟨rfl, ?_⟩; exact fit_; (try dsimp only at hn1)) | ((first | (refine W.ret ?_; (try simp only [zAb, zA0, zA8]); refine endW.of (.inl rfl) rfl ?_) | refine endW.of (.inr rfl) rfl ?_); generalize e : zAc .. = r; simp (disch := omega) [hX, g5, e5, g4, e4, g3, am, i1_0, i1_1, ab1, o1, i2_0, i2_1, i2_2, ab2, o2, i3_0, i3_1, i3_2, i3_3, ab3, o3, hcmp, zA1, zA2, zAv, zB2, c69] at e; subst e; (refine hk _ ?_; omega)))) : P := h
def Pe (f : Nat) (args : List CVal) (v : CVal) : Prop := ∀ (h : CHeap), Fit h → ∀ (K : KT), (∀ n', h.next ≤ n' → K v ⟨h.ents, n', h.tys⟩) → Wc tree.getF f args h K
theorem bits_u32 {a b : Nat} (ha : a < 4294967296) (hb : b < 4294967296) : zAd .and .u32 (a : Int) (b : Int) = some (.int .u32 ((a &&& b : Nat) : Int)) ∧ zAd .or .u32 (a : Int) (b : Int) = some (.int .u32 ((a ||| b : Nat) : Int)) := by
 have e1 : (BitVec.ofInt 32 (a : Int)).toNat = a := by rw [BitVec.ofInt_natCast, BitVec.toNat_ofNat]; exact Nat.mod_eq_of_lt ha
 have e2 : (BitVec.ofInt 32 (b : Int)).toNat = b := by rw [BitVec.ofInt_natCast, BitVec.toNat_ofNat]; exact Nat.mod_eq_of_lt hb
 have h1 : a &&& b < 4294967296 := Nat.lt_of_le_of_lt Nat.and_le_left ha
 have h2 : a ||| b < 2 ^ 32 := Nat.or_lt_two_pow ha hb
 have w : ∀ x : Nat, x < 4294967296 → IntKind.u32.wrap (x : Int) = x := fun x hx => by simp [IntKind.wrap, IntKind.bits, IntKind.signed]; omega
 constructor
 · show some (CVal.int .u32 (IntKind.u32.wrap ((BitVec.ofInt 32 (a : Int) &&& BitVec.ofInt 32 (b : Int)).toNat))) = _
   rw [BitVec.toNat_and, e1, e2, w _ h1]
 · show some (CVal.int .u32 (IntKind.u32.wrap ((BitVec.ofInt 32 (a : Int) ||| BitVec.ofInt 32 (b : Int)).toNat))) = _
   rw [BitVec.toNat_or, e1, e2, w _ h2]
theorem and_u8 {a b : Nat} (ha : a < 256) (hb : b < 256) : zAd .and .u8 (a : Int) (b : Int) = some (.int .u8 ((a &&& b : Nat) : Int)) := by
 have e1 : (BitVec.ofInt 8 (a : Int)).toNat = a := by rw [BitVec.ofInt_natCast, BitVec.toNat_ofNat]; exact Nat.mod_eq_of_lt ha
 have e2 : (BitVec.ofInt 8 (b : Int)).toNat = b := by rw [BitVec.ofInt_natCast, BitVec.toNat_ofNat]; exact Nat.mod_eq_of_lt hb
 have h1 : a &&& b < 256 := Nat.lt_of_le_of_lt Nat.and_le_left ha
 show some (CVal.int .u8 (IntKind.u8.wrap ((BitVec.ofInt 8 (a : Int) &&& BitVec.ofInt 8 (b : Int)).toNat))) = _
 rw [BitVec.toNat_and, e1, e2]
 simp [IntKind.wrap, IntKind.bits, IntKind.signed]
 try omega
theorem zA1 {x : Int} (h : 0 ≤ x) (h2 : x < 4294967296) : IntKind.u32.wrap x = x := by
 simp [IntKind.wrap, IntKind.bits, IntKind.signed] <;> omega
theorem and63 {x y : Nat} (hx : x < 4294967296) (hy : x % 64 = y) : zAd .and .u32 (x : Int) 63 = some (.int .u32 (y : Int)) := by
 rw [show (63 : Int) = ((63 : Nat) : Int) from rfl, (bits_u32 hx (by decide)).1, show (63 : Nat) = 2 ^ 6 - 1 from rfl, Nat.and_two_pow_sub_one_eq_mod]
 rw [← hy]
theorem and8 {x y : Nat} (k : Nat) (m : Int) (hm : m = ((2 ^ k - 1 : Nat) : Int)) (hk : 2 ^ k - 1 < 256) (hx : x < 256) (hy : x % 2 ^ k = y) : zAd .and .u8 (x : Int) m = some (.int .u8 (y : Int)) := by
 rw [hm, and_u8 hx hk, Nat.and_two_pow_sub_one_eq_mod, hy]
theorem or32 {c s v w : Nat} (m : Int) (hm : m = ((c * 2 ^ s : Nat) : Int)) (hv : v < 2 ^ s) (hc : c * 2 ^ s < 4294967296) (hs : 2 ^ s ≤ 4294967296) (hw : c * 2 ^ s + v = w) : zAd .or .u32 m (v : Int) = some (.int .u32 (w : Int)) := by
 rw [hm, (bits_u32 hc (by omega)).2, Nat.or_comm, or_low hv, Nat.add_comm, hw]
theorem zAv : IntKind.u32.bits = 32 := rfl
theorem zB2 : IntKind.u8.bits = 8 := rfl
theorem zAk {x k y : Nat} (h : x / k = y) : Int.fdiv (x : Int) (k : Int) = (y : Int) := by
 rw [Int.fdiv_eq_ediv_of_nonneg _ (by omega), ← h]; rfl
def putB (x : Nat) : B8 :=
 if x < 128 then [UInt8.ofNat x] else if x < 2048 then [UInt8.ofNat (192 + x / 64), UInt8.ofNat (128 + x % 64)]
 else if 55296 ≤ x ∧ x < 57344 ∨ 1114111 < x then [239, 191, 189]
 else if x < 65536 then [UInt8.ofNat (224 + x / 4096), UInt8.ofNat (128 + x / 64 % 64), UInt8.ofNat (128 + x % 64)]
 else [UInt8.ofNat (240 + x / 262144), UInt8.ofNat (128 + x / 4096 % 64), UInt8.ofNat (128 + x / 64 % 64), UInt8.ofNat (128 + x % 64)]
theorem put_1 (x : Nat) (hx : x < 128) : Pe 90 [.int .u32 (x : Int)] (.str [UInt8.ofNat x]) := by
 intro h hf K hk
 obtain ⟨hu, hut, hX⟩ := fx4 hf
 refine Wc.mkG 90 c90 (by kernel_rfl) rfl ?_
 generalize e : zAa .. = r
 simp (disch := omega) [c90] at e
 subst e
 repeat (first | refine st_ rfl ?_ | ((first | refine rg_ ?_ | refine go_ ?_); refine gw_ (by simp (disch := omega) [hX, zA1, zA2, c106, c90]; rfl) ?_) | (refine W.loop ?_; try (generalize e : dropped .. = r; simp (disch := omega) [hX, zA1, zA2, c106, c90] at e; subst e; try dsimp only)) | (refine Wc.mkG 106 c106 (by kernel_rfl) rfl ?_; generalize e : zAa .. = r; simp (disch := omega) [hX, zA1, zA2, c106, c90] at e; subst e) | ((first | (refine W.ret ?_; (try simp only [zAb, zA0, zA8]); refine endW.of (.inl rfl) rfl ?_) | refine endW.of (.inr rfl) rfl ?_); generalize e : zAc .. = r; simp (disch := omega) [hX, zA1, zA2, c106, c90] at e; subst e; (first | refine ⟨rfl, ?_⟩ | (refine hk _ ?_; omega))))
set_option maxHeartbeats 2000000 in
theorem put_2 (x : Nat) (hx : 128 ≤ x) (hx2 : x < 2048) : Pe 90 [.int .u32 (x : Int)] (.str [UInt8.ofNat (192 + x / 64), UInt8.ofNat (128 + x % 64)]) := by
 intro h hf K hk
 obtain ⟨hu, hut, hX⟩ := fx4 hf
 obtain ⟨yl, hyl⟩ : ∃ q : Nat, x / 64 = q := ⟨_, rfl⟩
 have fl : Int.fdiv (x : Int) 64 = (yl : Int) := zAk hyl
 obtain ⟨wl, hwl⟩ : ∃ q : Nat, 192 + yl = q := ⟨_, rfl⟩
 have ol : zAd .or .u32 192 (yl : Int) = some (.int .u32 (wl : Int)) := or32 (c := 3) (s := 6) 192 rfl (by omega) (by decide) (by decide) hwl
 have f0 : Int.fdiv (x : Int) 1 = (x : Int) := zAk (k := 1) (Nat.div_one x)
 obtain ⟨z0, hz0⟩ : ∃ q : Nat, x % 64 = q := ⟨_, rfl⟩
 have a0 : zAd .and .u32 (x : Int) 63 = some (.int .u32 (z0 : Int)) := and63 (by omega) hz0
 obtain ⟨w0, hw0⟩ : ∃ q : Nat, 128 + z0 = q := ⟨_, rfl⟩
 have o0 : zAd .or .u32 128 (z0 : Int) = some (.int .u32 (w0 : Int)) := or32 (c := 2) (s := 6) 128 rfl (by omega) (by decide) (by decide) hw0
 have hres : [UInt8.ofNat (192 + x / 64), UInt8.ofNat (128 + x % 64)] = [UInt8.ofNat wl, UInt8.ofNat w0] := by rw [← hwl, ← hyl, ← hw0, ← hz0]
 refine Wc.mkG 90 c90 (by kernel_rfl) rfl ?_
 generalize e : zAa .. = r
 simp (disch := omega) [c90] at e
 subst e
 repeat (first | refine st_ rfl ?_ | ((first | refine rg_ ?_ | refine go_ ?_); refine gw_ (by simp (disch := omega) [hX, fl, ol, f0, a0, o0, zA1, zA2, zAv, zB2, c106, c90]; rfl) ?_) | (refine W.loop ?_; try (generalize e : dropped .. = r; simp (disch := omega) [hX, fl, ol, f0, a0, o0, zA1, zA2, zAv, zB2, c106, c90] at e; subst e; try dsimp only)) | (refine Wc.mkG 106 c106 (by kernel_rfl) rfl ?_; generalize e : zAa .. = r; simp (disch := omega) [hX, fl, ol, f0, a0, o0, zA1, zA2, zAv, zB2, c106, c90] at e; subst e) | ((first | (refine W.ret ?_; (try simp only [zAb, zA0, zA8]); refine endW.of (.inl rfl) rfl ?_) | refine endW.of (.inr rfl) rfl ?_); generalize e : zAc .. = r; simp (disch := omega) [hX, fl, ol, f0, a0, o0, zA1, zA2, zAv, zB2, c106, c90] at e; subst e; (first | refine ⟨rfl, ?_⟩ | ((try simp only [hres] at hk); refine hk _ ?_; omega))))
set_option maxHeartbeats 2000000 in
theorem put_3a (x : Nat) (hx : 2048 ≤ x) (hx2 : x < 55296) : Pe 90 [.int .u32 (x : Int)] (.str [UInt8.ofNat (224 + x / 4096), UInt8.ofNat (128 + x / 64 % 64), UInt8.ofNat (128 + x % 64)]) := by
 intro h hf K hk
 obtain ⟨hu, hut, hX⟩ := fx4 hf
 obtain ⟨yl, hyl⟩ : ∃ q : Nat, x / 4096 = q := ⟨_, rfl⟩
 have fl : Int.fdiv (x : Int) 4096 = (yl : Int) := zAk hyl
 obtain ⟨wl, hwl⟩ : ∃ q : Nat, 224 + yl = q := ⟨_, rfl⟩
 have ol : zAd .or .u32 224 (yl : Int) = some (.int .u32 (wl : Int)) := or32 (c := 7) (s := 5) 224 rfl (by omega) (by decide) (by decide) hwl
 obtain ⟨y6, hy6⟩ : ∃ q : Nat, x / 64 = q := ⟨_, rfl⟩
 have f6 : Int.fdiv (x : Int) 64 = (y6 : Int) := zAk hy6
 obtain ⟨z6, hz6⟩ : ∃ q : Nat, y6 % 64 = q := ⟨_, rfl⟩
 have a6 : zAd .and .u32 (y6 : Int) 63 = some (.int .u32 (z6 : Int)) := and63 (by omega) hz6
 obtain ⟨w6, hw6⟩ : ∃ q : Nat, 128 + z6 = q := ⟨_, rfl⟩
 have o6 : zAd .or .u32 128 (z6 : Int) = some (.int .u32 (w6 : Int)) := or32 (c := 2) (s := 6) 128 rfl (by omega) (by decide) (by decide) hw6
 have f0 : Int.fdiv (x : Int) 1 = (x : Int) := zAk (k := 1) (Nat.div_one x)
 obtain ⟨z0, hz0⟩ : ∃ q : Nat, x % 64 = q := ⟨_, rfl⟩
 have a0 : zAd .and .u32 (x : Int) 63 = some (.int .u32 (z0 : Int)) := and63 (by omega) hz0
 obtain ⟨w0, hw0⟩ : ∃ q : Nat, 128 + z0 = q := ⟨_, rfl⟩
 have o0 : zAd .or .u32 128 (z0 : Int) = some (.int .u32 (w0 : Int)) := or32 (c := 2) (s := 6) 128 rfl (by omega) (by decide) (by decide) hw0
 have hres : [UInt8.ofNat (224 + x / 4096), UInt8.ofNat (128 + x / 64 % 64), UInt8.ofNat (128 + x % 64)] = [UInt8.ofNat wl, UInt8.ofNat w6, UInt8.ofNat w0] := by rw [← hwl, ← hyl, ← hw6, ← hz6, ← hy6, ← hw0, ← hz0]
 exact wGB1
set_option maxHeartbeats 2000000 in
theorem put_3b (x : Nat) (hx : 57344 ≤ x) (hx2 : x < 65536) : Pe 90 [.int .u32 (x : Int)] (.str [UInt8.ofNat (224 + x / 4096), UInt8.ofNat (128 + x / 64 % 64), UInt8.ofNat (128 + x % 64)]) := by
 intro h hf K hk
 obtain ⟨hu, hut, hX⟩ := fx4 hf
 obtain ⟨yl, hyl⟩ : ∃ q : Nat, x / 4096 = q := ⟨_, rfl⟩
 have fl : Int.fdiv (x : Int) 4096 = (yl : Int) := zAk hyl
 obtain ⟨wl, hwl⟩ : ∃ q : Nat, 224 + yl = q := ⟨_, rfl⟩
 have ol : zAd .or .u32 224 (yl : Int) = some (.int .u32 (wl : Int)) := or32 (c := 7) (s := 5) 224 rfl (by omega) (by decide) (by decide) hwl
 obtain ⟨y6, hy6⟩ : ∃ q : Nat, x / 64 = q := ⟨_, rfl⟩
 have f6 : Int.fdiv (x : Int) 64 = (y6 : Int) := zAk hy6
 obtain ⟨z6, hz6⟩ : ∃ q : Nat, y6 % 64 = q := ⟨_, rfl⟩
 have a6 : zAd .and .u32 (y6 : Int) 63 = some (.int .u32 (z6 : Int)) := and63 (by omega) hz6
 obtain ⟨w6, hw6⟩ : ∃ q : Nat, 128 + z6 = q := ⟨_, rfl⟩
 have o6 : zAd .or .u32 128 (z6 : Int) = some (.int .u32 (w6 : Int)) := or32 (c := 2) (s := 6) 128 rfl (by omega) (by decide) (by decide) hw6
 have f0 : Int.fdiv (x : Int) 1 = (x : Int) := zAk (k := 1) (Nat.div_one x)
 obtain ⟨z0, hz0⟩ : ∃ q : Nat, x % 64 = q := ⟨_, rfl⟩
 have a0 : zAd .and .u32 (x : Int) 63 = some (.int .u32 (z0 : Int)) := and63 (by omega) hz0
 obtain ⟨w0, hw0⟩ : ∃ q : Nat, 128 + z0 = q := ⟨_, rfl⟩
 have o0 : zAd .or .u32 128 (z0 : Int) = some (.int .u32 (w0 : Int)) := or32 (c := 2) (s := 6) 128 rfl (by omega) (by decide) (by decide) hw0
 have hres : [UInt8.ofNat (224 + x / 4096), UInt8.ofNat (128 + x / 64 % 64), UInt8.ofNat (128 + x % 64)] = [UInt8.ofNat wl, UInt8.ofNat w6, UInt8.ofNat w0] := by rw [← hwl, ← hyl, ← hw6, ← hz6, ← hy6, ← hw0, ← hz0]
 exact wGB1
set_option maxHeartbeats 2000000 in
theorem put_4 (x : Nat) (hx : 65536 ≤ x) (hx2 : x ≤ 1114111) : Pe 90 [.int .u32 (x : Int)] (.str [UInt8.ofNat (240 + x / 262144), UInt8.ofNat (128 + x / 4096 % 64), UInt8.ofNat (128 + x / 64 % 64), UInt8.ofNat (128 + x % 64)]) := by
 intro h hf K hk
 obtain ⟨hu, hut, hX⟩ := fx4 hf
 obtain ⟨yl, hyl⟩ : ∃ q : Nat, x / 262144 = q := ⟨_, rfl⟩
 have fl : Int.fdiv (x : Int) 262144 = (yl : Int) := zAk hyl
 obtain ⟨wl, hwl⟩ : ∃ q : Nat, 240 + yl = q := ⟨_, rfl⟩
 have ol : zAd .or .u32 240 (yl : Int) = some (.int .u32 (wl : Int)) := or32 (c := 15) (s := 4) 240 rfl (by omega) (by decide) (by decide) hwl
 obtain ⟨y12, hy12⟩ : ∃ q : Nat, x / 4096 = q := ⟨_, rfl⟩
 have f12 : Int.fdiv (x : Int) 4096 = (y12 : Int) := zAk hy12
 obtain ⟨z12, hz12⟩ : ∃ q : Nat, y12 % 64 = q := ⟨_, rfl⟩
 have a12 : zAd .and .u32 (y12 : Int) 63 = some (.int .u32 (z12 : Int)) := and63 (by omega) hz12
 obtain ⟨w12, hw12⟩ : ∃ q : Nat, 128 + z12 = q := ⟨_, rfl⟩
 have o12 : zAd .or .u32 128 (z12 : Int) = some (.int .u32 (w12 : Int)) := or32 (c := 2) (s := 6) 128 rfl (by omega) (by decide) (by decide) hw12
 obtain ⟨y6, hy6⟩ : ∃ q : Nat, x / 64 = q := ⟨_, rfl⟩
 have f6 : Int.fdiv (x : Int) 64 = (y6 : Int) := zAk hy6
 obtain ⟨z6, hz6⟩ : ∃ q : Nat, y6 % 64 = q := ⟨_, rfl⟩
 have a6 : zAd .and .u32 (y6 : Int) 63 = some (.int .u32 (z6 : Int)) := and63 (by omega) hz6
 obtain ⟨w6, hw6⟩ : ∃ q : Nat, 128 + z6 = q := ⟨_, rfl⟩
 have o6 : zAd .or .u32 128 (z6 : Int) = some (.int .u32 (w6 : Int)) := or32 (c := 2) (s := 6) 128 rfl (by omega) (by decide) (by decide) hw6
 have f0 : Int.fdiv (x : Int) 1 = (x : Int) := zAk (k := 1) (Nat.div_one x)
 obtain ⟨z0, hz0⟩ : ∃ q : Nat, x % 64 = q := ⟨_, rfl⟩
 have a0 : zAd .and .u32 (x : Int) 63 = some (.int .u32 (z0 : Int)) := and63 (by omega) hz0
 obtain ⟨w0, hw0⟩ : ∃ q : Nat, 128 + z0 = q := ⟨_, rfl⟩
 have o0 : zAd .or .u32 128 (z0 : Int) = some (.int .u32 (w0 : Int)) := or32 (c := 2) (s := 6) 128 rfl (by omega) (by decide) (by decide) hw0
 have hres : [UInt8.ofNat (240 + x / 262144), UInt8.ofNat (128 + x / 4096 % 64), UInt8.ofNat (128 + x / 64 % 64), UInt8.ofNat (128 + x % 64)] = [UInt8.ofNat wl, UInt8.ofNat w12, UInt8.ofNat w6, UInt8.ofNat w0] := by rw [← hwl, ← hyl, ← hw12, ← hz12, ← hy12, ← hw6, ← hz6, ← hy6, ← hw0, ← hz0]
 refine Wc.mkG 90 c90 (by kernel_rfl) rfl ?_
 generalize e : zAa .. = r
 simp (disch := omega) [c90] at e
 subst e
 repeat (first | refine st_ rfl ?_ | ((first | refine rg_ ?_ | refine go_ ?_); refine gw_ (by simp (disch := omega) [hX, fl, ol, f12, a12, o12, f6, a6, o6, f0, a0, o0, zA1, zA2, zAv, zB2, c106, c90]; rfl) ?_) | (refine W.loop ?_; try (generalize e : dropped .. = r; simp (disch := omega) [hX, fl, ol, f12, a12, o12, f6, a6, o6, f0, a0, o0, zA1, zA2, zAv, zB2, c106, c90] at e; subst e; try dsimp only)) | (refine Wc.mkG 106 c106 (by kernel_rfl) rfl ?_; generalize e : zAa .. = r; simp (disch := omega) [hX, fl, ol, f12, a12, o12, f6, a6, o6, f0, a0, o0, zA1, zA2, zAv, zB2, c106, c90] at e; subst e) | ((first | (refine W.ret ?_; (try simp only [zAb, zA0, zA8]); refine endW.of (.inl rfl) rfl ?_) | refine endW.of (.inr rfl) rfl ?_); generalize e : zAc .. = r; simp (disch := omega) [hX, fl, ol, f12, a12, o12, f6, a6, o6, f0, a0, o0, zA1, zA2, zAv, zB2, c106, c90] at e; subst e; (first | refine ⟨rfl, ?_⟩ | ((try simp only [hres] at hk); refine hk _ ?_; omega))))
theorem put_s (x : Nat) (hx : 55296 ≤ x) (hx2 : x < 57344) : Pe 90 [.int .u32 (x : Int)] (.str [239, 191, 189]) := by
 intro h hf K hk
 obtain ⟨hu, hut, hX⟩ := fx4 hf
 exact wGB2
theorem put_g (x : Nat) (hx : 1114111 < x) (hx2 : x < 4294967296) : Pe 90 [.int .u32 (x : Int)] (.str [239, 191, 189]) := by
 intro h hf K hk
 obtain ⟨hu, hut, hX⟩ := fx4 hf
 exact wGB2
theorem put_F (x : Nat) (hx : x < 4294967296) : Pe 90 [.int .u32 (x : Int)] (.str (putB x)) := by
 unfold putB
 split
 · exact put_1 x (by omega)
 · split
   · exact put_2 x (by omega) (by omega)
   · split
     · rename_i h
       rcases h with h | h
       · exact put_s x h.1 h.2
       · exact put_g x h hx
     · split
       · rcases Nat.lt_or_ge x 55296 with h | h
         · exact put_3a x (by omega) h
         · exact put_3b x (by omega) (by omega)
       · exact put_4 x (by omega) (by omega)
def ptF : B8 → Nat
 | [] => 0
 | c :: t => if c.toNat < 128 then 1
  else if c.toNat / 32 = 6 then (match t with
   | c1 :: _ => if putB (c.toNat % 32 * 64 + c1.toNat % 64) = [c, c1] then 2 else 0
   | _ => 0)
  else if c.toNat / 16 = 14 then (match t with
   | c1 :: c2 :: _ => if putB ((c.toNat % 16 * 64 + c1.toNat % 64) * 64 + c2.toNat % 64) = [c, c1, c2] then 3 else 0
   | _ => 0)
  else if c.toNat / 8 = 30 then (match t with
   | c1 :: c2 :: c3 :: _ => if putB (((c.toNat % 8 * 64 + c1.toNat % 64) * 64 + c2.toNat % 64) * 64 + c3.toNat % 64) = [c, c1, c2, c3] then 4 else 0
   | _ => 0)
  else 0
theorem pt_1 (c : UInt8) (t : B8) (hc : c.toNat < 128) : Pe 69 [.str (c :: t)] (.tup [.int .u32 (c.toNat : Int), .int .i64 1]) := by
 intro h hf K hk
 obtain ⟨hu, hut, hX⟩ := fx4 hf
 refine Wc.mkG 69 c69 (by kernel_rfl) rfl ?_
 generalize e : zAa .. = r
 simp (disch := omega) [c69] at e
 subst e
 repeat (first | refine st_ rfl ?_ | ((first | refine rg_ ?_ | refine go_ ?_); refine gw_ (by simp (disch := omega) [hX, zA1, zA2, zAv, zB2, c69]; rfl) ?_) | (refine W.loop ?_; try (generalize e : dropped .. = r; simp (disch := omega) [hX, zA1, zA2, zAv, zB2, c69] at e; subst e; try dsimp only)) | ((first | (refine W.ret ?_; (try simp only [zAb, zA0, zA8]); refine endW.of (.inl rfl) rfl ?_) | refine endW.of (.inr rfl) rfl ?_); generalize e : zAc .. = r; simp (disch := omega) [hX, zA1, zA2, zAv, zB2, c69] at e; subst e; (refine hk _ ?_; omega)))
theorem pt_none (c : UInt8) (t : B8) (h1 : 128 ≤ c.toNat) (h2 : ¬ c.toNat / 32 = 6) (h3 : ¬ c.toNat / 16 = 14) (h4 : ¬ c.toNat / 8 = 30) : Pe 69 [.str (c :: t)] (.tup [.int .u32 0, .int .i64 0]) := by
 intro h hf K hk
 obtain ⟨hu, hut, hX⟩ := fx4 hf
 have hcl := c.toNat_lt
 obtain ⟨k5, hk5⟩ : ∃ q : Nat, c.toNat / 32 = q := ⟨_, rfl⟩
 have g5 : Int.fdiv (c.toNat : Int) 32 = (k5 : Int) := zAk hk5
 have e5 : ¬ ((k5 : Int) = 6) := by omega
 obtain ⟨k4, hk4⟩ : ∃ q : Nat, c.toNat / 16 = q := ⟨_, rfl⟩
 have g4 : Int.fdiv (c.toNat : Int) 16 = (k4 : Int) := zAk hk4
 have e4 : ¬ ((k4 : Int) = 14) := by omega
 obtain ⟨k3, hk3⟩ : ∃ q : Nat, c.toNat / 8 = q := ⟨_, rfl⟩
 have g3 : Int.fdiv (c.toNat : Int) 8 = (k3 : Int) := zAk hk3
 have e3 : ¬ ((k3 : Int) = 30) := by omega
 refine Wc.mkG 69 c69 (by kernel_rfl) rfl ?_
 generalize e : zAa .. = r
 simp (disch := omega) [c69] at e
 subst e
 repeat (first | refine st_ rfl ?_ | ((first | refine rg_ ?_ | refine go_ ?_); refine gw_ (by simp (disch := omega) [hX, g5, e5, g4, e4, g3, e3, zA1, zA2, zAv, zB2, c69]; rfl) ?_) | (refine W.loop ?_; try (generalize e : dropped .. = r; simp (disch := omega) [hX, g5, e5, g4, e4, g3, e3, zA1, zA2, zAv, zB2, c69] at e; subst e; try dsimp only)) | ((first | (refine W.ret ?_; (try simp only [zAb, zA0, zA8]); refine endW.of (.inl rfl) rfl ?_) | refine endW.of (.inr rfl) rfl ?_); generalize e : zAc .. = r; simp (disch := omega) [hX, g5, e5, g4, e4, g3, e3, zA1, zA2, zAv, zB2, c69] at e; subst e; (refine hk _ ?_; omega)))
theorem pt_2s0 (c : UInt8)  (hc : c.toNat / 32 = 6) : Pe 69 [.str (c :: [])] (.tup [.int .u32 0, .int .i64 0]) := by
 intro h hf K hk
 obtain ⟨hu, hut, hX⟩ := fx4 hf
 have hcl := c.toNat_lt
 have g5 : Int.fdiv (c.toNat : Int) 32 = 6 := zAk (y := 6) hc
 obtain ⟨m0, hm0⟩ : ∃ q : Nat, c.toNat % 32 = q := ⟨_, rfl⟩
 have am : zAd .and .u8 (c.toNat : Int) 31 = some (.int .u8 (m0 : Int)) := and8 5 31 rfl (by decide) hcl hm0
 refine Wc.mkG 69 c69 (by kernel_rfl) rfl ?_
 generalize e : zAa .. = r
 simp (disch := omega) [c69] at e
 subst e
 repeat (first | refine st_ rfl ?_ | ((first | refine rg_ ?_ | refine go_ ?_); refine gw_ (by simp (disch := omega) [hX, g5, am, zA1, zA2, zAv, zB2, c69]; rfl) ?_) | (refine W.loop ?_; try (generalize e : dropped .. = r; simp (disch := omega) [hX, g5, am, zA1, zA2, zAv, zB2, c69] at e; subst e; try dsimp only)) | ((first | (refine W.ret ?_; (try simp only [zAb, zA0, zA8]); refine endW.of (.inl rfl) rfl ?_) | refine endW.of (.inr rfl) rfl ?_); generalize e : zAc .. = r; simp (disch := omega) [hX, g5, am, zA1, zA2, zAv, zB2, c69] at e; subst e; (refine hk _ ?_; omega)))
set_option maxHeartbeats 2000000 in
theorem pt_2true (c : UInt8) (c1 : UInt8) (t : B8) (hc : c.toNat / 32 = 6) (hcmp : (putB (c.toNat % 32 * 64 + c1.toNat % 64) == [c, c1]) = true) : Pe 69 [.str (c :: c1 :: t)] (.tup [.int .u32 (((c.toNat % 32 * 64 + c1.toNat % 64) : Nat) : Int), .int .i64 2]) := by
 intro h hf K hk
 obtain ⟨hu, hut, hX⟩ := fx4 hf
 have hcl := c.toNat_lt
 have g5 : Int.fdiv (c.toNat : Int) 32 = 6 := zAk (y := 6) hc
 obtain ⟨m0, hm0⟩ : ∃ q : Nat, c.toNat % 32 = q := ⟨_, rfl⟩
 have am : zAd .and .u8 (c.toNat : Int) 31 = some (.int .u8 (m0 : Int)) := and8 5 31 rfl (by decide) hcl hm0
 have hcl1 := c1.toNat_lt
 obtain ⟨b1, hb1⟩ : ∃ q : Nat, c1.toNat % 64 = q := ⟨_, rfl⟩
 have ab1 : zAd .and .u8 (c1.toNat : Int) 63 = some (.int .u8 (b1 : Int)) := and8 6 63 rfl (by decide) hcl1 hb1
 obtain ⟨x1, hx1⟩ : ∃ q : Nat, m0 * 2 ^ 6 + b1 = q := ⟨_, rfl⟩
 have o1 : zAd .or .u32 ((m0 : Int) * 64) (b1 : Int) = some (.int .u32 (x1 : Int)) := or32 (c := m0) (s := 6) _ (by omega) (by omega) (by omega) (by decide) hx1
 have i1_0 : (c :: c1 :: t)[1]? = some c1 := rfl
 have i1_1 : (c1 :: t)[0]? = some c1 := rfl
 have hxe : (c.toNat % 32 * 64 + c1.toNat % 64) = x1 := by omega
 rw [hxe] at hcmp
 rw [hxe] at hk
 exact wGB3
set_option maxHeartbeats 2000000 in
theorem pt_2false (c : UInt8) (c1 : UInt8) (t : B8) (hc : c.toNat / 32 = 6) (hcmp : (putB (c.toNat % 32 * 64 + c1.toNat % 64) == [c, c1]) = false) : Pe 69 [.str (c :: c1 :: t)] (.tup [.int .u32 0, .int .i64 0]) := by
 intro h hf K hk
 obtain ⟨hu, hut, hX⟩ := fx4 hf
 have hcl := c.toNat_lt
 have g5 : Int.fdiv (c.toNat : Int) 32 = 6 := zAk (y := 6) hc
 obtain ⟨m0, hm0⟩ : ∃ q : Nat, c.toNat % 32 = q := ⟨_, rfl⟩
 have am : zAd .and .u8 (c.toNat : Int) 31 = some (.int .u8 (m0 : Int)) := and8 5 31 rfl (by decide) hcl hm0
 have hcl1 := c1.toNat_lt
 obtain ⟨b1, hb1⟩ : ∃ q : Nat, c1.toNat % 64 = q := ⟨_, rfl⟩
 have ab1 : zAd .and .u8 (c1.toNat : Int) 63 = some (.int .u8 (b1 : Int)) := and8 6 63 rfl (by decide) hcl1 hb1
 obtain ⟨x1, hx1⟩ : ∃ q : Nat, m0 * 2 ^ 6 + b1 = q := ⟨_, rfl⟩
 have o1 : zAd .or .u32 ((m0 : Int) * 64) (b1 : Int) = some (.int .u32 (x1 : Int)) := or32 (c := m0) (s := 6) _ (by omega) (by omega) (by omega) (by decide) hx1
 have i1_0 : (c :: c1 :: t)[1]? = some c1 := rfl
 have i1_1 : (c1 :: t)[0]? = some c1 := rfl
 have hxe : (c.toNat % 32 * 64 + c1.toNat % 64) = x1 := by omega
 rw [hxe] at hcmp
 exact wGB3
theorem pt_3s0 (c : UInt8)  (hc : c.toNat / 16 = 14) : Pe 69 [.str (c :: [])] (.tup [.int .u32 0, .int .i64 0]) := by
 intro h hf K hk
 obtain ⟨hu, hut, hX⟩ := fx4 hf
 have hcl := c.toNat_lt
 obtain ⟨k5, hk5⟩ : ∃ q : Nat, c.toNat / 32 = q := ⟨_, rfl⟩
 have g5 : Int.fdiv (c.toNat : Int) 32 = (k5 : Int) := zAk hk5
 have e5 : ¬ ((k5 : Int) = 6) := by omega
 have g4 : Int.fdiv (c.toNat : Int) 16 = 14 := zAk (y := 14) hc
 obtain ⟨m0, hm0⟩ : ∃ q : Nat, c.toNat % 16 = q := ⟨_, rfl⟩
 have am : zAd .and .u8 (c.toNat : Int) 15 = some (.int .u8 (m0 : Int)) := and8 4 15 rfl (by decide) hcl hm0
 exact wGB4
theorem pt_3s1 (c : UInt8) (c1 : UInt8) (hc : c.toNat / 16 = 14) : Pe 69 [.str (c :: c1 :: [])] (.tup [.int .u32 0, .int .i64 0]) := by
 intro h hf K hk
 obtain ⟨hu, hut, hX⟩ := fx4 hf
 have hcl := c.toNat_lt
 obtain ⟨k5, hk5⟩ : ∃ q : Nat, c.toNat / 32 = q := ⟨_, rfl⟩
 have g5 : Int.fdiv (c.toNat : Int) 32 = (k5 : Int) := zAk hk5
 have e5 : ¬ ((k5 : Int) = 6) := by omega
 have g4 : Int.fdiv (c.toNat : Int) 16 = 14 := zAk (y := 14) hc
 obtain ⟨m0, hm0⟩ : ∃ q : Nat, c.toNat % 16 = q := ⟨_, rfl⟩
 have am : zAd .and .u8 (c.toNat : Int) 15 = some (.int .u8 (m0 : Int)) := and8 4 15 rfl (by decide) hcl hm0
 exact wGB4
set_option maxHeartbeats 2000000 in
theorem pt_3true (c : UInt8) (c1 : UInt8) (c2 : UInt8) (t : B8) (hc : c.toNat / 16 = 14) (hcmp : (putB ((c.toNat % 16 * 64 + c1.toNat % 64) * 64 + c2.toNat % 64) == [c, c1, c2]) = true) : Pe 69 [.str (c :: c1 :: c2 :: t)] (.tup [.int .u32 ((((c.toNat % 16 * 64 + c1.toNat % 64) * 64 + c2.toNat % 64) : Nat) : Int), .int .i64 3]) := by
 intro h hf K hk
 obtain ⟨hu, hut, hX⟩ := fx4 hf
 have hcl := c.toNat_lt
 obtain ⟨k5, hk5⟩ : ∃ q : Nat, c.toNat / 32 = q := ⟨_, rfl⟩
 have g5 : Int.fdiv (c.toNat : Int) 32 = (k5 : Int) := zAk hk5
 have e5 : ¬ ((k5 : Int) = 6) := by omega
 have g4 : Int.fdiv (c.toNat : Int) 16 = 14 := zAk (y := 14) hc
 obtain ⟨m0, hm0⟩ : ∃ q : Nat, c.toNat % 16 = q := ⟨_, rfl⟩
 have am : zAd .and .u8 (c.toNat : Int) 15 = some (.int .u8 (m0 : Int)) := and8 4 15 rfl (by decide) hcl hm0
 have hcl1 := c1.toNat_lt
 obtain ⟨b1, hb1⟩ : ∃ q : Nat, c1.toNat % 64 = q := ⟨_, rfl⟩
 have ab1 : zAd .and .u8 (c1.toNat : Int) 63 = some (.int .u8 (b1 : Int)) := and8 6 63 rfl (by decide) hcl1 hb1
 obtain ⟨x1, hx1⟩ : ∃ q : Nat, m0 * 2 ^ 6 + b1 = q := ⟨_, rfl⟩
 have o1 : zAd .or .u32 ((m0 : Int) * 64) (b1 : Int) = some (.int .u32 (x1 : Int)) := or32 (c := m0) (s := 6) _ (by omega) (by omega) (by omega) (by decide) hx1
 have i1_0 : (c :: c1 :: c2 :: t)[1]? = some c1 := rfl
 have i1_1 : (c1 :: c2 :: t)[0]? = some c1 := rfl
 have hcl2 := c2.toNat_lt
 obtain ⟨b2, hb2⟩ : ∃ q : Nat, c2.toNat % 64 = q := ⟨_, rfl⟩
 have ab2 : zAd .and .u8 (c2.toNat : Int) 63 = some (.int .u8 (b2 : Int)) := and8 6 63 rfl (by decide) hcl2 hb2
 obtain ⟨x2, hx2⟩ : ∃ q : Nat, x1 * 2 ^ 6 + b2 = q := ⟨_, rfl⟩
 have o2 : zAd .or .u32 ((x1 : Int) * 64) (b2 : Int) = some (.int .u32 (x2 : Int)) := or32 (c := x1) (s := 6) _ (by omega) (by omega) (by omega) (by decide) hx2
 have i2_0 : (c :: c1 :: c2 :: t)[2]? = some c2 := rfl
 have i2_1 : (c1 :: c2 :: t)[1]? = some c2 := rfl
 have i2_2 : (c2 :: t)[0]? = some c2 := rfl
 have hxe : ((c.toNat % 16 * 64 + c1.toNat % 64) * 64 + c2.toNat % 64) = x2 := by omega
 rw [hxe] at hcmp
 rw [hxe] at hk
 exact wGB5
set_option maxHeartbeats 2000000 in
theorem pt_3false (c : UInt8) (c1 : UInt8) (c2 : UInt8) (t : B8) (hc : c.toNat / 16 = 14) (hcmp : (putB ((c.toNat % 16 * 64 + c1.toNat % 64) * 64 + c2.toNat % 64) == [c, c1, c2]) = false) : Pe 69 [.str (c :: c1 :: c2 :: t)] (.tup [.int .u32 0, .int .i64 0]) := by
 intro h hf K hk
 obtain ⟨hu, hut, hX⟩ := fx4 hf
 have hcl := c.toNat_lt
 obtain ⟨k5, hk5⟩ : ∃ q : Nat, c.toNat / 32 = q := ⟨_, rfl⟩
 have g5 : Int.fdiv (c.toNat : Int) 32 = (k5 : Int) := zAk hk5
 have e5 : ¬ ((k5 : Int) = 6) := by omega
 have g4 : Int.fdiv (c.toNat : Int) 16 = 14 := zAk (y := 14) hc
 obtain ⟨m0, hm0⟩ : ∃ q : Nat, c.toNat % 16 = q := ⟨_, rfl⟩
 have am : zAd .and .u8 (c.toNat : Int) 15 = some (.int .u8 (m0 : Int)) := and8 4 15 rfl (by decide) hcl hm0
 have hcl1 := c1.toNat_lt
 obtain ⟨b1, hb1⟩ : ∃ q : Nat, c1.toNat % 64 = q := ⟨_, rfl⟩
 have ab1 : zAd .and .u8 (c1.toNat : Int) 63 = some (.int .u8 (b1 : Int)) := and8 6 63 rfl (by decide) hcl1 hb1
 obtain ⟨x1, hx1⟩ : ∃ q : Nat, m0 * 2 ^ 6 + b1 = q := ⟨_, rfl⟩
 have o1 : zAd .or .u32 ((m0 : Int) * 64) (b1 : Int) = some (.int .u32 (x1 : Int)) := or32 (c := m0) (s := 6) _ (by omega) (by omega) (by omega) (by decide) hx1
 have i1_0 : (c :: c1 :: c2 :: t)[1]? = some c1 := rfl
 have i1_1 : (c1 :: c2 :: t)[0]? = some c1 := rfl
 have hcl2 := c2.toNat_lt
 obtain ⟨b2, hb2⟩ : ∃ q : Nat, c2.toNat % 64 = q := ⟨_, rfl⟩
 have ab2 : zAd .and .u8 (c2.toNat : Int) 63 = some (.int .u8 (b2 : Int)) := and8 6 63 rfl (by decide) hcl2 hb2
 obtain ⟨x2, hx2⟩ : ∃ q : Nat, x1 * 2 ^ 6 + b2 = q := ⟨_, rfl⟩
 have o2 : zAd .or .u32 ((x1 : Int) * 64) (b2 : Int) = some (.int .u32 (x2 : Int)) := or32 (c := x1) (s := 6) _ (by omega) (by omega) (by omega) (by decide) hx2
 have i2_0 : (c :: c1 :: c2 :: t)[2]? = some c2 := rfl
 have i2_1 : (c1 :: c2 :: t)[1]? = some c2 := rfl
 have i2_2 : (c2 :: t)[0]? = some c2 := rfl
 have hxe : ((c.toNat % 16 * 64 + c1.toNat % 64) * 64 + c2.toNat % 64) = x2 := by omega
 rw [hxe] at hcmp
 exact wGB5
theorem pt_4s0 (c : UInt8)  (hc : c.toNat / 8 = 30) : Pe 69 [.str (c :: [])] (.tup [.int .u32 0, .int .i64 0]) := by
 intro h hf K hk
 obtain ⟨hu, hut, hX⟩ := fx4 hf
 have hcl := c.toNat_lt
 obtain ⟨k5, hk5⟩ : ∃ q : Nat, c.toNat / 32 = q := ⟨_, rfl⟩
 have g5 : Int.fdiv (c.toNat : Int) 32 = (k5 : Int) := zAk hk5
 have e5 : ¬ ((k5 : Int) = 6) := by omega
 obtain ⟨k4, hk4⟩ : ∃ q : Nat, c.toNat / 16 = q := ⟨_, rfl⟩
 have g4 : Int.fdiv (c.toNat : Int) 16 = (k4 : Int) := zAk hk4
 have e4 : ¬ ((k4 : Int) = 14) := by omega
 have g3 : Int.fdiv (c.toNat : Int) 8 = 30 := zAk (y := 30) hc
 obtain ⟨m0, hm0⟩ : ∃ q : Nat, c.toNat % 8 = q := ⟨_, rfl⟩
 have am : zAd .and .u8 (c.toNat : Int) 7 = some (.int .u8 (m0 : Int)) := and8 3 7 rfl (by decide) hcl hm0
 exact wGB6
theorem pt_4s1 (c : UInt8) (c1 : UInt8) (hc : c.toNat / 8 = 30) : Pe 69 [.str (c :: c1 :: [])] (.tup [.int .u32 0, .int .i64 0]) := by
 intro h hf K hk
 obtain ⟨hu, hut, hX⟩ := fx4 hf
 have hcl := c.toNat_lt
 obtain ⟨k5, hk5⟩ : ∃ q : Nat, c.toNat / 32 = q := ⟨_, rfl⟩
 have g5 : Int.fdiv (c.toNat : Int) 32 = (k5 : Int) := zAk hk5
 have e5 : ¬ ((k5 : Int) = 6) := by omega
 obtain ⟨k4, hk4⟩ : ∃ q : Nat, c.toNat / 16 = q := ⟨_, rfl⟩
 have g4 : Int.fdiv (c.toNat : Int) 16 = (k4 : Int) := zAk hk4
 have e4 : ¬ ((k4 : Int) = 14) := by omega
 have g3 : Int.fdiv (c.toNat : Int) 8 = 30 := zAk (y := 30) hc
 obtain ⟨m0, hm0⟩ : ∃ q : Nat, c.toNat % 8 = q := ⟨_, rfl⟩
 have am : zAd .and .u8 (c.toNat : Int) 7 = some (.int .u8 (m0 : Int)) := and8 3 7 rfl (by decide) hcl hm0
 exact wGB6
theorem pt_4s2 (c : UInt8) (c1 : UInt8) (c2 : UInt8) (hc : c.toNat / 8 = 30) : Pe 69 [.str (c :: c1 :: c2 :: [])] (.tup [.int .u32 0, .int .i64 0]) := by
 intro h hf K hk
 obtain ⟨hu, hut, hX⟩ := fx4 hf
 have hcl := c.toNat_lt
 obtain ⟨k5, hk5⟩ : ∃ q : Nat, c.toNat / 32 = q := ⟨_, rfl⟩
 have g5 : Int.fdiv (c.toNat : Int) 32 = (k5 : Int) := zAk hk5
 have e5 : ¬ ((k5 : Int) = 6) := by omega
 obtain ⟨k4, hk4⟩ : ∃ q : Nat, c.toNat / 16 = q := ⟨_, rfl⟩
 have g4 : Int.fdiv (c.toNat : Int) 16 = (k4 : Int) := zAk hk4
 have e4 : ¬ ((k4 : Int) = 14) := by omega
 have g3 : Int.fdiv (c.toNat : Int) 8 = 30 := zAk (y := 30) hc
 obtain ⟨m0, hm0⟩ : ∃ q : Nat, c.toNat % 8 = q := ⟨_, rfl⟩
 have am : zAd .and .u8 (c.toNat : Int) 7 = some (.int .u8 (m0 : Int)) := and8 3 7 rfl (by decide) hcl hm0
 exact wGB6
set_option maxHeartbeats 2000000 in
theorem pt_4true (c : UInt8) (c1 : UInt8) (c2 : UInt8) (c3 : UInt8) (t : B8) (hc : c.toNat / 8 = 30) (hcmp : (putB (((c.toNat % 8 * 64 + c1.toNat % 64) * 64 + c2.toNat % 64) * 64 + c3.toNat % 64) == [c, c1, c2, c3]) = true) : Pe 69 [.str (c :: c1 :: c2 :: c3 :: t)] (.tup [.int .u32 (((((c.toNat % 8 * 64 + c1.toNat % 64) * 64 + c2.toNat % 64) * 64 + c3.toNat % 64) : Nat) : Int), .int .i64 4]) := by
 intro h hf K hk
 obtain ⟨hu, hut, hX⟩ := fx4 hf
 have hcl := c.toNat_lt
 obtain ⟨k5, hk5⟩ : ∃ q : Nat, c.toNat / 32 = q := ⟨_, rfl⟩
 have g5 : Int.fdiv (c.toNat : Int) 32 = (k5 : Int) := zAk hk5
 have e5 : ¬ ((k5 : Int) = 6) := by omega
 obtain ⟨k4, hk4⟩ : ∃ q : Nat, c.toNat / 16 = q := ⟨_, rfl⟩
 have g4 : Int.fdiv (c.toNat : Int) 16 = (k4 : Int) := zAk hk4
 have e4 : ¬ ((k4 : Int) = 14) := by omega
 have g3 : Int.fdiv (c.toNat : Int) 8 = 30 := zAk (y := 30) hc
 obtain ⟨m0, hm0⟩ : ∃ q : Nat, c.toNat % 8 = q := ⟨_, rfl⟩
 have am : zAd .and .u8 (c.toNat : Int) 7 = some (.int .u8 (m0 : Int)) := and8 3 7 rfl (by decide) hcl hm0
 have hcl1 := c1.toNat_lt
 obtain ⟨b1, hb1⟩ : ∃ q : Nat, c1.toNat % 64 = q := ⟨_, rfl⟩
 have ab1 : zAd .and .u8 (c1.toNat : Int) 63 = some (.int .u8 (b1 : Int)) := and8 6 63 rfl (by decide) hcl1 hb1
 obtain ⟨x1, hx1⟩ : ∃ q : Nat, m0 * 2 ^ 6 + b1 = q := ⟨_, rfl⟩
 have o1 : zAd .or .u32 ((m0 : Int) * 64) (b1 : Int) = some (.int .u32 (x1 : Int)) := or32 (c := m0) (s := 6) _ (by omega) (by omega) (by omega) (by decide) hx1
 have i1_0 : (c :: c1 :: c2 :: c3 :: t)[1]? = some c1 := rfl
 have i1_1 : (c1 :: c2 :: c3 :: t)[0]? = some c1 := rfl
 have hcl2 := c2.toNat_lt
 obtain ⟨b2, hb2⟩ : ∃ q : Nat, c2.toNat % 64 = q := ⟨_, rfl⟩
 have ab2 : zAd .and .u8 (c2.toNat : Int) 63 = some (.int .u8 (b2 : Int)) := and8 6 63 rfl (by decide) hcl2 hb2
 obtain ⟨x2, hx2⟩ : ∃ q : Nat, x1 * 2 ^ 6 + b2 = q := ⟨_, rfl⟩
 have o2 : zAd .or .u32 ((x1 : Int) * 64) (b2 : Int) = some (.int .u32 (x2 : Int)) := or32 (c := x1) (s := 6) _ (by omega) (by omega) (by omega) (by decide) hx2
 have i2_0 : (c :: c1 :: c2 :: c3 :: t)[2]? = some c2 := rfl
 have i2_1 : (c1 :: c2 :: c3 :: t)[1]? = some c2 := rfl
 have i2_2 : (c2 :: c3 :: t)[0]? = some c2 := rfl
 have hcl3 := c3.toNat_lt
 obtain ⟨b3, hb3⟩ : ∃ q : Nat, c3.toNat % 64 = q := ⟨_, rfl⟩
 have ab3 : zAd .and .u8 (c3.toNat : Int) 63 = some (.int .u8 (b3 : Int)) := and8 6 63 rfl (by decide) hcl3 hb3
 obtain ⟨x3, hx3⟩ : ∃ q : Nat, x2 * 2 ^ 6 + b3 = q := ⟨_, rfl⟩
 have o3 : zAd .or .u32 ((x2 : Int) * 64) (b3 : Int) = some (.int .u32 (x3 : Int)) := or32 (c := x2) (s := 6) _ (by omega) (by omega) (by omega) (by decide) hx3
 have i3_0 : (c :: c1 :: c2 :: c3 :: t)[3]? = some c3 := rfl
 have i3_1 : (c1 :: c2 :: c3 :: t)[2]? = some c3 := rfl
 have i3_2 : (c2 :: c3 :: t)[1]? = some c3 := rfl
 have i3_3 : (c3 :: t)[0]? = some c3 := rfl
 have hxe : (((c.toNat % 8 * 64 + c1.toNat % 64) * 64 + c2.toNat % 64) * 64 + c3.toNat % 64) = x3 := by omega
 rw [hxe] at hcmp
 rw [hxe] at hk
 exact wGB7
set_option maxHeartbeats 2000000 in
theorem pt_4false (c : UInt8) (c1 : UInt8) (c2 : UInt8) (c3 : UInt8) (t : B8) (hc : c.toNat / 8 = 30) (hcmp : (putB (((c.toNat % 8 * 64 + c1.toNat % 64) * 64 + c2.toNat % 64) * 64 + c3.toNat % 64) == [c, c1, c2, c3]) = false) : Pe 69 [.str (c :: c1 :: c2 :: c3 :: t)] (.tup [.int .u32 0, .int .i64 0]) := by
 intro h hf K hk
 obtain ⟨hu, hut, hX⟩ := fx4 hf
 have hcl := c.toNat_lt
 obtain ⟨k5, hk5⟩ : ∃ q : Nat, c.toNat / 32 = q := ⟨_, rfl⟩
 have g5 : Int.fdiv (c.toNat : Int) 32 = (k5 : Int) := zAk hk5
 have e5 : ¬ ((k5 : Int) = 6) := by omega
 obtain ⟨k4, hk4⟩ : ∃ q : Nat, c.toNat / 16 = q := ⟨_, rfl⟩
 have g4 : Int.fdiv (c.toNat : Int) 16 = (k4 : Int) := zAk hk4
 have e4 : ¬ ((k4 : Int) = 14) := by omega
 have g3 : Int.fdiv (c.toNat : Int) 8 = 30 := zAk (y := 30) hc
 obtain ⟨m0, hm0⟩ : ∃ q : Nat, c.toNat % 8 = q := ⟨_, rfl⟩
 have am : zAd .and .u8 (c.toNat : Int) 7 = some (.int .u8 (m0 : Int)) := and8 3 7 rfl (by decide) hcl hm0
 have hcl1 := c1.toNat_lt
 obtain ⟨b1, hb1⟩ : ∃ q : Nat, c1.toNat % 64 = q := ⟨_, rfl⟩
 have ab1 : zAd .and .u8 (c1.toNat : Int) 63 = some (.int .u8 (b1 : Int)) := and8 6 63 rfl (by decide) hcl1 hb1
 obtain ⟨x1, hx1⟩ : ∃ q : Nat, m0 * 2 ^ 6 + b1 = q := ⟨_, rfl⟩
 have o1 : zAd .or .u32 ((m0 : Int) * 64) (b1 : Int) = some (.int .u32 (x1 : Int)) := or32 (c := m0) (s := 6) _ (by omega) (by omega) (by omega) (by decide) hx1
 have i1_0 : (c :: c1 :: c2 :: c3 :: t)[1]? = some c1 := rfl
 have i1_1 : (c1 :: c2 :: c3 :: t)[0]? = some c1 := rfl
 have hcl2 := c2.toNat_lt
 obtain ⟨b2, hb2⟩ : ∃ q : Nat, c2.toNat % 64 = q := ⟨_, rfl⟩
 have ab2 : zAd .and .u8 (c2.toNat : Int) 63 = some (.int .u8 (b2 : Int)) := and8 6 63 rfl (by decide) hcl2 hb2
 obtain ⟨x2, hx2⟩ : ∃ q : Nat, x1 * 2 ^ 6 + b2 = q := ⟨_, rfl⟩
 have o2 : zAd .or .u32 ((x1 : Int) * 64) (b2 : Int) = some (.int .u32 (x2 : Int)) := or32 (c := x1) (s := 6) _ (by omega) (by omega) (by omega) (by decide) hx2
 have i2_0 : (c :: c1 :: c2 :: c3 :: t)[2]? = some c2 := rfl
 have i2_1 : (c1 :: c2 :: c3 :: t)[1]? = some c2 := rfl
 have i2_2 : (c2 :: c3 :: t)[0]? = some c2 := rfl
 have hcl3 := c3.toNat_lt
 obtain ⟨b3, hb3⟩ : ∃ q : Nat, c3.toNat % 64 = q := ⟨_, rfl⟩
 have ab3 : zAd .and .u8 (c3.toNat : Int) 63 = some (.int .u8 (b3 : Int)) := and8 6 63 rfl (by decide) hcl3 hb3
 obtain ⟨x3, hx3⟩ : ∃ q : Nat, x2 * 2 ^ 6 + b3 = q := ⟨_, rfl⟩
 have o3 : zAd .or .u32 ((x2 : Int) * 64) (b3 : Int) = some (.int .u32 (x3 : Int)) := or32 (c := x2) (s := 6) _ (by omega) (by omega) (by omega) (by decide) hx3
 have i3_0 : (c :: c1 :: c2 :: c3 :: t)[3]? = some c3 := rfl
 have i3_1 : (c1 :: c2 :: c3 :: t)[2]? = some c3 := rfl
 have i3_2 : (c2 :: c3 :: t)[1]? = some c3 := rfl
 have i3_3 : (c3 :: t)[0]? = some c3 := rfl
 have hxe : (((c.toNat % 8 * 64 + c1.toNat % 64) * 64 + c2.toNat % 64) * 64 + c3.toNat % 64) = x3 := by omega
 rw [hxe] at hcmp
 exact wGB7
theorem point_F (c : UInt8) (t : B8) : ∃ rv : Nat, Pe 69 [.str (c :: t)] (.tup [.int .u32 (rv : Int), .int .i64 (ptF (c :: t) : Int)]) := by
 simp only [ptF]
 by_cases h1 : c.toNat < 128
 · rw [if_pos h1]; exact ⟨_, pt_1 c t h1⟩
 · rw [if_neg h1]
   by_cases h2 : c.toNat / 32 = 6
   · rw [if_pos h2]
     match t with
     | [] => exact ⟨0, pt_2s0 c h2⟩
     | c1 :: t =>
      dsimp only
      split
      · rename_i h; exact ⟨_, pt_2true c c1 t h2 (by rw [h]; simp)⟩
      · rename_i h; exact ⟨0, pt_2false c c1 t h2 (by simpa using h)⟩
   · rw [if_neg h2]
     by_cases h3 : c.toNat / 16 = 14
     · rw [if_pos h3]
       match t with
       | [] => exact ⟨0, pt_3s0 c h3⟩
       | [c1] => exact ⟨0, pt_3s1 c c1 h3⟩
       | c1 :: c2 :: t =>
        dsimp only
        split
        · rename_i h; exact ⟨_, pt_3true c c1 c2 t h3 (by rw [h]; simp)⟩
        · rename_i h; exact ⟨0, pt_3false c c1 c2 t h3 (by simpa using h)⟩
     · rw [if_neg h3]
       by_cases h4 : c.toNat / 8 = 30
       · rw [if_pos h4]
         match t with
         | [] => exact ⟨0, pt_4s0 c h4⟩
         | [c1] => exact ⟨0, pt_4s1 c c1 h4⟩
         | [c1, c2] => exact ⟨0, pt_4s2 c c1 c2 h4⟩
         | c1 :: c2 :: c3 :: t =>
          dsimp only
          split
          · rename_i h; exact ⟨_, pt_4true c c1 c2 c3 t h4 (by rw [h]; simp)⟩
          · rename_i h; exact ⟨0, pt_4false c c1 c2 c3 t h4 (by simpa using h)⟩
       · rw [if_neg h4]; exact ⟨0, pt_none c t (by omega) h2 h3 h4⟩
theorem ptF_le (s : B8) : ptF s ≤ s.length := by
 rcases s with _ | ⟨c, _ | ⟨c1, _ | ⟨c2, _ | ⟨c3, t⟩⟩⟩⟩
 · exact Nat.le_refl _
 all_goals
  simp only [ptF, List.length_cons]
  repeat' split
  all_goals omega
def zBp (s : B8) : Bool := if h : ptF s = 0 then s.isEmpty else zBp (s.drop (ptF s))
 termination_by s.length
 decreasing_by have := ptF_le s; simp; omega
abbrev validLoop : CCode := (.loop true (.seq (.seq (.region [.v 0, .g (.bin .neq (.loc 0) (.const (.str [])))] [(1, 1)] [] []) (.cond (.var 1) .skip (.exit 0))) (.block 1 (.seq (.region [.v 0, .g (.call false 69 [(.loc 0)]), .m (.loc 0), .g (.extract 0 (.loc 0)), .g (.extract 1 (.loc 1)), .m (.loc 1), .m (.loc 1)] [(2, 6)] [] []) (.seq (.seq (.region [.v 2, .x .eql 0 (.k 0)] [(3, 1)] [] []) (.cond (.var 3) (.seq (.region [.m (.b false)] [(4, 0)] [] []) .ret) .skip)) (.region [.v 0, .v 2, .g (.slc 0 (.loc 1) (some (.loc 0)) none), .m (.loc 0)] [(0, 3)] [] []))))))
theorem valid_loop (Q : QT) : ∀ (m : Nat) (s : B8), s.length ≤ m → s.length ≤ 60000 → ∀ (h : CHeap) (v1 v2 v3 v4 : CVal), Fit h →
    (∀ n' v0 v1 v2 v3, h.next ≤ n' → zBp s = false → Q .ret ⟨[v0, v1, v2, v3, .bool false], ⟨h.ents, n', h.tys⟩, []⟩) →
    (∀ n' v0 v1 v2 v3 v4, h.next ≤ n' → zBp s = true → Q (.exit 0) ⟨[v0, v1, v2, v3, v4], ⟨h.ents, n', h.tys⟩, []⟩) →
    W tree.getF validLoop ⟨[.str s, v1, v2, v3, v4], h, []⟩ Q := by
 intro m
 induction m with
 | zero =>
  intro s hm hl h v1 v2 v3 v4 hf hk1 hk2
  obtain rfl : s = [] := List.length_eq_zero_iff.1 (by omega)
  obtain ⟨hu, hut, hX⟩ := fx4 hf
  refine W.loop ?_
  repeat (first | refine st_ rfl ?_ | ((first | refine rg_ ?_ | refine go_ ?_); refine gw_ (by simp (disch := omega) [hX]; rfl) ?_))
  exact hk2 _ _ _ _ _ _ (by omega) (by rw [zBp]; rfl)
 | succ m ih =>
  intro s hm hl h v1 v2 v3 v4 hf hk1 hk2
  obtain ⟨hu, hut, hX⟩ := fx4 hf
  cases s with
  | nil =>
   refine W.loop ?_
   repeat (first | refine st_ rfl ?_ | ((first | refine rg_ ?_ | refine go_ ?_); refine gw_ (by simp (disch := omega) [hX]; rfl) ?_))
   exact hk2 _ _ _ _ _ _ (by omega) (by rw [zBp]; rfl)
  | cons c t =>
   obtain ⟨rv, P⟩ := point_F c t
   have hle := ptF_le (c :: t)
   simp only [List.length_cons] at hm hl hle
   have htk : (c :: t).take (t.length + 1) = c :: t := List.take_of_length_le (by simp)
   by_cases hz : ptF (c :: t) = 0
   · rw [hz] at P
     refine W.loop ?_
     repeat (first | refine st_ rfl ?_ | ((first | refine rg_ ?_ | refine go_ ?_); refine gw_ (by simp (disch := omega) [hX]; rfl) ?_) | (refine P _ ?_ _ fun n1 hn1 => ⟨rfl, ?_⟩; exact fit_; (try dsimp only at hn1)) | (refine W.ret ?_; (try simp only [zAb, zA0, zA8]); refine hk1 _ _ _ _ _ ?_ ?_; omega; rw [zBp, dif_pos hz]; rfl))
   · obtain ⟨n, hn⟩ : ∃ n, ptF (c :: t) = n := ⟨_, rfl⟩
     have hvd : zBp (c :: t) = zBp ((c :: t).drop n) := by
      conv => lhs; rw [zBp]
      rw [dif_neg hz, hn]
     rw [hvd] at hk1 hk2
     rw [hn] at P hz hle
     have hn0 : ¬ ((n : Int) = 0) := by omega
     refine W.loop ?_
     repeat (first | refine st_ rfl ?_ | ((first | refine rg_ ?_ | refine go_ ?_); refine gw_ (by simp (disch := omega) [hX, htk, hn0]; rfl) ?_) | (refine P _ ?_ _ fun n1 hn1 => ⟨rfl, ?_⟩; exact fit_; (try dsimp only at hn1)))
     show W tree.getF validLoop (dropped true _ _) Q
     generalize e : dropped .. = r9
     simp (disch := omega) [hX] at e
     subst e
     refine ih ((c :: t).drop n) (by rw [List.length_drop]; simp; omega) (by rw [List.length_drop]; simp; omega) _ _ _ _ _ ⟨hu.le (by (try dsimp only); omega), zA9.le hut (by (try dsimp only); omega)⟩ ?_ ?_
     · intro n' w0 w1 w2 w3 g1 g2; exact hk1 n' w0 w1 w2 w3 (by dsimp only at g1; omega) g2
     · intro n' w0 w1 w2 w3 w4 g1 g2; exact hk2 n' w0 w1 w2 w3 w4 (by dsimp only at g1; omega) g2
theorem valid_F (s : B8) (hl : s.length ≤ 60000) : Pe 46 [.str s] (.bool (zBp s)) := by
 intro h hf K hk
 obtain ⟨hu, hut, hX⟩ := fx4 hf
 refine Wc.mkG 46 c46 (by kernel_rfl) rfl ?_
 generalize e : zAa .. = r
 simp (disch := omega) [c46] at e
 subst e
 repeat (first | refine st_ rfl ?_ | ((first | refine rg_ ?_ | refine go_ ?_); refine gw_ (by simp (disch := omega) [hX, c46]; rfl) ?_))
 refine valid_loop _ s.length s (Nat.le_refl _) hl _ _ _ _ _ ⟨hu.le (by (try dsimp only); omega), zA9.le hut (by (try dsimp only); omega)⟩ ?_ ?_
 · intro n' w0 w1 w2 w3 g1 g2
   try dsimp only at g1
   rw [g2] at hk
   try simp only [zAb, zA0, zA8]
   refine endW.of (.inl rfl) rfl ?_
   generalize e : zAc .. = r
   simp (disch := omega) [hX, c46] at e
   subst e
   (try dsimp only)
   refine hk _ ?_
   omega
 · intro n' w0 w1 w2 w3 w4 g1 g2
   try dsimp only at g1
   rw [g2] at hk
   repeat (first | refine st_ rfl ?_ | ((first | refine rg_ ?_ | refine go_ ?_); refine gw_ (by simp (disch := omega) [hX, c46]; rfl) ?_) | ((first | (refine W.ret ?_; (try simp only [zAb, zA0, zA8]); refine endW.of (.inl rfl) rfl ?_) | refine endW.of (.inr rfl) rfl ?_); generalize e : zAc .. = r; simp (disch := omega) [hX, c46] at e; subst e; (refine hk _ ?_; omega)))
end Go.Proofs.YtdanefpnfnippaaGreatDoor.IrJ
