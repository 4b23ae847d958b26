/- What the functions of the law 'WordPlaces' do: part 21. -/
import Derived.Test.YthblmflngjofjaaDoorLxPT
namespace Go.Proofs.YthblmflngjofjaaDoor.IrP
open Go Go.CI
open Go.LexF hiding spacesB lettersB
set_option maxRecDepth 100000
set_option linter.unusedVariables false
set_option linter.unusedSimpArgs false
attribute [local irreducible] W Wo Wc WoR
attribute [local simp] goR regOut checkOne swapOne sameAt nthOp CVal.beq beqs CVal.block storesTo entryC evalOps evalOper evalE evalP evalL evalOpnd nth setNth COp.cls COp.isStore CVal.isUndef CVal.whole CVal.cells CHeap.put CHeap.get CHeap.set wantedC getEnt setEnt partOf writeBack evalBin evalInt evalStr blockMost initVar descOf List.take List.drop CVal.lenOf CVal.isStr CVal.bare CVal.strip CVal.flat endsC resultsC oneOrTuple finishC cut fillCells setCells szOf szOf_desc elems bytesOf evalAppend fillElems mkElem setElem List.replicate sy_nbeq sy_neqF sy_leT sy_leF sy_setEnt_setEnt dropped sy_wrap64 dropEnts dropCells sizeMost sy_ibeqF sy_ieqF sy_ileT sy_ileF sy_iltT sy_iltF sy_ltT sy_ltF evalSlc optBound eqVal extL extE keyIs findKV nthKV setKV CHeap.ty lookupN CHeap.note CHeap.tyOk dropAll freezeVal freezeAll freezeFlat pCopyCheck pBString pMakeNoZero pIndexByte pClone pIndex hasPair rowOf byteVals idxFrom hasFront idxSub

def lexV (s : List UInt8) : CVal := match lexF s with
  | .error (e, k) => .tup [.nils, .int .i64 (e : Int), .int .i64 (k : Int)]
  | .ok l => .tup [.imm .none 4 (l.map tokV), .int .i64 0, .int .i64 0]
theorem lexW_len : ∀ (m : Nat) (total : Nat) (u : List UInt8) (l : List Tok), lexW total m u = .ok l → l.length ≤ m
  | m, _, [], l, h => by cases m <;> (simp only [lexW] at h; cases h; simp)
  | 0, _, _ :: _, l, h => by simp only [lexW] at h; cases h
  | m + 1, total, c :: u, l, h => by
    simp only [lexW] at h
    split at h
    · cases h
    · split at h
      · cases h
      · split at h
        · cases h
        · rename_i l2 e2
          cases h
          have := lexW_len m _ _ _ e2
          simp; omega
theorem St.mk0 {h : CHeap} {p n' : Nat} {s : List UInt8} {a to : Int} {ty : List (Nat × Nat)} (hf : Fit h) (hp : h.next ≤ p) (hn : p < n') (ht : UnderT ty n') : St h.next h.ents p s a .nils [] 0 to ⟨(p, rdr s a .nils 0 to) :: h.ents, n', ty⟩ where
  g := by simp [getEnt]
  l := .inl ⟨rfl, rfl⟩
  d := ⟨[(p, rdr s a .nils 0 to)], rfl, fun x hx => by simp at hx; subst hx; exact hp, hf.1⟩
  n := hp
  lt := hn
  f := ⟨Under.cons hn (hf.1.le (by (try dsimp only); omega)), ht⟩

theorem lex_long (s : List UInt8) (hl : 3000 < s.length) : Pu tree.getF 6 [.str s] (.tup [.nils, .int .i64 3, .int .i64 0]) := by
  intro h hf K hk
  obtain ⟨hu, hut⟩ := hf
  have hD : ∀ m, h.next ≤ m → dropEnts h.ents m = h.ents := fun m hm => dropEnts_under (hu.le hm)
  have hC : ∀ m, h.next ≤ m → dropCells h.ents m = h.ents := fun m hm => dropCells_under (hu.le hm)
  have hN : ∀ q, h.next ≤ q → getEnt h.ents q = none := fun q hq => getEnt_under hu hq
  have hT : ∀ q, h.next ≤ q → lookupN h.tys q = none := fun q hq => lookupN_under hut hq

  refine Wc.mkG 6 c6 (by kernel_rfl) rfl ?_
  generalize e : entryC _ _ _ = r
  simp (disch := omega) [hD, hC, hN, hT, c6] at e
  subst e
  repeat (first
    | refine W.seq ?_
    | refine W.block ?_
    | ((first | refine W.regG ?_ | refine WoR.go ?_); generalize e : goR _ _ _ _ _ _ _ _ = r; simp (disch := omega) [hD, hC, hN, hT, c6] at e; replace e : some _ = _ := e; subst e; (try dsimp only [goW]))
    | refine W.cond_true rfl ?_
    | refine W.cond_false rfl ?_
    | refine W.skip ?_
    | refine W.exit ?_
    | (refine W.loop ?_; try (generalize e : dropped _ _ _ = r; simp (disch := omega) [hD, hC, hN, hT, c6] at e; subst e; try dsimp only))
    | ((first | (refine W.ret ?_; (try simp only [outOf, thenW_ret, roundW]); refine endW.of (.inl rfl) rfl ?_) | refine endW.of (.inr rfl) rfl ?_); generalize e : endsC _ _ _ = r; simp (disch := omega) [hD, hC, hN, hT, c6] at e; subst e; (try dsimp only [goW]); (refine hk _ _ ?_ ?_; omega; exact (by repeat (first | exact hut.le (by (try dsimp only); omega) | refine UnderT.cons (by (try dsimp only); omega) ?_ | exact UnderT.nil | assumption | exact UnderT.le (by assumption) (by (try dsimp only); omega))))))

theorem lex_F (s : List UInt8) (hl : s.length < 100000) : Pu tree.getF 6 [.str s] (lexV s) := by
  by_cases hlong : 3000 < s.length
  · have : lexV s = .tup [.nils, .int .i64 3, .int .i64 0] := by unfold lexV lexF; rw [if_pos hlong]; rfl
    rw [this]; exact lex_long s hlong
  · have hs : s.length ≤ 3000 := by omega
    have hV : lexV s = lexV s := rfl
    conv at hV => rhs; unfold lexV lexF
    rw [if_neg hlong] at hV
    intro h hf K hk
    obtain ⟨hu, hut⟩ := hf
    have hD : ∀ m, h.next ≤ m → dropEnts h.ents m = h.ents := fun m hm => dropEnts_under (hu.le hm)
    have hC : ∀ m, h.next ≤ m → dropCells h.ents m = h.ents := fun m hm => dropCells_under (hu.le hm)
    have hN : ∀ q, h.next ≤ q → getEnt h.ents q = none := fun q hq => getEnt_under hu hq
    have hT : ∀ q, h.next ≤ q → lookupN h.tys q = none := fun q hq => lookupN_under hut hq

    refine Wc.mkG 6 c6 (by kernel_rfl) rfl ?_
    generalize e : entryC _ _ _ = r
    simp (disch := omega) [hD, hC, hN, hT, c6] at e
    subst e
    repeat (first
      | refine W.seq ?_
      | refine W.block ?_
      | ((first | refine W.regG ?_ | refine WoR.go ?_); generalize e : goR _ _ _ _ _ _ _ _ = r; simp (disch := omega) [hD, hC, hN, hT, c6] at e; replace e : some _ = _ := e; subst e; (try dsimp only [goW]))
      | refine W.cond_true rfl ?_
      | refine W.cond_false rfl ?_
      | refine W.skip ?_
      | refine W.exit ?_)
    refine skip_F _ _ s s 0 .nils [] 0 (by omega) rfl (by simp) _ (St.mk0 ⟨hu, hut⟩ ?_ ?_ ?_) _ (fun h2 hok S2 g2 => ⟨rfl, ?_⟩) (fun h2 hok S2 g2 => ⟨rfl, ?_⟩)
    · (try dsimp only); omega
    · (try dsimp only); omega
    · exact UnderT.le hut (by (try dsimp only); omega)
    · try dsimp only at g2
      have hsl := skipF_le _ s (Nat.le_refl _)
      cases hsk : skipF s with
      | mk w b =>
        rw [hsk] at hok S2 hsl hV
        dsimp only at hok S2 hsl
        subst hok
        dsimp only at hV
        have hwd : s.drop (s.length - w.length) = w := skip_suffix s 0 s w true rfl (by simp) hsk
        repeat (first
          | refine W.seq ?_
          | refine W.block ?_
          | ((first | refine W.regG ?_ | refine WoR.go ?_); generalize e : goR _ _ _ _ _ _ _ _ = r; simp (disch := omega) [S2.g] at e; replace e : some _ = _ := e; subst e; (try dsimp only [goW]))
          | refine W.cond_true rfl ?_
          | refine W.cond_false rfl ?_
          | refine W.skip ?_
          | refine W.exit ?_)
        refine lex_loop _ _ s hs 0 _ _ _ _ _ _ (s.length + 1) w (s.length - w.length) (by omega) hwd (by omega) _ [] _ _ _ (by simp) (S2.mv ?_ ?_) ?_ ?_
        · (try dsimp only); omega
        · exact UnderT.le S2.f.2 (by (try dsimp only); omega)
        · intro l w3 w4 h3 L3 at3 e1 S3 g3
          try dsimp only at g3
          rw [e1] at hV
          dsimp only at hV
          rw [hV] at hk
          have hg3 := S3.g
          have hn3 := S3.n
          have hL3 := S3.whole
          have hu3 := S3.f.1
          have ut3 := S3.f.2
          have hd3 := S3.d.drop
          have hts : l.length ≤ 100000 := by
            exact Nat.le_trans (lexW_len _ _ _ _ e1) (by omega)
          rcases S3.l with ⟨rfl, hnil⟩ | ⟨i, v, rfl, ht, hip, hi0, hin⟩
          · have hl0 : l = [] := by simpa using hnil
            subst hl0
            repeat (first
              | refine W.seq ?_
              | refine W.block ?_
              | ((first | refine W.regG ?_ | refine WoR.go ?_); generalize e : goR _ _ _ _ _ _ _ _ = r; simp (disch := omega) [hg3, hd3, c6] at e; replace e : some _ = _ := e; subst e; (try dsimp only [goW]))
              | refine W.cond_true rfl ?_
              | refine W.cond_false rfl ?_
              | refine W.skip ?_
              | refine W.exit ?_
              | ((first | (refine W.ret ?_; (try simp only [outOf, thenW_ret, roundW]); refine endW.of (.inl rfl) rfl ?_) | refine endW.of (.inr rfl) rfl ?_); generalize e : endsC _ _ _ = r; simp (disch := omega) [hg3, hd3, c6] at e; subst e; (try dsimp only [goW]); (refine hk _ _ ?_ ?_; (focus (((try dsimp only); omega); done)); (focus ((repeat (first | refine UnderT.cons (by (try dsimp only); omega) ?_ | exact UnderT.le ut3 (by (try dsimp only); omega))); done)))))
          · have hd4 : ∀ x, dropEnts (setEnt h3.ents i x) h.next = h.ents := fun x => (S3.d.set hi0).drop
            have hgi : ∀ x, getEnt (setEnt h3.ents i x) _ = _ := fun x => (getEnt_setEnt_ne (Ne.symm hip)).trans hg3
            rw [List.nil_append] at *
            rw [List.map_append] at hk
            repeat (first
              | refine W.seq ?_
              | refine W.block ?_
              | ((first | refine W.regG ?_ | refine WoR.go ?_); generalize e : goR _ _ _ _ _ _ _ _ = r; simp (disch := omega) [hg3, hd3, hd4, hgi, ht, hts, beqs_refl, List.length_map, c6] at e; replace e : some _ = _ := e; subst e; (try dsimp only [goW]))
              | refine W.cond_true rfl ?_
              | refine W.cond_false rfl ?_
              | refine W.skip ?_
              | refine W.exit ?_
              | ((first | (refine W.ret ?_; (try simp only [outOf, thenW_ret, roundW]); refine endW.of (.inl rfl) rfl ?_) | refine endW.of (.inr rfl) rfl ?_); generalize e : endsC _ _ _ = r; simp (disch := omega) [hg3, hd3, hd4, hgi, ht, hts, beqs_refl, List.length_map, c6] at e; subst e; (try dsimp only [goW]); (refine hk _ _ ?_ ?_; (focus (((try dsimp only); omega); done)); (focus ((repeat (first | refine UnderT.cons (by (try dsimp only); omega) ?_ | exact UnderT.le ut3 (by (try dsimp only); omega))); done)))))
        · intro e k w3 w4 h3 L3 ts3 at3 e1 e0 S3 g3
          try dsimp only at g3
          rw [e1] at hV
          dsimp only at hV
          rw [hV] at hk
          have hg3 := S3.g
          have hn3 := S3.n
          have hd3 := S3.d.drop
          have ut3 := S3.f.2
          have he0 : ¬ ((e : Int) = 0) := by omega
          have he1 : ¬ (e = 0) := by omega
          have hbe : ((e : Int) != 0) = true := by simpa using he1
          have hbe2 : (e != 0) = true := by simpa using he1
          repeat (first
            | refine W.seq ?_
            | refine W.block ?_
            | ((first | refine W.regG ?_ | refine WoR.go ?_); generalize e : goR _ _ _ _ _ _ _ _ = r; simp (disch := omega) [hg3, hd3, he0, he1, hbe, hbe2, c6] at e; replace e : some _ = _ := e; subst e; (try dsimp only [goW]))
            | refine W.cond_true rfl ?_
            | refine W.cond_false rfl ?_
            | refine W.skip ?_
            | refine W.exit ?_
            | ((first | (refine W.ret ?_; (try simp only [outOf, thenW_ret, roundW]); refine endW.of (.inl rfl) rfl ?_) | refine endW.of (.inr rfl) rfl ?_); generalize e : endsC _ _ _ = r; simp (disch := omega) [hg3, hd3, he0, he1, hbe, hbe2, c6] at e; subst e; (try dsimp only [goW]); (refine hk _ _ ?_ ?_; (focus (((try dsimp only); omega); done)); (focus ((repeat (first | refine UnderT.cons (by (try dsimp only); omega) ?_ | exact UnderT.le ut3 (by (try dsimp only); omega))); done)))))
    · try dsimp only at g2
      cases hsk : skipF s with
      | mk w b =>
        rw [hsk] at hok S2 hV
        dsimp only at hok S2
        subst hok
        dsimp only at hV
        rw [hV] at hk
        have hg2 := S2.g
        have hn2 := S2.n
        have hd2 := S2.d.drop
        have ut2 := S2.f.2
        repeat (first
          | refine W.seq ?_
          | refine W.block ?_
          | ((first | refine W.regG ?_ | refine WoR.go ?_); generalize e : goR _ _ _ _ _ _ _ _ = r; simp (disch := omega) [hg2, hd2, c6] at e; replace e : some _ = _ := e; subst e; (try dsimp only [goW]))
          | refine W.cond_true rfl ?_
          | refine W.cond_false rfl ?_
          | refine W.skip ?_
          | refine W.exit ?_
          | (refine W.loop ?_; try (generalize e : dropped _ _ _ = r; simp (disch := omega) [hg2, hd2, c6] at e; subst e; try dsimp only))
          | ((first | (refine W.ret ?_; (try simp only [outOf, thenW_ret, roundW]); refine endW.of (.inl rfl) rfl ?_) | refine endW.of (.inr rfl) rfl ?_); generalize e : endsC _ _ _ = r; simp (disch := omega) [hg2, hd2, c6] at e; subst e; (try dsimp only [goW]); (refine hk _ _ ?_ ?_; (focus (((try dsimp only); omega); done)); (focus ((repeat (first | refine UnderT.cons (by (try dsimp only); omega) ?_ | exact UnderT.le ut2 (by (try dsimp only); omega))); done)))))
end Go.Proofs.YthblmflngjofjaaDoor.IrP
