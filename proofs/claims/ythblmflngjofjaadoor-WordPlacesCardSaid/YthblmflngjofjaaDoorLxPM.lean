/- What the functions of the law 'WordPlaces' do: part 14. -/
import Derived.Test.YthblmflngjofjaaDoorLxPL
namespace Go.Proofs.YthblmflngjofjaaDoor.IrP
open Go Go.CI
open Go.LexF hiding spacesB lettersB
set_option maxRecDepth 100000
set_option linter.unusedVariables false
set_option linter.unusedSimpArgs false
attribute [local irreducible] W Wo Wc WoR
attribute [local simp] goR regOut checkOne swapOne sameAt nthOp CVal.beq beqs CVal.block storesTo entryC evalOps evalOper evalE evalP evalL evalOpnd nth setNth COp.cls COp.isStore CVal.isUndef CVal.whole CVal.cells CHeap.put CHeap.get CHeap.set wantedC getEnt setEnt partOf writeBack evalBin evalInt evalStr blockMost initVar descOf List.take List.drop CVal.lenOf CVal.isStr CVal.bare CVal.strip CVal.flat endsC resultsC oneOrTuple finishC cut fillCells setCells szOf szOf_desc elems bytesOf evalAppend fillElems mkElem setElem List.replicate sy_nbeq sy_neqF sy_leT sy_leF sy_setEnt_setEnt dropped sy_wrap64 dropEnts dropCells sizeMost sy_ibeqF sy_ieqF sy_ileT sy_ileF sy_iltT sy_iltF sy_ltT sy_ltF evalSlc optBound eqVal extL extE keyIs findKV nthKV setKV CHeap.ty lookupN CHeap.note CHeap.tyOk dropAll freezeVal freezeAll freezeFlat pCopyCheck pBString pMakeNoZero pIndexByte pClone pIndex hasPair rowOf byteVals idxFrom hasFront idxSub

abbrev bv (b : UInt8) : CVal := .int .u8 b.toNat
theorem byteVals_map : ∀ l : List UInt8, byteVals (l.map bv) = some l
  | [] => rfl
  | c :: l => by
    have hc := c.toNat_lt
    have ih := byteVals_map l
    have e : UInt8.ofNat (c.toNat : Int).toNat = c := by simp
    simp only [List.map_cons, byteVals]
    rw [if_pos (by simp; omega), ih]
    simp
theorem St.cons {n0 : Nat} {E0 : List (Nat × CObj)} {p : Nat} {s : List UInt8} {a : Int} {L : CVal} {ts : List CVal} {e to : Int} {h : CHeap} {n' r : Nat} {o : CObj} {ty : List (Nat × Nat)} (S : St n0 E0 p s a L ts e to h) (hr : h.next ≤ r) (hn : r < n') (ht : UnderT ty n') : St n0 E0 p s a L ts e to ⟨(r, o) :: h.ents, n', ty⟩ := by
  have hlt := S.lt
  have hn0 := S.n
  have hrp : (r == p) = false := by simp; omega
  exact {
    g := by simp only [getEnt, hrp, Bool.false_eq_true, if_false]; exact S.g
    l := by
      rcases S.l with h1 | ⟨i, v, h1, h2, h3, h4, h5⟩
      · exact .inl h1
      · have hri : (r == i) = false := by simp; omega
        exact .inr ⟨i, v, h1, by simp only [getEnt, hri, Bool.false_eq_true, if_false]; exact h2, h3, h4, by (try dsimp only); omega⟩
    d := S.d.cons (by omega)
    n := hn0
    lt := by (try dsimp only); omega
    f := ⟨Under.cons hn (S.f.1.le (by (try dsimp only); omega)), ht⟩ }
abbrev textLoop : CCode := (.loop true (.seq (.seq (.region [⟨.mv (.var 2), none⟩, ⟨.mv (.var 0), none⟩, ⟨.nilck (.loc 0), none⟩, ⟨.fieldAddr 0 (.loc 0), none⟩, ⟨.load none (.loc 0), none⟩, ⟨.len true (.loc 0), none⟩, ⟨.bin .lss (.loc 5) (.loc 0), none⟩] [(3, 6)] [] []) (.cond (.var 3) .skip (.exit 0))) (.seq (.block 1 (.seq (.region [⟨.mv (.var 0), none⟩, ⟨.nilck (.loc 0), none⟩, ⟨.fieldAddr 0 (.loc 0), none⟩, ⟨.load none (.loc 0), none⟩, ⟨.mv (.var 2), none⟩, ⟨.idxStr (.loc 1) (.loc 0), none⟩, ⟨.mv (.loc 0), none⟩] [(4, 6)] [] []) (.block 2 (.seq (.region [⟨.mv (.var 4), none⟩, ⟨.mv (.var 5), none⟩, ⟨.bin .eql (.loc 1) (.loc 0), none⟩, ⟨.mv (.loc 0), none⟩] [(6, 3)] [] []) (.cond (.var 6) (.seq (.region [⟨.mv (.var 0), none⟩, ⟨.call false 36 [(.var 7)], none⟩, ⟨.call false 35 [(.loc 0)], none⟩, ⟨.not (.loc 0), none⟩, ⟨.mv (.var 1), none⟩, ⟨.call false 17 [(.loc 4), (.loc 1), (.const (.int .i64 2)), (.loc 0)], none⟩] [] [] []) (.seq (.region [⟨.mv (.var 0), none⟩, ⟨.mv (.var 0), none⟩, ⟨.nilck (.loc 0), none⟩, ⟨.fieldAddr 2 (.loc 0), none⟩, ⟨.load none (.loc 0), none⟩, ⟨.call false 36 [(.var 7)], none⟩, ⟨.mv (.var 1), none⟩, ⟨.build [(.int .i64 0), (.str []), (.int .u64 0), (.int .i64 0)] [(0, 1, (.const (.int .i64 3))), (1, 1, (.loc 1)), (3, 1, (.loc 0))], none⟩, ⟨.lit .imm true [(.int .i64 0), (.str []), (.int .u64 0), (.int .i64 0)] 1 [(0, (.loc 0))], none⟩, ⟨.append .imm 0 4 (.loc 4) (.loc 0), none⟩, ⟨.nilck (.loc 9), none⟩, ⟨.fieldAddr 2 (.loc 0), none⟩, ⟨.store 1 (.loc 0) (.loc 2), none⟩] [] [(4, 0, 1)] []) (.seq (.region [⟨.mv (.var 0), none⟩, ⟨.mv (.var 2), none⟩, ⟨.bin .add (.loc 0) (.const (.int .i64 1)), none⟩, ⟨.nilck (.loc 2), none⟩, ⟨.fieldAddr 1 (.loc 0), none⟩, ⟨.store 1 (.loc 0) (.loc 2), none⟩] [] [] []) .ret))) (.seq (.region [⟨.mv (.var 4), none⟩, ⟨.bin .eql (.loc 0) (.const (.int .u8 10)), none⟩, ⟨.mv (.loc 0), none⟩] [(8, 2)] [] []) (.cond (.var 8) (.seq (.region [⟨.mv (.var 0), none⟩, ⟨.mv (.var 1), none⟩, ⟨.call false 17 [(.loc 1), (.const (.bool true)), (.const (.int .i64 2)), (.loc 0)], none⟩] [] [] []) .ret) (.seq (.region [⟨.mv (.var 4), none⟩, ⟨.bin .eql (.loc 0) (.const (.int .u8 92)), none⟩, ⟨.mv (.loc 0), none⟩] [(9, 2)] [] []) (.cond (.var 9) (.seq (.region [⟨.mv (.var 2), none⟩, ⟨.bin .add (.loc 0) (.const (.int .i64 1)), none⟩, ⟨.mv (.loc 0), none⟩] [(2, 2)] [] []) (.seq (.region [⟨.mv (.const (.int .i64 (-1))), none⟩] [(11, 0)] [] []) (.seq (.seq (.region [⟨.mv (.var 2), none⟩, ⟨.mv (.var 0), none⟩, ⟨.nilck (.loc 0), none⟩, ⟨.fieldAddr 0 (.loc 0), none⟩, ⟨.load none (.loc 0), none⟩, ⟨.len true (.loc 0), none⟩, ⟨.bin .lss (.loc 5) (.loc 0), none⟩] [(10, 6)] [] []) (.cond (.var 10) (.region [⟨.mv (.var 0), none⟩, ⟨.nilck (.loc 0), none⟩, ⟨.fieldAddr 0 (.loc 0), none⟩, ⟨.load none (.loc 0), none⟩, ⟨.mv (.var 2), none⟩, ⟨.idxStr (.loc 1) (.loc 0), none⟩, ⟨.call false 15 [(.const (.str [92, 34, 39, 110])), (.loc 0)], none⟩, ⟨.mv (.loc 0), none⟩] [(11, 7)] [] []) .skip)) (.seq (.seq (.region [⟨.mv (.var 11), none⟩, ⟨.bin .lss (.loc 0) (.const (.int .i64 0)), none⟩] [(12, 1)] [] []) (.cond (.var 12) (.seq (.region [⟨.mv (.var 0), none⟩, ⟨.mv (.var 1), none⟩, ⟨.call false 17 [(.loc 1), (.const (.bool true)), (.const (.int .i64 2)), (.loc 0)], none⟩] [] [] []) .ret) .skip)) (.region [⟨.mv (.var 11), none⟩, ⟨.idxStr (.const (.str [92, 34, 39, 10])) (.loc 0), none⟩, ⟨.call false 37 [(.var 7), (.loc 0)], none⟩] [] [] []))))) (.region [⟨.mv (.var 4), none⟩, ⟨.call false 37 [(.var 7), (.loc 0)], none⟩] [] [] [])))))))))) (.region [⟨.mv (.var 2), none⟩, ⟨.bin .add (.loc 0) (.const (.int .i64 1)), none⟩, ⟨.mv (.loc 0), none⟩] [(2, 2)] [] []))))
abbrev textRest : CCode := (.region [⟨.mv (.var 0), none⟩, ⟨.mv (.var 1), none⟩, ⟨.call false 17 [(.loc 1), (.const (.bool true)), (.const (.int .i64 2)), (.loc 0)], none⟩] [] [] [])
end Go.Proofs.YthblmflngjofjaaDoor.IrP
