/- What the functions of the law 'PruleFinds' do: part 8 of 8. -/
import Derived.Test.YtcokdlfmnhjngaaGreatLx7
namespace Go.Proofs.YtcokdlfmnhjngaaGreat.IrE
open Go Go.CI
set_option maxRecDepth 100000
set_option maxHeartbeats 4000000
set_option linter.unusedVariables false
set_option linter.unusedSimpArgs false
attribute [local irreducible] W Wo Wc WoR
theorem en_E (a b : BD) : Pe 25 [schV a b, .str [97, 46, 69]] (.tup [.agg [.str [97, 46, 69], .imm .none 2 [.agg [.str [65], .int .i64 0], .agg [.str [66], .int .i64 1], .agg [.str [67], .int .i64 (-1)]]], .bool true]) := by
 intro h hf K hk
 obtain ⟨hu, hut, hX⟩ := fx4 hf
 unfold schV
 generalize mgV [97, 46, 73] a = mA at *
 generalize mgV [97, 46, 77] b = mB at *
 refine mk_ 25 c25 (s_ ?_)
 repeat (first
  | refine vx_ ?_
  | (refine W.loop ?_)
  | (refine dx_ ?_; refine W.loop ?_)
  | (refine mk_ 64 c64 (s_ ?_))
  | (refine mk_ 65 c65 (s_ ?_))
  | (refine mk_ 66 c66 (s_ ?_))
  | (refine rx_ ?_; refine ⟨rfl, ?_⟩))
 refine rx_ ?_
 refine hk _ ?_; exact om_
theorem en_M (a b : BD) : Pe 25 [schV a b, .str [97, 46, 77]] (.tup [.agg [.str [], .nils], .bool false]) := by
 intro h hf K hk
 obtain ⟨hu, hut, hX⟩ := fx4 hf
 unfold schV
 generalize mgV [97, 46, 73] a = mA at *
 generalize mgV [97, 46, 77] b = mB at *
 refine mk_ 25 c25 (s_ ?_)
 repeat (first
  | refine vx_ ?_
  | (refine W.loop ?_)
  | (refine dx_ ?_; refine W.loop ?_)
  | (refine mk_ 64 c64 (s_ ?_))
  | (refine mk_ 65 c65 (s_ ?_))
  | (refine mk_ 66 c66 (s_ ?_))
  | (refine rx_ ?_; refine ⟨rfl, ?_⟩))
 refine rx_ ?_
 refine hk _ ?_; exact om_
abbrev fndL : CCode := (.loop true (.seq (.seq (.R [.v 6, .k 0 7, .l 0, .j 0, .h .lss 3 0] [(8, 4)]) (.cond (.var 8) .skip (.exit 0))) (.seq (.block 1 (.seq (.R [.y 2 7, .k 0 7, .l 0, .v 6, .i 3 1 0, .f 0 0, .l 0, .c 22 [(.loc 6), (.loc 0)], .m (.loc 0), .e 0 0, .e 1 1, .o 49283075, .u 3 0 2, .m (.loc 2)] [(10, 13), (11, 11)]) (.seq (.R [.v 9, .m (.loc 0), .Q (.k 0 7) 0 false, .Q (.l 0) 1 false, .Q (.v 6) 2 false, .Q (.i 3 1 0) 3 false, .Q (.f 0 0) 4 false, .Q (.l 0) 5 false, .Q (.v 2) 6 false, .Q (.h .eql 1 0) 7 false, .r 8 0, .m (.loc 0)] [(9, 11)]) (.seq (.seq (.R [.v 10, .g (.not (.loc 0)), .m (.loc 0), .Q (.k 0 11) 0 false, .Q (.l 0) 1 false, .Q (.k 0 7) 2 false, .Q (.l 0) 3 false, .Q (.v 6) 4 false, .Q (.i 3 1 0) 5 false, .Q (.f 0 0) 6 false, .Q (.l 0) 7 false, .Q (.h .neq 6 0) 8 false, .r 9 0, .m (.loc 0), .Q (.k 1 11) 0 false, .Q (.l 0) 1 false, .Q (.j 0) 2 false, .Q (.k 0 7) 3 false, .Q (.l 0) 4 false, .Q (.v 6) 5 false, .Q (.i 3 1 0) 6 false, .Q (.f 1 0) 7 false, .Q (.l 0) 8 false, .Q (.j 0) 9 false, .Q (.h .neq 7 0) 10 false, .r 11 0] [(12, 25)]) (.cond (.var 12) (.seq (.R [.m (.b false)] [(30, 0)]) .ret) .skip)) (.seq (.R [.m (.b false), .m (.b false)] [(15, 0), (17, 1)]) (.seq (.seq (.R [.m (.k 0)] [(13, 0)]) (.block 2 (.loop true (.seq (.seq (.R [.v 13, .k 1 11, .l 0, .j 0, .h .lss 3 0] [(14, 4)]) (.cond (.var 14) .skip (.exit 2))) (.seq (.block 3 (.seq (.R [.y 3 11, .k 1 11, .l 0, .v 13, .i 8 1 0, .f 0 0, .l 0, .c 23 [(.loc 6), (.loc 0)], .m (.loc 0), .e 0 0, .e 1 1, .o 60817416, .u 8 0 2, .m (.loc 2)] [(18, 13), (20, 11)]) (.seq (.R [.y 3 11, .k 1 11, .l 0, .v 13, .i 8 1 0, .f 1 0, .l 0, .c 24 [(.loc 6), (.loc 0)], .m (.loc 0), .e 0 0, .e 1 1, .o 60817416, .u 8 0 2, .m (.loc 2)] [(19, 13), (21, 11)]) (.seq (.R [.v 15, .m (.loc 0), .Q (.k 1 11) 0 false, .Q (.l 0) 1 false, .Q (.v 13) 2 false, .Q (.i 8 1 0) 3 false, .Q (.f 0 0) 4 false, .Q (.l 0) 5 false, .Q (.v 16) 6 false, .Q (.h .eql 1 0) 7 false, .r 8 0, .v 17, .m (.loc 0), .Q (.k 1 11) 0 false, .Q (.l 0) 1 false, .Q (.v 13) 2 false, .Q (.i 8 1 0) 3 false, .Q (.f 1 0) 4 false, .Q (.l 0) 5 false, .Q (.v 2) 6 false, .Q (.h .eql 1 0) 7 false, .r 8 0, .m (.loc 11), .m (.loc 1)] [(15, 22), (17, 23)]) (.seq (.R [.v 18, .g (.not (.loc 0)), .m (.loc 0), .Q (.v 19) 0 false, .q (.not (.loc 0)) 1 false, .r 2 0, .m (.loc 0), .Q (.y 8 20) 0 false, .Q (.k 0 7) 1 false, .Q (.l 0) 2 false, .Q (.v 6) 3 false, .Q (.i 3 1 0) 4 false, .Q (.f 1 0) 5 false, .Q (.l 0) 6 false, .Q (.v 13) 7 false, .Q (.i 8 1 0) 8 false, .q (.load (some 8) (.loc 0)) 9 false, .q (.extl (.aeq true [(.int, 0), (.str, 1), (.int, 2), (.int, 3), (.str, 4), (.int, 5), (.bool, 6), (.int, 7)]) [(.loc 9), (.loc 0)]) 10 false, .r 11 0, .m (.loc 0), .Q (.y 8 21) 0 false, .Q (.y 8 20) 1 false, .q (.extl (.aeq true [(.int, 0), (.str, 1), (.int, 2), (.int, 3), (.str, 4), (.int, 5), (.bool, 6), (.int, 7)]) [(.loc 1), (.loc 0)]) 2 false, .r 3 0] [(22, 23)]) (.cond (.var 22) (.seq (.R [.m (.b false)] [(30, 0)]) .ret) .skip)))))) (.R [.v 13, .x .add 0 (.k 1), .m (.loc 0)] [(13, 2)])))))) (.seq (.R [.y 3 11, .v 16, .c 23 [(.loc 1), (.loc 0)], .m (.loc 0), .e 0 0, .e 1 1, .o 60817416, .u 8 0 2, .m (.loc 2)] [(23, 8)]) (.seq (.R [.y 3 11, .v 2, .c 24 [(.loc 1), (.loc 0)], .m (.loc 0), .e 0 0, .e 1 1, .o 60817416, .u 8 0 2, .m (.loc 2)] [(24, 8)]) (.seq (.R [.v 23, .v 15, .g (.eqv .bool true (.loc 1) (.loc 0)), .m (.loc 0), .Q (.v 24) 0 false, .Q (.v 17) 1 false, .q (.eqv .bool true (.loc 1) (.loc 0)) 2 false, .r 3 0] [(25, 7)]) (.cond (.var 25) (.seq (.R [.m (.b false)] [(30, 0)]) .ret) .skip)))))))))) (.R [.v 6, .x .add 0 (.k 1), .m (.loc 0)] [(6, 2)]))))
abbrev fldL : CCode := (.loop true (.seq (.seq (.R [.v 13, .k 1 11, .l 0, .j 0, .h .lss 3 0] [(14, 4)]) (.cond (.var 14) .skip (.exit 2))) (.seq (.block 3 (.seq (.R [.y 3 11, .k 1 11, .l 0, .v 13, .i 8 1 0, .f 0 0, .l 0, .c 23 [(.loc 6), (.loc 0)], .m (.loc 0), .e 0 0, .e 1 1, .o 60817416, .u 8 0 2, .m (.loc 2)] [(18, 13), (20, 11)]) (.seq (.R [.y 3 11, .k 1 11, .l 0, .v 13, .i 8 1 0, .f 1 0, .l 0, .c 24 [(.loc 6), (.loc 0)], .m (.loc 0), .e 0 0, .e 1 1, .o 60817416, .u 8 0 2, .m (.loc 2)] [(19, 13), (21, 11)]) (.seq (.R [.v 15, .m (.loc 0), .Q (.k 1 11) 0 false, .Q (.l 0) 1 false, .Q (.v 13) 2 false, .Q (.i 8 1 0) 3 false, .Q (.f 0 0) 4 false, .Q (.l 0) 5 false, .Q (.v 16) 6 false, .Q (.h .eql 1 0) 7 false, .r 8 0, .v 17, .m (.loc 0), .Q (.k 1 11) 0 false, .Q (.l 0) 1 false, .Q (.v 13) 2 false, .Q (.i 8 1 0) 3 false, .Q (.f 1 0) 4 false, .Q (.l 0) 5 false, .Q (.v 2) 6 false, .Q (.h .eql 1 0) 7 false, .r 8 0, .m (.loc 11), .m (.loc 1)] [(15, 22), (17, 23)]) (.seq (.R [.v 18, .g (.not (.loc 0)), .m (.loc 0), .Q (.v 19) 0 false, .q (.not (.loc 0)) 1 false, .r 2 0, .m (.loc 0), .Q (.y 8 20) 0 false, .Q (.k 0 7) 1 false, .Q (.l 0) 2 false, .Q (.v 6) 3 false, .Q (.i 3 1 0) 4 false, .Q (.f 1 0) 5 false, .Q (.l 0) 6 false, .Q (.v 13) 7 false, .Q (.i 8 1 0) 8 false, .q (.load (some 8) (.loc 0)) 9 false, .q (.extl (.aeq true [(.int, 0), (.str, 1), (.int, 2), (.int, 3), (.str, 4), (.int, 5), (.bool, 6), (.int, 7)]) [(.loc 9), (.loc 0)]) 10 false, .r 11 0, .m (.loc 0), .Q (.y 8 21) 0 false, .Q (.y 8 20) 1 false, .q (.extl (.aeq true [(.int, 0), (.str, 1), (.int, 2), (.int, 3), (.str, 4), (.int, 5), (.bool, 6), (.int, 7)]) [(.loc 1), (.loc 0)]) 2 false, .r 3 0] [(22, 23)]) (.cond (.var 22) (.seq (.R [.m (.b false)] [(30, 0)]) .ret) .skip)))))) (.R [.v 13, .x .add 0 (.k 1), .m (.loc 0)] [(13, 2)]))))
def anyN (Ls : List RW) (w : Int) : Bool := Ls.any fun r => decide ((r.num : Int) = w)
def anyM (Ls : List RW) (w : B8) : Bool := Ls.any fun r => decide (r.nm = w)
theorem any_step {Ls : List RW} {k : Nat} {x : RW} (hx : Ls[k]? = some x) (f : RW → Bool) : (Ls.take (k + 1)).any f = ((Ls.take k).any f || f x) := by
 rw [List.take_add_one, hx, List.any_append]; simp
theorem any_end {Ls : List RW} (f : RW → Bool) : (Ls.take Ls.length).any f = Ls.any f := by rw [List.take_length]
theorem nd_inj {α : Type} {f : RW → α} : ∀ {l : List RW}, (l.map f).Nodup → ∀ {x y : RW}, x ∈ l → y ∈ l → f x = f y → x = y
 | [], _, _, _, h, _, _ => by cases h
 | a :: l, h, x, y, hx, hy, e => by
  rw [List.map_cons, List.nodup_cons] at h
  rcases List.mem_cons.1 hx with h1 | h1
  · rcases List.mem_cons.1 hy with h2 | h2
    · rw [h1, h2]
    · exact absurd (List.mem_map.2 ⟨y, h2, e.symm.trans (by rw [h1])⟩) h.1
  · rcases List.mem_cons.1 hy with h2 | h2
    · exact absurd (List.mem_map.2 ⟨x, h1, e.trans (by rw [h2])⟩) h.1
    · exact nd_inj h.2 h1 h2 e
theorem fd_any {Ls : List RW} (hl : Ls.length ≤ 100) (hN : (Ls.map RW.num).Nodup) (w : Int) (n : B8) {O : CVal} (HO : PV1 O) : ∃ c0 c1 c2 c3 c4 c5 c6 c7, Pe 23 [.agg [.str n, lV8 Ls, O], .int .i64 w] (.tup [.agg [.int .i64 c0, .str c1, .int .i64 c2, .int .i64 c3, .str c4, .int .i64 c5, .bool c6, .int .i64 c7], .bool (anyN Ls w)]) := by
 by_cases hh : ∃ r ∈ Ls, (r.num : Int) = w
 · have ha : anyN Ls w = true := by simpa [anyN] using hh
   rw [ha]
   obtain ⟨r, hr, hw⟩ := hh
   exact ⟨_, _, _, _, _, _, _, _, fd_F hl HO (fun k2 x2 hx2 hw2 => by
    have h3 : r = x2 := nd_inj hN hr (List.mem_of_getElem? hx2) (by have := hw.trans hw2.symm; omega)
    rw [← h3]; rfl) (fun h => by
    obtain ⟨k, hk⟩ := List.getElem?_of_mem hr
    exact absurd hw (h k r hk))⟩
 · have ha : anyN Ls w = false := by
    cases hb : anyN Ls w with
    | false => rfl
    | true => exact absurd (by simpa [anyN] using hb) hh
   rw [ha]
   exact ⟨_, _, _, _, _, _, _, _, fd_F hl HO (fun k2 x2 hx2 hw2 => absurd ⟨x2, List.mem_of_getElem? hx2, hw2⟩ hh) (fun _ => rfl)⟩
theorem fd_any1 {Ls : List RW} (hl : Ls.length ≤ 100) (hN : (Ls.map RW.num).Nodup) (n : B8) {O : CVal} (HO : PV1 O) {k : Nat} {x : RW} (hx : Ls[k]? = some x) : Pe 23 [.agg [.str n, lV8 Ls, O], .int .i64 x.num] (.tup [x.pf, .bool true]) :=
 fd_F hl HO (fun k2 x2 hx2 hw2 => by
  have h3 : x = x2 := nd_inj hN (List.mem_of_getElem? hx) (List.mem_of_getElem? hx2) (by omega)
  rw [h3]) (fun h => absurd rfl (h k x hx))
theorem nd_any {Ls : List RW} (hl : Ls.length ≤ 100) (hN : (Ls.map RW.nm).Nodup) (w : B8) (n : B8) {O : CVal} (HO : PV1 O) : ∃ c0 c1 c2 c3 c4 c5 c6 c7, Pe 24 [.agg [.str n, lV8 Ls, O], .str w] (.tup [.agg [.int .i64 c0, .str c1, .int .i64 c2, .int .i64 c3, .str c4, .int .i64 c5, .bool c6, .int .i64 c7], .bool (anyM Ls w)]) := by
 by_cases hh : ∃ r ∈ Ls, r.nm = w
 · have ha : anyM Ls w = true := by simpa [anyM] using hh
   rw [ha]
   obtain ⟨r, hr, hw⟩ := hh
   exact ⟨_, _, _, _, _, _, _, _, nd_F hl HO (fun k2 x2 hx2 hw2 => by
    have h3 : r = x2 := nd_inj hN hr (List.mem_of_getElem? hx2) (by have := hw.trans hw2.symm; exact this)
    rw [← h3]; rfl) (fun h => by
    obtain ⟨k, hk⟩ := List.getElem?_of_mem hr
    exact absurd hw (h k r hk))⟩
 · have ha : anyM Ls w = false := by
    cases hb : anyM Ls w with
    | false => rfl
    | true => exact absurd (by simpa [anyM] using hb) hh
   rw [ha]
   exact ⟨_, _, _, _, _, _, _, _, nd_F hl HO (fun k2 x2 hx2 hw2 => absurd ⟨x2, List.mem_of_getElem? hx2, hw2⟩ hh) (fun _ => rfl)⟩
theorem nd_any1 {Ls : List RW} (hl : Ls.length ≤ 100) (hN : (Ls.map RW.nm).Nodup) (n : B8) {O : CVal} (HO : PV1 O) {k : Nat} {x : RW} (hx : Ls[k]? = some x) : Pe 24 [.agg [.str n, lV8 Ls, O], .str x.nm] (.tup [x.pf, .bool true]) :=
 nd_F hl HO (fun k2 x2 hx2 hw2 => by
  have h3 : x = x2 := nd_inj hN (List.mem_of_getElem? hx) (List.mem_of_getElem? hx2) (by exact hw2.symm)
  rw [h3]) (fun h => absurd rfl (h k x hx))
theorem cells8 (a0 : Int) (a1 : B8) (a2 a3 : Int) (a4 : B8) (a5 : Int) (a6 : Bool) (a7 : Int) : zFx [.int .i64 a0, .str a1, .int .i64 a2, .int .i64 a3, .str a4, .int .i64 a5, .bool a6, .int .i64 a7] [.int .i64 a0, .str a1, .int .i64 a2, .int .i64 a3, .str a4, .int .i64 a5, .bool a6, .int .i64 a7] [(.int, 0), (.str, 1), (.int, 2), (.int, 3), (.str, 4), (.int, 5), (.bool, 6), (.int, 7)] = some true := by simp
theorem fl_go {sc : B8} {Ls : List RW} (hl : Ls.length ≤ 100) (hN : (Ls.map RW.num).Nodup) (hM : (Ls.map RW.nm).Nodup) {O : CVal} (HO : PV1 O) {hh : CHeap} (hf : Fit hh) {p7 p11 i : Nat} {MS : List CVal} {ES : CVal} (hE : PV1 ES) (g7 : zA1 hh.ents p7 = some (.cells [.imm .none 3 MS, ES])) (hms : nth MS i = .agg [.str sc, lV8 Ls, O]) (hml : MS.length = 2) (hi : i < 2) (g11 : zA1 hh.ents p11 = some (.cells [.str sc, lV8 Ls, O])) {nm : B8} {num : Int} {v0 v1 v3 v4 v5 v8 v9 v10 v12 v23 v24 v25 v26 v27 v28 v29 v30 : CVal} {Q : QT}
    (hk : ∀ (v14 v18 v19 v20 v21 v22 : CVal) (n' : Nat), hh.next ≤ n' → Q (.exit 2) ⟨[v0, v1, .str nm, v3, v4, v5, .int .i64 (i : Nat), .ptr p7 30408706 0, v8, v9, v10, .ptr p11 49283075 0, v12, .int .i64 (Ls.length : Nat), v14, .bool (anyN Ls num), .int .i64 num, .bool (anyM Ls nm), v18, v19, v20, v21, v22, v23, v24, v25, v26, v27, v28, v29, v30], ⟨hh.ents, n', hh.tys⟩, []⟩) :
    ∀ (m k nx : Nat) (v14 v18 v19 v20 v21 v22 : CVal) (b1 b2 : Bool), k + m = Ls.length → hh.next ≤ nx → b1 = (Ls.take k).any (fun r => decide ((r.num : Int) = num)) → b2 = (Ls.take k).any (fun r => decide (r.nm = nm)) → W tree.getF fldL ⟨[v0, v1, .str nm, v3, v4, v5, .int .i64 (i : Nat), .ptr p7 30408706 0, v8, v9, v10, .ptr p11 49283075 0, v12, .int .i64 (k : Nat), v14, .bool b1, .int .i64 num, .bool b2, v18, v19, v20, v21, v22, v23, v24, v25, v26, v27, v28, v29, v30], ⟨hh.ents, nx, hh.tys⟩, []⟩ Q := by
 obtain ⟨f1, f2, f3, f4, f5⟩ := id HO
 obtain ⟨t1, t2, t3, t4, t5⟩ := id hE
 simp only [CVal.isUndef, CVal.whole, CVal.cells, CVal.strip, CVal.bare] at f1 f2 f3 f4 f5 t1 t2 t3 t4 t5
 intro m
 induction m with
 | zero =>
  intro k nx v14 v18 v19 v20 v21 v22 b1 b2 h1 h2 h3 h4
  obtain rfl : k = Ls.length := by omega
  rw [any_end] at h3 h4
  subst h3 h4
  unfold anyN anyM at hk
  have hlen : (Ls.map RW.pf).length = Ls.length := List.length_map ..
  have HL : (lV8 Ls = .nils ∧ Ls.length = 0) ∨ (lV8 Ls = .imm .none 8 (Ls.map RW.pf) ∧ Ls.length = Ls.length) := by cases Ls with | nil => exact .inl ⟨rfl, rfl⟩ | cons => exact .inr ⟨rfl, rfl⟩
  rcases HL with ⟨e8, e0⟩ | ⟨e8, e0⟩
  all_goals (
   rw [e8] at g11
   refine W.loop ?_
   have hZ := j3_ g7 g11 hlen
   try refine wk_ ?_
   refine hk _ _ _ _ _ _ _ ?_; exact om_)
 | succ m ih =>
  intro k nx v14 v18 v19 v20 v21 v22 b1 b2 h1 h2 h3 h4
  obtain ⟨hu, hut, hX⟩ := fx4 (show Fit ⟨hh.ents, nx, hh.tys⟩ from ⟨hf.1.le h2, hf.2.le h2⟩)
  try dsimp only at hX hu hut
  have l7 := zA5 hf.1 g7
  have l11 := zA5 hf.1 g11
  have hlt : (k : Int) < (Ls.length : Int) := by omega
  have hkl : k < Ls.length := by omega
  have hi2 : (i : Int) < 2 := by omega
  obtain ⟨x, hx⟩ : ∃ x, Ls[k]? = some x := ⟨_, List.getElem?_eq_getElem hkl⟩
  have C1 := fd_any1 hl hN sc HO hx
  have C2 := nd_any1 hl hM sc HO hx
  have hn : nth (Ls.map RW.pf) k = x.pf := zCe RW.pf Ls k x hx
  have hn2 : (Ls.map RW.pf)[k]? = some x.pf := by rw [List.getElem?_map, hx]; rfl
  have hlen : (Ls.map RW.pf).length = Ls.length := List.length_map ..
  have e8 : lV8 Ls = .imm .none 8 (Ls.map RW.pf) := by cases Ls with | nil => cases hx | cons => rfl
  rw [e8] at C1 C2 g11 hms
  have hce : ∀ (a0 : Int) (a1 : B8) (a2 a3 : Int) (a4 : B8) (a5 : Int) (a6 : Bool) (a7 : Int), zFx [.int .i64 a0, .str a1, .int .i64 a2, .int .i64 a3, .str a4, .int .i64 a5, .bool a6, .int .i64 a7] [.int .i64 a0, .str a1, .int .i64 a2, .int .i64 a3, .str a4, .int .i64 a5, .bool a6, .int .i64 a7] [(.int, 0), (.str, 1), (.int, 2), (.int, 3), (.str, 4), (.int, 5), (.bool, 6), (.int, 7)] = some true := cells8
  have ih1 := fun nx v14 v18 v19 v20 v21 v22 b1 b2 (h : _ ≤ nx) => ih (k + 1) nx v14 v18 v19 v20 v21 v22 b1 b2 (by omega) h
  push_cast at ih1
  rw [any_step hx, any_step hx, ← h3, ← h4] at ih1
  clear ih h3 h4 e8
  generalize Ls.map RW.pf = PF at *
  unfold RW.pf at hn hn2 C1 C2
  try dsimp only at ih1
  refine W.loop ?_
  repeat ((fail_if_success (show W tree.getF (.region (.v 15 :: _) _ _ _) _ _)); first
   | refine st_ rfl ?_
   | ((first | refine W.regG ?_ | refine WoR.go ?_); generalize e : goR .. = r; simp (disch := omega) [hX, g7, g11, hms, hml, hi2, hlt, hn, hn2, hlen, f1, f2, f3, f4, f5, t1, t2, t3, t4, t5] at e; replace e : some _ = _ := e; subst e; (try dsimp only [goW]))
   | (refine pe_ (C1) fun _ g => ⟨rfl, ?_⟩; (try dsimp only at g))
   | (refine pe_ (C2) fun _ g2 => ⟨rfl, ?_⟩; (try dsimp only at g2)))
  have S1 : b1 = true ∨ b1 = false ∧ (x.num : Int) = num ∨ b1 = false ∧ ¬ (x.num : Int) = num := by
   cases b1 with
   | true => exact .inl rfl
   | false => exact .inr (if h : (x.num : Int) = num then .inl ⟨rfl, h⟩ else .inr ⟨rfl, h⟩)
  have S2 : b2 = true ∧ True ∧ True ∨ b2 = false ∧ ((x.nm == nm) = true) ∧ ((x.nm = nm) = True) ∨ b2 = false ∧ ((x.nm == nm) = false) ∧ ((x.nm = nm) = False) := by
   cases b2 with
   | true => exact .inl ⟨rfl, trivial, trivial⟩
   | false => exact .inr (if h : x.nm = nm then .inl ⟨rfl, by simp [h], by simp [h]⟩ else .inr ⟨rfl, by simp [h], by simp [h]⟩)
  rcases S1 with h5 | ⟨h5, h6⟩ | ⟨h5, h6⟩ <;> rcases S2 with ⟨h7, h8, h9⟩ | ⟨h7, h8, h9⟩ | ⟨h7, h8, h9⟩
  all_goals (
   subst h5 h7
   repeat (first
    | refine st_ rfl ?_
    | ((first | refine W.regG ?_ | refine WoR.go ?_); generalize e : goR .. = r; simp (disch := omega) [hX, g7, g11, hms, hml, hi2, hlt, hn, hn2, hlen, f1, f2, f3, f4, f5, t1, t2, t3, t4, t5, h8, h9, -zFx, hce] at e; replace e : some _ = _ := e; subst e; (try dsimp only [goW]))
    | ((simp only [zAd, zA3, zA6, zA9, zAa, reduceIte])))
   refine dx_ ?_
   refine ih1 _ _ _ _ _ _ _ _ _ ?_ ?_ ?_
   · exact om_
   · simp [*]
   · simp [h8, h9])
theorem bgPF {K : KT} (hk : ∀ n' ty, 3 ≤ n' → zA7 ty n' → K (.bool true) ⟨[], n', ty⟩) : Wc tree.getF 19 [] ⟨[], 3, []⟩ K := wc_start (m := 1000000) (by kernel_rfl) hk
theorem rd_go {sc : B8} {Ls : List RW} (hl : Ls.length ≤ 100) (hN : (Ls.map RW.num).Nodup) (hM : (Ls.map RW.nm).Nodup) {O : CVal} (HO : PV1 O) {MS : List CVal} {ES : CVal} (PM : ∀ {h : CHeap} (hf : Fit h) {K : KT} (hk : ∀ h', PG h h' → K (.tup [.agg [.str sc, lV8 Ls, O], .bool true]) h'), Wc tree.getF 22 [.agg [.imm .none 3 MS, ES], .str sc] h K) {hh : CHeap} (hf : Fit hh) {p7 i : Nat} (hE : PV1 ES) (g7 : zA1 hh.ents p7 = some (.cells [.imm .none 3 MS, ES])) (hms : nth MS i = .agg [.str sc, lV8 Ls, O]) (hml : MS.length = 2) (hi : i < 2) {nm : B8} {num : Int} {b : Bool} {v0 v1 v3 v4 v5 : CVal} {v8 v10 v11 v12 v13 v14 v15 v17 v18 v19 v20 v21 v22 v23 v24 v25 v26 v27 v28 v29 : CVal} {Q : QT}
    (hk : ∀ (v8 v10 v11 v12 v13 v14 v15 v17 v18 v19 v20 v21 v22 v23 v24 v25 v26 v27 v28 v29 : CVal) (h' : CHeap) (b2 : Bool), PG hh h' → b2 = (b || decide (sc = nm)) → W tree.getF fndL ⟨[v0, v1, .str nm, v3, v4, v5, .int .i64 ((i : Nat) + 1), .ptr p7 30408706 0, v8, .bool b2, v10, v11, v12, v13, v14, v15, .int .i64 num, v17, v18, v19, v20, v21, v22, v23, v24, v25, v26, v27, v28, v29, .bool false], h', []⟩ Q) : W tree.getF fndL ⟨[v0, v1, .str nm, v3, v4, v5, .int .i64 (i : Nat), .ptr p7 30408706 0, v8, .bool b, v10, v11, v12, v13, v14, v15, .int .i64 num, v17, v18, v19, v20, v21, v22, v23, v24, v25, v26, v27, v28, v29, .bool false], hh, []⟩ Q := by
 obtain ⟨d0, d1, d2, d3, d4, d5, d6, d7, C1⟩ := fd_any hl hN num sc HO
 obtain ⟨w0, w1, w2, w3, w4, w5, w6, w7, C2⟩ := nd_any hl hM nm sc HO
 have FL := @fl_go sc Ls hl hN hM O HO
 have hL8 : (lV8 Ls).lenOf = some Ls.length := by cases Ls <;> simp [lV8, CVal.lenOf]
 have l6 : (lV8 Ls).isStr = false := by cases Ls <;> rfl
 have hL3 : (CVal.imm .none 3 MS).lenOf = some MS.length := rfl
 have hms2 : MS[i]? = some (.agg [.str sc, lV8 Ls, O]) := by rw [← hms]; exact getElem?_nth (by omega)
 obtain ⟨l1, l2, l3, l4, l5⟩ := lV8P Ls
 obtain ⟨f1, f2, f3, f4, f5⟩ := id HO
 obtain ⟨t1, t2, t3, t4, t5⟩ := id hE
 simp only [CVal.isUndef, CVal.whole, CVal.cells, CVal.strip, CVal.bare, CVal.isStr] at f1 f2 f3 f4 f5 t1 t2 t3 t4 t5 l1 l2 l3 l4 l5 l6
 have hi2 : (i : Int) < 2 := by omega
 have lb0 : ∀ x : CVal, x.beq x = true := fun x => zB6 x
 generalize lV8 Ls = L8 at *
 obtain ⟨hu, hut, hX⟩ := fx4 hf
 have lp7 := zA5 hu g7
 refine W.loop ?_
 repeat (first
  | refine st_ rfl ?_
  | ((first | refine W.regG ?_ | refine WoR.go ?_); generalize e : goR .. = r; simp (disch := omega) [hX, g7, hms, hml, hi2, f1, f2, f3, f4, f5, t1, t2, t3, t4, t5, l1, l2, l3, l4, l5, l6, -CVal.lenOf, hL8, hL3] at e; replace e : some _ = _ := e; subst e; (try dsimp only [goW])))
 refine PM ft_ fun h3 P3 => ⟨rfl, ?_⟩
 have q3 := P3.fit
 have n3 := P3.nx
 try dsimp only at n3
 have fr3 : ∀ q, q < hh.next → zA1 h3.ents q = zA1 hh.ents q := fun q q1 => P3.fr q om_
 have g73 := (fr3 p7 lp7).trans g7
 have lp73 := zA5 q3.1 g73
 have Z : ∀ q, hh.next ≤ q → q < _ → zA1 h3.ents q = none := fun q a b => (P3.fr q b).trans (hX.2.2.1 q a)
 try dsimp only at Z
 clear hu hut hX
 obtain ⟨hu, hut, hX⟩ := fx4 q3
 have S1 : b = true ∧ True ∧ True ∨ b = false ∧ ((sc == nm) = true) ∧ ((sc = nm) = True) ∨ b = false ∧ ((sc == nm) = false) ∧ ((sc = nm) = False) := by
  cases b with
  | true => exact .inl ⟨rfl, trivial, trivial⟩
  | false => exact .inr (if h : sc = nm then .inl ⟨rfl, by simp [h], by simp [h]⟩ else .inr ⟨rfl, by simp [h], by simp [h]⟩)
 rcases S1 with ⟨h7, h8, h9⟩ | ⟨h7, h8, h9⟩ | ⟨h7, h8, h9⟩
 all_goals (
  subst h7
  repeat (first
   | refine st_ rfl ?_
   | ((first | refine W.regG ?_ | refine WoR.go ?_); generalize e : goR .. = r; simp (disch := omega) [hX, g73, hms, hml, hi2, f1, f2, f3, f4, f5, t1, t2, t3, t4, t5, l1, l2, l3, l4, l5, l6, -CVal.lenOf, hL8, hL3, h8, h9, Z] at e; replace e : some _ = _ := e; subst e; (try dsimp only [goW]))
   | ((simp only [zAd, zA3, zA6, zA9, zAa, reduceIte])))
  refine FL (hh := ⟨_, _, _⟩) ?_ hE ?_ hms hml hi ?_ ?_ Ls.length 0 _ _ _ _ _ _ _ false false (by omega) (Nat.le_refl _) rfl rfl
  · exact ft_
  · simp (disch := omega) [zA1, g73]
  · simp (disch := omega) [zA1]
  · intro v14 v18 v19 v20 v21 v22 n' hn'
    try dsimp only at hn'
    repeat (first
     | refine st_ rfl ?_
     | ((first | refine W.regG ?_ | refine WoR.go ?_); generalize e : goR .. = r; simp (disch := omega) [hX, g73, hms, hml, hi2, f1, f2, f3, f4, f5, t1, t2, t3, t4, t5, l1, l2, l3, l4, l5, l6, -CVal.lenOf, hL8, hL3, h8, h9, Z] at e; replace e : some _ = _ := e; subst e; (try dsimp only [goW]))
     | ((simp only [zAd, zA3, zA6, zA9, zAa, reduceIte]))
     | (refine pe_ (C1) fun _ g => ⟨rfl, ?_⟩; (try dsimp only at g))
     | (refine pe_ (C2) fun _ g2 => ⟨rfl, ?_⟩; (try dsimp only at g2)))
    show W tree.getF fndL (dropped true _ _) Q
    generalize e : dropped _ _ _ = r
    simp (disch := omega) [hX] at e
    subst e
    refine hk _ _ _ _ _ _ _ _ _ _ _ _ _ _ _ _ _ _ _ _ _ _ ⟨⟨?_, ?_⟩, ?_, fun q q1 => ?_⟩ ?_
    · dsimp only; exact (zCg q3.1).le (by omega)
    · dsimp only; exact q3.2.le (by omega)
    · exact om_
    · dsimp only; rw [zDw q1]; exact fr3 q q1
    · simp [h9])
theorem insR_perm (r : RW) : ∀ l : List RW, (insR r l).Perm (r :: l)
 | [] => List.Perm.refl _
 | x :: l => by
  unfold insR
  split
  · exact ((insR_perm r l).cons x).trans (List.Perm.swap r x l)
  · exact List.Perm.refl _
theorem zKt (l : List RW) : (zBd l).Perm l := by
 have H : ∀ (l acc : List RW), (l.foldl (fun acc r => insR r acc) acc).Perm (acc ++ l) := by
  intro l
  induction l with
  | nil => intro acc; simp
  | cons r l ih =>
   intro acc
   rw [List.foldl_cons]
   refine (ih _).trans ?_
   refine ((insR_perm r acc).append_right l).trans ?_
   exact List.perm_middle.symm
 simpa [zBd] using H l []
theorem sortR_num {b : BD} {m : Nat} (h : b.ok m) (hm : m ≤ 7) : ((zBd b.rs).map RW.num).Nodup := ((zKt b.rs).map RW.num).nodup_iff.2 (BD.rs_num h hm)
theorem sortR_nm {b : BD} {m : Nat} (h : b.ok m) (hm : m ≤ 7) : ((zBd b.rs).map RW.nm).Nodup := ((zKt b.rs).map RW.nm).nodup_iff.2 (BD.rs_nm h hm)
theorem proto_1 {p d nx : Nat} {ty : NN} {L : CVal} (hp : p < nx) (hut : zA7 ty nx) (hL : Nums L) {K : KT} (hk : ∀ h' a b, a.ok 4 → b.ok 7 → Fit h' → nx ≤ h'.next → (∀ q, q < nx → q ≠ p → zA1 h'.ents q = none) → K (.tup [schV a b, .bool true]) h') : Wc tree.getF 11 [.ptr p d 0] ⟨[(p, .cells [L, .int .i64 0])], nx, ty⟩ K := by
 have e0 : [(p, CObj.cells [L, .int .i64 0])] = zA2 [(p, pk L 0)] p (pk L 0) := by simp [zA2]
 rw [e0]
 refine proto_F (Under.cons hp Under.nil) hut (o := pk L 0) (by simp [zA1]) hL (by omega) (by omega) fun h' a b j2 ha hb P => hk h' a b ha hb P.fit P.nx fun q q1 q2 => (P.fr q q1).trans ?_
 dsimp only
 rw [zA0 q2]
 simp [zA1, Ne.symm q2]
theorem BD.rs_le {c : BD} {m : Nat} (hc : c.ok m) (hm : m ≤ 7) : c.rs.length ≤ 100 := by
 have := hc.len
 simp only [BD.rs, List.length_append, List.length_map]; omega
theorem law_mid {L : CVal} {n : Nat} (hL : Nums L) (HL : PV1 L) (hl1 : L.lenOf = some n) (hl2 : L.isStr = false) (hn : n ≤ 120) {nm : B8} (hm : nm.length ≤ 20) (num : Int) : Wc tree.getF 7 [L, .str nm, .int .i64 num] zBx fun v _ => v = .bool true := by
 have hN0 : zBx = ⟨[], 0, []⟩ := rfl
 obtain ⟨l1, l2, l3, l4, l5⟩ := id HL
 simp only [CVal.isUndef, CVal.whole, CVal.cells, CVal.strip, CVal.bare, CVal.isStr] at l1 l2 l3 l4 l5 hl2
 have hn2 : ¬ (n : Int) > 120 := by omega
 have hm2 : ¬ (nm.length : Int) > 20 := by omega
 refine mk_ 7 c7 ?_
 generalize e : zDn .. = r
 simp (disch := omega) [hN0, l1, l2, l3, l4, l5] at e
 subst e
 repeat (first
  | refine st_ rfl ?_
  | ((first | refine W.regG ?_ | refine WoR.go ?_); generalize e : goR .. = r; simp (disch := omega) [l1, l2, l3, l4, l5, hl2, -CVal.lenOf, hl1, hn2, hm2] at e; replace e : some _ = _ := e; subst e; (try dsimp only [goW]))
  | ((simp only [zAd, zA3, zA6, zA9, zAa, reduceIte])))
 refine bgPF fun n1 ty1 hn1 hut1 => ⟨rfl, ?_⟩
 obtain ⟨hu, hut, hX⟩ := fx4 (h := ⟨[], n1, ty1⟩) ⟨Under.nil, hut1⟩
 repeat (first
  | refine st_ rfl ?_
  | ((first | refine W.regG ?_ | refine WoR.go ?_); generalize e : goR .. = r; simp (disch := omega) [hX, l1, l2, l3, l4, l5, hl2, -CVal.lenOf, hl1, hn2, hm2] at e; replace e : some _ = _ := e; subst e; (try dsimp only [goW]))
  | ((simp only [zAd, zA3, zA6, zA9, zAa, reduceIte]))
  | (refine mk_ 10 c10 (s_ ?_))
  | ((first | (refine W.ret ?_; (try simp only [zAd, zA3, zA6, zAa, reduceIte]); refine endW.of (.inl rfl) rfl ?_) | refine endW.of (.inl rfl) rfl ?_ | refine endW.of (.inr rfl) rfl ?_); generalize e : zB2 .. = r; simp (disch := omega) [hX, l1, l2, l3, l4, l5, hl2, -CVal.lenOf, hl1, hn2, hm2] at e; subst e; refine ⟨rfl, ?_⟩))
 have hm3 : decide ((20 : Int) < (nm.length : Int)) = false := by simp; omega
 simp only [nth, hm3]
 repeat (first
  | refine st_ rfl ?_
  | ((first | refine W.regG ?_ | refine WoR.go ?_); generalize e : goR .. = r; simp (disch := omega) [hX, l1, l2, l3, l4, l5, hl2, -CVal.lenOf, hl1, hn2, hm2] at e; replace e : some _ = _ := e; subst e; (try dsimp only [goW]))
  | ((simp only [zAd, zA3, zA6, zA9, zAa, reduceIte]))
  | (refine mk_ 10 c10 (s_ ?_))
  | ((first | (refine W.ret ?_; (try simp only [zAd, zA3, zA6, zAa, reduceIte]); refine endW.of (.inl rfl) rfl ?_) | refine endW.of (.inl rfl) rfl ?_ | refine endW.of (.inr rfl) rfl ?_); generalize e : zB2 .. = r; simp (disch := omega) [hX, l1, l2, l3, l4, l5, hl2, -CVal.lenOf, hl1, hn2, hm2] at e; subst e; refine ⟨rfl, ?_⟩))
 refine proto_1 (by omega) (hut1.le (by omega)) hL fun h2 a b ha hb q2 n2 Z => ⟨rfl, ?_⟩
 clear hu hut hX
 obtain ⟨hu, hut, hX⟩ := fx4 q2
 have la := BD.rs_le ha (by omega)
 have lb := BD.rs_le hb (by omega)
 have R1 := @rd_go [97, 46, 73] (zBd a.rs) (by rw [zDm]; exact la) (sortR_num ha (by omega)) (sortR_nm ha (by omega)) (oV1 (!a.os.isEmpty)) (oV1P _) [mgV [97, 46, 73] a, mgV [97, 46, 77] b] (.imm .none 2 [.agg [.str [97, 46, 69], .imm .none 2 [.agg [.str [65], .int .i64 0], .agg [.str [66], .int .i64 1], .agg [.str [67], .int .i64 (-1)]]]]) (fun hf _ hk => pm_I la hf hk)
 have R2 := @rd_go [97, 46, 77] (zBd b.rs) (by rw [zDm]; exact lb) (sortR_num hb (by omega)) (sortR_nm hb (by omega)) (oV1 (!b.os.isEmpty)) (oV1P _) [mgV [97, 46, 73] a, mgV [97, 46, 77] b] (.imm .none 2 [.agg [.str [97, 46, 69], .imm .none 2 [.agg [.str [65], .int .i64 0], .agg [.str [66], .int .i64 1], .agg [.str [67], .int .i64 (-1)]]]]) (fun hf _ hk => pm_M lb hf hk)
 have E1 := en_E a b
 have E2 := en_M a b
 have M1 := @pm_I a b la
 have M2 := @pm_M a b lb
 have M3 := @pm_no a b
 have hmA : mgV [97, 46, 73] a = .agg [.str [97, 46, 73], lV8 (zBd a.rs), oV1 (!a.os.isEmpty)] := rfl
 have hmB : mgV [97, 46, 77] b = .agg [.str [97, 46, 77], lV8 (zBd b.rs), oV1 (!b.os.isEmpty)] := rfl
 unfold schV at *
 generalize mgV [97, 46, 73] a = mA at *
 generalize mgV [97, 46, 77] b = mB at *
 have hZ := j2_ hX Z
 try refine vk_ ?_
 have G7 : ∀ p, zA1 ((p, CObj.cells [.imm .none 3 [mA, mB], .imm .none 2 [.agg [.str [97, 46, 69], .imm .none 2 [.agg [.str [65], .int .i64 0], .agg [.str [66], .int .i64 1], .agg [.str [67], .int .i64 (-1)]]]]]) :: h2.ents) p = some (.cells [.imm .none 3 [mA, mB], .imm .none 2 [.agg [.str [97, 46, 69], .imm .none 2 [.agg [.str [65], .int .i64 0], .agg [.str [66], .int .i64 1], .agg [.str [67], .int .i64 (-1)]]]]]) := fun p => by simp [zA1]
 refine R1 (hh := ⟨_, _, _⟩) ft_ (i := 0) ⟨rfl, rfl, rfl, rfl, rfl⟩ (G7 _) hmA rfl (by omega) fun v8 v10 v11 v12 v13 v14 v15 v17 v18 v19 v20 v21 v22 v23 v24 v25 v26 v27 v28 v29 h4 b1 P4 hb1 => ?_
 have q4 := P4.fit
 have n4 := P4.nx
 try dsimp only at n4
 have G4 := (P4.fr _ om_).trans (G7 _)
 have e1 : ((0 : Nat) : Int) + 1 = ((1 : Nat) : Int) := rfl
 rw [e1]
 refine R2 (hh := h4) q4 (i := 1) ⟨rfl, rfl, rfl, rfl, rfl⟩ G4 hmB rfl (by omega) fun v8 v10 v11 v12 v13 v14 v15 v17 v18 v19 v20 v21 v22 v23 v24 v25 v26 v27 v28 v29 h5 b2 P5 hb2 => ?_
 have q5 := P5.fit
 have n5 := P5.nx
 have G5 := (P5.fr _ (zA5 q4.1 G4)).trans G4
 have e2 : ((1 : Nat) : Int) + 1 = 2 := rfl
 rw [e2]
 have lp := zA5 q5.1 G5
 clear hu hut hX
 obtain ⟨hu, hut, hX⟩ := fx4 q5
 refine W.loop ?_
 have hZ := j2_ hX G5
 try refine vk_ ?_
 subst hmA hmB
 clear R1 R2
 have PsA := lV8P (zBd a.rs)
 have PsB := lV8P (zBd b.rs)
 have PoA := oV1P (!a.os.isEmpty)
 have PoB := oV1P (!b.os.isEmpty)
 unfold oV1 at *
 generalize (if (!a.os.isEmpty) = true then CVal.imm .none 1 [.str [99]] else .nils) = oA at *
 generalize (if (!b.os.isEmpty) = true then CVal.imm .none 1 [.str [99]] else .nils) = oB at *
 generalize lV8 (zBd a.rs) = sA at *
 generalize lV8 (zBd b.rs) = sB at *
 obtain ⟨oA1, oA2, oA3, oA4, oA5⟩ := PoA
 obtain ⟨oB1, oB2, oB3, oB4, oB5⟩ := PoB
 obtain ⟨sA1, sA2, sA3, sA4, sA5⟩ := PsA
 obtain ⟨sB1, sB2, sB3, sB4, sB5⟩ := PsB
 simp only [CVal.isUndef, CVal.whole, CVal.cells, CVal.strip, CVal.bare] at oA1 oA2 oA3 oA4 oA5 oB1 oB2 oB3 oB4 oB5 sA1 sA2 sA3 sA4 sA5 sB1 sB2 sB3 sB4 sB5
 have S : (nm = [97, 46, 73] ∧ b2 = true) ∨ (nm = [97, 46, 77] ∧ b2 = true) ∨ (nm ≠ [97, 46, 73] ∧ nm ≠ [97, 46, 77] ∧ b2 = false) := by
  by_cases c1 : nm = [97, 46, 73]
  · exact .inl ⟨c1, by rw [hb2, hb1, c1]; decide⟩
  · by_cases c2 : nm = [97, 46, 77]
    · exact .inr (.inl ⟨c2, by rw [hb2, hb1, c2]; decide⟩)
    · exact .inr (.inr ⟨c1, c2, by rw [hb2, hb1]; simp [Ne.symm c1, Ne.symm c2]⟩)
 rcases S with ⟨c1, c2⟩ | ⟨c1, c2⟩ | ⟨c1, c3, c2⟩
 · subst c1; refine M1 ft_ fun h6 P6 => ⟨rfl, ?_⟩
   subst c2
   have q6 := P6.fit
   have n6 := P6.nx
   try dsimp only at n6
   have G6 := (P6.fr _ om_).trans G5
   have Z6 : ∀ q, h5.next ≤ q → q < _ → zA1 h6.ents q = none := fun q a b => (P6.fr q b).trans (hX.2.2.1 q a)
   try dsimp only at Z6
   clear hu hut hX
   obtain ⟨hu, hut, hX⟩ := fx4 q6
   have hZ := j23_ hX G6 Z6 oA1 oA2 oA3 oA4 oA5 oB1 oB2 oB3 oB4 oB5 sA1 sA2 sA3 sA4 sA5 sB1 sB2 sB3 sB4 sB5
   repeat (first
    | refine vk_ ?_
    | (refine pe_ (E1) fun _ g => ⟨rfl, ?_⟩; (try dsimp only at g))
    | (refine pe_ (E2) fun _ g2 => ⟨rfl, ?_⟩; (try dsimp only at g2)))
   have hZ := j23_ hX G6 Z6 oA1 oA2 oA3 oA4 oA5 oB1 oB2 oB3 oB4 oB5 sA1 sA2 sA3 sA4 sA5 sB1 sB2 sB3 sB4 sB5
   refine rk_ ?_
   rfl
 · subst c1; refine M2 ft_ fun h6 P6 => ⟨rfl, ?_⟩
   subst c2
   have q6 := P6.fit
   have n6 := P6.nx
   try dsimp only at n6
   have G6 := (P6.fr _ om_).trans G5
   have Z6 : ∀ q, h5.next ≤ q → q < _ → zA1 h6.ents q = none := fun q a b => (P6.fr q b).trans (hX.2.2.1 q a)
   try dsimp only at Z6
   clear hu hut hX
   obtain ⟨hu, hut, hX⟩ := fx4 q6
   have hZ := j23_ hX G6 Z6 oA1 oA2 oA3 oA4 oA5 oB1 oB2 oB3 oB4 oB5 sA1 sA2 sA3 sA4 sA5 sB1 sB2 sB3 sB4 sB5
   repeat (first
    | refine vk_ ?_
    | (refine pe_ (E1) fun _ g => ⟨rfl, ?_⟩; (try dsimp only at g))
    | (refine pe_ (E2) fun _ g2 => ⟨rfl, ?_⟩; (try dsimp only at g2)))
   have hZ := j23_ hX G6 Z6 oA1 oA2 oA3 oA4 oA5 oB1 oB2 oB3 oB4 oB5 sA1 sA2 sA3 sA4 sA5 sB1 sB2 sB3 sB4 sB5
   refine rk_ ?_
   rfl
 · refine M3 c1 c3 ft_ fun h6 P6 => ⟨rfl, ?_⟩
   subst c2
   have q6 := P6.fit
   have n6 := P6.nx
   try dsimp only at n6
   have G6 := (P6.fr _ om_).trans G5
   have Z6 : ∀ q, h5.next ≤ q → q < _ → zA1 h6.ents q = none := fun q a b => (P6.fr q b).trans (hX.2.2.1 q a)
   try dsimp only at Z6
   clear hu hut hX
   obtain ⟨hu, hut, hX⟩ := fx4 q6
   have hZ := j23_ hX G6 Z6 oA1 oA2 oA3 oA4 oA5 oB1 oB2 oB3 oB4 oB5 sA1 sA2 sA3 sA4 sA5 sB1 sB2 sB3 sB4 sB5
   repeat (first
    | refine vk_ ?_
    | (refine pe_ (E1) fun _ g => ⟨rfl, ?_⟩; (try dsimp only at g))
    | (refine pe_ (E2) fun _ g2 => ⟨rfl, ?_⟩; (try dsimp only at g2)))
   have hZ := j23_ hX G6 Z6 oA1 oA2 oA3 oA4 oA5 oB1 oB2 oB3 oB4 oB5 sA1 sA2 sA3 sA4 sA5 sB1 sB2 sB3 sB4 sB5
   refine rk_ ?_
   rfl
theorem law_long {L : CVal} {n : Nat} (HL : PV1 L) (hl1 : L.lenOf = some n) (hl2 : L.isStr = false) {nm : B8} (hn : 120 < n) (num : Int) : Wc tree.getF 7 [L, .str nm, .int .i64 num] zBx fun v _ => v = .bool true := by
 have hN0 : zBx = ⟨[], 0, []⟩ := rfl
 obtain ⟨l1, l2, l3, l4, l5⟩ := id HL
 simp only [CVal.isUndef, CVal.whole, CVal.cells, CVal.strip, CVal.bare, CVal.isStr] at l1 l2 l3 l4 l5 hl2
 have hn2 : (120 : Int) < (n : Int) := by omega
 refine mk_ 7 c7 ?_
 generalize e : zDn .. = r
 simp (disch := omega) [hN0, l1, l2, l3, l4, l5] at e
 subst e
 repeat (first
  | refine st_ rfl ?_
  | ((first | refine W.regG ?_ | refine WoR.go ?_); generalize e : goR .. = r; simp (disch := omega) [l1, l2, l3, l4, l5, hl2, -CVal.lenOf, hl1, hn2] at e; replace e : some _ = _ := e; subst e; (try dsimp only [goW]))
  | ((simp only [zAd, zA3, zA6, zA9, zAa, reduceIte])))
 refine bgPF fun n1 ty1 hn1 hut1 => ⟨rfl, ?_⟩
 obtain ⟨hu, hut, hX⟩ := fx4 (h := ⟨[], n1, ty1⟩) ⟨Under.nil, hut1⟩
 repeat (first
  | refine st_ rfl ?_
  | ((first | refine W.regG ?_ | refine WoR.go ?_); generalize e : goR .. = r; simp (disch := omega) [hX, l1, l2, l3, l4, l5, hl2, -CVal.lenOf, hl1, hn2] at e; replace e : some _ = _ := e; subst e; (try dsimp only [goW]))
  | ((simp only [zAd, zA3, zA6, zA9, zAa, reduceIte])))
 refine rx_ ?_
 rfl
theorem law_name {L : CVal} {n : Nat} (HL : PV1 L) (hl1 : L.lenOf = some n) (hl2 : L.isStr = false) {nm : B8} (hn : n ≤ 120) (hm : 20 < nm.length) (num : Int) : Wc tree.getF 7 [L, .str nm, .int .i64 num] zBx fun v _ => v = .bool true := by
 have hN0 : zBx = ⟨[], 0, []⟩ := rfl
 obtain ⟨l1, l2, l3, l4, l5⟩ := id HL
 simp only [CVal.isUndef, CVal.whole, CVal.cells, CVal.strip, CVal.bare, CVal.isStr] at l1 l2 l3 l4 l5 hl2
 have hn2 : ¬ (n : Int) > 120 := by omega
 have hm2 : (20 : Int) < (nm.length : Int) := by omega
 refine mk_ 7 c7 ?_
 generalize e : zDn .. = r
 simp (disch := omega) [hN0, l1, l2, l3, l4, l5] at e
 subst e
 repeat (first
  | refine st_ rfl ?_
  | ((first | refine W.regG ?_ | refine WoR.go ?_); generalize e : goR .. = r; simp (disch := omega) [l1, l2, l3, l4, l5, hl2, -CVal.lenOf, hl1, hn2, hm2] at e; replace e : some _ = _ := e; subst e; (try dsimp only [goW]))
  | ((simp only [zAd, zA3, zA6, zA9, zAa, reduceIte])))
 refine bgPF fun n1 ty1 hn1 hut1 => ⟨rfl, ?_⟩
 obtain ⟨hu, hut, hX⟩ := fx4 (h := ⟨[], n1, ty1⟩) ⟨Under.nil, hut1⟩
 repeat (first
  | refine st_ rfl ?_
  | ((first | refine W.regG ?_ | refine WoR.go ?_); generalize e : goR .. = r; simp (disch := omega) [hX, l1, l2, l3, l4, l5, hl2, -CVal.lenOf, hl1, hn2, hm2] at e; replace e : some _ = _ := e; subst e; (try dsimp only [goW]))
  | ((simp only [zAd, zA3, zA6, zA9, zAa, reduceIte])))
 have hm3 : decide ((20 : Int) < (nm.length : Int)) = true := by simp; omega
 (try simp only [nth, hm3])
 try refine vx_ ?_
 refine rx_ ?_
 rfl
theorem law (c : CVal) (xs : List Int) (hc : c = .nils ∧ xs = [] ∨ c = .imm .none 1 (xs.map (CVal.int .u8))) (hw : ∀ x ∈ xs, 0 ≤ x ∧ x < 256) (nm : B8) (num : Int) : Wc tree.getF 7 [c, .str nm, .int .i64 num] zBx fun v _ => v = .bool true := by
 have HL : PV1 c := by rcases hc with ⟨rfl, _⟩ | rfl <;> exact ⟨rfl, rfl, rfl, rfl, rfl⟩
 have h1 : c.lenOf = some xs.length := by rcases hc with ⟨rfl, rfl⟩ | rfl <;> simp [CVal.lenOf]
 have h2 : c.isStr = false := by rcases hc with ⟨rfl, _⟩ | rfl <;> rfl
 rcases Nat.lt_or_ge 120 xs.length with h3 | h3
 · exact law_long HL h1 h2 h3 num
 · rcases Nat.lt_or_ge 20 nm.length with h4 | h4
   · exact law_name HL h1 h2 h3 h4 num
   · refine law_mid ?_ HL h1 h2 h3 h4 num
     rcases hc with ⟨rfl, _⟩ | rfl
     · exact .inl rfl
     · exact .inr ⟨xs, rfl, by omega, hw⟩
end Go.Proofs.YtcokdlfmnhjngaaGreat.IrE
